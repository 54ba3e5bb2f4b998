/- The program's test of a statement's own fields answers as the model. PRINTED by gen_valid.py of this repo. -/
import Derived.Test.YtolbngbedncemaaGreatDoorValid1
import Derived.Test.YtolbngbedncemaaGreatDoorValid2
import Derived.Test.YtolbngbedncemaaGreatDoorValid3
import Derived.Test.YtolbngbedncemaaGreatDoorValidR
namespace Go.Proofs.YtolbngbedncemaaGreatDoor
open Go Go.RowKit Md
theorem i_valid (K : Foot) (s : PStmt) (b p nF : Nat) (vE ve vf vt vu : Value) (aF : Option Addr) (cF : Nat) (R : Bool) (HR : Hid (R = stOk s)) (w : World) (hc : Cells w b 0 [.int .i64 s.kind, .string s.name, vE, .slice aF nF cF, .int .i64 s.thn, .int .i64 s.els, .int .i64 p, ve, vf, vt, vu])
    (hs : s.name.size ≤ maxLen) (hres : Res w) (he : ExOpt K w ve (grow s.e)) (hf : ExOpt K w vf (if s.kind = 3 then grow s.f else none)) (HF : Hid (s.f.length = nF)) :
    Calls Tryz.prog 119 #[.pointer (some ⟨b, 0, none⟩)] w (Drew (.bool R) w) := by
  by_cases h1 : s.kind = 1
  · exact i_valid1 K s b p nF vE ve vf vt vu aF cF R HR w hc hs hres he hf HF h1
  by_cases h2 : s.kind = 2
  · exact i_valid2 K s b p nF vE ve vf vt vu aF cF R HR w hc hs hres he hf HF h2
  by_cases h3 : s.kind = 3
  · exact i_valid3 K s b p nF vE ve vf vt vu aF cF R HR w hc hs hres he hf HF h3
  exact i_validR K s b p nF vE ve vf vt vu aF cF R HR w hc hs hres he hf HF (by omega)
end Go.Proofs.YtolbngbedncemaaGreatDoor
