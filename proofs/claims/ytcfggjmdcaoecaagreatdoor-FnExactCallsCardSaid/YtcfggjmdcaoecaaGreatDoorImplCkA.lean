/- The program's funcNamed answers as the model. -/
import Derived.Test.YtcfggjmdcaoecaaGreatDoorSpecCkA
import Derived.Test.YtcfggjmdcaoecaaGreatDoorUnitB
set_option linter.unusedVariables false
set_option linter.unusedSimpArgs false
namespace Go.Proofs.YtcfggjmdcaoecaaGreatDoor
open Go Go.RowKit Md

theorem i_named1 (x : PFunc) (aP : Option Addr) (nP cP : Nat) (aB : Option Addr) (nB cB : Nat) (s : ByteArray) (b : Nat) (w : World) (hb : w.cell? ⟨b, 0, none⟩ = some (.string s)) :
    Calls Tryz.prog 119 #[.agg #[.string x.name, .slice aP nP cP, .slice aB nB cB], .pointer (some ⟨b, 0, none⟩)] w (Gives (.bool (decide (x.name = s))) w) := by
  have hb1 := ((Ext.refl w).alloc (.cells #[.string x.name, .slice aP nP cP, .slice aB nB cB] 83)).cell hb
  clear hb
  go_enter Tryz.func119, Tryz.ntmps119
  go_wp2
  go_ret
  exact Gives.bool str_eq ((Ext.refl w).alloc _)
set_option maxRecDepth 1000000 in
theorem i_IndexFn (K : Foot) (l : List PFunc) (v : Value) (s : ByteArray) (b : Nat) (w : World) (hv : SlFunc K w v l) (hb : w.cell? ⟨b, 0, none⟩ = some (.string s)) :
    Calls Tryz.prog 118 #[v, .func (.func 119) #[] #[.pointer (some ⟨b, 0, none⟩)]] w (Gives (.int .i64 (findFrom l s 0)) w) := by
  obtain ⟨R, hR⟩ : ∃ R : Int, R = findFrom l s 0 := ⟨_, rfl⟩
  rw [← hR]
  have HR := Lib.hid hR
  have HB := Lib.hid hb
  clear hR hb
  obtain ⟨a, len, cap, rfl, Hlen, hlc, hcm, hel⟩ := hv.op
  clear hv
  go_enter Tryz.func118, Tryz.ntmps118
  go_wp2
  go_loopw [8] (fun i wr => ∃ k : Nat, k ≤ len ∧ i = .int .i64 k ∧ Hid (R = findFrom (l.drop k) s k) ∧ Ext w wr) (fun i _ => len - (intOf i).toNat)
  case atStart => exact ⟨0, Nat.zero_le _, rfl, HR.out, Ext.refl _⟩
  case round =>
    obtain ⟨k, hk, rfl, hA, hX⟩ := hrel
    by_cases hlt : k < len
    · obtain ⟨bL, o, rfl, _, hel⟩ := hel (by omega)
      obtain ⟨x, cs, hx, _, hC, hcs⟩ := hel k hlt
      obtain ⟨vP, vB, rfl, hP, hB, _⟩ := hC
      obtain ⟨aP, nP, cP, rfl⟩ := hP.shape
      obtain ⟨aB, nB, cB, rfl⟩ := hB.shape
      have c0 := hX.cell (hcs.z rfl)
      have c1 := hX.cell (hcs 1 _ rfl)
      have c2 := hX.cell (hcs 2 _ rfl)
      have Hx := Lib.hid (findFrom_drop (s := s) hx)
      clear hel hcs hx hP hB
      have g0 : (0 : Int) ≤ (k : Int) := by omega
      have g1 : (k : Int) < (len : Int) := by omega
      go_wp2_with fail
      refine (i_named1 x aP nP cP aB nB cB s b _ (hX.cell HB.out)).mono ?_
      rintro e w2 ⟨rfl, hX2⟩
      by_cases he : x.name = s
      · have hq : decide (x.name = s) = true := decide_eq_true he
        have HE := Lib.hid he
        clear he
        rw [hq]
        go_wp2
        go_ret
        exact Gives.int (by rw [hA.out, Hx.out, if_pos HE.out]) (hX.trans hX2)
      · have hq : decide (x.name = s) = false := decide_eq_false he
        have HE := Lib.hid he
        clear he
        rw [hq]
        go_wp2
        go_roundw
        case rel => exact ⟨k + 1, by omega, by go_num, by rw [hA.out, Hx.out, if_neg HE.out]; exact rfl, hX.trans hX2⟩
        case measure => simp [intOf]; omega
    · go_wp2
      go_ret
      exact Gives.int (by rw [hA.out, List.drop_eq_nil_of_le (by rw [Hlen.out]; omega)]; rfl) hX
theorem i_funcNamed (K : Foot) (t : PTree) (vG vF : Value) (s : ByteArray) (w : World) (hG : SlGlob K w vG t.globals) (hF : SlFunc K w vF t.funcs) :
    Calls Tryz.prog 74 #[.agg #[vG, vF], .string s] w (Gives (.int .i64 (findF t s)) w) := by
  obtain ⟨aG, nG, cG, rfl⟩ := hG.shape
  obtain ⟨aF, nF, cF, rfl⟩ := hF.shape
  have hE : Ext w ((w.alloc (.cells #[.slice aG nG cG, .slice aF nF cF] 32)).alloc (.cells #[.string s] 9)) := ((Ext.refl w).alloc _).alloc _
  have HF := Lib.hid (i_IndexFn K t.funcs _ s (w.heap.size + 1) _ (hF.ext hE (fun _ _ h => h.ext hE)) (((Blk.alloc2 w 32 9 #[.slice aG nG cG, .slice aF nF cF] #[.string s]).2.cell 0).trans rfl))
  have hmf : ∀ (fn : Go.Fn) (first cap : Array Value) (w : World), (Instr.makeFunc fn first cap).run Tryz.prog w = .ok (.func fn first cap) w := fun _ _ _ _ => rfl
  clear hG hF
  go_enter Tryz.func74, Tryz.ntmps74
  go_wp2_with fail
  refine HF.out.mono ?_
  rintro e w' ⟨rfl, hX⟩
  go_wp2
  go_ret
  exact Gives.int rfl (hE.trans hX)
end Go.Proofs.YtcfggjmdcaoecaaGreatDoor
