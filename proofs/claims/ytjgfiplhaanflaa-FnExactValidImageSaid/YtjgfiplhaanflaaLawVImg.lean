/- FnExactValidImage: for every image the law returns true; no condition. -/
import Derived.Test.YtjgfiplhaanflaaVImgPure
import Derived.Test.YtjgfiplhaanflaaRow
import Derived.Test.YtjgfiplhaanflaaRep
import Derived.Test.YtjgfiplhaanflaaKd
set_option linter.unusedVariables false
namespace Go.Proofs.Ytjgfiplhaanflaa.LVImg
open Go Go.RowKit Go.ChangeShapes Go.WideShapes Go.ChangeAt Go.WideMaps Go.WideElems
open Go.Proofs.Ytjgfiplhaanflaa Go.Proofs.YtjgfiplhaanflaaW.PrintWords
set_option maxRecDepth 100000

theorem open_image {H : Type} {enc : TypeId × Value → H} {W : World} {sp : Nat → Bool} {held : Bool} {r : Reach} {b0 : Nat} {v : Value} {d : DataW H} {p : List MemPlace} (hv : Value.okWide Try.prog W r b0 24 v)
    (h : DataW.Trod enc Try.prog W 0 sp held 24 v d p) : ∃ A c xs a b, v = .agg #[.slice A xs.length c, .int .i64 a, .int .i64 b] ∧ xs.length ≤ c ∧ xs.length ≤ 9223372036854775807 ∧ (Kd.int .u32).C W A xs.length xs := by
  obtain ⟨v0, v1, v2, y0, y1, y2, n, rfl, _, _, h0, h1, h2⟩ := Joins.open_agg3 Try.underlying24 (by kernel_rfl) (by kernel_rfl) hv h
  obtain ⟨xs, hs⟩ := sl_of_trod (C := CInt .u32) (sz := 1) Try.underlying22 (by kernel_rfl) (by decide) (fun _ _ _ h hl => int_of_trod Try.underlying32 h) h0
  obtain ⟨a, e1, _⟩ := int_of_trod Try.underlying2 h1
  obtain ⟨b, e2, _⟩ := int_of_trod Try.underlying2 h2
  simp only [List.cons.injEq, and_true] at e1 e2
  subst e1 e2
  obtain ⟨A, c, rfl, hc, hC⟩ := hs.toC (Kd.int .u32) rfl (fun cs x _ h => h.1)
  exact ⟨A, c, xs, a, b, rfl, hc, hC.2.1, hC⟩

theorem walk (A : Option Addr) (c : Nat) (xs : List Int) (a b : Int) (w : World) (hc : xs.length ≤ c) (hl : xs.length ≤ 9223372036854775807) (hC : (Kd.int .u32).C w A xs.length xs) :
    Calls Try.prog 3 #[.agg #[.slice A xs.length c, .int .i64 a, .int .i64 b]] w fun e w' => e = .returned (.bool true) ∧ Ext w w' := by
  obtain ⟨k, hk⟩ := PFnExactValidImage.true_ xs a b hl
  exact PFnExactValidImage.laws_FnExactValidImage.calls k A c xs a b true w hC hc hk

set_option maxRecDepth 100000 in
theorem lifted (os : Os) (started : os.Started) (H : Type) (enc : TypeId × Value → H) :
    ReturnsInHanded {} Try.checked os 3 .any (Rows.fnExactValidImageSpec.pre6 enc Try.prog Try.f3 Rows.fnExactValidImageRow.domain false) (Rows.fnExactValidImageSpec.post enc Try.prog Try.f3 false true false false) := by
  refine returnsInHanded_of_change_sized (C := Try.checked) own started (by kernel_rfl) Try.func3
    (ChangeSpec.witness6 (enc := enc) (C := Try.checked) false ⟨#[], #[.agg #[.slice none 0 0, .int .i64 0, .int .i64 0]], []⟩ 8 (by kernel_rfl) (by kernel_rfl) (by kernel_rfl) (by kernel_rfl)) ?_
  intro W base args ds gs before hval0 hW hcnd hsz0 _
  have hval : ∀ (j : Nat) t v, Try.f3.params[j]? = some t → args[j]? = some v → Value.okWide Try.prog W .any base t v := hval0
  have hW' := hW
  obtain ⟨p, q, hA0, hV, rfl, hfz, hnd⟩ := hW
  have hA : DataW.TrodAll enc Try.prog W 0 (fun _ => true) true Try.f3.params.toList args.toList ds p := hA0
  rw [Try.params3] at hA hval
  obtain ⟨v0, d0, rfl, rfl, h0⟩ := trodAll_one hA
  obtain ⟨rfl, rfl⟩ := trodVars_none hV
  obtain ⟨A, c, xs, a, b, rfl, hc, hm, hC⟩ := open_image (hval 0 _ v0 rfl rfl) h0
  refine (walk A c xs a b W hc hm hC).mono fun e W' ⟨he, hw⟩ => ?_
  subst he
  exact ⟨_, rfl, post_true laidOut (by kernel_rfl) (by kernel_rfl) (by kernel_rfl) Try.underlying4 hW' hw rfl⟩

theorem proved : Rows.FnExactValidImageSaid :=
  OpenClaim.holds_of_wide 3 Try.f3 rfl rfl rfl rfl rfl rfl rfl ⟨rfl, rfl, rfl, rfl, rfl⟩ rfl rfl rfl rfl rfl (by kernel_rfl) Try.func3 (by kernel_rfl)
    (of_decide_eq_true (by kernel_rfl)) (by unfold Func.isWrapper; first | (rw [if_pos (by decide +kernel)]; kernel_rfl) | (rw [if_neg (by decide +kernel)]; exact ⟨rfl, rfl⟩))
    (fun os started H enc _ => lifted os started H enc)
#print axioms proved
end Go.Proofs.Ytjgfiplhaanflaa.LVImg
