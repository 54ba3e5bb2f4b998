/- FnExactBoot: for every image and every list of inputs the law returns true; no condition. -/
import Derived.Test.YtjgfiplhaanflaaLawBootA
import Derived.Test.YtjgfiplhaanflaaRow
import Derived.Test.YtjgfiplhaanflaaRep
import Derived.Test.YtjgfiplhaanflaaKd
set_option linter.unusedVariables false
namespace Go.Proofs.Ytjgfiplhaanflaa.LBoot
open Go Go.RowKit Go.ChangeShapes Go.WideShapes Go.ChangeAt Go.WideMaps Go.WideElems
open Go.Proofs.Ytjgfiplhaanflaa Go.Proofs.YtjgfiplhaanflaaW.PrintWords Go.Proofs.Ytjgfiplhaanflaa.PFnExactBoot
set_option maxRecDepth 100000

theorem open_image {H : Type} {enc : TypeId × Value → H} {W : World} {sp : Nat → Bool} {held : Bool} {r : Reach} {b0 : Nat} {v : Value} {d : DataW H} {p : List MemPlace} (hv : Value.okWide Try.prog W r b0 24 v)
    (h : DataW.Trod enc Try.prog W 0 sp held 24 v d p) : ∃ A c xs a b, v = .agg #[.slice A xs.length c, .int .i64 a, .int .i64 b] ∧ xs.length ≤ c ∧ xs.length ≤ 9223372036854775807 ∧ (Kd.int .u32).C W A xs.length xs := by
  obtain ⟨v0, v1, v2, y0, y1, y2, n, rfl, _, _, h0, h1, h2⟩ := Joins.open_agg3 Try.underlying24 (by kernel_rfl) (by kernel_rfl) hv h
  obtain ⟨xs, hs⟩ := sl_of_trod (C := CInt .u32) (sz := 1) Try.underlying22 (by kernel_rfl) (by decide) (fun _ _ _ h hl => int_of_trod Try.underlying32 h) h0
  obtain ⟨a, e1, _⟩ := int_of_trod Try.underlying2 h1
  obtain ⟨b, e2, _⟩ := int_of_trod Try.underlying2 h2
  simp only [List.cons.injEq, and_true] at e1 e2
  subst e1 e2
  obtain ⟨A, c, rfl, hc, hC⟩ := hs.toC (Kd.int .u32) rfl (fun cs x _ h => h.1)
  exact ⟨A, c, xs, a, b, rfl, hc, hC.2.1, hC⟩
theorem open_words {H : Type} {enc : TypeId × Value → H} {W : World} {sp : Nat → Bool} {held : Bool} {r : Reach} {b0 : Nat} {v : Value} {d : DataW H} {p : List MemPlace} (hv : Value.okWide Try.prog W r b0 31 v)
    (h : DataW.Trod enc Try.prog W 0 sp held 31 v d p) : ∃ A c xs, v = .slice A xs.length c ∧ xs.length ≤ c ∧ xs.length ≤ 9223372036854775807 ∧ (Kd.int .i64).C W A xs.length xs ∧ ∀ x ∈ xs, (Lit.int .i64 x).wf = true := by
  obtain ⟨n, h⟩ := h
  obtain ⟨a, len, cap, rfl⟩ := okWide_slice Try.underlying31 hv
  obtain ⟨xs, hs⟩ := sl_of_trod (C := CInt .i64) (sz := 1) Try.underlying31 (by kernel_rfl) (by decide) (fun _ _ _ h hl => int_of_trod Try.underlying2 h) (v := .slice a len cap) h
  have hwf : ∀ x ∈ xs, (Lit.int .i64 x).wf = true := by
    intro x hx
    obtain ⟨a', c', e, _, _, h3⟩ := hs
    obtain ⟨i, hi, rfl⟩ := List.getElem_of_mem hx
    obtain ⟨b, o, _, _, hel⟩ := h3 (by omega)
    obtain ⟨cs, _, hC, _⟩ := hel i hi
    exact hC.2
  obtain ⟨A, c, e, hc, hC⟩ := hs.toC (Kd.int .i64) rfl (fun cs x _ h => h.1)
  exact ⟨A, c, xs, e, hc, hC.2.1, hC, hwf⟩

set_option maxHeartbeats 1000000 in
theorem walk (A0 : Option Addr) (c0 : Nat) (l0 : List Int) (n d : Int) (A1 : Option Addr) (c1 : Nat) (l1 : List Int) (w : World) (h0 : (Kd.int .u32).C w A0 l0.length l0) (hc0 : l0.length ≤ c0) (h1 : (Kd.int .i64).C w A1 l1.length l1) (hc1 : l1.length ≤ c1)
    (hm0 : l0.length ≤ 9223372036854775807) (hm1 : l1.length ≤ 9223372036854775807) (hwf : ∀ x ∈ l1, (Lit.int .i64 x).wf = true) :
    Calls Try.prog 4 #[.agg #[.slice A0 l0.length c0, .int .i64 n, .int .i64 d], .slice A1 l1.length c1] w (Holds_ w) := by
  by_cases hl1 : l1.length ≤ 1048576
  · by_cases hl0 : l0.length ≤ 1048576
    · exact boot_walk A0 c0 l0 n d A1 c1 l1 w h0 hc0 h1 hc1 hl0 hl1 hwf
    · have hu24 := Try.underlying24
      have H0 := Lib.hid h0
      have HZ := Lib.hid (sz_no l0 n d (by omega) hm0)
      have g0 : ¬ (1048576 : Int) < (l1.length : Int) := by omega
      have X0 : Ext w (w.alloc (.cells #[.slice A0 l0.length c0, .int .i64 n, .int .i64 d] 24)) := (Ext.refl w).alloc _
      clear h0 h1 hwf hl0
      go_enter Try.func4, Try.ntmps4
      go_wp2_with fail
      refine (laws_szImage.calls A0 c0 l0 n d _ _ _ (Kd.C_below H0.out X0) hc0 HZ.out).mono ?_
      rintro e w1 ⟨rfl, hX⟩
      go_wp2
      go_ret
      exact ⟨rfl, Ext.trans X0 hX⟩
  · have g0 : (1048576 : Int) < (l1.length : Int) := by omega
    clear h0 h1 hwf
    go_enter Try.func4, Try.ntmps4
    go_wp2
    go_ret
    exact ⟨rfl, (Ext.refl w).alloc _⟩

theorem lifted (os : Os) (started : os.Started) (H : Type) (enc : TypeId × Value → H) :
    ReturnsInHanded {} Try.checked os 4 .any (Rows.fnExactBootSpec.pre6 enc Try.prog Try.f4 Rows.fnExactBootRow.domain false) (Rows.fnExactBootSpec.post enc Try.prog Try.f4 false true false false) := by
  refine returnsInHanded_of_change_sized (C := Try.checked) own started (by kernel_rfl) Try.func4
    (ChangeSpec.witness6 (enc := enc) (C := Try.checked) false ⟨#[], #[.agg #[.slice none 0 0, .int .i64 0, .int .i64 0], .slice none 0 0], []⟩ 8 (by kernel_rfl) (by kernel_rfl) (by kernel_rfl) (by kernel_rfl)) ?_
  intro W base args ds gs before hval0 hW hcnd hsz0 _
  have hval : ∀ (j : Nat) t v, Try.f4.params[j]? = some t → args[j]? = some v → Value.okWide Try.prog W .any base t v := hval0
  have hW' := hW
  obtain ⟨p, q, hA0, hV, rfl, hfz, hnd⟩ := hW
  have hA : DataW.TrodAll enc Try.prog W 0 (fun _ => true) true Try.f4.params.toList args.toList ds p := hA0
  rw [Try.params4] at hA hval
  obtain ⟨v0, v1, d0, d1, p0, p1, rfl, rfl, _hp, h0, h1⟩ := trodAll_two hA
  obtain ⟨rfl, rfl⟩ := trodVars_none hV
  obtain ⟨A0, c0, l0, a, b, rfl, hc0, hm0, hC0⟩ := open_image (hval 0 _ v0 rfl rfl) h0
  obtain ⟨A1, c1, l1, rfl, hc1, hm1, hC1, hwf⟩ := open_words (hval 1 _ v1 rfl rfl) h1
  refine (walk A0 c0 l0 a b A1 c1 l1 W hC0 hc0 hC1 hc1 hm0 hm1 hwf).mono fun e W' ⟨he, hw⟩ => ?_
  subst he
  exact ⟨_, rfl, post_true laidOut (by kernel_rfl) (by kernel_rfl) (by kernel_rfl) Try.underlying4 hW' hw rfl⟩

theorem proved : Rows.FnExactBootSaid :=
  OpenClaim.holds_of_wide 4 Try.f4 rfl rfl rfl rfl rfl rfl rfl ⟨rfl, rfl, rfl, rfl, rfl⟩ rfl rfl rfl rfl rfl (by kernel_rfl) Try.func4 (by kernel_rfl)
    (of_decide_eq_true (by kernel_rfl)) (by unfold Func.isWrapper; first | (rw [if_pos (by decide +kernel)]; kernel_rfl) | (rw [if_neg (by decide +kernel)]; exact ⟨rfl, rfl⟩))
    (fun os started H enc _ => lifted os started H enc)
#print axioms proved
end Go.Proofs.Ytjgfiplhaanflaa.LBoot
