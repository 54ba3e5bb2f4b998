/- FnExactApply: for all three integers the law returns true (impl.binRv as the program's text lays it). -/
import Derived.Test.YtnkkfkiedooijaaDoorApi
import Derived.Test.YtnkkfkiedooijaaDoorRow
import Derived.Test.YtnkkfkiedooijaaDoorTie
import Derived.Test.YtnkkfkiedooijaaDoorCards
import Derived.Maps.Keyed
import Derived.SevenTiedAt
set_option linter.unusedVariables false
namespace Go.Proofs.YtnkkfkiedooijaaDoor.LApply
open Go Go.RowKit Go.ChangeShapes Go.WideShapes Go.ChangeAt Go.WideMaps Go.WideElems
set_option maxRecDepth 100000

theorem walk (op x y : Int) (w : World) (hM : BinRv w) (hop : (Lit.int .i64 op).wf = true) :
    Calls Tryd.prog 3 #[.int .i64 op, .int .i64 x, .int .i64 y] w (Same (.bool true) w) := by
  go_enter Tryd.func3, Tryd.ntmps3
  go_wp2_with fail
  refine (s_Apply _ _ _ _).mono ?_; rintro e w' ⟨rfl, rfl⟩
  go_wp2_with fail
  refine (i_Apply _ _ _ _ hM hop).mono ?_; rintro e w' ⟨rfl, rfl⟩
  go_wp2
  go_ret
  exact Same.bool rfl

abbrev laid := Rows.fnExactApplyRow.laid
theorem gRv : Tryd.prog.globalNamed "loop.example/s01725/impl.binRv" = some 0 := by kernel_rfl
theorem tRv : (Tryd.prog.globals[0]?).map (·.type) = some 67 := by kernel_rfl
theorem door_met (os : Os) (args : Array Value) : laidMetH Tryd.prog Rows.fnExactApplyRow.laid ((World.doorLaid Tryd.prog 400 os).forCall (fun _ _ => 0) ⟨#[], args, []⟩).memory :=
  laidMetH_of_parts3 (fuel := 8) (laidMet_of_run' 8 (by kernel_rfl) (by kernel_rfl)) (by kernel_rfl) (by kernel_rfl)


theorem binRv_of_trod {W : World} {cs : Array Value} {f : Nat} {sp : Nat → Bool} {p : List MemPlace} (hv : W.var? Tryd.prog "loop.example/s01725/impl.binRv" = some cs)
    (hd : DataW.trod (fun _ => ()) Tryd.prog W 0 sp false f 67 cs.toList = some (Rows.laid_loop_example_s01725_impl_binRv, p)) : BinRv W := by
  have zero : ∀ w : World, (zeroValue 2).run Tryd.prog w = .ok (.int .i64 0) w := fun w => by kernel_rfl
  rcases open_map Tryd.underlying67 hd with ⟨_, hx⟩ | ⟨bm, es, clock, m, rfl, hcs, hb, _, F, hx⟩
  · simp [Rows.laid_loop_example_s01725_impl_binRv] at hx
  simp only [Prod.mk.injEq] at hx
  have hcell : W.cell? ⟨0, 0, none⟩ = some (.map (some bm)) := by
    have := World.var?_cell gRv hv 0
    rw [Array.eq_one_of_toList hcs] at this
    simpa using this
  refine ⟨bm, es, clock, hcell, hb, fun w' hb' op hop => ?_⟩
  rcases Maps.fit_look true (Maps.int_keyed Tryd.underlying2) Tryd.underlying67 (zero w') hb' F (Maps.keyOf_int_mk Tryd.underlying2 hop) with ⟨hrun, _, hat⟩ | ⟨e0, y, _, _, hrun, hR, hat, _⟩
  · have := hat .nil
    rw [← hx.1] at this
    simp only [Rows.laid_loop_example_s01725_impl_binRv, DataW.atKey] at this
    by_cases hh : rvHas op = true
    · have h2 := of_decide_eq_true hh
      have h3 : op = 0 ∨ op = 1 ∨ op = 2 ∨ op = 3 ∨ op = 4 ∨ op = 5 ∨ op = 6 ∨ op = 7 ∨ op = 13 ∨ op = 14 ∨ op = 15 := by omega
      rcases h3 with rfl | rfl | rfl | rfl | rfl | rfl | rfl | rfl | rfl | rfl | rfl <;> simp [Lit.sameKey, List.find?] at this
    · have hf : rvHas op = false := by simpa using hh
      have h2 : ¬ ((0 ≤ op ∧ op ≤ 7) ∨ (13 ≤ op ∧ op ≤ 15)) := of_decide_eq_false hf
      have hz : rvOf op = 0 := by
        unfold rvOf
        repeat rw [if_neg (by omega)]
      rw [hf, hz]
      exact hrun
  · obtain ⟨r, hr, rfl, _⟩ := elemAt_int Tryd.underlying2 hR
    have := hat .nil
    rw [← hx.1] at this
    simp only [Rows.laid_loop_example_s01725_impl_binRv, DataW.atKey] at this
    rw [hr] at hrun
    by_cases hh : rvHas op = true
    · have h2 := of_decide_eq_true hh
      have h3 : op = 0 ∨ op = 1 ∨ op = 2 ∨ op = 3 ∨ op = 4 ∨ op = 5 ∨ op = 6 ∨ op = 7 ∨ op = 13 ∨ op = 14 ∨ op = 15 := by omega
      rcases h3 with rfl | rfl | rfl | rfl | rfl | rfl | rfl | rfl | rfl | rfl | rfl <;> (simp [Lit.sameKey, List.find?] at this; subst this; exact hrun)
    · have hf : rvHas op = false := by simpa using hh
      have h2 : ¬ ((0 ≤ op ∧ op ≤ 7) ∨ (13 ≤ op ∧ op ≤ 15)) := of_decide_eq_false hf
      have k : ∀ n : Int, (0 ≤ n ∧ n ≤ 7) ∨ (13 ≤ n ∧ n ≤ 15) → Lit.sameKey (.int .i64 n) (.int .i64 op) = false := fun n hn => by
        simp only [Lit.sameKey, true_and]
        exact decide_eq_false (by omega)
      simp [List.find?, k] at this
theorem of_laid {W : World} (h : laidMetH Tryd.prog Rows.fnExactApplyRow.laid W) : BinRv W := by
  rw [MakeChecks.laidMetH_plain _ _ _ (by kernel_rfl)] at h
  obtain ⟨ps, ⟨g0, t0, cs0, f0, p0, q0, hg0, ht0, hv0, hd0, _, _⟩, _, _⟩ := h
  obtain rfl := Option.some.inj (gRv.symm.trans hg0)
  obtain rfl := Option.some.inj (tRv.symm.trans ht0)
  exact binRv_of_trod hv0 hd0


theorem lifted (os : Os) (started : os.Started) (H : Type) (enc : TypeId × Value → H) :
    ReturnsInHanded {} Tryd.checked os 3 .any (fun w args => (Rows.fnExactApplySpec.pre enc Tryd.prog Tryd.f3 [] false w args ∧ laidMetH Tryd.prog Rows.fnExactApplyRow.laid w) ∧ sizedMet enc Tryd.prog Tryd.f3 (OpenSpec.ofChange Rows.fnExactApplySpec) false w args)
      (Rows.fnExactApplySpec.post enc Tryd.prog Tryd.f3 false true false false) := by
  refine returnsInHanded_of_change_and (C := Tryd.checked) (X := fun w _ => laidMetH Tryd.prog Rows.fnExactApplyRow.laid w) (fun _ _ _ hh h => h.of_heap hh) own started (by kernel_rfl) Tryd.func3
    (ChangeSpec.witness_shaped (enc := enc) (C := Tryd.checked) (os := os) (X := fun w _ => laidMetH Tryd.prog Rows.fnExactApplyRow.laid w) false (World.doorLaid Tryd.prog 400 os) #[.int .i64 0, .int .i64 0, .int .i64 0] 8 rfl (World.shaped_of_RefB (by kernel_rfl) (by kernel_rfl)) (by kernel_rfl) (by kernel_rfl) (by kernel_rfl) (door_met os _)) ?_
  intro W base args ds gs before hval0 hW _ _ hL _
  have hval : ∀ (j : Nat) t v, Tryd.f3.params[j]? = some t → args[j]? = some v → Value.okWide Tryd.prog W .any base t v := hval0
  have hW' := hW
  obtain ⟨p, q, hA0, hV, rfl, hfz, hnd⟩ := hW
  have hA : DataW.TrodAll enc Tryd.prog W 0 (fun _ => true) true Tryd.f3.params.toList args.toList ds p := hA0
  rw [Tryd.params3] at hA hval
  obtain ⟨v0, v1, v2, d0, d1, d2, p0, p1, p2, rfl, rfl, rfl, h0, h1, h2⟩ := trodAll_three hA
  obtain ⟨g1, rfl⟩ : ∃ g, gs = [g] := by
    match gs, hV with
    | [g], _ => exact ⟨g, rfl⟩
    | [], h => exact h.elim
    | _ :: _ :: _, h => obtain ⟨_, _, _, _, _, _, _, _, _, _, h, _⟩ := h; exact h.elim
  obtain ⟨x0, rfl, rfl, rfl, wx0⟩ := open_int Tryd.underlying2 (hval 0 _ v0 rfl rfl) h0
  obtain ⟨x1, rfl, rfl, rfl, wx1⟩ := open_int Tryd.underlying2 (hval 1 _ v1 rfl rfl) h1
  obtain ⟨x2, rfl, rfl, rfl, wx2⟩ := open_int Tryd.underlying2 (hval 2 _ v2 rfl rfl) h2
  refine (walk x0 x1 x2 W (of_laid hL) wx0).mono fun e W' ⟨he, hw⟩ => ?_
  subst he
  subst hw
  exact ⟨_, rfl, post_true laidOut (by kernel_rfl) (by kernel_rfl) (by kernel_rfl) Tryd.underlying4 hW' (Ext.refl _) rfl⟩

theorem row_holds : Rows.FnExactApplySaid :=
  OpenClaim.holds_of_wide 3 Tryd.f3 rfl rfl rfl rfl rfl rfl rfl ⟨rfl, rfl, rfl, rfl, rfl⟩ rfl rfl rfl rfl rfl (by kernel_rfl) Tryd.func3 (by kernel_rfl)
    (of_decide_eq_true (by kernel_rfl)) (by unfold Func.isWrapper; rw [if_neg (of_decide_eq_false (by kernel_rfl))]; exact ⟨rfl, rfl⟩)
    (fun os started H enc _ => lifted os started H enc)

theorem card_holds : Rows.FnExactApplyCardSaid :=
  Claim7.holds_tied_plain_at .later [] Rows.fnExactApplyCard.laidKinds true Rows.fnExactApplyCard.stood.harness Rows.fnExactApplyCard.stood.looks
    row_holds (fun _ h => by cases h) (by kernel_rfl) (fun _ h => by cases h) fnExactApply_row_tie rfl ⟨rfl, rfl⟩ (by kernel_rfl) rfl
    (fun f fn hf hfn => by
      obtain rfl : f = 3 := Option.some.inj ((show Tryd.prog.funcNamed "loop.example/s01725/laws.FnExactApply" = some 3 by kernel_rfl).symm.trans hf) |>.symm
      obtain rfl : fn = Tryd.f3 := (Option.some.inj (Tryd.func3.symm.trans hfn)).symm
      exact ⟨by kernel_rfl, fun j t ht => by
        have hm : t ∈ Tryd.f3.params.toList := by simpa using Array.mem_of_getElem? ht
        have hall : (Tryd.f3.params.toList.all fun u => !Tryd.prog.wantsStandIn u) = true := by kernel_rfl
        exact (show Tryd.prog.wantsStandIn t = false by simpa using List.all_eq_true.1 hall t hm)⟩)
    (by kernel_rfl)
#print axioms card_holds
end Go.Proofs.YtnkkfkiedooijaaDoor.LApply
