/- FnExactValidTree: for every tree the law returns true (impl.reserved as the program's text lays it). -/
import Derived.Test.YtjgfiplhaanflaaDoorTreeW
import Derived.Test.YtjgfiplhaanflaaDoorRow
import Derived.Test.YtjgfiplhaanflaaDoorTie
import Derived.Test.YtjgfiplhaanflaaDoorCards
import Derived.SevenTiedAt
import Derived.Lib.SmallJoins
set_option linter.unusedVariables false
namespace Go.Proofs.YtjgfiplhaanflaaDoor.LTree
open Go Go.RowKit Go.ChangeShapes Go.WideShapes Go.ChangeAt Go.WideMaps Go.WideElems Md
set_option maxRecDepth 100000

set_option maxHeartbeats 2000000 in
theorem walk (t : PTree) (vG vF : Value) (w : World) (hG : SlGlob AnyB w vG t.globals) (hF : SlFunc AnyB w vF t.funcs) (hres : Res w) :
    Calls Tryd.prog 3 #[.agg #[vG, vF]] w (Gives (.bool true) w) := by
  have hEx : Ext w (w.alloc (.cells #[vG, vF] 25)) := (Ext.refl w).alloc _
  have hX := Blk.alloc w 25 #[vG, vF]
  have HSz := Lib.hid (c_szTree AnyB t vG vF 1048576 _ (by decide) (by decide) (hG.ext hEx (fun _ _ h => h.any)) (hF.ext hEx (fun _ _ h => h.ext hEx)))
  obtain ⟨aG, nG, cG, rfl⟩ := hG.shape
  obtain ⟨aF, nF, cF, rfl⟩ := hF.shape
  have HG := Lib.hid hG
  have HF := Lib.hid hF
  have HR := Lib.hid hres
  clear hG hF hres
  go_enter Tryd.func3, Tryd.ntmps3
  go_wp2_with fail
  refine HSz.out.mono ?_
  rintro e1 w1 ⟨rfl, hX1⟩
  have hE1 := hEx.trans hX1
  by_cases hs : (1048576 : Int) < szTree t
  · rw [lft_neg hs]
    go_wp2
    go_ret
    exact Gives.bool rfl hE1
  · rw [lft_pos hs]
    have HZ := Lib.hid (sizes_of (x := t) (by omega))
    have hlt : ¬ ((1048576 : Int) - (szTree t : Int) < 0) := by omega
    have cA : w1.cell? ⟨w.heap.size, 0, none⟩ = some (.slice aG nG cG) := (hX.ext hX1).cell 0
    have cB : w1.cell? ⟨w.heap.size, 1, none⟩ = some (.slice aF nF cF) := (hX.ext hX1).cell 1
    go_wp2_with fail
    refine (c_toTree AnyB t _ _ _ (HG.out.ext hE1 (fun _ _ h => h.any)) (HF.out.ext hE1 (fun _ _ h => h.ext hE1)) HZ.out.1 HZ.out.2).mono ?_
    rintro e2 w2 ⟨cs, rfl, ⟨vG2, vF2, rfl, hG2, hF2⟩, hX2⟩
    have hE2 := hE1.trans hX2
    go_wp2_with fail
    refine (s_ValidTree _ t _ _ _ hG2 hF2 HZ.out.small).mono ?_
    rintro e3 w3 ⟨rfl, hX3⟩
    have hE3 := hE2.trans hX3
    have cA3 : w3.cell? ⟨w.heap.size, 0, none⟩ = some (.slice aG nG cG) := (hX2.trans hX3).cell cA
    have cB3 : w3.cell? ⟨w.heap.size, 1, none⟩ = some (.slice aF nF cF) := (hX2.trans hX3).cell cB
    go_wp2_with fail
    refine (c_toTree AnyB t _ _ _ (HG.out.ext hE3 (fun _ _ h => h.any)) (HF.out.ext hE3 (fun _ _ h => h.ext hE3)) HZ.out.1 HZ.out.2).mono ?_
    rintro e4 w4 ⟨cs, rfl, ⟨vG4, vF4, rfl, hG4, hF4⟩, hX4⟩
    have hE4 := hE3.trans hX4
    obtain ⟨aG4, nG4, cG4, rfl⟩ := hG4.shape
    obtain ⟨aF4, nF4, cF4, rfl⟩ := hF4.shape
    have HG4 := Lib.hid hG4
    have HF4 := Lib.hid hF4
    have cA4 := hX4.cell cA3
    have cB4 := hX4.cell cB3
    clear hG4 hF4 hG2 hF2
    have hE5 : Ext w4 (w4.alloc (.cells #[.slice aG4 nG4 cG4, .slice aF4 nF4 cF4] 31)) := (Ext.refl _).alloc _
    have hX5 := Blk.alloc w4 31 #[.slice aG4 nG4 cG4, .slice aF4 nF4 cF4]
    have HE5 := Lib.hid hE5
    have HX5 := Lib.hid hX5
    clear hE5 hX5
    go_wp2_with fail
    refine (i_ValidTree _ t _ _ _ (HG4.out.ext HE5.out (fun _ _ h => h.any)) (HF4.out.ext HE5.out (fun _ _ h => h.ext HE5.out)) HZ.out.small ((HR.out.ext hE4).ext HE5.out)).mono ?_
    rintro e6 w6 ⟨rfl, hX6⟩
    have d0 : w6.cell? ⟨w4.heap.size, 0, none⟩ = some (.slice aG4 nG4 cG4) := (HX5.out.ext hX6).cell 0
    have d1 : w6.cell? ⟨w4.heap.size, 1, none⟩ = some (.slice aF4 nF4 cF4) := (HX5.out.ext hX6).cell 1
    have hE46 : Ext w4 w6 := HE5.out.trans hX6
    have cA6 := hE46.cell cA4
    have cB6 := hE46.cell cB4
    have hE6 := hE4.trans hE46
    have HE46 := Lib.hid hE46
    have HE6 := Lib.hid hE6
    clear hE46 hE6
    go_wp2_with fail
    go_region_held3 (fun w' => w'.cell? ⟨w4.heap.size, 0, none⟩ = some (.slice aG4 nG4 cG4) ∧ w'.cell? ⟨w4.heap.size, 1, none⟩ = some (.slice aF4 nF4 cF4) ∧ w'.cell? ⟨w.heap.size, 0, none⟩ = some (.slice aG nG cG) ∧ w'.cell? ⟨w.heap.size, 1, none⟩ = some (.slice aF nF cF))
      (first | go_keep | (refine ⟨hX8.cell (hX7.cell ?_), hX8.cell (hX7.cell ?_), hX8.cell (hX7.cell ?_), hX8.cell (hX7.cell ?_)⟩ <;> simp [*]) | (refine ⟨hX7.cell ?_, hX7.cell ?_, hX7.cell ?_, hX7.cell ?_⟩ <;> simp [*]))
      (first
        | (go_at_call 7; refine (c_toTree AnyB t _ _ _ (HG.out.ext (HE6.out.drew) (fun _ _ h => h.any)) (HF.out.ext (HE6.out.drew) (fun _ _ h => h.ext (HE6.out.drew))) HZ.out.1 HZ.out.2).mono ?_; rintro e7 w7 ⟨cs, rfl, ⟨vG7, vF7, rfl, hG7, hF7⟩, hX7⟩)
        | (go_at_call 9; refine (c_eqTree _ _ t _ _ _ _ _ (HG4.out.ext ((HE46.out.drew).trans hX7) (fun _ _ h => h.any)) (HF4.out.ext ((HE46.out.drew).trans hX7) (fun _ _ h => h.ext ((HE46.out.drew).trans hX7))) hG7 hF7).mono ?_; rintro e8 w8 ⟨rfl, hX8⟩))
    go_wp2
    go_ret
    exact Gives.bool rfl (((HE6.out.drew).trans hX7).trans hX8)

abbrev laid := Rows.fnExactValidTreeRow.laid
theorem door_met (os : Os) (args : Array Value) : laidMetH Tryd.prog Rows.fnExactValidTreeRow.laid ((World.doorLaid Tryd.prog 400 os).forCall (fun _ _ => 0) ⟨#[], args, []⟩).memory :=
  laidMetH_of_parts3 (fuel := 8) (laidMet_of_run' 8 (by kernel_rfl) (by kernel_rfl)) (by kernel_rfl) (by kernel_rfl)
theorem of_laid {W : World} (h : laidMetH Tryd.prog Rows.fnExactValidTreeRow.laid W) : Res W := by
  rw [MakeChecks.laidMetH_plain _ _ _ (by kernel_rfl)] at h
  obtain ⟨ps, ⟨g0, t0, cs0, f0, p0, q0, hg0, ht0, hv0, hd0, _, _⟩, _, _⟩ := h
  obtain rfl := Option.some.inj (gRes.symm.trans hg0)
  obtain rfl := Option.some.inj (tRes.symm.trans ht0)
  exact res_of_trod hv0 hd0

theorem lifted (os : Os) (started : os.Started) (H : Type) (enc : TypeId × Value → H) :
    ReturnsInHanded {} Tryd.checked os 3 .any (fun w args => (Rows.fnExactValidTreeSpec.pre enc Tryd.prog Tryd.f3 [] false w args ∧ laidMetH Tryd.prog Rows.fnExactValidTreeRow.laid w) ∧ sizedMet enc Tryd.prog Tryd.f3 (OpenSpec.ofChange Rows.fnExactValidTreeSpec) false w args)
      (Rows.fnExactValidTreeSpec.post enc Tryd.prog Tryd.f3 false true false false) := by
  refine returnsInHanded_of_change_and (C := Tryd.checked) (X := fun w _ => laidMetH Tryd.prog Rows.fnExactValidTreeRow.laid w) (fun _ _ _ hh h => h.of_heap hh) own started (by kernel_rfl) Tryd.func3
    (ChangeSpec.witness_shaped (enc := enc) (C := Tryd.checked) (os := os) (X := fun w _ => laidMetH Tryd.prog Rows.fnExactValidTreeRow.laid w) false (World.doorLaid Tryd.prog 400 os) #[.agg #[.slice none 0 0, .slice none 0 0]] 8 rfl (World.shaped_of_RefB (by kernel_rfl) (by kernel_rfl)) (by kernel_rfl) (by kernel_rfl) (by kernel_rfl) (door_met os _)) ?_
  intro W base args ds gs before hval0 hW _ _ hL _
  have hval : ∀ (j : Nat) t v, Tryd.f3.params[j]? = some t → args[j]? = some v → Value.okWide Tryd.prog W .any base t v := hval0
  have hW' := hW
  obtain ⟨p, q, hA0, hV, rfl, hfz, hnd⟩ := hW
  have hA : DataW.TrodAll enc Tryd.prog W 0 (fun _ => true) true Tryd.f3.params.toList args.toList ds p := hA0
  rw [Tryd.params3] at hA hval
  obtain ⟨v0, d0, rfl, rfl, h0⟩ := trodAll_one hA
  obtain ⟨g1, rfl⟩ : ∃ g, gs = [g] := by
    match gs, hV with
    | [g], _ => exact ⟨g, rfl⟩
    | [], h => exact h.elim
    | _ :: _ :: _, h => obtain ⟨_, _, _, _, _, _, _, _, _, _, h, _⟩ := h; exact h.elim
  obtain ⟨t, vG, vF, rfl, hG, hF⟩ := open_tree (hval 0 _ v0 rfl rfl) h0
  refine (walk t vG vF W hG hF (of_laid hL)).mono fun e W' ⟨he, hw⟩ => ?_
  subst he
  exact ⟨_, rfl, post_true laidOut (by kernel_rfl) (by kernel_rfl) (by kernel_rfl) Tryd.underlying4 hW' hw rfl⟩

theorem row_holds : Rows.FnExactValidTreeSaid :=
  OpenClaim.holds_of_wide 3 Tryd.f3 rfl rfl rfl rfl rfl rfl rfl ⟨rfl, rfl, rfl, rfl, rfl⟩ rfl rfl rfl rfl rfl (by kernel_rfl) Tryd.func3 (by kernel_rfl)
    (of_decide_eq_true (by kernel_rfl)) (by unfold Func.isWrapper; rw [if_neg (of_decide_eq_false (by kernel_rfl))]; exact ⟨rfl, rfl⟩)
    (fun os started H enc _ => lifted os started H enc)

theorem card_holds : Rows.FnExactValidTreeCardSaid :=
  Claim7.holds_tied_plain_at .later [] Rows.fnExactValidTreeCard.laidKinds true Rows.fnExactValidTreeCard.stood.harness Rows.fnExactValidTreeCard.stood.looks
    row_holds (fun _ h => by cases h) (by kernel_rfl) (fun _ h => by cases h) fnExactValidTree_row_tie rfl ⟨rfl, rfl⟩ (by kernel_rfl) rfl
    (fun f fn hf hfn => by
      obtain rfl : f = 3 := Option.some.inj ((show Tryd.prog.funcNamed "loop.example/s01725/laws.FnExactValidTree" = some 3 by kernel_rfl).symm.trans hf) |>.symm
      obtain rfl : fn = Tryd.f3 := (Option.some.inj (Tryd.func3.symm.trans hfn)).symm
      exact ⟨by kernel_rfl, fun j t ht => by
        have hm : t ∈ Tryd.f3.params.toList := by simpa using Array.mem_of_getElem? ht
        have hall : (Tryd.f3.params.toList.all fun u => !Tryd.prog.wantsStandIn u) = true := by kernel_rfl
        exact (show Tryd.prog.wantsStandIn t = false by simpa using List.all_eq_true.1 hall t hm)⟩)
    (by kernel_rfl)
#print axioms card_holds
end Go.Proofs.YtjgfiplhaanflaaDoor.LTree
