/- FnExactBound: for every tree the law returns true (impl.reserved as the program's text lays it). -/
import Derived.Test.YtcfggjmdcaoecaaGreatDoorImplBound
import Derived.Test.YtcfggjmdcaoecaaGreatDoorRow
import Derived.Test.YtcfggjmdcaoecaaGreatDoorTie
import Derived.Test.YtcfggjmdcaoecaaGreatDoorCards
import Derived.SevenTiedAt
import Derived.Lib.SmallJoins
set_option linter.unusedVariables false
namespace Go.Proofs.YtcfggjmdcaoecaaGreatDoor.LBound
open Go Go.RowKit Go.ChangeShapes Go.WideShapes Go.ChangeAt Go.WideMaps Go.WideElems Md
set_option maxRecDepth 100000

set_option maxHeartbeats 4000000 in
theorem walk (t : PTree) (vG vF : Value) (w : World) (hG : SlGlob AnyB w vG t.globals) (hF : SlFunc AnyB w vF t.funcs) (hres : Res w) :
    Calls Tryz.prog 6 #[.agg #[vG, vF]] w (Gives (.bool true) w) := by
  have hEx : Ext w (w.alloc (.cells #[vG, vF] 25)) := (Ext.refl w).alloc _
  have hX := Blk.alloc w 25 #[vG, vF]
  have HSz := Lib.hid (c_szTree AnyB t vG vF 1048576 _ (by decide) (by decide) (hG.ext hEx (fun _ _ h => h.any)) (hF.ext hEx (fun _ _ h => h.ext hEx)))
  obtain ⟨aG, nG, cG, rfl⟩ := hG.shape
  obtain ⟨aF, nF, cF, rfl⟩ := hF.shape
  have HG := Lib.hid hG
  have HF := Lib.hid hF
  have HR := Lib.hid hres
  obtain ⟨rr, hrr⟩ : ∃ rr, rr = boundAns t := ⟨_, rfl⟩
  have Hrr := Lib.hid hrr
  clear hG hF hres hrr
  go_enter Tryz.func6, Tryz.ntmps6
  go_wp2_with fail
  refine HSz.out.mono ?_
  rintro e1 w1 ⟨rfl, hX1⟩
  have hE1 := hEx.trans hX1
  by_cases hs : (1048576 : Int) < szTree t
  · rw [lft_neg hs]
    go_wp2
    go_ret
    exact Gives.bool rfl hE1
  · rw [lft_pos hs]
    have HZ := Lib.hid (sizes_of (x := t) (by omega))
    have hlt : ¬ ((1048576 : Int) - (szTree t : Int) < 0) := by omega
    have cA : w1.cell? ⟨w.heap.size, 0, none⟩ = some (.slice aG nG cG) := (hX.ext hX1).cell 0
    have cB : w1.cell? ⟨w.heap.size, 1, none⟩ = some (.slice aF nF cF) := (hX.ext hX1).cell 1
    have HTo : Hid (∀ w', Ext w w' → Calls Tryz.prog 11 #[.agg #[.slice aG nG cG, .slice aF nF cF]] w' (MadeAgg CTree t w')) := fun w' hE =>
      c_toTree AnyB t _ _ w' (HG.out.ext hE (fun _ _ h => h.any)) (HF.out.ext hE (fun _ _ h => h.ext hE)) HZ.out.1 HZ.out.2
    go_wp2_with fail
    refine (HTo.out _ hE1).mono ?_
    rintro e2 w2 ⟨cs, rfl, ⟨vG2, vF2, rfl, hG2, hF2⟩, hT2⟩
    have hX2 := hT2.e
    have hE2 := hE1.trans hX2
    have HC2 := Lib.hid (s_Bound _ t _ _ w2 hG2 hF2 HZ.out.small)
    rw [← Hrr.out] at HC2
    clear hG2 hF2 hT2
    go_wp2_with fail
    refine HC2.out.mono ?_
    rintro e3 w3 ⟨rfl, hX3⟩
    have hE3 := hE2.trans hX3
    have cA3 : w3.cell? ⟨w.heap.size, 0, none⟩ = some (.slice aG nG cG) := (hX2.trans hX3).cell cA
    have cB3 : w3.cell? ⟨w.heap.size, 1, none⟩ = some (.slice aF nF cF) := (hX2.trans hX3).cell cB
    have HE3 := Lib.hid hE3
    clear HC2 cA cB hE1 hE2 hX2 hX3 hX1 hEx hX hE3
    go_wp2_with fail
    refine (HTo.out _ HE3.out).mono ?_
    rintro e4 w4 ⟨cs, rfl, ⟨vG4, vF4, rfl, hG4, hF4⟩, hT4⟩
    have hX4 := hT4.e
    obtain ⟨aG4, nG4, cG4, rfl⟩ := hG4.shape
    obtain ⟨aF4, nF4, cF4, rfl⟩ := hF4.shape
    have HG4 := Lib.hid hG4
    have HF4 := Lib.hid hF4
    have hE5 : Ext w4 (w4.alloc (.cells #[.slice aG4 nG4 cG4, .slice aF4 nF4 cF4] 32)) := (Ext.refl _).alloc _
    have hB5 := Blk.alloc w4 32 #[.slice aG4 nG4 cG4, .slice aF4 nF4 cF4]
    have HX4 := Lib.hid hX4
    have HE5 := Lib.hid hE5
    have HB5 := Lib.hid hB5
    have HE05 := Lib.hid (HE3.out.trans (hX4.trans hE5))
    have HC5 := Lib.hid (i_Bound _ t _ _ _ (HG4.out.ext HE5.out (fun _ _ h => h.any)) (HF4.out.ext HE5.out (fun _ _ h => h.ext HE5.out)) HZ.out.small (HR.out.ext HE05.out))
    rw [← Hrr.out] at HC5
    clear hE5 hB5 hG4 hF4 hT4 hX4
    go_wp2_with fail
    refine HC5.out.mono ?_
    rintro e6 w6 ⟨rfl, hX6⟩
    have HE48 := Lib.hid (HE5.out.trans hX6)
    have HE38 := Lib.hid (HX4.out.trans HE48.out)
    have HE08 := Lib.hid (HE3.out.trans HE38.out)
    have d0 : w6.cell? ⟨w4.heap.size, 0, none⟩ = some (.slice aG4 nG4 cG4) := (HB5.out.ext hX6).cell 0
    have d1 : w6.cell? ⟨w4.heap.size, 1, none⟩ = some (.slice aF4 nF4 cF4) := (HB5.out.ext hX6).cell 1
    have cA8 := HE38.out.cell cA3
    have cB8 := HE38.out.cell cB3
    clear hX6 HC5 cA3 cB3
    go_wp2_with fail
    go_region_held3 (fun w' => w'.cell? ⟨w4.heap.size, 0, none⟩ = some (.slice aG4 nG4 cG4) ∧ w'.cell? ⟨w4.heap.size, 1, none⟩ = some (.slice aF4 nF4 cF4) ∧ w'.cell? ⟨w.heap.size, 0, none⟩ = some (.slice aG nG cG) ∧ w'.cell? ⟨w.heap.size, 1, none⟩ = some (.slice aF nF cF))
      (first | go_keep | (refine ⟨hXe.cell (hXt.cell ?_), hXe.cell (hXt.cell ?_), hXe.cell (hXt.cell ?_), hXe.cell (hXt.cell ?_)⟩ <;> simp [*]) | (refine ⟨hXt.cell ?_, hXt.cell ?_, hXt.cell ?_, hXt.cell ?_⟩ <;> simp [*]))
      (first
        | (go_at_call 11; refine (HTo.out _ HE08.out.drew).mono ?_; rintro e9 w9 ⟨cs, rfl, ⟨vG8, vF8, rfl, hG8, hF8⟩, hT8⟩; have hXt := hT8.e; clear hT8)
        | (go_at_call 14; refine (c_eqTree _ _ t _ _ _ _ _ (HG4.out.ext ((HE48.out.drew).trans hXt) (fun _ _ h => h.any)) (HF4.out.ext ((HE48.out.drew).trans hXt) (fun _ _ h => h.ext ((HE48.out.drew).trans hXt))) hG8 hF8).mono ?_; rintro e10 w10 ⟨rfl, hXe⟩))
    have HEf := Lib.hid (HE08.out.trans ((((Ext.refl w6).drew).trans hXt).trans hXe))
    clear hXt hXe hG8 hF8 d0 d1 cA8 cB8
    go_wp2
    go_ret
    exact Gives.bool rfl HEf.out

abbrev laid := Rows.fnExactBoundRow.laid
theorem door_met (os : Os) (args : Array Value) : laidMetH Tryz.prog Rows.fnExactBoundRow.laid ((World.doorLaid Tryz.prog 400 os).forCall (fun _ _ => 0) ⟨#[], args, []⟩).memory :=
  laidMetH_of_parts3 (fuel := 8) (laidMet_of_run' 8 (by kernel_rfl) (by kernel_rfl)) (by kernel_rfl) (by kernel_rfl)
theorem of_laid {W : World} (h : laidMetH Tryz.prog Rows.fnExactBoundRow.laid W) : Res W := by
  rw [MakeChecks.laidMetH_plain _ _ _ (by kernel_rfl)] at h
  obtain ⟨ps, ⟨g0, t0, cs0, f0, p0, q0, hg0, ht0, hv0, hd0, _, _⟩, _, _⟩ := h
  obtain rfl := Option.some.inj (gRes.symm.trans hg0)
  obtain rfl := Option.some.inj (tRes.symm.trans ht0)
  exact res_of_trod hv0 hd0

theorem lifted (os : Os) (started : os.Started) (H : Type) (enc : TypeId × Value → H) :
    ReturnsInHanded {} Tryz.checked os 6 .any (fun w args => (Rows.fnExactBoundSpec.pre enc Tryz.prog Tryz.f6 [] false w args ∧ laidMetH Tryz.prog Rows.fnExactBoundRow.laid w) ∧ sizedMet enc Tryz.prog Tryz.f6 (OpenSpec.ofChange Rows.fnExactBoundSpec) false w args)
      (Rows.fnExactBoundSpec.post enc Tryz.prog Tryz.f6 false true false false) := by
  refine returnsInHanded_of_change_and (C := Tryz.checked) (X := fun w _ => laidMetH Tryz.prog Rows.fnExactBoundRow.laid w) (fun _ _ _ hh h => h.of_heap hh) own started (by kernel_rfl) Tryz.func6
    (ChangeSpec.witness_shaped (enc := enc) (C := Tryz.checked) (os := os) (X := fun w _ => laidMetH Tryz.prog Rows.fnExactBoundRow.laid w) false (World.doorLaid Tryz.prog 400 os) #[.agg #[.slice none 0 0, .slice none 0 0]] 8 rfl (World.shaped_of_RefB (by kernel_rfl) (by kernel_rfl)) (by kernel_rfl) (by kernel_rfl) (by kernel_rfl) (door_met os _)) ?_
  intro W base args ds gs before hval0 hW _ _ hL _
  have hval : ∀ (j : Nat) t v, Tryz.f6.params[j]? = some t → args[j]? = some v → Value.okWide Tryz.prog W .any base t v := hval0
  have hW' := hW
  obtain ⟨p, q, hA0, hV, rfl, hfz, hnd⟩ := hW
  have hA : DataW.TrodAll enc Tryz.prog W 0 (fun _ => true) true Tryz.f6.params.toList args.toList ds p := hA0
  rw [Tryz.params6] at hA hval
  obtain ⟨v0, d0, rfl, rfl, h0⟩ := trodAll_one hA
  obtain ⟨g1, rfl⟩ : ∃ g, gs = [g] := by
    match gs, hV with
    | [g], _ => exact ⟨g, rfl⟩
    | [], h => exact h.elim
    | _ :: _ :: _, h => obtain ⟨_, _, _, _, _, _, _, _, _, _, h, _⟩ := h; exact h.elim
  obtain ⟨t, vG, vF, rfl, hG, hF⟩ := open_tree (hval 0 _ v0 rfl rfl) h0
  refine (walk t vG vF W hG hF (of_laid hL)).mono fun e W' ⟨he, hw⟩ => ?_
  subst he
  exact ⟨_, rfl, post_true laidOut (by kernel_rfl) (by kernel_rfl) (by kernel_rfl) Tryz.underlying4 hW' hw rfl⟩

theorem row_holds : Rows.FnExactBoundSaid :=
  OpenClaim.holds_of_wide 6 Tryz.f6 rfl rfl rfl rfl rfl rfl rfl ⟨rfl, rfl, rfl, rfl, rfl⟩ rfl rfl rfl rfl rfl (by kernel_rfl) Tryz.func6 (by kernel_rfl)
    (of_decide_eq_true (by kernel_rfl)) (by unfold Func.isWrapper; rw [if_neg (of_decide_eq_false (by kernel_rfl))]; exact ⟨rfl, rfl⟩)
    (fun os started H enc _ => lifted os started H enc)

theorem card_holds : Rows.FnExactBoundCardSaid :=
  Claim7.holds_tied_plain_at .later [] Rows.fnExactBoundCard.laidKinds true Rows.fnExactBoundCard.stood.harness Rows.fnExactBoundCard.stood.looks
    row_holds (fun _ h => by cases h) (by kernel_rfl) (fun _ h => by cases h) fnExactBound_row_tie rfl ⟨rfl, rfl⟩ (by kernel_rfl) rfl
    (fun f fn hf hfn => by
      obtain rfl : f = 6 := Option.some.inj ((show Tryz.prog.funcNamed "loop.example/s01725/laws.FnExactBound" = some 6 by kernel_rfl).symm.trans hf) |>.symm
      obtain rfl : fn = Tryz.f6 := (Option.some.inj (Tryz.func6.symm.trans hfn)).symm
      exact ⟨by kernel_rfl, fun j t ht => by
        have hm : t ∈ Tryz.f6.params.toList := by simpa using Array.mem_of_getElem? ht
        have hall : (Tryz.f6.params.toList.all fun u => !Tryz.prog.wantsStandIn u) = true := by kernel_rfl
        exact (show Tryz.prog.wantsStandIn t = false by simpa using List.all_eq_true.1 hall t hm)⟩)
    (by kernel_rfl)
#print axioms card_holds
end Go.Proofs.YtcfggjmdcaoecaaGreatDoor.LBound
