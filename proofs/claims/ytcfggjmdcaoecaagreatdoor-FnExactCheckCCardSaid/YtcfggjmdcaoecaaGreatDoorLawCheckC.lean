/- FnExactCheckC: for every tree the law returns true (impl.reserved and errors.errorType as the program's text lays them). -/
import Derived.Test.YtcfggjmdcaoecaaGreatDoorSpecCheck
import Derived.Test.YtcfggjmdcaoecaaGreatDoorImplCC
import Derived.Test.YtcfggjmdcaoecaaGreatDoorRow
import Derived.Test.YtcfggjmdcaoecaaGreatDoorTie
import Derived.Test.YtcfggjmdcaoecaaGreatDoorCards
import Derived.SevenTiedAt
import Derived.LaidHandle
import Derived.Lib.SmallJoins
set_option linter.unusedVariables false
namespace Go.Proofs.YtcfggjmdcaoecaaGreatDoor.LCheck
open Go Go.RowKit Go.ChangeShapes Go.WideShapes Go.ChangeAt Go.WideMaps Go.WideElems Md
set_option maxRecDepth 100000

theorem c_eqCheckRes (a b c : Int) (w : World) : Calls Tryz.prog 20 #[.agg #[.int .i64 a, .int .i64 b, .int .i64 c], .agg #[.int .i64 a, .int .i64 b, .int .i64 c]] w (Gives (.bool true) w) := by
  go_enter Tryz.func20, Tryz.ntmps20
  go_wp2
  go_ret
  exact Gives.bool rfl (((Ext.refl w).alloc _).alloc _)
set_option maxHeartbeats 4000000 in
theorem walk (t : PTree) (vG vF : Value) (w : World) (hG : SlGlob AnyB w vG t.globals) (hF : SlFunc AnyB w vF t.funcs) (hres : Res w) (hg : w.cell? ⟨0, 0, none⟩ = some (.iface 196 (.agg #[.pointer (some ⟨2, 72, none⟩)]))) :
    Calls Tryz.prog 4 #[.agg #[vG, vF]] w (Gives (.bool true) w) := by
  have hEx : Ext w (w.alloc (.cells #[vG, vF] 25)) := (Ext.refl w).alloc _
  have hX := Blk.alloc w 25 #[vG, vF]
  have HSz := Lib.hid (c_szTree AnyB t vG vF 1048576 _ (by decide) (by decide) (hG.ext hEx (fun _ _ h => h.any)) (hF.ext hEx (fun _ _ h => h.ext hEx)))
  obtain ⟨aG, nG, cG, rfl⟩ := hG.shape
  obtain ⟨aF, nF, cF, rfl⟩ := hF.shape
  have HG := Lib.hid hG
  have HF := Lib.hid hF
  have HR := Lib.hid hres
  have Hg := Lib.hid hg
  obtain ⟨rr, hrr⟩ : ∃ rr, rr = checkAns t := ⟨_, rfl⟩
  obtain ⟨ra, rb, rc⟩ := rr
  have Hrr := Lib.hid hrr
  clear hG hF hres hg hrr
  go_enter Tryz.func4, Tryz.ntmps4
  go_wp2_with fail
  refine HSz.out.mono ?_
  rintro e1 w1 ⟨rfl, hX1⟩
  have hE1 := hEx.trans hX1
  by_cases hs : (1048576 : Int) < szTree t
  · rw [lft_neg hs]
    go_wp2
    go_ret
    exact Gives.bool rfl hE1
  · rw [lft_pos hs]
    have HZ := Lib.hid (sizes_of (x := t) (by omega))
    have hlt : ¬ ((1048576 : Int) - (szTree t : Int) < 0) := by omega
    have cA : w1.cell? ⟨w.heap.size, 0, none⟩ = some (.slice aG nG cG) := (hX.ext hX1).cell 0
    have cB : w1.cell? ⟨w.heap.size, 1, none⟩ = some (.slice aF nF cF) := (hX.ext hX1).cell 1
    have HTo : Hid (∀ w', Ext w w' → Calls Tryz.prog 11 #[.agg #[.slice aG nG cG, .slice aF nF cF]] w' (MadeAgg CTree t w')) := fun w' hE =>
      c_toTree AnyB t _ _ w' (HG.out.ext hE (fun _ _ h => h.any)) (HF.out.ext hE (fun _ _ h => h.ext hE)) HZ.out.1 HZ.out.2
    go_wp2_with fail
    refine (HTo.out _ hE1).mono ?_
    rintro e2 w2 ⟨cs, rfl, ⟨vG2, vF2, rfl, hG2, hF2⟩, hT2⟩
    have hX2 := hT2.e
    have hE2 := hE1.trans hX2
    have HC2 : Hid (Calls Tryz.prog 18 #[.agg #[vG2, vF2]] w2 (fun e w' => e = .returned (.agg #[.int .i64 ra, .int .i64 rb, .int .i64 rc]) ∧ Ext w2 w')) := by
      have h := s_CheckC _ t _ _ w2 hG2 hF2 HZ.out.small
      rw [← Hrr.out] at h
      exact h
    clear hG2 hF2 hT2
    go_wp2_with fail
    refine HC2.out.mono ?_
    rintro e3 w3 ⟨rfl, hX3⟩
    have hX3a : Ext w3 (w3.alloc (.cells #[.int .i64 ra, .int .i64 rb, .int .i64 rc] 40)) := (Ext.refl w3).alloc _
    have BW := Blk.alloc w3 40 #[.int .i64 ra, .int .i64 rb, .int .i64 rc]
    have hE3 := (hE2.trans hX3).trans hX3a
    have cA3 : (w3.alloc (.cells #[.int .i64 ra, .int .i64 rb, .int .i64 rc] 40)).cell? ⟨w.heap.size, 0, none⟩ = some (.slice aG nG cG) := ((hX2.trans hX3).trans hX3a).cell cA
    have cB3 : (w3.alloc (.cells #[.int .i64 ra, .int .i64 rb, .int .i64 rc] 40)).cell? ⟨w.heap.size, 1, none⟩ = some (.slice aF nF cF) := ((hX2.trans hX3).trans hX3a).cell cB
    have HE3 := Lib.hid hE3
    have HBW := Lib.hid BW
    have HE2 := Lib.hid hE2
    clear HC2 cA cB hE1 hE2 hX2 hX3 hX1 hEx hX hX3a BW hE3
    go_wp2_with fail
    refine (HTo.out _ HE3.out).mono ?_
    rintro e4 w4 ⟨cs, rfl, ⟨vG4, vF4, rfl, hG4, hF4⟩, hT4⟩
    have hX4 := hT4.e
    obtain ⟨aG4, nG4, cG4, rfl⟩ := hG4.shape
    obtain ⟨aF4, nF4, cF4, rfl⟩ := hF4.shape
    have HG4 := Lib.hid hG4
    have HF4 := Lib.hid hF4
    have hE5 : Ext w4 (w4.alloc (.cells #[.slice aG4 nG4 cG4, .slice aF4 nF4 cF4] 32)) := (Ext.refl _).alloc _
    have hB5 := Blk.alloc w4 32 #[.slice aG4 nG4 cG4, .slice aF4 nF4 cF4]
    have HX4 := Lib.hid hX4
    have HE5 := Lib.hid hE5
    have HB5 := Lib.hid hB5
    have HE05 := Lib.hid (HE3.out.trans (hX4.trans hE5))
    have HC5 : Hid (Calls Tryz.prog 19 #[.agg #[.slice aG4 nG4 cG4, .slice aF4 nF4 cF4]] (w4.alloc (.cells #[.slice aG4 nG4 cG4, .slice aF4 nF4 cF4] 32)) (fun e w' => e = .returned (.agg #[.int .i64 ra, .int .i64 rb, .int .i64 rc]) ∧ Ext (w4.alloc (.cells #[.slice aG4 nG4 cG4, .slice aF4 nF4 cF4] 32)) w')) := by
      have h := i_CheckC _ t _ _ _ (HG4.out.ext HE5.out (fun _ _ h => h.any)) (HF4.out.ext HE5.out (fun _ _ h => h.ext HE5.out)) HZ.out.small (HR.out.ext HE05.out) (HE05.out.cell Hg.out)
      rw [← Hrr.out] at h
      exact h
    clear hE5 hB5 hG4 hF4 hT4 hX4
    go_wp2_with fail
    refine HC5.out.mono ?_
    rintro e6 w6 ⟨rfl, hX6⟩
    have hX6a : Ext w6 (w6.alloc (.cells #[.int .i64 ra, .int .i64 rb, .int .i64 rc] 40)) := (Ext.refl w6).alloc _
    have BV := Blk.alloc w6 40 #[.int .i64 ra, .int .i64 rb, .int .i64 rc]
    obtain ⟨w7, hw7⟩ : ∃ w7, w7 = w6.alloc (.cells #[.int .i64 ra, .int .i64 rb, .int .i64 rc] 40) := ⟨_, rfl⟩
    rw [← hw7] at hX6a BV
    have HE47 := Lib.hid ((HE5.out.trans hX6).trans hX6a)
    have HE37 := Lib.hid ((HX4.out.trans (HE5.out.trans hX6)).trans hX6a)
    have HE07 := Lib.hid (HE3.out.trans HE37.out)
    have BW7 := HBW.out.ext HE37.out
    have p0 : w7.cell? ⟨w3.heap.size, 0, none⟩ = some (.int .i64 ra) := (BW7.cell 0).trans rfl
    have p1 : w7.cell? ⟨w3.heap.size, 1, none⟩ = some (.int .i64 rb) := (BW7.cell 1).trans rfl
    have p2 : w7.cell? ⟨w3.heap.size, 2, none⟩ = some (.int .i64 rc) := (BW7.cell 2).trans rfl
    have q0 : w7.cell? ⟨w6.heap.size, 0, none⟩ = some (.int .i64 ra) := (BV.cell 0).trans rfl
    have q1 : w7.cell? ⟨w6.heap.size, 1, none⟩ = some (.int .i64 rb) := (BV.cell 1).trans rfl
    have q2 : w7.cell? ⟨w6.heap.size, 2, none⟩ = some (.int .i64 rc) := (BV.cell 2).trans rfl
    have d0 : w7.cell? ⟨w4.heap.size, 0, none⟩ = some (.slice aG4 nG4 cG4) := ((HB5.out.ext hX6).ext hX6a).cell 0
    have d1 : w7.cell? ⟨w4.heap.size, 1, none⟩ = some (.slice aF4 nF4 cF4) := ((HB5.out.ext hX6).ext hX6a).cell 1
    have cA7 := HE37.out.cell cA3
    have cB7 := HE37.out.cell cB3
    rw [hw7] at p0 p1 p2 q0 q1 q2
    have HW7 := Lib.hid hw7
    clear hX6 hX6a BV BW7 HC5 hw7 cA3 cB3
    go_wp2_with fail
    rw [← HW7.out]
    refine (c_eqCheckRes ra rb rc w7).mono ?_
    rintro e8 w8 ⟨rfl, hX8⟩
    have HE48 := Lib.hid (HE47.out.trans hX8)
    have HE08 := Lib.hid (HE07.out.trans hX8)
    have d0 := hX8.cell d0
    have d1 := hX8.cell d1
    have cA8 := hX8.cell cA7
    have cB8 := hX8.cell cB7
    clear hX8 p0 p1 p2 q0 q1 q2 cA7 cB7
    go_wp2_with fail
    go_region_held3 (fun w' => w'.cell? ⟨w4.heap.size, 0, none⟩ = some (.slice aG4 nG4 cG4) ∧ w'.cell? ⟨w4.heap.size, 1, none⟩ = some (.slice aF4 nF4 cF4) ∧ w'.cell? ⟨w.heap.size, 0, none⟩ = some (.slice aG nG cG) ∧ w'.cell? ⟨w.heap.size, 1, none⟩ = some (.slice aF nF cF))
      (first | go_keep | (refine ⟨hXe.cell (hXt.cell ?_), hXe.cell (hXt.cell ?_), hXe.cell (hXt.cell ?_), hXe.cell (hXt.cell ?_)⟩ <;> simp [*]) | (refine ⟨hXt.cell ?_, hXt.cell ?_, hXt.cell ?_, hXt.cell ?_⟩ <;> simp [*]))
      (first
        | (go_at_call 11; refine (HTo.out _ HE08.out.drew).mono ?_; rintro e9 w9 ⟨cs, rfl, ⟨vG8, vF8, rfl, hG8, hF8⟩, hT8⟩; have hXt := hT8.e; clear hT8)
        | (go_at_call 14; refine (c_eqTree _ _ t _ _ _ _ _ (HG4.out.ext ((HE48.out.drew).trans hXt) (fun _ _ h => h.any)) (HF4.out.ext ((HE48.out.drew).trans hXt) (fun _ _ h => h.ext ((HE48.out.drew).trans hXt))) hG8 hF8).mono ?_; rintro e10 w10 ⟨rfl, hXe⟩))
    have HEf := Lib.hid (HE08.out.trans ((((Ext.refl w8).drew).trans hXt).trans hXe))
    clear hXt hXe hG8 hF8 d0 d1 cA8 cB8
    go_wp2
    go_ret
    exact Gives.bool rfl HEf.out

abbrev laid := Rows.fnExactCheckCRow.laid
theorem door_met (os : Os) (args : Array Value) : laidMetH Tryz.prog Rows.fnExactCheckCRow.laid ((World.doorLaid Tryz.prog 400 os).forCall (fun _ _ => 0) ⟨#[], args, []⟩).memory :=
  laidMetH_of_parts3 (fuel := 8) (laidMet_of_run' 8 (by kernel_rfl) (by kernel_rfl)) (by kernel_rfl) (by kernel_rfl)
theorem et : Tryz.prog.globalNamed "errors.errorType" = some 0 := by kernel_rfl
theorem rt : (Tryz.prog.cutTypes.find? (·.1 == "internal/reflectlite.rtype")).map (·.2) = some 196 := by kernel_rfl
theorem tysize : Tryz.prog.types.size = 303 := by kernel_rfl
theorem oneRow : ((List.range 303).filter fun t => Tryz.prog.rowNamed t [101, 114, 114, 111, 114]) = [72] := by kernel_rfl
theorem of_laid {W : World} (h : laidMetH Tryz.prog Rows.fnExactCheckCRow.laid W) : Res W ∧ W.cell? ⟨0, 0, none⟩ = some (.iface 196 (.agg #[.pointer (some ⟨2, 72, none⟩)])) := by
  have h' : laidMet Tryz.prog [("loop.example/s01725/impl.reserved", Rows.laid_loop_example_s01725_impl_reserved)] W ∧ handlesMet Tryz.prog [("errors.errorType", Rows.laid_errors_errorType)] W := h
  constructor
  · obtain ⟨ps, ⟨g0, t0, cs0, f0, p0, q0, hg0, ht0, hv0, hd0, _, _⟩, _, _⟩ := h'.1
    obtain rfl := Option.some.inj (gRes.symm.trans hg0)
    obtain rfl := Option.some.inj (tRes.symm.trans ht0)
    exact res_of_trod hv0 hd0
  · obtain ⟨name, u, ty, e1, e2, e3, e4, e5⟩ := h'.2 _ (List.mem_singleton.2 rfl)
    have en : name = [101, 114, 114, 111, 114] := (Option.some.inj e1).symm
    subst en
    obtain rfl := Option.some.inj (rt.symm.trans e2)
    have hm : ty ∈ (List.range 303).filter fun t => Tryz.prog.rowNamed t [101, 114, 114, 111, 114] := List.mem_filter.2 ⟨List.mem_range.2 (by rw [← tysize]; exact e3), e4⟩
    rw [oneRow] at hm
    obtain rfl := List.mem_singleton.1 hm
    have hh : typeHandle Tryz.prog 72 = .pointer (some ⟨2, 72, none⟩) := by kernel_rfl
    rw [hh] at e5
    simpa using World.var?_cell et e5 0

theorem lifted (os : Os) (started : os.Started) (H : Type) (enc : TypeId × Value → H) :
    ReturnsInHanded {} Tryz.checked os 4 .any (fun w args => (Rows.fnExactCheckCSpec.pre enc Tryz.prog Tryz.f4 [] false w args ∧ laidMetH Tryz.prog Rows.fnExactCheckCRow.laid w) ∧ sizedMet enc Tryz.prog Tryz.f4 (OpenSpec.ofChange Rows.fnExactCheckCSpec) false w args)
      (Rows.fnExactCheckCSpec.post enc Tryz.prog Tryz.f4 false true false false) := by
  refine returnsInHanded_of_change_and (C := Tryz.checked) (X := fun w _ => laidMetH Tryz.prog Rows.fnExactCheckCRow.laid w) (fun _ _ _ hh h => h.of_heap hh) own started (by kernel_rfl) Tryz.func4
    (ChangeSpec.witness_shaped (enc := enc) (C := Tryz.checked) (os := os) (X := fun w _ => laidMetH Tryz.prog Rows.fnExactCheckCRow.laid w) false (World.doorLaid Tryz.prog 400 os) #[.agg #[.slice none 0 0, .slice none 0 0]] 8 rfl (World.shaped_of_RefB (by kernel_rfl) (by kernel_rfl)) (by kernel_rfl) (by kernel_rfl) (by kernel_rfl) (door_met os _)) ?_
  intro W base args ds gs before hval0 hW _ _ hL _
  have hval : ∀ (j : Nat) t v, Tryz.f4.params[j]? = some t → args[j]? = some v → Value.okWide Tryz.prog W .any base t v := hval0
  have hW' := hW
  obtain ⟨p, q, hA0, hV, rfl, hfz, hnd⟩ := hW
  have hA : DataW.TrodAll enc Tryz.prog W 0 (fun _ => true) true Tryz.f4.params.toList args.toList ds p := hA0
  rw [Tryz.params4] at hA hval
  obtain ⟨v0, d0, rfl, rfl, h0⟩ := trodAll_one hA
  obtain ⟨g1, rfl⟩ : ∃ g, gs = [g] := by
    match gs, hV with
    | [g], _ => exact ⟨g, rfl⟩
    | [], h => exact h.elim
    | _ :: _ :: _, h => obtain ⟨_, _, _, _, _, _, _, _, _, _, h, _⟩ := h; exact h.elim
  obtain ⟨t, vG, vF, rfl, hG, hF⟩ := open_tree (hval 0 _ v0 rfl rfl) h0
  refine (walk t vG vF W hG hF (of_laid hL).1 (of_laid hL).2).mono fun e W' ⟨he, hw⟩ => ?_
  subst he
  exact ⟨_, rfl, post_true laidOut (by kernel_rfl) (by kernel_rfl) (by kernel_rfl) Tryz.underlying4 hW' hw rfl⟩

theorem row_holds : Rows.FnExactCheckCSaid :=
  OpenClaim.holds_of_wide 4 Tryz.f4 rfl rfl rfl rfl rfl rfl rfl ⟨rfl, rfl, rfl, rfl, rfl⟩ rfl rfl rfl rfl rfl (by kernel_rfl) Tryz.func4 (by kernel_rfl)
    (of_decide_eq_true (by kernel_rfl)) (by unfold Func.isWrapper; rw [if_neg (of_decide_eq_false (by kernel_rfl))]; exact ⟨rfl, rfl⟩)
    (fun os started H enc _ => lifted os started H enc)

theorem card_holds : Rows.FnExactCheckCCardSaid :=
  Claim7.holds_tied_plain_at .later [] Rows.fnExactCheckCCard.laidKinds true Rows.fnExactCheckCCard.stood.harness Rows.fnExactCheckCCard.stood.looks
    row_holds (fun _ h => by cases h) (by kernel_rfl) (fun _ h => by cases h) fnExactCheckC_row_tie rfl ⟨rfl, rfl⟩ (by kernel_rfl) rfl
    (fun f fn hf hfn => by
      obtain rfl : f = 4 := Option.some.inj ((show Tryz.prog.funcNamed "loop.example/s01725/laws.FnExactCheckC" = some 4 by kernel_rfl).symm.trans hf) |>.symm
      obtain rfl : fn = Tryz.f4 := (Option.some.inj (Tryz.func4.symm.trans hfn)).symm
      exact ⟨by kernel_rfl, fun j t ht => by
        have hm : t ∈ Tryz.f4.params.toList := by simpa using Array.mem_of_getElem? ht
        have hall : (Tryz.f4.params.toList.all fun u => !Tryz.prog.wantsStandIn u) = true := by kernel_rfl
        exact (show Tryz.prog.wantsStandIn t = false by simpa using List.all_eq_true.1 hall t hm)⟩)
    (by kernel_rfl)
#print axioms card_holds
end Go.Proofs.YtcfggjmdcaoecaaGreatDoor.LCheck
