/- FnExactPrintC: for every tree the law returns true (impl.reserved, impl.binOps, impl.unSigns and the library's tables as the program's text lays them). -/
import Derived.Test.YtolbngbedncemaaGreatDoorLaidP
import Derived.Test.YtolbngbedncemaaGreatDoorMarksB
import Derived.Test.YtolbngbedncemaaGreatDoorRow
import Derived.Test.YtolbngbedncemaaGreatDoorTie
import Derived.Test.YtolbngbedncemaaGreatDoorCards
import Derived.SevenTiedAt
import Derived.Lib.SmallJoins
set_option linter.unusedVariables false
namespace Go.Proofs.YtolbngbedncemaaGreatDoor.LPrintC
open Go Go.RowKit Go.ChangeShapes Go.WideShapes Go.ChangeAt Go.WideMaps Go.WideElems Md
set_option maxRecDepth 100000

theorem thawed_ext {lo hi : Nat} {w w' : World} (h : Thawed lo hi w) (hs : hi ≤ w.heap.size) (k : Ext w w') : Thawed lo hi w' := fun a h1 h2 =>
  (World.frozen?_of_block (w := w) (k.block a.block (Nat.lt_of_lt_of_le h2 hs))).trans (h a h1 h2)
theorem mk_small {t : PTree} (h : szTree t ≤ 1048576) : 1 + 2 * t.globals.length + mkF t.funcs ≤ 1000000000 := by
  have h1 := mkF_le t.funcs
  unfold szTree at h
  have h2 : t.globals.length ≤ szL szGlobal t.globals := by unfold szL; omega
  omega

theorem textT_len (t : PTree) : (textT t).length ≤ 9000000 := by
  unfold textT
  split
  · rename_i hv
    obtain ⟨h1, h2, h3, h4⟩ := valid_all hv
    have g1 := globs_len t.globals h3 t.globals.length
    have g2 := funcs_len t.funcs h4 t.funcs.length
    rw [List.take_length] at g1 g2
    rw [List.length_append]
    omega
  · simp
theorem slB_ext {w w' : World} {v : Value} {l : List UInt8} (h : SlB w v l) (k : Ext w w') : SlB w' v l := Sl.ext h k (fun _ _ h => h.any)
theorem trodVars_len {H : Type} {enc : TypeId × Value → H} {P : Program} {w : World} {sp : Nat → Bool} : ∀ {vs : List String} {gs : List (DataW H)} {ps : List MemPlace}, DataW.TrodVars enc P w sp vs gs ps → gs.length = vs.length
  | [], [], _, _ => rfl
  | _ :: _, _ :: _, _, h => by
    obtain ⟨_, _, _, _, _, _, _, _, _, _, h, _⟩ := h
    simp [trodVars_len h]
  | [], _ :: _, _, h => h.elim
  | _ :: _, [], _, h => h.elim
theorem len_small {a b : Nat} (h : a ≤ b) (k : b ≤ 1048576) : 1 + a ≤ 1000000000 := by omega

set_option maxHeartbeats 4000000 in
theorem walk (t : PTree) (vG vF : Value) (w : World) (hG : SlGlob AnyB w vG t.globals) (hF : SlFunc AnyB w vF t.funcs) (hres : Res w ∧ OpsAt w ∧ UnAtG w ∧ Lib.TabIs Tryz.prog w "internal/strconv.uint64pow10" .u64 Lib.pow10Tab) :
    Calls Tryz.prog 3 #[.agg #[vG, vF]] w (Gives (.bool true) w) := by
  have hEx : Ext w (w.alloc (.cells #[vG, vF] 25)) := (Ext.refl w).alloc _
  have hX := Blk.alloc w 25 #[vG, vF]
  have HSz := Lib.hid (c_szTree AnyB t vG vF 1048576 _ (by decide) (by decide) (hG.ext hEx (fun _ _ h => h.any)) (hF.ext hEx (fun _ _ h => h.ext hEx)))
  obtain ⟨aG, nG, cG, rfl⟩ := hG.shape
  obtain ⟨aF, nF, cF, rfl⟩ := hF.shape
  have HG := Lib.hid hG
  have HF := Lib.hid hF
  have HR : Hid (∀ w', Ext w w' → Res w' ∧ OpsAt w' ∧ UnAtG w' ∧ Lib.TabIs Tryz.prog w' "internal/strconv.uint64pow10" .u64 Lib.pow10Tab) := fun w' hw =>
    ⟨hres.1.ext hw, hres.2.1.ext hw, hres.2.2.1.ext hw, Lib.tabBelow_of_tabIs hres.2.2.2 w' hw⟩
  obtain ⟨TX, hTX⟩ : ∃ TX, TX = textT t := ⟨_, rfl⟩
  have HTX := Lib.hid hTX
  have HIP : Hid (∀ K vG' vF' w', SlGlob K w' vG' t.globals → SlFunc K w' vF' t.funcs → Small t → Ext w w' → Calls Tryz.prog 10 #[.agg #[vG', vF']] w' (MadeB w' TX)) := fun K vG' vF' w' h1 h2 h3 hw => by
    obtain ⟨r1, r2, r3, r4⟩ := HR.out w' hw
    rw [hTX]
    exact i_PrintC K t vG' vF' w' h1 h2 h3 r1 r2 r3 r4
  have hTl : TX.length ≤ 9000000 := by rw [hTX]; exact textT_len t
  have HTl := Lib.hid hTl
  clear hG hF hres hTX hTl
  go_enter Tryz.func3, Tryz.ntmps3
  go_wp2_with fail
  refine HSz.out.mono ?_
  rintro e1 w1 ⟨rfl, hX1⟩
  have hE1 := hEx.trans hX1
  by_cases hs : (1048576 : Int) < szTree t
  · rw [lft_neg hs]
    go_wp2
    go_ret
    exact Gives.bool rfl hE1
  · rw [lft_pos hs]
    have HZ := Lib.hid (sizes_of (x := t) (by omega))
    have HM := Lib.hid (mk_small (t := t) (by omega))
    have hlt : ¬ ((1048576 : Int) - (szTree t : Int) < 0) := by omega
    have cA : w1.cell? ⟨w.heap.size, 0, none⟩ = some (.slice aG nG cG) := (hX.ext hX1).cell 0
    have cB : w1.cell? ⟨w.heap.size, 1, none⟩ = some (.slice aF nF cF) := (hX.ext hX1).cell 1
    have HTo : Hid (∀ w', Ext w w' → Calls Tryz.prog 9 #[.agg #[.slice aG nG cG, .slice aF nF cF]] w' (MadeAgg CTree t w')) := fun w' hE =>
      c_toTree AnyB t _ _ w' (HG.out.ext hE (fun _ _ h => h.any)) (HF.out.ext hE (fun _ _ h => h.ext hE)) HZ.out.1 HZ.out.2
    go_wp2_with fail
    refine (HTo.out _ hE1).mono ?_
    rintro e2 w2 ⟨cs, rfl, ⟨vG2, vF2, rfl, hG2, hF2⟩, hT2⟩
    have hX2 := hT2.e
    have hE2 := hE1.trans hX2
    have HC2 := Lib.hid (s_PrintC _ t _ _ _ hG2 hF2 HZ.out.small)
    rw [← HTX.out] at HC2
    clear hG2 hF2 hT2
    go_wp2_with fail
    refine HC2.out.mono ?_
    rintro e3 w3 ⟨vW, rfl, hoW, hX3⟩
    have hE3 := hE2.trans hX3
    have cA3 : w3.cell? ⟨w.heap.size, 0, none⟩ = some (.slice aG nG cG) := (hX2.trans hX3).cell cA
    have cB3 : w3.cell? ⟨w.heap.size, 1, none⟩ = some (.slice aF nF cF) := (hX2.trans hX3).cell cB
    have HW3 := Lib.hid hoW
    have HE3 := Lib.hid hE3
    clear hoW HC2 cA cB hE1 hE2 hX2 hX3 hX1 hEx hX
    go_wp2_with fail
    refine (HTo.out _ HE3.out).mono ?_
    rintro e4 w4 ⟨cs, rfl, ⟨vG4, vF4, rfl, hG4, hF4⟩, hT4⟩
    have hX4 := hT4.e
    obtain ⟨aG4, nG4, cG4, rfl⟩ := hG4.shape
    obtain ⟨aF4, nF4, cF4, rfl⟩ := hF4.shape
    have HT4 := Lib.hid hT4
    have HG4 := Lib.hid hG4
    have HF4 := Lib.hid hF4
    have hE5 : Ext w4 (w4.alloc (.cells #[.slice aG4 nG4 cG4, .slice aF4 nF4 cF4] 32)) := (Ext.refl _).alloc _
    have hB5 := Blk.alloc w4 32 #[.slice aG4 nG4 cG4, .slice aF4 nF4 cF4]
    have HE5 := Lib.hid hE5
    have HB5 := Lib.hid hB5
    have HX45 := Lib.hid (hX4.trans hE5)
    clear hE5 hB5 hG4 hF4 hT4 hX4
    have HC5 := Lib.hid (HIP.out _ _ _ _ (HG4.out.ext HE5.out (fun _ _ h => h.any)) (HF4.out.ext HE5.out (fun _ _ h => h.ext HE5.out)) HZ.out.small (HE3.out.trans HX45.out))
    go_wp2_with fail
    refine HC5.out.mono ?_
    rintro e6 w6 ⟨vR, rfl, hoR, hX6⟩
    have HR6 := Lib.hid hoR
    have HE46 := Lib.hid (HE5.out.trans hX6)
    have HE36 := Lib.hid (HX45.out.trans hX6)
    have HB6 := Lib.hid (HB5.out.ext hX6)
    obtain ⟨B5, hB5⟩ : ∃ B5, B5 = (w4.alloc (.cells #[.slice aG4 nG4 cG4, .slice aF4 nF4 cF4] 32)).heap.size := ⟨_, rfl⟩
    rw [← hB5] at HR6
    have HBs : Hid (w4.heap.size ≤ B5) := by rw [hB5]; exact HE5.out.size
    clear hoR hX6 HC5 hB5
    go_wp2_with fail
    refine (e_Byte TX _ _ w6 HR6.out.sl (slB_ext HW3.out HE36.out)).mono ?_
    rintro e7 w7 ⟨rfl, hX7⟩
    have HE47 := Lib.hid (HE46.out.trans hX7)
    have HE37 := Lib.hid (HE36.out.trans hX7)
    have HE07 := Lib.hid (HE3.out.trans HE37.out)
    have HR7 := Lib.hid (rw_ext HR6.out hX7)
    have d0 : w7.cell? ⟨w4.heap.size, 0, none⟩ = some (.slice aG4 nG4 cG4) := (HB6.out.ext hX7).cell 0
    have d1 : w7.cell? ⟨w4.heap.size, 1, none⟩ = some (.slice aF4 nF4 cF4) := (HB6.out.ext hX7).cell 1
    have cA7 := HE37.out.cell cA3
    have cB7 := HE37.out.cell cB3
    clear hX7
    go_wp2_with fail
    go_region_held3 (fun w' => w'.cell? ⟨w4.heap.size, 0, none⟩ = some (.slice aG4 nG4 cG4) ∧ w'.cell? ⟨w4.heap.size, 1, none⟩ = some (.slice aF4 nF4 cF4) ∧ w'.cell? ⟨w.heap.size, 0, none⟩ = some (.slice aG nG cG) ∧ w'.cell? ⟨w.heap.size, 1, none⟩ = some (.slice aF nF cF))
      (first | go_keep | (refine ⟨hX8.cell (hX9.cell ?_), hX8.cell (hX9.cell ?_), hX8.cell (hX9.cell ?_), hX8.cell (hX9.cell ?_)⟩ <;> simp [*]) | (refine ⟨hX9.cell ?_, hX9.cell ?_, hX9.cell ?_, hX9.cell ?_⟩ <;> simp [*]))
      (first
        | (go_at_call 9; refine (HTo.out _ HE07.out.drew).mono ?_; rintro e8 w8 ⟨cs, rfl, ⟨vG8, vF8, rfl, hG8, hF8⟩, hT8⟩; have hX9 := hT8.e; clear hT8)
        | (go_at_call 12; refine (c_eqTree _ _ t _ _ _ _ _ (HG4.out.ext ((HE47.out.drew).trans hX9) (fun _ _ h => h.any)) (HF4.out.ext ((HE47.out.drew).trans hX9) (fun _ _ h => h.ext ((HE47.out.drew).trans hX9))) hG8 hF8).mono ?_; rintro e9 w9 ⟨rfl, hX8⟩))
    have hE79 : Ext w7 w9 := (((Ext.refl w7).drew).trans hX9).trans hX8
    have HE49 := Lib.hid (HE47.out.trans hE79)
    have HE39 := Lib.hid (HE37.out.trans hE79)
    have HR9 := Lib.hid (rw_ext HR7.out hE79)
    have d0' := hE79.cell d0
    have d1' := hE79.cell d1
    have HS9 : Hid (w4.heap.size ≤ w9.heap.size) := HE49.out.size
    have HL4 : Hid (w3.heap.size ≤ w4.heap.size) := HT4.out.e.size
    have hth : Thawed w3.heap.size w4.heap.size w9 := thawed_ext (NT.thawed HT4.out.nt) (Nat.le_refl _) HE49.out
    have hGs := glob_sh (lo := w3.heap.size) (hi := w4.heap.size) ((SlGlob.bound HG4.out).ext HE49.out (fun _ _ h => h.any)) (fun b hb => ⟨hb.1, hb.2⟩)
    have hFs := func_sh (lo := w3.heap.size) (hi := w4.heap.size) ((SlFunc.bound HF4.out).ext HE49.out (fun _ _ h => h.ext HE49.out)) (fun b hb => ⟨hb.1, hb.2⟩)
    obtain ⟨J, hJ⟩ : ∃ J, J = 1 + 2 * t.globals.length + mkF t.funcs := ⟨_, rfl⟩
    have hMk := m_Tree w3.heap.size w4.heap.size t _ _ 1 1 rfl w9 HL4.out HS9.out hth hGs hFs HM.out
    rw [← hJ] at hMk
    have HMk := Lib.hid hMk
    clear hMk hth hGs hFs hJ hE79 hX8 hX9 d0 d1
    go_wp2_with fail
    refine HMk.out.mono ?_
    rintro e10 w10 ⟨rfl, hS10⟩
    have HR10 := Lib.hid (hS10.own HR9.out HBs.out)
    have HE310 : Hid (Ext w3 w10) := Below.trans HE39.out hS10.b
    have HW10 := Lib.hid (slB_ext HW3.out HE310.out)
    have hJ0 : ¬ ((J : Int) < 0) := by omega
    clear hS10 HMk d0' d1'
    go_wp2_with fail
    refine (e_Byte TX _ _ w10 (RowB.sl (base := B5) HR10.out) HW10.out).mono ?_
    rintro e11 w11 ⟨rfl, hX11⟩
    have HR11 := Lib.hid (rw_ext HR10.out hX11)
    have HE311 := Lib.hid (HE310.out.trans hX11)
    have hlen : 1 + TX.length ≤ 1000000000 := by have := HTl.out; omega
    have HMi := Lib.hid (m_Byte TX _ _ 1 1 rfl w11 HR11.out hlen)
    have HLn := Lib.hid hlen
    clear hX11 hlen
    go_wp2_with fail
    refine HMi.out.mono ?_
    rintro e12 w12 ⟨rfl, hR12, hB12⟩
    have hb3 : w3.heap.size ≤ B5 := Nat.le_trans HL4.out HBs.out
    have HE312 : Hid (Ext w3 w12) := Below.trans HE311.out (Below.mono hB12 hb3)
    have HHi := Lib.hid (h_Byte TX.length _ _ 1 1 rfl w12 hR12 HLn.out)
    obtain ⟨m, hm⟩ : ∃ m : Nat, m = 1 + TX.length := ⟨_, rfl⟩
    rw [← hm] at HHi ⊢
    clear hR12 hB12 hb3 HMi hm
    go_wp2_with fail
    refine HHi.out.mono ?_
    rintro e13 w13 ⟨rfl, hX13⟩
    replace HE312 : Hid (Ext w3 w13) := HE312.out.trans hX13
    clear hX13
    have hm0 : ¬ ((m : Int) < 0) := by omega
    have cA12 := HE312.out.cell cA3
    have cB12 := HE312.out.cell cB3
    have HE12 := Lib.hid (HE3.out.trans HE312.out)
    clear HHi
    go_wp2_with fail
    refine (HTo.out _ HE12.out).mono ?_
    rintro e14 w14 ⟨cs, rfl, ⟨vG14, vF14, rfl, hG14, hF14⟩, hT14⟩
    have hX14 := hT14.e
    have HE14 := Lib.hid (HE12.out.trans hX14)
    have HC14 := Lib.hid (HIP.out _ _ _ _ hG14 hF14 HZ.out.small HE14.out)
    have HE314 := Lib.hid (HE312.out.trans hX14)
    clear hG14 hF14 hT14 hX14
    go_wp2_with fail
    refine HC14.out.mono ?_
    rintro e15 w15 ⟨vH, rfl, hoH, hX15⟩
    have HE315 := Lib.hid (HE314.out.trans hX15)
    have HE15 := Lib.hid (HE14.out.trans hX15)
    have HH := Lib.hid hoH
    clear hoH hX15 HC14
    go_wp2_with fail
    refine (e_Byte TX _ _ w15 HH.out.sl (slB_ext HW3.out HE315.out)).mono ?_
    rintro e16 w16 ⟨rfl, hX16⟩
    go_wp2
    go_ret
    exact Gives.bool rfl (HE15.out.trans hX16)

abbrev laid := Rows.fnExactPrintCRow.laid
theorem door_met (os : Os) (args : Array Value) : laidMetH Tryz.prog Rows.fnExactPrintCRow.laid ((World.doorLaid Tryz.prog 400 os).forCall (fun _ _ => 0) ⟨#[], args, []⟩).memory :=
  laidMetH_of_parts3 (fuel := 8) (laidMet_of_run' 8 (by kernel_rfl) (by kernel_rfl)) (by kernel_rfl) (by kernel_rfl)
theorem of_laid {W : World} (h : laidMetH Tryz.prog Rows.fnExactPrintCRow.laid W) : Res W ∧ OpsAt W ∧ UnAtG W ∧ Lib.TabIs Tryz.prog W "internal/strconv.uint64pow10" .u64 Lib.pow10Tab := by
  rw [MakeChecks.laidMetH_plain _ _ _ (by kernel_rfl)] at h
  obtain ⟨ps, hv, _⟩ := h
  exact ⟨resv_of_laid hv (.tail _ (.tail _ (.tail _ (.tail _ (.head _))))), ops_of_laid hv (.tail _ (.tail _ (.tail _ (.tail _ (.tail _ (.head _)))))), un_of_laid hv (.tail _ (.tail _ (.tail _ (.tail _ (.tail _ (.tail _ (.head _))))))), pow_of_laid hv (.tail _ (.tail _ (.head _)))⟩

theorem lifted (os : Os) (started : os.Started) (H : Type) (enc : TypeId × Value → H) :
    ReturnsInHanded {} Tryz.checked os 3 .any (fun w args => (Rows.fnExactPrintCSpec.pre enc Tryz.prog Tryz.f3 [] false w args ∧ laidMetH Tryz.prog Rows.fnExactPrintCRow.laid w) ∧ sizedMet enc Tryz.prog Tryz.f3 (OpenSpec.ofChange Rows.fnExactPrintCSpec) false w args)
      (Rows.fnExactPrintCSpec.post enc Tryz.prog Tryz.f3 false true false false) := by
  refine returnsInHanded_of_change_and (C := Tryz.checked) (X := fun w _ => laidMetH Tryz.prog Rows.fnExactPrintCRow.laid w) (fun _ _ _ hh h => h.of_heap hh) own started (by kernel_rfl) Tryz.func3
    (ChangeSpec.witness_shaped (enc := enc) (C := Tryz.checked) (os := os) (X := fun w _ => laidMetH Tryz.prog Rows.fnExactPrintCRow.laid w) false (World.doorLaid Tryz.prog 400 os) #[.agg #[.slice none 0 0, .slice none 0 0]] 8 rfl (World.shaped_of_RefB (by kernel_rfl) (by kernel_rfl)) (by kernel_rfl) (by kernel_rfl) (by kernel_rfl) (door_met os _)) ?_
  intro W base args ds gs before hval0 hW _ _ hL _
  have hval : ∀ (j : Nat) t v, Tryz.f3.params[j]? = some t → args[j]? = some v → Value.okWide Tryz.prog W .any base t v := hval0
  have hW' := hW
  obtain ⟨p, q, hA0, hV, rfl, hfz, hnd⟩ := hW
  have hA : DataW.TrodAll enc Tryz.prog W 0 (fun _ => true) true Tryz.f3.params.toList args.toList ds p := hA0
  rw [Tryz.params3] at hA hval
  obtain ⟨v0, d0, rfl, rfl, h0⟩ := trodAll_one hA
  obtain ⟨g1, g2, g3, rfl⟩ : ∃ a b c, gs = [a, b, c] := by
    have hl := trodVars_len hV
    match gs, hl with
    | [a, b, c], _ => exact ⟨a, b, c, rfl⟩
  obtain ⟨t, vG, vF, rfl, hG, hF⟩ := open_tree (hval 0 _ v0 rfl rfl) h0
  refine (walk t vG vF W hG hF (of_laid hL)).mono fun e W' ⟨he, hw⟩ => ?_
  subst he
  exact ⟨_, rfl, post_true laidOut (by kernel_rfl) (by kernel_rfl) (by kernel_rfl) Tryz.underlying4 hW' hw rfl⟩

theorem row_holds : Rows.FnExactPrintCSaid :=
  OpenClaim.holds_of_wide 3 Tryz.f3 rfl rfl rfl rfl rfl rfl rfl ⟨rfl, rfl, rfl, rfl, rfl⟩ rfl rfl rfl rfl rfl (by kernel_rfl) Tryz.func3 (by kernel_rfl)
    (of_decide_eq_true (by kernel_rfl)) (by unfold Func.isWrapper; rw [if_neg (of_decide_eq_false (by kernel_rfl))]; exact ⟨rfl, rfl⟩)
    (fun os started H enc _ => lifted os started H enc)

theorem card_holds : Rows.FnExactPrintCCardSaid :=
  Claim7.holds_tied_plain_at .later [] Rows.fnExactPrintCCard.laidKinds true Rows.fnExactPrintCCard.stood.harness Rows.fnExactPrintCCard.stood.looks
    row_holds (fun _ h => by cases h) (by kernel_rfl) (fun _ h => by cases h) fnExactPrintC_row_tie rfl ⟨rfl, rfl⟩ (by kernel_rfl) rfl
    (fun f fn hf hfn => by
      obtain rfl : f = 3 := Option.some.inj ((show Tryz.prog.funcNamed "loop.example/s01725/laws.FnExactPrintC" = some 3 by kernel_rfl).symm.trans hf) |>.symm
      obtain rfl : fn = Tryz.f3 := (Option.some.inj (Tryz.func3.symm.trans hfn)).symm
      exact ⟨by kernel_rfl, fun j t ht => by
        have hm : t ∈ Tryz.f3.params.toList := by simpa using Array.mem_of_getElem? ht
        have hall : (Tryz.f3.params.toList.all fun u => !Tryz.prog.wantsStandIn u) = true := by kernel_rfl
        exact (show Tryz.prog.wantsStandIn t = false by simpa using List.all_eq_true.1 hall t hm)⟩)
    (by kernel_rfl)
#print axioms card_holds
end Go.Proofs.YtolbngbedncemaaGreatDoor.LPrintC
