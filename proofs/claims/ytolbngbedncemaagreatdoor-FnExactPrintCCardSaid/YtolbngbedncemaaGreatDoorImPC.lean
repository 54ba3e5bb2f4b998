/- The program's PrintC answers as the model. -/
import Derived.Test.YtolbngbedncemaaGreatDoorImBlock
import Derived.Test.YtolbngbedncemaaGreatDoorSpPC
import Derived.Test.YtolbngbedncemaaGreatDoorUnit
set_option linter.unusedVariables false
set_option linter.unusedSimpArgs false
namespace Go.Proofs.YtolbngbedncemaaGreatDoor
open Go Go.RowKit Md Go.Proofs.YtolbngbedncemaaGreatDoorW.PrintLast

theorem info_StringP : (Tryz.prog.info? 9).map (fun i => (i.zero, i.size, i.bytes)) = some (some (.string ⟨#[]⟩), 1, 16) := by kernel_rfl
/-- The row v of the call's own (from block base on) holds the bytes l. -/
abbrev RowB (w : World) (base : Nat) (v : Value) (l : List UInt8) : Prop := w.ownsRow base 5 1 v l.length (Lib.byteCells l)
def MadeB (w : World) (R : List UInt8) (e : Ending) (w' : World) : Prop := ∃ v, e = .returned v ∧ RowB w' w.heap.size v R ∧ Ext w w'
theorem CFunc.boundP {K : Foot} {w : World} {cs : List Value} {f : PFunc} (h : CFunc K w cs f) : CFunc (fun b => K b ∧ b < w.heap.size) w cs f := by
  obtain ⟨vP, vB, e, h1, h2, h3⟩ := h
  exact ⟨vP, vB, e, Sl.bound h1 (by decide), SlStmt.bound h2, h3⟩
theorem join_commas : ∀ (l : List (List UInt8)), Lib.join l [44, 32] = commas l
  | [] => rfl
  | [a] => by simp [Lib.join, commas]
  | a :: b :: r => by
    have ih := join_commas (b :: r)
    have e2 : commas (a :: b :: r) = a ++ [44, 32] ++ commas (b :: r) := by rw [commas]; simp
    rw [e2, ← ih]
    simp [Lib.join]
theorem bodies_text {l : List PFunc} {fs : List Fn} (h : Bodies l fs) (k : Nat) (x : Fn) (hx : fs[k]? = some x) : l[k]? = some x.1 ∧ Md.blocks x.1.body 0 = some x.2 ∧ x.2 = bodyOf x.1 := by
  have hb := h.2 x (List.mem_of_getElem? hx)
  refine ⟨by rw [← h.1, List.getElem?_map, hx]; rfl, hb, ?_⟩
  unfold bodyOf
  rw [hb]
  rfl
theorem fn_node_at {K : Foot} {w : World} {v : Value} {x : Fn} (h : FnAt K w v x) : ∃ b vP vB vt ts, v = .pointer (some ⟨b, 0, none⟩) ∧ K b ∧ Cells w b 0 [.string x.1.name, vP, vB, vt] ∧ SlStr K w vP x.1.params ∧ SlV K w vt ts ∧ All2 (StAt K w) ts x.2 := by
  obtain ⟨b, vP, vB, vt, ts, rfl, hb, hc, hP, _, _, ht, hA⟩ := h
  exact ⟨b, vP, vB, vt, ts, rfl, hb, hc, hP, ht, hA⟩
theorem row_base {w : World} {B B' e n : Nat} {v : Value} {xs : List Value} (h : w.ownsRow B e 1 v n xs) (hB : B' ≤ B) : w.ownsRow B' e 1 v n xs := by
  obtain ⟨h1, h2⟩ := h
  refine ⟨h1, ?_⟩
  rcases h2 with h2 | ⟨g, cap, cur, rfl, hg, r⟩
  · exact .inl h2
  · exact .inr ⟨g, cap, cur, rfl, Nat.le_trans hB hg, r⟩
theorem globs_len (l : List PGlob) (h : ∀ g ∈ l, okGlob g = true) (k : Nat) : ((l.take k).flatMap showG).length ≤ 100 * k := by
  induction k with
  | zero => simp
  | succ k ih =>
    by_cases hk : k < l.length
    · rw [flat_take showG (List.getElem?_eq_getElem hk), List.length_append]
      have := showG_len (h _ (List.getElem_mem hk))
      omega
    · rw [List.take_of_length_le (by omega)]
      rw [List.take_of_length_le (by omega)] at ih
      omega
theorem funcs_len (l : List PFunc) (h : ∀ f ∈ l, okFunc f = true) (k : Nat) : ((l.take k).flatMap textF).length ≤ 179000 * k := by
  induction k with
  | zero => simp
  | succ k ih =>
    by_cases hk : k < l.length
    · rw [flat_take textF (List.getElem?_eq_getElem hk), List.length_append]
      have := textF_len (h _ (List.getElem_mem hk))
      omega
    · rw [List.take_of_length_le (by omega)]
      rw [List.take_of_length_le (by omega)] at ih
      omega
set_option maxRecDepth 1000000 in
set_option maxHeartbeats 0 in
theorem i_PrintC (K : Foot) (t : PTree) (vG vF : Value) (w : World) (hG : SlGlob K w vG t.globals) (hF : SlFunc K w vF t.funcs) (hz : Small t) (hres : Res w) (hO : OpsAt w) (hU : UnAtG w) (hT : Lib.TabIs Tryz.prog w "internal/strconv.uint64pow10" .u64 Lib.pow10Tab) :
    Calls Tryz.prog 10 #[.agg #[vG, vF]] w (MadeB w (textT t)) := by
  have B1 := Blk.alloc w 32 #[vG, vF]
  have X1 : Ext w (w.alloc (.cells #[vG, vF] 32)) := (Ext.refl w).alloc _
  have hGb : SlGlob (fun b => b < w.heap.size) w vG t.globals := Sl.keep (Sl.bound hG (by decide)) (Keep.refl _ w) (fun _ _ _ h => h.any) (fun _ h => h.2)
  have hFb : SlFunc (fun b => b < w.heap.size) w vF t.funcs := Sl.keep (Sl.bound hF (by decide)) (Keep.refl _ w) (fun _ _ _ h => h.boundP.keep (Keep.refl _ w) (fun _ h => h.2)) (fun _ h => h.2)
  have HU := Lib.hid (i_unit (fun b => b < w.heap.size) t vG vF _ (hGb.ext X1 (fun _ _ h => h.any)) (hFb.ext X1 (fun _ _ h => h.ext X1)) hz (hres.ext X1) (fun b h => Nat.lt_of_lt_of_le h X1.size))
  have HTabs : Hid (PrTabs w.heap.size w) := tabs_of hO hU hT
  obtain ⟨aG, nG, cG, rfl, HlG, hlcG, hcmG, helG⟩ := hG.op
  obtain ⟨aF, nF, cF, rfl⟩ := hF.shape
  have HB1 := Lib.hid B1
  have HX1 := Lib.hid X1
  obtain ⟨R, hR⟩ : ∃ R, R = textT t := ⟨_, rfl⟩
  rw [← hR]
  unfold textT at hR
  have HRu := Lib.hid hR
  have p0 : (w.alloc (.cells #[.slice aG nG cG, .slice aF nF cF] 32)).cell? ⟨w.heap.size, 0, none⟩ = some (.slice aG nG cG) := (B1.cell 0).trans rfl
  have p1 : (w.alloc (.cells #[.slice aG nG cG, .slice aF nF cF] 32)).cell? ⟨w.heap.size, 1, none⟩ = some (.slice aF nF cF) := (B1.cell 1).trans rfl
  clear hG hF hz hres hO hU hT hGb hFb hR B1 X1
  go_enter Tryz.func10, Tryz.ntmps10
  go_wp2_with fail
  refine HU.out.mono ?_
  rintro e w2 (⟨hv, fs, vu, hbo, rfl, hu, hX2⟩ | ⟨hv, rfl, hX2⟩)
  rotate_left
  · have HR0 : Hid (R = []) := by
      show _ = _
      rw [HRu.out, if_neg (by rw [hv]; decide)]
    have HX2 := Lib.hid (HX1.out.trans hX2)
    clear hX2 hv p0 p1 HU
    go_wp2
    go_ret
    refine ⟨_, rfl, ?_, HX2.out⟩
    rw [HR0.out]
    exact World.ownsRow_nil _ _ _ _
  obtain ⟨hgl, hfl, hga, hfa⟩ := valid_all hv
  have HRR : Hid (R = t.globals.flatMap showG ++ t.funcs.flatMap textF) := by
    show _ = _
    rw [HRu.out, if_pos hv]
  obtain ⟨bU, vG', vF', vS, ps, rfl, hbU, hcU, _, _, hsS, hAF⟩ := hu
  have hX12 := HX1.out.trans hX2
  obtain ⟨aS, nS, cS, rfl⟩ := hsS.shape
  have hnS : nS = fs.length ∧ nS = t.funcs.length := by
    have h1 := (SlV.len hsS).1
    have h2 := hAF.1
    have h3 := congrArg List.length hbo.1
    rw [List.length_map] at h3
    omega
  have hnS5 : nS ≤ 50 := by omega
  have HnS := Lib.hid hnS
  -- the buffer
  have hbuf := Lib.fresh_isBuffer 70 5 w2
  have X3 : Ext w2 (w2.alloc (.cells #[.slice none 0 0, .int .i64 0, .int .i8 0] 70)) := (Ext.refl w2).alloc _
  have HB0 : Hid (BS w2.heap.size w2.heap.size [] w2 (w2.alloc (.cells #[.slice none 0 0, .int .i64 0, .int .i8 0] 70))) := ⟨hbuf, X3, Nat.le_refl _⟩
  have HC2 : Hid (∀ W, Ext w2 W → W.cell? ⟨w.heap.size, 0, none⟩ = some (.slice aG nG cG)) := fun W hW => hW.cell (Ext.cell hX2 p0)
  have hnG : nG ≤ 50 := by have := HlG.out; omega
  have HGa := Lib.hid hga
  have HFa := Lib.hid hfa
  have HX2 := Lib.hid hX12
  have HBo := Lib.hid hbo
  have HFl : Hid (t.funcs.length ≤ 50) := hfl
  have HAF := Lib.hid hAF
  have HSS := Lib.hid hsS
  have HTab2 : Hid (PrTabs w2.heap.size w2) := fun W hW => HTabs.out W (hX12.trans hW)
  have HCU : Hid (∀ W, Ext w2 W → W.cell? ⟨bU, 2, none⟩ = some (.slice aS nS cS)) := fun W hW => by
    have := (hcU.ext hW) 2 _ rfl
    simpa using this
  have HBW : Hid (∀ (s : ByteArray) (L' : List UInt8) (W : World), BS w2.heap.size w2.heap.size L' w2 W → L'.length + s.size ≤ 100000000 →
      Calls Tryz.prog 35 #[.pointer (some ⟨w2.heap.size, 0, none⟩), .string s] W (fun e W' => e = .returned (.tuple #[.int .i64 s.size, .nilIface]) ∧ BS w2.heap.size w2.heap.size (L' ++ s.data.toList) w2 W')) := fun s L' W h hl => c_BW _ _ L' s w2 W h hl
  have p2 := Ext.cell X3 (Ext.cell hX2 p0)
  obtain ⟨GL, hGL⟩ : ∃ GL, GL = t.globals.flatMap showG := ⟨_, rfl⟩
  rw [← hGL] at HRR
  have HGL := Lib.hid hGL
  clear hGL hX2 p0 p1 hnS hbuf X3 hga hfa hgl hfl hX12 hbo hAF hsS hcU HU hv HTabs
  go_wp2_with fail
  clear p2
  go_loopw [19] (fun v19 wr => ∃ k : Nat, k ≤ nG ∧ v19 = .int .i64 k ∧ Hid (BS w2.heap.size w2.heap.size ((t.globals.take k).flatMap showG) w2 wr)) (fun v19 _ => nG - (intOf v19).toNat)
  case atStart => exact ⟨0, Nat.zero_le _, rfl, by show BS _ _ _ _ _; rw [List.take_zero]; exact HB0.out⟩
  case round =>
    clear HB0
    obtain ⟨k, hk, rfl, HB⟩ := hrel
    by_cases hlt : k < nG
    · obtain ⟨b, o, rfl, hbK, hel⟩ := helG (by omega)
      obtain ⟨g, cs, hg, _, hC, hcs⟩ := hel k hlt
      obtain ⟨rfl, i1, i2⟩ := hC
      have hXw := HX2.out.trans (show Ext w2 wr from HB.out.bel)
      have c0 := hXw.cell (hcs.z rfl)
      have c1 := hXw.cell (hcs 1 _ rfl)
      have hok := HGa.out g (List.mem_of_getElem? hg)
      have hnm : g.name.size ≤ 20 ∧ 0 ≤ g.size ∧ g.size ≤ 4000 := by
        unfold okGlob at hok
        simp only [Bool.and_eq_true, decide_eq_true_eq] at hok
        exact ⟨name_len hok.1.1, hok.1.2, hok.2⟩
      obtain ⟨hnm, hg0, hg4⟩ := hnm
      have hsn := flat_take showG hg
      have HSn := Lib.hid hsn
      have hlk : ((t.globals.take k).flatMap showG).length ≤ 100 * k := globs_len t.globals HGa.out k
      clear hel hcs hg hXw hok hsn
      obtain ⟨name, size⟩ := g
      simp only at *
      have g0 : (0 : Int) ≤ (k : Int) := by omega
      have g1 : (k : Int) < (nG : Int) := by omega
      have z1 : ¬ 9223372036854775807 < 4 + name.size := by omega
      by_cases hz0 : size = 0
      · subst hz0
        have hlz : ((0 : Int) == 0) = true := rfl
        have z2 : ¬ 9223372036854775807 < 4 + name.size + 2 := by omega
        have hbd1 : ((t.globals.take k).flatMap showG).length + (⟨#[105, 110, 116, 32]⟩ ++ name ++ ⟨#[59, 10]⟩ : ByteArray).size ≤ 100000000 := by
          simp only [ByteArray.size_append]
          show _ + (4 + name.size + 2) ≤ _
          omega
        obtain ⟨pc1, hpc1⟩ : ∃ pc : ByteArray, pc = ⟨#[105, 110, 116, 32]⟩ ++ name ++ ⟨#[59, 10]⟩ := ⟨_, rfl⟩
        rw [← hpc1] at hbd1
        have HBa := Lib.hid (HB.out.ext ((Ext.refl wr).alloc (.cells #[.string name, .int .i64 0] 60)))
        have hC1 := HBW.out pc1 _ _ HBa.out hbd1
        rw [hpc1] at hC1
        replace hC1 := Lib.hid hC1
        clear hbd1 hpc1 pc1 hlk
        go_wp2_with fail
        refine hC1.out.mono ?_
        rintro e V1 ⟨rfl, hQ1⟩
        have HZ := Lib.hid (hQ1.cast (l' := (t.globals.take (k + 1)).flatMap showG) (by rw [HSn.out]; unfold showG intW; simp [ByteArray.data_append]))
        clear hQ1 hC1 c0 c1 z1 z2
        go_wp2
        go_roundw
        case rel => exact ⟨k + 1, by omega, by go_num, HZ.out⟩
        case measure => simp [intOf]; omega
      · obtain ⟨D, hD⟩ : ∃ D, D = str (dig size) := ⟨_, rfl⟩
        have hDs : D.size ≤ 16 := by
          rw [hD, str_size]
          exact dig_len (by unfold isWord; simp only [Bool.and_eq_true, decide_eq_true_eq]; omega)
        have hlz : (size == 0) = false := by simpa using hz0
        have HD := Lib.hid hD
        have HZ0 := Lib.hid hz0
        have z2 : ¬ 9223372036854775807 < 4 + name.size + 1 := by omega
        have z3 : ¬ 9223372036854775807 < 4 + name.size + 1 + D.size := by omega
        have z4 : ¬ 9223372036854775807 < 4 + name.size + 1 + D.size + 3 := by omega
        have HFm : Hid (∀ W, Ext w2 W → Calls Tryz.prog 36 #[.int .i64 size, .int .i64 10] W (Gives (.string D) W)) := fun W hW => by
          refine (Tryz.strconv_FormatInt_10 size (by omega) (by omega) W (HTab2.out W hW).2.2).mono ?_
          rintro e W' ⟨rfl, kq, os, rfl⟩
          exact ⟨by rw [itoa_dig, hD]; rfl, Lib.below_grow _ _ (Nat.le_refl _) _ _⟩
        have hbd1 : ((t.globals.take k).flatMap showG).length + (⟨#[105, 110, 116, 32]⟩ ++ name ++ ⟨#[91]⟩ ++ D ++ ⟨#[93, 59, 10]⟩ : ByteArray).size ≤ 100000000 := by
          simp only [ByteArray.size_append]
          show _ + (4 + name.size + 1 + D.size + 3) ≤ _
          omega
        obtain ⟨pc1, hpc1⟩ : ∃ pc : ByteArray, pc = ⟨#[105, 110, 116, 32]⟩ ++ name ++ ⟨#[91]⟩ ++ D ++ ⟨#[93, 59, 10]⟩ := ⟨_, rfl⟩
        rw [← hpc1] at hbd1
        have HBd := Lib.hid hbd1
        have HPc := Lib.hid hpc1
        have BX := Blk.alloc wr 60 #[.string name, .int .i64 size]
        have Xa : Ext wr (wr.alloc (.cells #[.string name, .int .i64 size] 60)) := (Ext.refl wr).alloc _
        have d0 : (wr.alloc (.cells #[.string name, .int .i64 size] 60)).cell? ⟨wr.heap.size, 0, none⟩ = some (.string name) := (BX.cell 0).trans rfl
        have d1 : (wr.alloc (.cells #[.string name, .int .i64 size] 60)).cell? ⟨wr.heap.size, 1, none⟩ = some (.int .i64 size) := (BX.cell 1).trans rfl
        have Xb : Ext wr (wr.alloc (.cells #[.string name, .int .i64 size] 60)).drew := Xa.drew
        have Xd : Ext (wr.alloc (.cells #[.string name, .int .i64 size] 60)) (wr.alloc (.cells #[.string name, .int .i64 size] 60)).drew := (Ext.refl _).drew
        have HBa := Lib.hid (HB.out.ext Xb)
        have HKeep : Hid (∀ W', BS w2.heap.size w2.heap.size (((t.globals.take k).flatMap showG) ++ pc1.data.toList) w2 W' → True) := fun _ _ => trivial
        clear hbd1 hpc1 hlk hD hz0 BX Xa HKeep
        go_wp2_with fail
        refine start_ (n := 10) (S := fun w' => w'.cell? ⟨wr.heap.size, 0, none⟩ = some (.string name) ∧ w'.cell? ⟨wr.heap.size, 1, none⟩ = some (.int .i64 size)) (ds := [9]) #[false, false, false, false, false, false, false, false, false, false] (by kernel_rfl) rfl rfl ?hS (fun hHeld => ?_)
        case hS => exact ⟨Xd.cell d0, Xd.cell d1⟩
        refine pure_ (i := 0) (N := some 31) (v := ?_) (a' := ?_) #[true, false, false, false, false, false, false, false, false, false] rfl rfl (by kernel_rfl) (fun _ _ _ h => h) (Or.inl ⟨by rfl, ?_⟩) ?_ ?_
        rotate_left
        · intro w'
          go_simp
          with_reducible rfl
        rotate_left
        · simp only [Act.put, List.setIfInBounds_toArray, List.set_cons_zero, List.set_cons_succ, i64_w, i32_w]
          rfl
        refine take_ (i := 1) (N := some 32) (v := ?_) (a' := ?_) #[true, true, false, false, false, false, false, false, false, false] rfl rfl (by kernel_rfl) (fun _ _ _ h => h) (Or.inl ⟨by rfl, ?_⟩) hHeld ?_ ?_
        rotate_left
        · rintro w' ⟨y0, y1⟩
          go_simp
          with_reducible rfl
        rotate_left
        · simp only [Act.put, List.setIfInBounds_toArray, List.set_cons_zero, List.set_cons_succ, i64_w, i32_w]
          rfl
        refine pure_ (i := 2) (N := some 33) (v := ?_) (a' := ?_) #[true, true, true, false, false, false, false, false, false, false] rfl rfl (by kernel_rfl) (fun _ _ _ h => h) (Or.inl ⟨by rfl, ?_⟩) ?_ ?_
        rotate_left
        · intro w'
          go_simp
          with_reducible rfl
        rotate_left
        · simp only [Act.put, List.setIfInBounds_toArray, List.set_cons_zero, List.set_cons_succ, i64_w, i32_w]
          rfl
        refine pure_ (i := 3) (N := some 34) (v := ?_) (a' := ?_) #[true, true, true, true, false, false, false, false, false, false] rfl rfl (by kernel_rfl) (fun _ _ _ h => h) (Or.inl ⟨by rfl, ?_⟩) ?_ ?_
        rotate_left
        · intro w'
          go_simp
          with_reducible rfl
        rotate_left
        · simp only [Act.put, List.setIfInBounds_toArray, List.set_cons_zero, List.set_cons_succ, i64_w, i32_w]
          rfl
        refine pure_ (i := 4) (N := some 35) (v := ?_) (a' := ?_) #[true, true, true, true, true, false, false, false, false, false] rfl rfl (by kernel_rfl) (fun _ _ _ h => h) (Or.inl ⟨by rfl, ?_⟩) ?_ ?_
        rotate_left
        · intro w'
          go_simp
          with_reducible rfl
        rotate_left
        · simp only [Act.put, List.setIfInBounds_toArray, List.set_cons_zero, List.set_cons_succ, i64_w, i32_w]
          rfl
        refine take_ (i := 5) (N := some 36) (v := ?_) (a' := ?_) #[true, true, true, true, true, true, false, false, false, false] rfl rfl (by kernel_rfl) (fun _ _ _ h => h) (Or.inl ⟨by rfl, ?_⟩) hHeld ?_ ?_
        rotate_left
        · rintro w' ⟨y0, y1⟩
          go_simp
          with_reducible rfl
        rotate_left
        · simp only [Act.put, List.setIfInBounds_toArray, List.set_cons_zero, List.set_cons_succ, i64_w, i32_w]
          rfl
        generalize (wr.alloc (.cells #[.string name, .int .i64 size] 60)).drew = W3 at HBa hHeld ⊢
        clear d0 d1 Xb Xd
        refine one_ (i := 6) (N := some 37) #[true, true, true, true, true, true, true, false, false, false] rfl rfl (by kernel_rfl) (by decide) (fun K hK => ?_)
        refine goes_ (N := some 37) Tryz.func36 (by kernel_rfl) rfl #[.int .i64 size, .int .i64 10] (by rfl) rfl rfl (by simp [Act.eval]) ?_
        refine (HFm.out W3 HBa.out.bel).mono ?_
        rintro e W4 ⟨rfl, hX4⟩
        refine ⟨_, rfl, ?_⟩
        refine hK.out _ _ ⟨hX4.cell hHeld.1, hX4.cell hHeld.2⟩ (fun hHeld => ?_)
        clear hK K
        refine norm_ (a' := ?_) ?_ ?_
        rotate_left
        · show Act.put _ (some 37) _ = _
          simp only [Act.put, List.setIfInBounds_toArray, List.set_cons_zero, List.set_cons_succ, i64_w, i32_w]
          rfl
        replace HBa := Lib.hid (HBa.out.ext hX4)
        clear hX4
        refine pure_ (i := 7) (N := some 38) (v := ?_) (a' := ?_) #[true, true, true, true, true, true, true, true, false, false] rfl rfl (by kernel_rfl) (fun _ _ _ h => h) (Or.inl ⟨by rfl, ?_⟩) ?_ ?_
        rotate_left
        · intro w'
          go_simp
          with_reducible rfl
        rotate_left
        · simp only [Act.put, List.setIfInBounds_toArray, List.set_cons_zero, List.set_cons_succ, i64_w, i32_w]
          rfl
        refine pure_ (i := 8) (N := some 39) (v := ?_) (a' := ?_) #[true, true, true, true, true, true, true, true, true, false] rfl rfl (by kernel_rfl) (fun _ _ _ h => h) (Or.inl ⟨by rfl, ?_⟩) ?_ ?_
        rotate_left
        · intro w'
          go_simp
          with_reducible rfl
        rotate_left
        · simp only [Act.put, List.setIfInBounds_toArray, List.set_cons_zero, List.set_cons_succ, i64_w, i32_w]
          rfl
        have hC1 := HBW.out pc1 _ _ HBa.out HBd.out
        rw [HPc.out] at hC1
        refine last_ (i := 9) (N := some 40) #[true, true, true, true, true, true, true, true, true, true] rfl rfl (by kernel_rfl) (by decide) (fun K hK => ?_)
        refine goes_ (N := some 40) Tryz.func35 (by kernel_rfl) rfl #[.pointer (some ⟨w2.heap.size, 0, none⟩), .string (⟨#[105, 110, 116, 32]⟩ ++ name ++ ⟨#[91]⟩ ++ D ++ ⟨#[93, 59, 10]⟩)] (by rfl) rfl rfl (by simp [Act.eval]) ?_
        refine hC1.mono ?_
        rintro e V1 ⟨rfl, hQ1⟩
        refine ⟨_, rfl, ?_⟩
        refine hK.out _ _ ?_
        clear hK K
        refine norm_ (a' := ?_) ?_ ?_
        rotate_left
        · show Act.put _ (some 40) _ = _
          simp only [Act.put, List.setIfInBounds_toArray, List.set_cons_zero, List.set_cons_succ, i64_w, i32_w]
          rfl
        refine done_ (by kernel_rfl) ?_
        have HZ := Lib.hid (hQ1.cast (l' := (t.globals.take (k + 1)).flatMap showG) (by rw [HSn.out, HD.out]; unfold showG intW; simp [ByteArray.data_append, str, HZ0.out]))
        clear hQ1 hC1 hHeld c0 c1 z1 z2 z3 z4
        go_wp2
        go_roundw
        case rel => exact ⟨k + 1, by omega, by go_num, HZ.out⟩
        case measure => simp [intOf]; omega
    · obtain rfl : k = nG := by omega
      have HB9 : Hid (BS w2.heap.size w2.heap.size GL w2 wr) := by
        have := HB.out
        rw [List.take_of_length_le (by rw [HlG.out]; omega)] at this
        rw [HGL.out]
        exact this
      have hglen : GL.length ≤ 5000 := by
        have := globs_len t.globals HGa.out t.globals.length
        rw [List.take_length] at this
        rw [HGL.out]
        have := HlG.out
        omega
      obtain ⟨wa, rfl⟩ : ∃ wa, wa = wr := ⟨_, rfl⟩
      have qU := HCU.out _ HB9.out.bel
      have hlt' : ¬ (k : Int) < (k : Int) := by omega
      clear HB helG HlG hlcG hcmG hlt HGL
      go_wp2_with fail
      clear qU hlt'
      go_loopw [47] (fun v47 wr => ∃ j : Nat, j ≤ nS ∧ v47 = .int .i64 j ∧ Hid (BS w2.heap.size w2.heap.size (GL ++ (t.funcs.take j).flatMap textF) w2 wr)) (fun v47 _ => nS - (intOf v47).toNat)
      case atStart => exact ⟨0, Nat.zero_le _, rfl, by show BS _ _ _ _ _; rw [List.take_zero]; simpa using HB9.out⟩
      case round =>
        clear HB9
        obtain ⟨j, hj, rfl, HB⟩ := hrel
        by_cases hlt : j < nS
        · obtain ⟨bS, oS, rfl, _, hcS⟩ := SlV.at_ HSS.out (by omega)
          have hjf : j < fs.length := by have := HnS.out; omega
          obtain ⟨q, hq⟩ : ∃ q, ps[j]? = some q := ⟨ps[j]'(by have := HAF.out.1; omega), List.getElem?_eq_getElem _⟩
          obtain ⟨y, hy⟩ : ∃ y, fs[j]? = some y := ⟨fs[j], List.getElem?_eq_getElem hjf⟩
          have hfn := HAF.out.2 j q y hq hy
          obtain ⟨hft, hblk, hx2⟩ := bodies_text HBo.out j y hy
          clear hy
          obtain ⟨f, bd⟩ := y
          try simp only at hft hblk hx2 hfn
          subst hx2
          obtain ⟨bf, vP, vB, vt, tsF, rfl, _, hcf, hP, hvt, hAt⟩ := fn_node_at hfn
          try simp only at hcf hP hAt
          have hE2 : Ext w2 wr := HB.out.bel
          have hok := HFa.out f (List.mem_of_getElem? hft)
          obtain ⟨hnm1, hp6, hpn, hcost, _⟩ := okFunc_all hok
          have hnm := name_len hnm1
          have htl := textF_len hok
          have hsn := flat_take textF hft
          have hfl2 := funcs_len t.funcs HFa.out j
          obtain ⟨aP, nP, cP, rfl, HlP, hlcP, hcmP, helP⟩ := hP.op
          have hnP : nP ≤ 6 := by have := HlP.out; omega
          have HCf : Hid (∀ W, Ext w2 W → W.cell? ⟨bf, 0, none⟩ = some (.string f.name) ∧ W.cell? ⟨bf, 1, none⟩ = some (.slice aP nP cP) ∧ W.cell? ⟨bf, 3, none⟩ = some vt) := fun W hW => by
            have h := hcf.ext hW
            have h0 := h 0 _ rfl
            have h1 := h 1 _ rfl
            have h3 := h 3 _ rfl
            simp only [Nat.zero_add] at h0 h1 h3
            exact ⟨h0, h1, h3⟩
          have HPB : Hid (∀ L' W, BS w2.heap.size w2.heap.size L' w2 W → L'.length ≤ 50000000 → Calls Tryz.prog 38 #[.pointer (some ⟨w2.heap.size, 0, none⟩), vt] W (fun e W' => e = .returned (.tuple #[]) ∧ BS w2.heap.size w2.heap.size (L' ++ showBlk (bodyOf f)) w2 W')) := fun L' W hW hL' => by
            refine (i_printBlock _ f.body 0 (bodyOf f) w2.heap.size w2.heap.size L' vt tsF W rfl hblk (by omega) (((Sl.bound hvt (by decide)).keep (Keep.refl _ _) (fun _ _ _ h => h.any) (fun _ h => h.2)).keep (keep_below hW.bel) (fun _ _ _ h => h.any) (fun _ h => h)) (((hAt.stBound).mono (fun _ _ _ h => h.keep (Keep.refl _ _) (fun _ h => h.2))).stKeep (keep_below hW.bel) (fun _ h => h)) (HTab2.out.below hW.bel) ⟨hW.isb, Below.refl _ _, hW.le⟩ (by omega)).mono ?_
            rintro e W' ⟨rfl, h'⟩
            exact ⟨rfl, hW.then_ h'⟩
          have c0 : wr.cell? ⟨bS, oS + j, none⟩ = some (.pointer (some ⟨bf, 0, none⟩)) := hE2.cell (hcS j _ hq)
          obtain ⟨d0, d1, d3⟩ := HCf.out _ hE2
          obtain ⟨i0, hi, hz0, hz1, hz2⟩ := info_parts info_StringP
          have hmk := fun (w : World) => run_make (P := Tryz.prog) w 48 9 i0 _ Tryz.underlying48 hi hz0 .i64 .i64 nP nP (by omega) (by omega) (by rw [hz2]; omega) (by omega)
          rw [hz1] at hmk
          simp only [Int.toNat_natCast, Nat.mul_one] at hmk
          have HSn := Lib.hid hsn
          have HPn := Lib.hid hpn
          have hbodyl := showBlk_len _ _ _ _ (Nat.le_refl _) hblk
          have hj50 : j ≤ 50 := by omega
          have hbl3 : (showBlk (bodyOf f)).length ≤ 178000 := by omega
          have HE2 := Lib.hid hE2
          clear hcS hjf hq hfn hblk hcf hP hvt hAt hok hnm1 hp6 hpn hcost htl hsn hE2 hft hi hz0 hz1 hz2
          obtain ⟨name, params, body⟩ := f
          simp only at *
          have hnz : name.size ≤ 20 := hnm
          have g0 : (0 : Int) ≤ (j : Int) := by omega
          have g1 : (j : Int) < (nS : Int) := by omega
          clear hnm
          have Xm : Ext wr (wr.alloc (.cells (madeCells #[.string ⟨#[]⟩] nP) 9)) := (Ext.refl wr).alloc _
          have d1m := Xm.cell d1
          have hBm := Blk.alloc wr 9 (madeCells #[.string ⟨#[]⟩] nP)
          have HXm := Lib.hid Xm
          have HBm := Lib.hid hBm
          clear hBm Xm
          go_wp2_with fail
          clear hmk d0 d1 d3 c0 d1m
          obtain ⟨g9, hg9⟩ : ∃ g9, g9 = wr.heap.size := ⟨_, rfl⟩
          rw [← hg9] at HBm
          try rw [← hg9]
          have HG9 := Lib.hid hg9
          clear hg9
          go_loopw [64] (fun v64 wq => ∃ (i : Nat) (arr : Array Value), i ≤ nP ∧ v64 = .int .i64 i ∧ Hid (Blk wq g9 9 arr) ∧ Hid (arr.size = nP * 1) ∧ Hid (Filled wq 1 CStr (params.map fun p => str intW ++ p) i arr) ∧ Hid (Ext wr wq)) (fun v64 _ => nP - (intOf v64).toNat)
          case atStart => exact ⟨0, _, Nat.zero_le _, rfl, HBm.out, Lib.hid (by rw [size_madeCells, Nat.mul_one]), Filled.zero _ _ _ _ _, HXm.out⟩
          case round =>
            clear HBm HXm
            obtain ⟨i, arr, hi, rfl, HBa, Hsz, Harr, HXq⟩ := hrel
            by_cases hlt2 : i < nP
            · obtain ⟨b2, o2, rfl, _, hel2⟩ := helP (by omega)
              obtain ⟨p, cs, hp, _, hC, hcs⟩ := hel2 i hlt2
              obtain ⟨rfl, _⟩ := hC
              have e0 := (HE2.out.trans HXq.out).cell (hcs.z rfl)
              simp only [Nat.mul_one] at e0
              have hpz : p.size ≤ 20 := name_len (HPn.out p (List.mem_of_getElem? hp))
              have Hp : Hid ((params.map fun p => str intW ++ p)[i]? = some (str intW ++ p)) := by show _ = _; rw [List.getElem?_map, hp]; rfl
              have h0 : (0 : Int) ≤ (i : Int) := by omega
              have h1 : (i : Int) < (nP : Int) := by omega
              obtain ⟨y0, w0⟩ := HBa.out.some i (by have := Hsz.out; omega)
              have f0 := HBa.out.frozen i
              have z1 : ¬ 9223372036854775807 < 4 + p.size := by omega
              have hcz : CStr wr [.string (str intW ++ p)] (str intW ++ p) := ⟨rfl, by rw [ByteArray.size_append, str_size]; show 4 + p.size ≤ _; unfold maxLen; omega⟩
              have HCz := Lib.hid hcz
              have hGg : Hid (wr.heap.size ≤ wr.heap.size) := Nat.le_refl _
              clear hel2 hcs hp hcz hGg
              go_wp2
              go_roundw
              case rel => exact ⟨i + 1, _, by omega, by go_num, HBa.out.set i _, Lib.hid (by rw [Array.size_setIfInBounds]; exact Hsz.out), by
                have := Filled.snoc (w' := wr.setCell ⟨g9, i, none⟩ (.string (str intW ++ p))) Harr Hp rfl (HCz.out.any) (fun _ _ h => h.any) Hsz hlt2
                simp only [Nat.mul_one] at this
                exact this, Below.setCell HXq.out (p := ⟨g9, i, none⟩) (Nat.le_of_eq HG9.out.symm) _⟩
              case measure => simp [intOf]; omega
            · obtain rfl : i = nP := by omega
              obtain ⟨wb, rfl⟩ : ∃ wb, wb = wr := ⟨_, rfl⟩
              have hgb : g9 < wb.heap.size := HBa.out.lt
              have hcl : ∀ (j : Nat) (x : ByteArray), (params.map fun p => str intW ++ p)[j]? = some x → wb.cell? ⟨g9, 0 + j, none⟩ = some (.string x) := fun j x hx => by
                have hjl : j < i := by
                  have := (List.getElem?_eq_some_iff.1 hx).1
                  rw [List.length_map, HlP.out] at this
                  exact this
                obtain ⟨cs, hcs1, hcs2, hcs3⟩ := Harr.out j x hjl hx
                have h3 := hcs3 0 (by omega)
                rw [hcs2.1] at h3
                rw [Nat.zero_add, HBa.out.cell]
                simpa using h3
              obtain ⟨CM, hCM⟩ : ∃ CM, CM = commas (params.map fun p => intW ++ p.data.toList) := ⟨_, rfl⟩
              have hCMl : CM.length ≤ 156 := by
                have := params_len (l := params) HPn.out (by rw [HlP.out]; omega) params.length
                rw [List.take_length] at this
                rw [hCM]
                exact this
              have hjn : Lib.join ((params.map fun p => str intW ++ p).map (·.data.toList)) [44, 32] = CM := by
                rw [join_commas, hCM, List.map_map]
                congr 1
              have HJ : Hid (∀ W, Ext wb W → Calls Tryz.prog 37 #[.slice (some ⟨g9, 0, none⟩) i i, .string ⟨#[44, 32]⟩] W (Gives (.string (str CM)) W)) := fun W hW => by
                have hlx : (params.map fun p => str intW ++ p).length = i := by rw [List.length_map, HlP.out]
                have h := Tryz.strings_Join g9 0 i (params.map fun p => str intW ++ p) ⟨#[44, 32]⟩ W (fun j x hx => hW.cell (hcl j x hx)) (Nat.lt_of_lt_of_le hgb hW.size) (by omega) (by omega) (by
                  have e : (⟨#[44, 32]⟩ : ByteArray).data.toList = [44, 32] := rfl
                  rw [e, hjn]; omega)
                rw [hlx] at h
                refine h.mono ?_
                rintro e W' ⟨rfl, hb⟩
                refine ⟨?_, hb⟩
                have e : (⟨#[44, 32]⟩ : ByteArray).data.toList = [44, 32] := rfl
                rw [e, hjn]
                try rfl
              have hL0 : (GL ++ (t.funcs.take j).flatMap textF).length ≤ 9000000 := by rw [List.length_append]; omega
              have HCMe := Lib.hid hCM
              have HBb : Hid (BS w2.heap.size w2.heap.size (GL ++ (t.funcs.take j).flatMap textF) w2 wb.drew) := HB.out.ext (HXq.out.drew)
              obtain ⟨S, hS⟩ : ∃ S, S = str CM := ⟨_, rfl⟩
              have hSz : S.size ≤ 156 := by rw [hS, str_size]; exact hCMl
              have hSd : S.data.toList = CM := by rw [hS]; simp [str]
              rw [← hS] at HJ
              have HSd := Lib.hid hSd
              have z1 : ¬ 9223372036854775807 < 4 + name.size := by omega
              have z2 : ¬ 9223372036854775807 < 4 + name.size + 1 := by omega
              have z3 : ¬ 9223372036854775807 < 4 + name.size + 1 + S.size := by omega
              have z4 : ¬ 9223372036854775807 < 4 + name.size + 1 + S.size + 4 := by omega
              have hbd1 : (GL ++ (t.funcs.take j).flatMap textF).length + (⟨#[105, 110, 116, 32]⟩ ++ name ++ ⟨#[40]⟩ ++ S ++ ⟨#[41, 32, 123, 10]⟩ : ByteArray).size ≤ 100000000 := by
                simp only [ByteArray.size_append]
                show _ + (4 + name.size + 1 + S.size + 4) ≤ _
                omega
              obtain ⟨pc1, hpc1⟩ : ∃ pc : ByteArray, pc = ⟨#[105, 110, 116, 32]⟩ ++ name ++ ⟨#[40]⟩ ++ S ++ ⟨#[41, 32, 123, 10]⟩ := ⟨_, rfl⟩
              rw [← hpc1] at hbd1
              have hpz : pc1.size ≤ 1000 := by
                rw [hpc1]
                simp only [ByteArray.size_append]
                show 4 + name.size + 1 + S.size + 4 ≤ _
                omega
              have HBd := Lib.hid hbd1
              have HPc := Lib.hid hpc1
              have HL0 := Lib.hid hL0
              have HPz := Lib.hid hpz
              have Xd : Ext wb wb.drew := (Ext.refl wb).drew
              obtain ⟨d0, d1, d3⟩ := HCf.out _ (HE2.out.trans HXq.out)
              have hlt3 : ¬ (i : Int) < (i : Int) := by omega
              clear hcl hCM hCMl hjn hL0 hS hSz hSd hbd1 hpc1 hpz HBa Hsz Harr helP HB
              go_wp2_with fail
              refine start_ (n := 12) (S := fun w' => w'.cell? ⟨bf, 0, none⟩ = some (.string name)) (ds := [11]) #[false, false, false, false, false, false, false, false, false, false, false, false] (by kernel_rfl) rfl rfl ?hS (fun hHeld => ?_)
              case hS => exact Xd.cell d0
              refine pure_ (i := 0) (N := some 75) (v := ?_) (a' := ?_) #[true, false, false, false, false, false, false, false, false, false, false, false] rfl rfl (by kernel_rfl) (fun _ _ _ h => h) (Or.inl ⟨by rfl, ?_⟩) ?_ ?_
              rotate_left
              · intro w'
                go_simp
                with_reducible rfl
              rotate_left
              · simp only [Act.put, List.setIfInBounds_toArray, List.set_cons_zero, List.set_cons_succ, i64_w, i32_w]
                rfl
              refine pure_ (i := 1) (N := some 76) (v := ?_) (a' := ?_) #[true, true, false, false, false, false, false, false, false, false, false, false] rfl rfl (by kernel_rfl) (fun _ _ _ h => h) (Or.inl ⟨by rfl, ?_⟩) ?_ ?_
              rotate_left
              · intro w'
                go_simp
                with_reducible rfl
              rotate_left
              · simp only [Act.put, List.setIfInBounds_toArray, List.set_cons_zero, List.set_cons_succ, i64_w, i32_w]
                rfl
              refine pure_ (i := 2) (N := some 77) (v := ?_) (a' := ?_) #[true, true, true, false, false, false, false, false, false, false, false, false] rfl rfl (by kernel_rfl) (fun _ _ _ h => h) (Or.inl ⟨by rfl, ?_⟩) ?_ ?_
              rotate_left
              · intro w'
                go_simp
                with_reducible rfl
              rotate_left
              · simp only [Act.put, List.setIfInBounds_toArray, List.set_cons_zero, List.set_cons_succ, i64_w, i32_w]
                rfl
              refine pure_ (i := 3) (N := some 78) (v := ?_) (a' := ?_) #[true, true, true, true, false, false, false, false, false, false, false, false] rfl rfl (by kernel_rfl) (fun _ _ _ h => h) (Or.inl ⟨by rfl, ?_⟩) ?_ ?_
              rotate_left
              · intro w'
                go_simp
                with_reducible rfl
              rotate_left
              · simp only [Act.put, List.setIfInBounds_toArray, List.set_cons_zero, List.set_cons_succ, i64_w, i32_w]
                rfl
              refine take_ (i := 4) (N := some 79) (v := ?_) (a' := ?_) #[true, true, true, true, true, false, false, false, false, false, false, false] rfl rfl (by kernel_rfl) (fun _ _ _ h => h) (Or.inl ⟨by rfl, ?_⟩) hHeld ?_ ?_
              rotate_left
              · rintro w' y0
                go_simp
                with_reducible rfl
              rotate_left
              · simp only [Act.put, List.setIfInBounds_toArray, List.set_cons_zero, List.set_cons_succ, i64_w, i32_w]
                rfl
              refine pure_ (i := 5) (N := some 80) (v := ?_) (a' := ?_) #[true, true, true, true, true, true, false, false, false, false, false, false] rfl rfl (by kernel_rfl) (fun _ _ _ h => h) (Or.inl ⟨by rfl, ?_⟩) ?_ ?_
              rotate_left
              · intro w'
                go_simp
                with_reducible rfl
              rotate_left
              · simp only [Act.put, List.setIfInBounds_toArray, List.set_cons_zero, List.set_cons_succ, i64_w, i32_w]
                rfl
              refine pure_ (i := 6) (N := some 81) (v := ?_) (a' := ?_) #[true, true, true, true, true, true, true, false, false, false, false, false] rfl rfl (by kernel_rfl) (fun _ _ _ h => h) (Or.inl ⟨by rfl, ?_⟩) ?_ ?_
              rotate_left
              · intro w'
                go_simp
                with_reducible rfl
              rotate_left
              · simp only [Act.put, List.setIfInBounds_toArray, List.set_cons_zero, List.set_cons_succ, i64_w, i32_w]
                rfl
              refine pure_ (i := 7) (N := some 82) (v := ?_) (a' := ?_) #[true, true, true, true, true, true, true, true, false, false, false, false] rfl rfl (by kernel_rfl) (fun _ _ _ h => h) (Or.inl ⟨by rfl, ?_⟩) ?_ ?_
              rotate_left
              · intro w'
                go_simp
                with_reducible rfl
              rotate_left
              · simp only [Act.put, List.setIfInBounds_toArray, List.set_cons_zero, List.set_cons_succ, i64_w, i32_w]
                rfl
              have HJd := Lib.hid (HJ.out _ Xd)
              generalize wb.drew = W3 at HBb HJd hHeld ⊢
              clear d0 d1 d3 Xd
              refine one_ (i := 8) (N := some 83) #[true, true, true, true, true, true, true, true, true, false, false, false] rfl rfl (by kernel_rfl) (by decide) (fun K hK => ?_)
              refine goes_ (N := some 83) Tryz.func37 (by kernel_rfl) rfl #[.slice (some ⟨g9, 0, none⟩) i i, .string ⟨#[44, 32]⟩] (by rfl) rfl rfl (by simp [Act.eval]) ?_
              refine HJd.out.mono ?_
              rintro e W4 ⟨rfl, hX4⟩
              refine ⟨_, rfl, ?_⟩
              refine hK.out _ _ (hX4.cell hHeld) (fun hHeld => ?_)
              clear hK K
              refine norm_ (a' := ?_) ?_ ?_
              rotate_left
              · show Act.put _ (some 83) _ = _
                simp only [Act.put, List.setIfInBounds_toArray, List.set_cons_zero, List.set_cons_succ, i64_w, i32_w]
                rfl
              replace HBb := Lib.hid (HBb.out.ext hX4)
              clear hX4 HJd HJ
              refine pure_ (i := 9) (N := some 84) (v := ?_) (a' := ?_) #[true, true, true, true, true, true, true, true, true, true, false, false] rfl rfl (by kernel_rfl) (fun _ _ _ h => h) (Or.inl ⟨by rfl, ?_⟩) ?_ ?_
              rotate_left
              · intro w'
                go_simp
                with_reducible rfl
              rotate_left
              · simp only [Act.put, List.setIfInBounds_toArray, List.set_cons_zero, List.set_cons_succ, i64_w, i32_w]
                rfl
              refine pure_ (i := 10) (N := some 85) (v := ?_) (a' := ?_) #[true, true, true, true, true, true, true, true, true, true, true, false] rfl rfl (by kernel_rfl) (fun _ _ _ h => h) (Or.inl ⟨by rfl, ?_⟩) ?_ ?_
              rotate_left
              · intro w'
                go_simp
                with_reducible rfl
              rotate_left
              · simp only [Act.put, List.setIfInBounds_toArray, List.set_cons_zero, List.set_cons_succ, i64_w, i32_w]
                rfl
              have hC1 := HBW.out pc1 _ _ HBb.out HBd.out
              rw [HPc.out] at hC1
              refine last_ (i := 11) (N := some 86) #[true, true, true, true, true, true, true, true, true, true, true, true] rfl rfl (by kernel_rfl) (by decide) (fun K hK => ?_)
              refine goes_ (N := some 86) Tryz.func35 (by kernel_rfl) rfl #[.pointer (some ⟨w2.heap.size, 0, none⟩), .string (⟨#[105, 110, 116, 32]⟩ ++ name ++ ⟨#[40]⟩ ++ S ++ ⟨#[41, 32, 123, 10]⟩)] (by rfl) rfl rfl (by simp [Act.eval]) ?_
              refine hC1.mono ?_
              rintro e V1 ⟨rfl, hQ1⟩
              refine ⟨_, rfl, ?_⟩
              refine hK.out _ _ ?_
              clear hK K
              refine norm_ (a' := ?_) ?_ ?_
              rotate_left
              · show Act.put _ (some 86) _ = _
                simp only [Act.put, List.setIfInBounds_toArray, List.set_cons_zero, List.set_cons_succ, i64_w, i32_w]
                rfl
              refine done_ (by kernel_rfl) ?_
              rw [← HPc.out] at hQ1
              have HQ1 := Lib.hid hQ1
              clear hQ1 hC1 hHeld z1 z2 z3 z4
              obtain ⟨d0, d1, d3⟩ := HCf.out _ HQ1.out.bel
              have hlp : (GL ++ (t.funcs.take j).flatMap textF ++ pc1.data.toList).length ≤ 9001000 := by
                have h1 := HL0.out
                have h2 := HPz.out
                have h3 : pc1.data.toList.length = pc1.size := rfl
                rw [List.length_append]
                omega
              have hC2 := Lib.hid (HPB.out _ _ HQ1.out (by omega))
              have HLp := Lib.hid hlp
              clear hlp
              go_wp2_with fail
              refine hC2.out.mono ?_
              rintro e V2 ⟨rfl, hQ2⟩
              have HQ2 := Lib.hid hQ2
              have hbd3 : (GL ++ (t.funcs.take j).flatMap textF ++ pc1.data.toList ++ showBlk (bodyOf ⟨name, params, body⟩)).length + ByteArray.size ⟨#[125, 10]⟩ ≤ 100000000 := by
                have h1 := HLp.out
                show _ + 2 ≤ _
                rw [List.length_append]
                omega
              have hC3 := Lib.hid (HBW.out ⟨#[125, 10]⟩ _ _ HQ2.out hbd3)
              clear hQ2 hC2 d0 d1 d3 hbd3
              go_wp2_with fail
              refine hC3.out.mono ?_
              rintro e V3 ⟨rfl, hQ3⟩
              have HZ := Lib.hid (hQ3.cast (l' := GL ++ (t.funcs.take (j + 1)).flatMap textF) (by rw [HSn.out, HPc.out]; unfold textF showF; simp [ByteArray.data_append, HSd.out, HCMe.out, intW]))
              clear hQ3 hC3
              go_wp2
              go_roundw
              case rel => exact ⟨j + 1, by omega, by go_num, HZ.out⟩
              case measure => simp [intOf]; omega
        · obtain rfl : j = nS := by omega
          have HB8 : Hid (BS w2.heap.size w2.heap.size R w2 wr) := by
            have := HB.out
            rw [List.take_of_length_le (by have := HnS.out; omega)] at this
            rw [HRR.out]
            exact this
          have HByt := Lib.hid (Tryz.Buffer_Bytes w2.heap.size w2.heap.size _ wr HB8.out.isb)
          have hlt3 : ¬ (j : Int) < (j : Int) := by omega
          clear HB
          go_wp2_with fail
          refine HByt.out.mono ?_
          rintro e W9 ⟨v9, rfl, hrow, n9, rfl⟩
          have HX9 : Hid (Ext w (wr.drewN n9)) := HX2.out.trans ((show Ext w2 wr from HB8.out.bel).trans (drewN_ext wr n9))
          have hr9 : RowB (wr.drewN n9) w.heap.size v9 R := by
            have h := hrow
            rw [Lib.byteCells_length] at h
            exact row_base h HX2.out.size
          clear hrow
          go_wp2
          go_ret
          exact ⟨_, rfl, hr9, HX9.out⟩
end Go.Proofs.YtolbngbedncemaaGreatDoor
