/- The reference's l2Lines answers as the model. Conditions: the statements are in order; a bound of their size. -/
import Derived.Test.YtolbngbedncemaaGreatDoorSpShow
import Derived.Test.YtolbngbedncemaaGreatDoorMdPrI
import Derived.Test.YtolbngbedncemaaGreatDoorCuts
import Derived.Deep.RegionHeld3
import Derived.IntWalk
set_option linter.unusedVariables false
set_option linter.unusedSimpArgs false
namespace Go.Proofs.YtolbngbedncemaaGreatDoor
open Go Go.RowKit Md Go.Proofs.YtolbngbedncemaaGreatDoorW.PrintLast

theorem info_pstP : (Tryz.prog.info? 54).map (·.size) = some 6 := by kernel_rfl
theorem blkP6 {w : World} {g t : Nat} {a0 a1 a2 a3 a4 a5 : Value} (h : Blk w g t #[a0, a1, a2, a3, a4, a5]) :
    w.cell? ⟨g, 0, none⟩ = some a0 ∧ w.cell? ⟨g, 1, none⟩ = some a1 ∧ w.cell? ⟨g, 2, none⟩ = some a2 ∧ w.cell? ⟨g, 3, none⟩ = some a3 ∧ w.cell? ⟨g, 4, none⟩ = some a4 ∧ w.cell? ⟨g, 5, none⟩ = some a5 :=
  ⟨(h.cell 0).trans rfl, (h.cell 1).trans rfl, (h.cell 2).trans rfl, (h.cell 3).trans rfl, (h.cell 4).trans rfl, (h.cell 5).trans rfl⟩
theorem blocksP_at {l : List PStmt} {k p : Nat} {x : PStmt} {sts : List St} (hx : l[k]? = some x) (h : blocks (l.drop k) p = some sts) : blocks (x :: l.drop (k + 1)) p = some sts := by
  obtain ⟨hk, e⟩ := List.getElem?_eq_some_iff.1 hx
  rwa [List.drop_eq_getElem_cons hk, e] at h
theorem cost_at {l : List PStmt} {k : Nat} {x : PStmt} (hx : l[k]? = some x) : cost (l.drop k) = costS x + cost (l.drop (k + 1)) := by
  obtain ⟨hk, e⟩ := List.getElem?_eq_some_iff.1 hx
  rw [List.drop_eq_getElem_cons hk, e, cost_cons]
theorem cost_drop (l : List PStmt) (k : Nat) : cost (l.drop k) ≤ cost l := by
  have := cost_append (l.take k) (l.drop k)
  rw [List.take_append_drop] at this
  omega
theorem cost_take (l : List PStmt) (k : Nat) : cost (l.take k) ≤ cost l := by
  have := cost_append (l.take k) (l.drop k)
  rw [List.take_append_drop] at this
  omega
theorem cost_len (l : List PStmt) : 100 * l.length ≤ cost l := by rw [cost_nodes]; omega
theorem stOk_three {s : PStmt} (h : stOk s = true) (hk : s.kind = 3) : ∃ y, grow s.f = some y := by
  simp only [stOk, Bool.and_eq_true] at h
  have := h.1.1.1.1.1.2
  rw [if_pos hk] at this
  exact Option.isSome_iff_exists.1 this

set_option maxRecDepth 1000000 in
set_option maxHeartbeats 0 in
theorem s_l2Lines (K : Foot) (n : Nat) : ∀ (l : List PStmt) (p : Nat) (sts : List St) (v : Value) (w : World), SlStmt K w v l → l.length = n → blocks l p = some sts → cost l ≤ 400000 →
    Calls Tryz.prog 31 #[v] w (Gives (.string (str (showBlk sts))) w) := by
  induction n using Nat.strongRecOn with
  | ind n ih =>
    intro l p sts v w hL hn hb hc
    obtain ⟨i1, hi1, hs1⟩ := Option.map_eq_some_iff.1 info_pstP
    obtain ⟨aL, len, cL, rfl, HlL, hlcL, hcmL, helL⟩ := hL.op
    have hll := HlL.out
    have hlm : len ≤ 4000 := by have := cost_len l; omega
    obtain ⟨R, hR⟩ : ∃ R, R = str (showBlk sts) := ⟨_, rfl⟩
    rw [← hR]
    have HL := Lib.hid hL
    have HB := Lib.hid hb
    have HR := Lib.hid hR
    have HN := Lib.hid hn
    have IH := Lib.hid ih
    have HC := Lib.hid hc
    clear hL hb hR hn ih hll hc
    go_enter Tryz.func31, Tryz.ntmps31
    go_wp2
    go_loopw [3, 4] (fun v3 i wr => ∃ (k : Nat) (s : ByteArray) (rst : List St), k ≤ len ∧ v3 = .string s ∧ i = .int .i64 k ∧ Hid (blocks (l.drop k) (p + k) = some rst) ∧ Hid (R = s ++ str (showBlk rst)) ∧ Hid (s.size + cost (l.drop k) ≤ cost l) ∧ Hid (Ext w wr)) (fun _ i _ => len - (intOf i).toNat)
    case atStart => exact ⟨0, ⟨#[]⟩, sts, Nat.zero_le _, rfl, rfl, by show _ = _; rw [List.drop_zero, Nat.add_zero]; exact HB.out, by
      show _ = _
      rw [HR.out]
      apply ByteArray.ext
      simp [str], by show _ ≤ _; rw [List.drop_zero]; simp [ByteArray.size], Ext.refl _⟩
    case round =>
      clear HB HR
      obtain ⟨k, s, rst, hk, rfl, rfl, HB, HR, HM, HX⟩ := hrel
      by_cases hlt : k < len
      · obtain ⟨b, o, rfl, _, hel⟩ := helL (by omega)
        obtain ⟨x, cs, hx, _, hC, hcs⟩ := hel k hlt
        obtain ⟨vE, vF, rfl, sE, sF, q1, q2, q3, q4⟩ := hC
        have hX := HX.out
        have c0 := hX.cell (hcs.z rfl)
        have c1 := hX.cell (hcs 1 _ rfl)
        have c2 := hX.cell (hcs 2 _ rfl)
        have c3 := hX.cell (hcs 3 _ rfl)
        have c4 := hX.cell (hcs 4 _ rfl)
        have c5 := hX.cell (hcs 5 _ rfl)
        obtain ⟨ex, T, U, Rr, hg, hok, ht0, hu0, hle, hbT, hbU, hbR, hsts⟩ := blocks_inv (blocksP_at hx HB.out)
        subst hsts
        have hr1 := HR.out
        rw [showBlk, showSt] at hr1
        have hkd := stOk_range hok
        have hnm := stOk_name hok
        have h3 := stOk_three hok
        have hcx := cost_at hx
        have hcd := cost_drop l k
        have hcut := cost_cut (l.drop (k + 1)) x.thn.toNat x.els.toNat
        have hsl := showS_len hok hg (showBlk T) (showBlk U)
        have hlT := showBlk_len _ _ _ _ (Nat.le_refl _) hbT
        have hlU := showBlk_len _ _ _ _ (Nat.le_refl _) hbU
        have hexl := showE_len ex (grow_ok hg)
        rw [grow_list hg] at hexl
        obtain ⟨aE, nE, cE, rfl⟩ := sE.shape
        obtain ⟨aFF, nFF, cFF, rfl⟩ := sF.shape
        have hce : x.e.length ≤ 10000 ∧ x.f.length ≤ 10000 := by have := HC.out; unfold costS at hcx; omega
        have hE1 : ∀ w', Ext wr w' → Calls Tryz.prog 61 #[.slice aE nE cE] w' (Gives (.string (str (showE ex))) w') := fun w' h =>
          s_l2Show ex (grow_ok hg) K _ w' (by rw [grow_list hg]; exact sE.ext (hX.trans h) (fun _ _ h => h.any)) (by rw [grow_list hg]; exact hce.1)
        have hF1 : ∀ y, grow x.f = some y → ∀ w', Ext wr w' → Calls Tryz.prog 61 #[.slice aFF nFF cFF] w' (Gives (.string (str (showE y))) w') := fun y hy w' h =>
          s_l2Show y (grow_ok hy) K _ w' (by rw [grow_list hy]; exact sF.ext (hX.trans h) (fun _ _ h => h.any)) (by rw [grow_list hy]; exact hce.2)
        obtain ⟨kind, name, xe, xf, thn, els⟩ := x
        simp only at *
        obtain ⟨tn, rfl⟩ := Int.eq_ofNat_of_zero_le ht0
        obtain ⟨un, rfl⟩ := Int.eq_ofNat_of_zero_le hu0
        simp only [Int.toNat_natCast] at hle hbT hbU hbR hcut hlT hlU
        have BX := Blk.alloc wr 54 #[.int .i64 kind, .string name, .slice aE nE cE, .slice aFF nFF cFF, .int .i64 tn, .int .i64 un]
        have X1 : Ext wr (wr.alloc (.cells #[.int .i64 kind, .string name, .slice aE nE cE, .slice aFF nFF cFF, .int .i64 tn, .int .i64 un] 54)) := (Ext.refl wr).alloc _
        have hTl : (l.drop (k + 1)).length = len - (k + 1) := by rw [List.length_drop, HlL.out]
        obtain ⟨y, hy⟩ : ∃ y, y = str (showE ex) := ⟨_, rfl⟩
        rw [← hy] at hE1
        have hyz : y.size ≤ 64 * xe.length := by rw [hy, str_size]; exact hexl
        have hHM := HM.out
        have hHC := HC.out
        have hcR : cost ((l.drop (k + 1)).drop (tn + un)) = cost (l.drop (k + 1 + tn + un)) := by rw [List.drop_drop, show k + 1 + (tn + un) = k + 1 + tn + un by omega]
        have hsz0 : s.size + y.size + 200 ≤ 500000 := by unfold costS at hcx; simp only at hcx; omega
        have HE1 := Lib.hid hE1
        have HF1 := Lib.hid hF1
        -- what is left to be shown behind each kind
        have HNext : Hid (∀ s' : ByteArray, s' = s ++ str (showS ⟨kind, name, xe, xf, tn, un⟩ ex (grow xf) (showBlk T) (showBlk U)) → R = s' ++ str (showBlk Rr) ∧ s'.size + cost (l.drop (k + 1 + tn + un)) ≤ cost l) := fun s' hs' => by
          refine ⟨by rw [hs', hr1, ByteArray.append_assoc, str_append], ?_⟩
          rw [hs', ByteArray.size_append, str_size, ← hcR]
          omega
        have HBR : Hid (blocks (l.drop (k + 1 + tn + un)) (p + (k + 1 + tn + un)) = some Rr) := by
          show _ = _
          have := hbR
          rw [List.drop_drop] at this
          rw [show k + 1 + tn + un = k + 1 + (tn + un) by omega, show p + (k + 1 + (tn + un)) = p + k + 1 + tn + un by omega]
          exact this
        have HIT : Hid (∀ w' vT, SlStmt K w' vT ((l.drop (k + 1)).take tn) → Calls Tryz.prog 31 #[vT] w' (Gives (.string (str (showBlk T))) w')) := fun w' vT hv =>
          IH.out _ (by rw [← HN.out, List.length_take]; have := HlL.out; omega) _ _ T vT w' hv rfl hbT (by have := cost_take (l.drop (k + 1)) tn; have := cost_drop l (k + 1); omega)
        have HIU : Hid (∀ w' vU, SlStmt K w' vU ((l.drop (k + 1 + tn)).take un) → Calls Tryz.prog 31 #[vU] w' (Gives (.string (str (showBlk U))) w')) := fun w' vU hv =>
          IH.out _ (by rw [← HN.out, List.length_take]; have := HlL.out; rw [List.length_drop]; omega) _ _ U vU w' hv rfl (by have := hbU; rw [List.drop_drop] at this; exact this) (by have := cost_take (l.drop (k + 1 + tn)) un; have := cost_drop l (k + 1 + tn); omega)
        have hsz3 : 64 * xf.length ≤ 400000 := by unfold costS at hcx; simp only at hcx; omega
        have hzT : (str (showBlk T)).size ≤ cost l ∧ (str (showBlk U)).size ≤ cost l ∧ s.size + (str (showBlk T)).size + (str (showBlk U)).size ≤ cost l := by
          rw [str_size, str_size]
          omega
        obtain ⟨ZT, hZT⟩ : ∃ ZT, ZT = str (showBlk T) := ⟨_, rfl⟩
        obtain ⟨ZU, hZU⟩ : ∃ ZU, ZU = str (showBlk U) := ⟨_, rfl⟩
        rw [← hZT] at HIT hzT
        rw [← hZU] at HIU hzT
        have hzt : ZT.size ≤ 400000 := by omega
        have hzu : ZU.size ≤ 400000 := by omega
        have HY := Lib.hid hy
        have HZT := Lib.hid hZT
        have HZU := Lib.hid hZU
        have H3 := Lib.hid h3
        have HLE := Lib.hid hle
        have hHX := Lib.hid hX
        clear hel hcs hx hr1 sE sF hok hle hbT hbU hbR ht0 hu0 hX hcx hcd hcut hsl hlT hlU hexl hce hE1 hF1 hHM hHC hcR hzT hy hZT hZU hg h3 HB HR HM hTl
        have g0 : (0 : Int) ≤ (k : Int) := by omega
        have g1 : (k : Int) < (len : Int) := by omega
        have y1 : IntKind.i64.wrap ((k : Int) + 1) = (k : Int) + 1 := IntWalk.i64_in _ (by omega)
        have hle := HLE.out
        rw [List.length_drop, HlL.out] at hle
        have y2 : IntKind.i64.wrap ((k : Int) + 1 + (tn : Int)) = (k : Int) + 1 + (tn : Int) := IntWalk.i64_in _ (by omega)
        have y3 : IntKind.i64.wrap ((k : Int) + 1 + (tn : Int) + (un : Int)) = (k : Int) + 1 + (tn : Int) + (un : Int) := IntWalk.i64_in _ (by omega)
        go_wp2_with fail
        refine (HE1.out _ X1).mono ?_
        rintro e w2 ⟨rfl, hX2⟩
        have X2 : Ext wr w2 := X1.trans hX2
        replace BX := BX.ext hX2
        clear hX2 X1 c0 c1 c2 c3 c4 c5 HE1
        obtain ⟨d0, d1, d2, d3, d4, d5⟩ := blkP6 BX
        have HXe := Lib.hid (HX.out.trans X2)
        by_cases hk1 : kind = 1
        · subst hk1
          have he : s ++ str [105, 110, 116, 32] ++ name ++ str [32, 61, 32] ++ y ++ str [59, 10] = s ++ str (showS ⟨1, name, xe, xf, tn, un⟩ ex (grow xf) (showBlk T) (showBlk U)) := by
            rw [HY.out]
            conv => lhs; rw [← str_data name]
            unfold showS intW
            simp [str_append, ByteArray.append_assoc]
          have HF := Lib.hid (HNext.out _ he)
          clear he HNext
          have z1 : ¬ 9223372036854775807 < s.size + 4 := by omega
          have z2 : ¬ 9223372036854775807 < s.size + 4 + name.size := by omega
          have z3 : ¬ 9223372036854775807 < s.size + 4 + name.size + 3 := by omega
          have z4 : ¬ 9223372036854775807 < s.size + 4 + name.size + 3 + y.size := by omega
          have z5 : ¬ 9223372036854775807 < s.size + 4 + name.size + 3 + y.size + 2 := by omega
          go_wp2
          go_roundw
          case rel => exact ⟨k + 1 + tn + un, _, Rr, by omega, rfl, by go_num, HBR.out, HF.out.1, HF.out.2, HXe.out⟩
          case measure => simp [intOf]; omega
        by_cases hk2 : kind = 2
        · subst hk2
          have he : s ++ name ++ str [32, 61, 32] ++ y ++ str [59, 10] = s ++ str (showS ⟨2, name, xe, xf, tn, un⟩ ex (grow xf) (showBlk T) (showBlk U)) := by
            rw [HY.out]
            conv => lhs; rw [← str_data name]
            unfold showS intW
            simp [str_append, ByteArray.append_assoc]
          have HF := Lib.hid (HNext.out _ he)
          clear he HNext
          have z1 : ¬ 9223372036854775807 < s.size + name.size := by omega
          have z2 : ¬ 9223372036854775807 < s.size + name.size + 3 := by omega
          have z3 : ¬ 9223372036854775807 < s.size + name.size + 3 + y.size := by omega
          have z4 : ¬ 9223372036854775807 < s.size + name.size + 3 + y.size + 2 := by omega
          go_wp2
          go_roundw
          case rel => exact ⟨k + 1 + tn + un, _, Rr, by omega, rfl, by go_num, HBR.out, HF.out.1, HF.out.2, HXe.out⟩
          case measure => simp [intOf]; omega
        by_cases hk3 : kind = 3
        · subst hk3
          obtain ⟨fx, hfx⟩ := H3.out rfl
          have HF3 := Lib.hid (HF1.out fx hfx)
          have hfl := showE_len fx (grow_ok hfx)
          rw [grow_list hfx] at hfl
          obtain ⟨z, hz⟩ : ∃ z, z = str (showE fx) := ⟨_, rfl⟩
          rw [← hz] at HF3
          have hzz : z.size ≤ 400000 := by rw [hz, str_size]; have := hsz3; omega
          have HZ := Lib.hid hz
          clear hz
          have he : s ++ name ++ str [91] ++ y ++ str [93, 32, 61, 32] ++ z ++ str [59, 10] = s ++ str (showS ⟨3, name, xe, xf, tn, un⟩ ex (grow xf) (showBlk T) (showBlk U)) := by
            rw [HY.out]
            rw [HZ.out, hfx]
            conv => lhs; rw [← str_data name]
            unfold showS intW
            simp [str_append, ByteArray.append_assoc]
          have HF := Lib.hid (HNext.out _ he)
          clear he HNext
          clear hfx hfl
          have z1 : ¬ 9223372036854775807 < s.size + name.size := by omega
          have z2 : ¬ 9223372036854775807 < s.size + name.size + 1 := by omega
          have z3 : ¬ 9223372036854775807 < s.size + name.size + 1 + y.size := by omega
          have z4 : ¬ 9223372036854775807 < s.size + name.size + 1 + y.size + 4 := by omega
          have z5 : ¬ 9223372036854775807 < s.size + name.size + 1 + y.size + 4 + z.size := by omega
          have z6 : ¬ 9223372036854775807 < s.size + name.size + 1 + y.size + 4 + z.size + 2 := by omega
          go_wp2_with fail
          have Xd : Ext w2 w2.drew := (Ext.refl w2).drew
          refine start_ (n := 14) (S := fun w' => w'.cell? ⟨wr.heap.size, 1, none⟩ = some (.string name) ∧ w'.cell? ⟨wr.heap.size, 3, none⟩ = some (.slice aFF nFF cFF)) (ds := []) #[false, false, false, false, false, false, false, false, false, false, false, false, false, false] (by kernel_rfl) rfl rfl ?hS (fun hHeld => ?_)
          case hS => exact ⟨Xd.cell d1, Xd.cell d3⟩
          refine pure_ (i := 0) (N := some 43) (v := ?_) (a' := ?_) #[true, false, false, false, false, false, false, false, false, false, false, false, false, false] rfl rfl (by kernel_rfl) (fun _ _ _ h => h) (Or.inl ⟨by rfl, ?_⟩) ?_ ?_
          rotate_left
          · intro w'
            go_simp
            with_reducible rfl
          rotate_left
          · simp only [Act.put, List.setIfInBounds_toArray, List.set_cons_zero, List.set_cons_succ, i64_w, i32_w]
            rfl
          refine pure_ (i := 1) (N := some 44) (v := ?_) (a' := ?_) #[true, true, false, false, false, false, false, false, false, false, false, false, false, false] rfl rfl (by kernel_rfl) (fun _ _ _ h => h) (Or.inl ⟨by rfl, ?_⟩) ?_ ?_
          rotate_left
          · intro w'
            go_simp
            with_reducible rfl
          rotate_left
          · simp only [Act.put, List.setIfInBounds_toArray, List.set_cons_zero, List.set_cons_succ, i64_w, i32_w]
            rfl
          refine take_ (i := 2) (N := some 45) (v := ?_) (a' := ?_) #[true, true, true, false, false, false, false, false, false, false, false, false, false, false] rfl rfl (by kernel_rfl) (fun _ _ _ h => h) (Or.inl ⟨by rfl, ?_⟩) hHeld ?_ ?_
          rotate_left
          · rintro w' ⟨s0, s1⟩
            go_simp
            with_reducible rfl
          rotate_left
          · simp only [Act.put, List.setIfInBounds_toArray, List.set_cons_zero, List.set_cons_succ, i64_w, i32_w]
            rfl
          refine pure_ (i := 3) (N := some 46) (v := ?_) (a' := ?_) #[true, true, true, true, false, false, false, false, false, false, false, false, false, false] rfl rfl (by kernel_rfl) (fun _ _ _ h => h) (Or.inl ⟨by rfl, ?_⟩) ?_ ?_
          rotate_left
          · intro w'
            go_simp
            with_reducible rfl
          rotate_left
          · simp only [Act.put, List.setIfInBounds_toArray, List.set_cons_zero, List.set_cons_succ, i64_w, i32_w]
            rfl
          refine pure_ (i := 4) (N := some 47) (v := ?_) (a' := ?_) #[true, true, true, true, true, false, false, false, false, false, false, false, false, false] rfl rfl (by kernel_rfl) (fun _ _ _ h => h) (Or.inl ⟨by rfl, ?_⟩) ?_ ?_
          rotate_left
          · intro w'
            go_simp
            with_reducible rfl
          rotate_left
          · simp only [Act.put, List.setIfInBounds_toArray, List.set_cons_zero, List.set_cons_succ, i64_w, i32_w]
            rfl
          refine pure_ (i := 5) (N := some 48) (v := ?_) (a' := ?_) #[true, true, true, true, true, true, false, false, false, false, false, false, false, false] rfl rfl (by kernel_rfl) (fun _ _ _ h => h) (Or.inl ⟨by rfl, ?_⟩) ?_ ?_
          rotate_left
          · intro w'
            go_simp
            with_reducible rfl
          rotate_left
          · simp only [Act.put, List.setIfInBounds_toArray, List.set_cons_zero, List.set_cons_succ, i64_w, i32_w]
            rfl
          refine pure_ (i := 6) (N := some 49) (v := ?_) (a' := ?_) #[true, true, true, true, true, true, true, false, false, false, false, false, false, false] rfl rfl (by kernel_rfl) (fun _ _ _ h => h) (Or.inl ⟨by rfl, ?_⟩) ?_ ?_
          rotate_left
          · intro w'
            go_simp
            with_reducible rfl
          rotate_left
          · simp only [Act.put, List.setIfInBounds_toArray, List.set_cons_zero, List.set_cons_succ, i64_w, i32_w]
            rfl
          refine pure_ (i := 7) (N := some 50) (v := ?_) (a' := ?_) #[true, true, true, true, true, true, true, true, false, false, false, false, false, false] rfl rfl (by kernel_rfl) (fun _ _ _ h => h) (Or.inl ⟨by rfl, ?_⟩) ?_ ?_
          rotate_left
          · intro w'
            go_simp
            with_reducible rfl
          rotate_left
          · simp only [Act.put, List.setIfInBounds_toArray, List.set_cons_zero, List.set_cons_succ, i64_w, i32_w]
            rfl
          refine pure_ (i := 8) (N := some 51) (v := ?_) (a' := ?_) #[true, true, true, true, true, true, true, true, true, false, false, false, false, false] rfl rfl (by kernel_rfl) (fun _ _ _ h => h) (Or.inl ⟨by rfl, ?_⟩) ?_ ?_
          rotate_left
          · intro w'
            go_simp
            with_reducible rfl
          rotate_left
          · simp only [Act.put, List.setIfInBounds_toArray, List.set_cons_zero, List.set_cons_succ, i64_w, i32_w]
            rfl
          refine take_ (i := 9) (N := some 52) (v := ?_) (a' := ?_) #[true, true, true, true, true, true, true, true, true, true, false, false, false, false] rfl rfl (by kernel_rfl) (fun _ _ _ h => h) (Or.inl ⟨by rfl, ?_⟩) hHeld ?_ ?_
          rotate_left
          · rintro w' ⟨s0, s1⟩
            go_simp
            with_reducible rfl
          rotate_left
          · simp only [Act.put, List.setIfInBounds_toArray, List.set_cons_zero, List.set_cons_succ, i64_w, i32_w]
            rfl
          generalize w2.drew = wd at Xd hHeld ⊢
          refine one_ (i := 10) (N := some 53) #[true, true, true, true, true, true, true, true, true, true, true, false, false, false] rfl rfl (by kernel_rfl) (by decide) (fun K hK => ?_)
          refine goes_ (N := some 53) Tryz.func61 (by kernel_rfl) rfl #[.slice aFF nFF cFF] (by rfl) rfl rfl (by simp [Act.eval]) ?_
          refine (HF3.out wd (X2.trans Xd)).mono ?_
          rintro e w5 ⟨rfl, hX5⟩
          refine ⟨_, rfl, ?_⟩
          refine hK.out _ _ ⟨hX5.cell hHeld.1, hX5.cell hHeld.2⟩ (fun hHeld => ?_)
          clear hK K
          refine norm_ (a' := ?_) ?_ ?_
          rotate_left
          · show Act.put _ (some 53) _ = _
            simp only [Act.put, List.setIfInBounds_toArray, List.set_cons_zero, List.set_cons_succ, i64_w, i32_w]
            rfl
          refine pure_ (i := 11) (N := some 54) (v := ?_) (a' := ?_) #[true, true, true, true, true, true, true, true, true, true, true, true, false, false] rfl rfl (by kernel_rfl) (fun _ _ _ h => h) (Or.inl ⟨by rfl, ?_⟩) ?_ ?_
          rotate_left
          · intro w'
            go_simp
            with_reducible rfl
          rotate_left
          · simp only [Act.put, List.setIfInBounds_toArray, List.set_cons_zero, List.set_cons_succ, i64_w, i32_w]
            rfl
          refine pure_ (i := 12) (N := some 55) (v := ?_) (a' := ?_) #[true, true, true, true, true, true, true, true, true, true, true, true, true, false] rfl rfl (by kernel_rfl) (fun _ _ _ h => h) (Or.inl ⟨by rfl, ?_⟩) ?_ ?_
          rotate_left
          · intro w'
            go_simp
            with_reducible rfl
          rotate_left
          · simp only [Act.put, List.setIfInBounds_toArray, List.set_cons_zero, List.set_cons_succ, i64_w, i32_w]
            rfl
          refine pure_ (i := 13) (N := some 3) (v := ?_) (a' := ?_) #[true, true, true, true, true, true, true, true, true, true, true, true, true, true] rfl rfl (by kernel_rfl) (fun _ _ _ h => h) (Or.inl ⟨by rfl, ?_⟩) ?_ ?_
          rotate_left
          · intro w'
            go_simp
            with_reducible rfl
          rotate_left
          · simp only [Act.put, List.setIfInBounds_toArray, List.set_cons_zero, List.set_cons_succ, i64_w, i32_w]
            rfl
          refine done_ (by kernel_rfl) ?_
          replace HXe := Lib.hid (HXe.out.trans (Xd.trans hX5))
          replace BX := BX.ext (Xd.trans hX5)
          clear hHeld Xd hX5 d0 d1 d2 d3 d4 d5
          obtain ⟨d0, d1, d2, d3, d4, d5⟩ := blkP6 BX
          go_wp2
          go_roundw
          case rel => exact ⟨k + 1 + tn + un, _, Rr, by omega, rfl, by go_num, HBR.out, HF.out.1, HF.out.2, HXe.out⟩
          case measure => simp [intOf]; omega
        by_cases hk6 : kind = 6
        · subst hk6
          have he : s ++ str [114, 101, 116, 117, 114, 110, 32] ++ y ++ str [59, 10] = s ++ str (showS ⟨6, name, xe, xf, tn, un⟩ ex (grow xf) (showBlk T) (showBlk U)) := by
            rw [HY.out]
            skip
            unfold showS intW
            simp [str_append, ByteArray.append_assoc]
          have HF := Lib.hid (HNext.out _ he)
          clear he HNext
          have z1 : ¬ 9223372036854775807 < s.size + 7 := by omega
          have z2 : ¬ 9223372036854775807 < s.size + 7 + y.size := by omega
          have z3 : ¬ 9223372036854775807 < s.size + 7 + y.size + 2 := by omega
          go_wp2
          go_roundw
          case rel => exact ⟨k + 1 + tn + un, _, Rr, by omega, rfl, by go_num, HBR.out, HF.out.1, HF.out.2, HXe.out⟩
          case measure => simp [intOf]; omega
        by_cases hk7 : kind = 7
        · subst hk7
          have he : s ++ str [111, 117, 116, 40] ++ y ++ str [41, 59, 10] = s ++ str (showS ⟨7, name, xe, xf, tn, un⟩ ex (grow xf) (showBlk T) (showBlk U)) := by
            rw [HY.out]
            skip
            unfold showS intW
            simp [str_append, ByteArray.append_assoc]
          have HF := Lib.hid (HNext.out _ he)
          clear he HNext
          have z1 : ¬ 9223372036854775807 < s.size + 4 := by omega
          have z2 : ¬ 9223372036854775807 < s.size + 4 + y.size := by omega
          have z3 : ¬ 9223372036854775807 < s.size + 4 + y.size + 3 := by omega
          go_wp2
          go_roundw
          case rel => exact ⟨k + 1 + tn + un, _, Rr, by omega, rfl, by go_num, HBR.out, HF.out.1, HF.out.2, HXe.out⟩
          case measure => simp [intOf]; omega
        by_cases hk8 : kind = 8
        · subst hk8
          have he : s ++ y ++ str [59, 10] = s ++ str (showS ⟨8, name, xe, xf, tn, un⟩ ex (grow xf) (showBlk T) (showBlk U)) := by
            rw [HY.out]
            skip
            unfold showS intW
            simp [str_append, ByteArray.append_assoc]
          have HF := Lib.hid (HNext.out _ he)
          clear he HNext
          have z1 : ¬ 9223372036854775807 < s.size + y.size := by omega
          have z2 : ¬ 9223372036854775807 < s.size + y.size + 2 := by omega
          go_wp2
          go_roundw
          case rel => exact ⟨k + 1 + tn + un, _, Rr, by omega, rfl, by go_num, HBR.out, HF.out.1, HF.out.2, HXe.out⟩
          case measure => simp [intOf]; omega
        by_cases hk5 : kind = 5
        · subst hk5
          have he : s ++ str [119, 104, 105, 108, 101, 32, 40] ++ y ++ str [41, 32, 123, 10] ++ ZT ++ str [125, 10] = s ++ str (showS ⟨5, name, xe, xf, tn, un⟩ ex (grow xf) (showBlk T) (showBlk U)) := by
            rw [HY.out]
            rw [HZT.out]
            skip
            unfold showS intW
            simp [str_append, ByteArray.append_assoc]
          have HF := Lib.hid (HNext.out _ he)
          clear he HNext
          have z1 : ¬ 9223372036854775807 < s.size + 7 := by omega
          have z2 : ¬ 9223372036854775807 < s.size + 7 + y.size := by omega
          have z3 : ¬ 9223372036854775807 < s.size + 7 + y.size + 4 := by omega
          have z4 : ¬ 9223372036854775807 < s.size + 7 + y.size + 4 + ZT.size := by omega
          have z5 : ¬ 9223372036854775807 < s.size + 7 + y.size + 4 + ZT.size + 2 := by omega
          obtain ⟨aQ, hcutQ, hatQ⟩ := cut_mid_int Tryz.underlying49 hi1 hs1 (some ⟨b, o, none⟩) len cL (k + 1) (k + 1 + tn) ((k : Int) + 1) ((k : Int) + 1 + (tn : Int)) (by omega) (by omega) (by omega) (by omega)
          have hsl := (HL.out.ext HXe.out (fun _ _ h' => h'.ext HXe.out)).cutAt (k + 1) tn (by omega) (c := cL - (k + 1)) (by omega) (by omega) (by rw [show k + 1 + tn - (k + 1) = tn by omega] at hatQ; exact hatQ)
          rw [show k + 1 + tn - (k + 1) = tn by omega] at hcutQ
          have HCT := Lib.hid (HIT.out w2 _ hsl)
          clear hsl hatQ
          go_wp2_with fail
          refine HCT.out.mono ?_
          rintro e w5 ⟨rfl, hX5⟩
          replace HXe := Lib.hid (HXe.out.trans hX5)
          replace BX := BX.ext hX5
          clear hX5 d0 d1 d2 d3 d4 d5 hcutQ
          obtain ⟨d0, d1, d2, d3, d4, d5⟩ := blkP6 BX
          go_wp2
          go_roundw
          case rel => exact ⟨k + 1 + tn + un, _, Rr, by omega, rfl, by go_num, HBR.out, HF.out.1, HF.out.2, HXe.out⟩
          case measure => simp [intOf]; omega
        obtain rfl : kind = 4 := by omega
        obtain ⟨aQ, hcutQ, hatQ⟩ := cut_mid_int Tryz.underlying49 hi1 hs1 (some ⟨b, o, none⟩) len cL (k + 1) (k + 1 + tn) ((k : Int) + 1) ((k : Int) + 1 + (tn : Int)) (by omega) (by omega) (by omega) (by omega)
        have hsl := (HL.out.ext HXe.out (fun _ _ h' => h'.ext HXe.out)).cutAt (k + 1) tn (by omega) (c := cL - (k + 1)) (by omega) (by omega) (by rw [show k + 1 + tn - (k + 1) = tn by omega] at hatQ; exact hatQ)
        rw [show k + 1 + tn - (k + 1) = tn by omega] at hcutQ
        have HCT := Lib.hid (HIT.out w2 _ hsl)
        clear hsl hatQ
        have z1 : ¬ 9223372036854775807 < s.size + 4 := by omega
        have z2 : ¬ 9223372036854775807 < s.size + 4 + y.size := by omega
        have z3 : ¬ 9223372036854775807 < s.size + 4 + y.size + 4 := by omega
        have z4 : ¬ 9223372036854775807 < s.size + 4 + y.size + 4 + ZT.size := by omega
        go_wp2_with fail
        refine HCT.out.mono ?_
        rintro e w5 ⟨rfl, hX5⟩
        replace HXe := Lib.hid (HXe.out.trans hX5)
        replace BX := BX.ext hX5
        clear hX5 d0 d1 d2 d3 d4 d5 hcutQ
        obtain ⟨d0, d1, d2, d3, d4, d5⟩ := blkP6 BX
        by_cases hun : un = 0
        · subst hun
          have hu0 : ¬ (0 : Int) < ((0 : Nat) : Int) := by omega
          have he : s ++ str [105, 102, 32, 40] ++ y ++ str [41, 32, 123, 10] ++ ZT ++ str [125, 10] = s ++ str (showS ⟨4, name, xe, xf, tn, (0 : Nat)⟩ ex (grow xf) (showBlk T) (showBlk U)) := by
            rw [HY.out]
            rw [HZT.out]
            skip
            unfold showS intW
            simp [str_append, ByteArray.append_assoc]
          have HF := Lib.hid (HNext.out _ he)
          clear he HNext
          have z5 : ¬ 9223372036854775807 < s.size + 4 + y.size + 4 + ZT.size + 2 := by omega
          go_wp2
          go_roundw
          case rel => exact ⟨k + 1 + tn + 0, _, Rr, by omega, rfl, by go_num, HBR.out, HF.out.1, HF.out.2, HXe.out⟩
          case measure => simp [intOf]; omega
        · have hu0 : (0 : Int) < (un : Int) := by omega
          have he : s ++ str [105, 102, 32, 40] ++ y ++ str [41, 32, 123, 10] ++ ZT ++ str [125, 32, 101, 108, 115, 101, 32, 123, 10] ++ ZU ++ str [125, 10] = s ++ str (showS ⟨4, name, xe, xf, tn, un⟩ ex (grow xf) (showBlk T) (showBlk U)) := by
            rw [HY.out]
            rw [HZT.out, HZU.out]
            skip
            unfold showS intW
            simp [str_append, ByteArray.append_assoc, hun]
          have HF := Lib.hid (HNext.out _ he)
          clear he HNext
          have z5 : ¬ 9223372036854775807 < s.size + 4 + y.size + 4 + ZT.size + 9 := by omega
          have z6 : ¬ 9223372036854775807 < s.size + 4 + y.size + 4 + ZT.size + 9 + ZU.size := by omega
          have z7 : ¬ 9223372036854775807 < s.size + 4 + y.size + 4 + ZT.size + 9 + ZU.size + 2 := by omega
          obtain ⟨aU, hcutU, hatU⟩ := cut_mid_int Tryz.underlying49 hi1 hs1 (some ⟨b, o, none⟩) len cL (k + 1 + tn) (k + 1 + tn + un) ((k : Int) + 1 + (tn : Int)) ((k : Int) + 1 + (tn : Int) + (un : Int)) (by omega) (by omega) (by omega) (by omega)
          have hsl := (HL.out.ext HXe.out (fun _ _ h' => h'.ext HXe.out)).cutAt (k + 1 + tn) un (by omega) (c := cL - (k + 1 + tn)) (by omega) (by omega) (by rw [show k + 1 + tn + un - (k + 1 + tn) = un by omega] at hatU; exact hatU)
          rw [show k + 1 + tn + un - (k + 1 + tn) = un by omega] at hcutU
          have HCU := Lib.hid (HIU.out w5 _ hsl)
          clear hsl hatU
          go_wp2_with fail
          refine HCU.out.mono ?_
          rintro e w6 ⟨rfl, hX6⟩
          replace HXe := Lib.hid (HXe.out.trans hX6)
          replace BX := BX.ext hX6
          clear hX6 d0 d1 d2 d3 d4 d5 hcutU
          obtain ⟨d0, d1, d2, d3, d4, d5⟩ := blkP6 BX
          go_wp2
          go_roundw
          case rel => exact ⟨k + 1 + tn + un, _, Rr, by omega, rfl, by go_num, HBR.out, HF.out.1, HF.out.2, HXe.out⟩
          case measure => simp [intOf]; omega
      · obtain rfl : k = len := by omega
        have HRe : Hid (R = s) := by
          show _ = _
          have h1 := HB.out
          rw [List.drop_eq_nil_of_le (by rw [HlL.out]; omega), blocks] at h1
          cases h1
          rw [HR.out, showBlk]
          apply ByteArray.ext
          simp [str]
        clear HB HR HM
        go_wp2
        go_ret
        exact ⟨by rw [HRe.out]; rfl, HX.out⟩
end Go.Proofs.YtolbngbedncemaaGreatDoor
