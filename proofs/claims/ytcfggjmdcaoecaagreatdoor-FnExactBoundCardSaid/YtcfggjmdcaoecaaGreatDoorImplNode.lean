/- impl's scope.find and scope.use answer as the model. -/
import Derived.Test.YtcfggjmdcaoecaaGreatDoorMdSc
import Derived.Test.YtcfggjmdcaoecaaGreatDoorImplCkC
import Derived.Test.YtcfggjmdcaoecaaGreatDoorApp2
import Derived.Test.YtcfggjmdcaoecaaGreatDoorWLast
import Derived.Defers
set_option linter.unusedVariables false
set_option linter.unusedSimpArgs false
namespace Go.Proofs.YtcfggjmdcaoecaaGreatDoor
open Go Go.RowKit Md

theorem zero_var (w : World) : (zeroValue 144).run Tryz.prog w = .ok (.agg #[.bool false]) w := by kernel_rfl
theorem take_down {mm : List MP} {J : Nat} {m : MP} (h : mm[J]? = some m) (s : ByteArray) : lookM (mm.take (J + 1)) s = match assoc m s with | some v => some v | none => lookM (mm.take J) s := by
  rw [take_snoc h, lookM_snoc]
  cases assoc m s <;> rfl
set_option maxRecDepth 100000 in
set_option maxHeartbeats 2000000 in
theorem i_find (base : Nat) (v : Value) (ms : List Nat) (mm : List MP) (s : ByteArray) (w : World) (h : ScAt w base v ms mm) (hl : ms.length ≤ 2000) (hv : ∀ u, lookM mm s = some u → ∃ b, u = varV b) :
    Calls Tryz.prog 184 #[v, .string s] w (Gives (.tuple #[(lookM mm s).getD (varV false), .bool (lookM mm s).isSome]) w) := by
  obtain ⟨n, hn⟩ : ∃ n, n = ms.length := ⟨_, rfl⟩
  obtain ⟨a, c, rfl⟩ := rw_form0 h.row
  have H := Lib.hid h
  rw [← hn] at hl
  have HN := Lib.hid hn
  have HV := Lib.hid hv
  obtain ⟨R, hR⟩ : ∃ R, R = lookM mm s := ⟨_, rfl⟩
  rw [← hR]
  have HR := Lib.hid hR
  have BF := Blk.alloc w 144 #[.bool false]
  have X0 : Ext w (w.alloc (.cells #[.bool false] 144)) := (Ext.refl w).alloc _
  clear h hv hR
  rw [← hn]
  clear hn
  go_enter Tryz.func184, Tryz.ntmps184
  go_wp2
  obtain ⟨w1, hw1⟩ : ∃ w1, w1 = w.alloc (.cells #[.bool false] 144) := ⟨_, rfl⟩
  rw [← hw1] at BF X0 ⊢
  have HX0 := Lib.hid X0
  have HBF := Lib.hid BF
  clear hw1 BF X0
  go_loopw [6] (fun i wr => ∃ J : Nat, J ≤ n ∧ i = .int .i64 ((J : Int) - 1) ∧ Hid (R = lookM (mm.take J) s) ∧ Ext w1 wr) (fun i _ => (intOf i + 1).toNat)
  case atStart => exact ⟨n, Nat.le_refl _, by go_num, by rw [HN.out, H.out.len, List.take_length]; exact HR.out, Ext.refl _⟩
  case round =>
    obtain ⟨J, hJ, rfl, HA, hX⟩ := hrel
    have b0 : wr.cell? ⟨w.heap.size, 0, none⟩ = some (.bool false) := hX.cell ((HBF.out.cell 0).trans rfl)
    have f0 := (HBF.out.ext hX).frozen 0
    rcases Nat.eq_zero_or_pos J with rfl | hJ0
    · have HRn : Hid (R = none) := HA.out
      go_wp2
      refine bodyPost_ret (v := .tuple #[.agg #[.bool false], .bool false]) (by simp [results, Tryz.results184, go_sem, b0]) rfl ?_
      exact ⟨by rw [HRn.out]; rfl, Below.setCell (HX0.out.trans hX) (p := ⟨w.heap.size, 0, none⟩) (Nat.le_refl _) _⟩
    · obtain ⟨q, rfl⟩ : ∃ q, J = q + 1 := ⟨J - 1, by omega⟩
      have hXw := HX0.out.trans hX
      obtain ⟨bm, m, hbm, hmm, hM⟩ := (H.out.ext hXw).get (i := q) (by rw [← HN.out]; omega)
      obtain ⟨g0, d0, e0, _, _, hl0, hm0⟩ := rw_form (H.out.ext hXw).row (by rw [← HN.out]; omega)
      obtain ⟨rfl, rfl⟩ : some ⟨g0, 0, none⟩ = a ∧ d0 = c := by cases e0; exact ⟨rfl, rfl⟩
      have c0 := (rw_at (H.out.ext hXw).row (i := q) (u := .map (some bm)) (by rw [List.getElem?_map, hbm]; rfl)).1
      have hA := HA.out
      rw [take_down hmm] at hA
      have hlk : (Instr.lookup 142 (.map (some bm)) (.string s) true).run Tryz.prog wr = _ := run_look (kk := strKey) hM Tryz.underlying142 Tryz.underlying9 (zero_var wr) s
      have p0 : wrap64 (((q + 1 : Nat) : Int) - 1) = (q : Int) := by unfold wrap64; omega
      have z0 : (0 : Int) ≤ (q : Int) := by omega
      have z1 : (q : Int) < (n : Int) := by omega
      have p1 : ((q + 1 : Nat) : Int) - 1 = (q : Int) := by omega
      rw [p1]
      clear hM hbm hmm e0 p0 p1
      cases ha : assoc m s with
      | none =>
        rw [ha] at hlk hA
        have HA2 := Lib.hid hA
        clear ha hA HA
        simp only [Option.getD_none, Option.isSome_none] at hlk
        go_wp2
        go_roundw
        case rel => exact ⟨q, by omega, by go_num, HA2.out, hX.alloc _⟩
        case measure => simp [intOf]
      | some u =>
        rw [ha] at hlk hA
        simp only at hA
        have HRs := Lib.hid hA
        obtain ⟨b, rfl⟩ := HV.out u (by rw [← HR.out]; exact hA)
        clear ha hA HA
        simp only [Option.getD_some, Option.isSome_some, varV] at hlk
        have b1 : (wr.alloc (.cells #[.bool b] 144)).cell? ⟨w.heap.size, 0, none⟩ = some (.bool false) := ((Ext.refl wr).alloc _).cell b0
        have f1 : (wr.alloc (.cells #[.bool b] 144)).frozen? ⟨w.heap.size, 0, none⟩ = false := ((HBF.out.ext hX).ext ((Ext.refl wr).alloc _)).frozen 0
        go_wp2
        refine bodyPost_ret (v := .tuple #[.agg #[.bool b], .bool true]) (by simp [results, Tryz.results184, go_sem, b1]) rfl ?_
        exact ⟨by rw [HRs.out]; rfl, Below.setCell (hXw.alloc _) (p := ⟨w.heap.size, 0, none⟩) (Nat.le_refl _) _⟩
set_option maxRecDepth 100000 in
set_option maxHeartbeats 2000000 in
theorem i_use (base : Nat) (t : PTree) (v : Value) (ms : List Nat) (mm : List MP) (sc : List ByteArray) (s : ByteArray) (arr : Bool) (w : World) (h : ScAt w base v ms mm) (hl : ms.length ≤ 2000) (hN : Names t mm sc) :
    Calls Tryz.prog 177 #[v, .string s, .bool arr] w (Gives (.int .i64 (useE t sc s arr)) w) := by
  have hu := use_cases hN s arr
  have HF := Lib.hid (i_find base v ms mm s w h hl (fun u hu2 => by
    rcases hu with ⟨h1, _⟩ | ⟨b, h1, _⟩
    · rw [h1] at hu2; cases hu2
    · rw [h1] at hu2; cases hu2; exact ⟨b, rfl⟩))
  obtain ⟨R, hR⟩ : ∃ R, R = useE t sc s arr := ⟨_, rfl⟩
  rw [← hR] at hu ⊢
  obtain ⟨a, c, rfl⟩ := rw_form0 h.row
  clear h hN hR
  rcases hu with ⟨h1, h2⟩ | ⟨b, h1, h2⟩
  · rw [h1] at HF
    have HR := Lib.hid h2
    clear h1 h2
    simp only [Option.getD_none, Option.isSome_none, varV] at HF
    go_enter Tryz.func177, Tryz.ntmps177
    go_wp2_with fail
    refine HF.out.mono ?_
    rintro e w2 ⟨rfl, hX2⟩
    go_wp2
    go_ret
    exact Gives.int HR.out.symm (hX2.alloc _)
  · rw [h1] at HF
    have HR := Lib.hid h2
    clear h1 h2
    simp only [Option.getD_some, Option.isSome_some, varV] at HF
    by_cases hb : b = arr
    · have hq : (b == arr) = true := by simpa using hb
      have HR2 : Hid (R = 0) := by
        show _ = _
        rw [HR.out, if_pos hb]
      subst hb
      go_enter Tryz.func177, Tryz.ntmps177
      go_wp2_with fail
      refine HF.out.mono ?_
      rintro e w2 ⟨rfl, hX2⟩
      go_wp2
      go_ret
      exact Gives.int HR2.out.symm (hX2.alloc _)
    · have hq : (b == arr) = false := by simpa using hb
      have HR2 : Hid (R = 5) := by
        show _ = _
        rw [HR.out, if_neg hb]
      clear hb
      go_enter Tryz.func177, Tryz.ntmps177
      go_wp2_with fail
      refine HF.out.mono ?_
      rintro e w2 ⟨rfl, hX2⟩
      go_wp2
      go_ret
      exact Gives.int HR2.out.symm (hX2.alloc _)
end Go.Proofs.YtcfggjmdcaoecaaGreatDoor

/- impl's checker.node answers as the model. -/
set_option linter.unusedVariables false
set_option linter.unusedSimpArgs false
namespace Go.Proofs.YtcfggjmdcaoecaaGreatDoor
open Go Go.RowKit Md

set_option maxRecDepth 1000000 in
set_option maxHeartbeats 4000000 in
theorem i_node (K : Foot) (base : Nat) (t : PTree) (fs : List Fn) (ub : Value) (fn : Int) (C T : Nat) (v : Value) (ms : List Nat) (mm : List MP) (tk : MP) (sc : List ByteArray) (n : PNode) (w : World)
    (hU : UnitAt K w ub t fs) (h : CkS w base ub fn C T v ms mm tk) (hl : ms.length ≤ 2000) (hN : Names t mm sc) :
    Calls Tryz.prog 176 #[.pointer (some ⟨C, 0, none⟩), .agg #[.int .i64 n.kind, .int .i64 n.val, .string n.name]] w (Gives (.int .i64 (nodeE t sc n)) w) := by
  obtain ⟨kd, vl, nm⟩ := n
  simp only
  have HUse : Hid (∀ (arr : Bool) w', Ext w w' → Calls Tryz.prog 177 #[v, .string nm, .bool arr] w' (Gives (.int .i64 (useE t sc nm arr)) w')) := fun arr w' hX => i_use base t v ms mm sc nm arr w' (h.sc.ext hX) hl hN
  obtain ⟨b, vG, vF, vs, ps, rfl, _, hc, hG, hF, _⟩ := hU
  have HFN : Hid (∀ w', Ext w w' → Calls Tryz.prog 74 #[.agg #[vG, vF], .string nm] w' (Gives (.int .i64 (findF t nm)) w')) := fun w' hX => i_funcNamed K t vG vF nm w' (hG.ext hX (fun _ _ h => h.any)) (hF.ext hX (fun _ _ h => h.ext hX))
  obtain ⟨aG, nG, cG, rfl⟩ := hG.shape
  obtain ⟨aF, nF, cF, rfl, HlF, hlcF, hcmF, helF⟩ := hF.op
  obtain ⟨a, c, rfl⟩ := rw_form0 h.sc.row
  obtain ⟨w1, hw1⟩ : ∃ w1, w1 = w.alloc (.cells #[.int .i64 kd, .int .i64 vl, .string nm] 104) := ⟨_, rfl⟩
  have BX : Blk w1 w.heap.size 104 #[.int .i64 kd, .int .i64 vl, .string nm] := by rw [hw1]; exact Blk.alloc _ _ _
  have X0 : Ext w w1 := by rw [hw1]; exact (Ext.refl w).alloc _
  have u0 := X0.cell (hc 0 _ rfl)
  have u1 := X0.cell (hc 1 _ rfl)
  have c0 := X0.cell ((h.blk.cell 0).trans (show _ = some (Value.pointer (some ⟨b, 0, none⟩)) from rfl))
  have c2 := X0.cell ((h.blk.cell 2).trans (show _ = some (Value.slice a ms.length c) from rfl))
  have d0 : w1.cell? ⟨w.heap.size, 0, none⟩ = some (.int .i64 kd) := (BX.cell 0).trans rfl
  have d1 : w1.cell? ⟨w.heap.size, 1, none⟩ = some (.int .i64 vl) := (BX.cell 1).trans rfl
  have d2 : w1.cell? ⟨w.heap.size, 2, none⟩ = some (.string nm) := (BX.cell 2).trans rfl
  obtain ⟨R, hR⟩ : ∃ R, R = nodeE t sc ⟨kd, vl, nm⟩ := ⟨_, rfl⟩
  rw [← hR]
  have HR := Lib.hid hR
  have HX0 := Lib.hid X0
  have HF := Lib.hid hF
  have HW1 := Lib.hid hw1
  clear hc hG hF h hR hw1 BX X0 hN
  by_cases h2 : kd = 2
  · subst h2
    have HRr : Hid (R = useE t sc nm false) := HR.out
    have HU2 := Lib.hid (HUse.out false)
    go_enter Tryz.func176, Tryz.ntmps176
    rw [HW1.out] at c0 c2 d0 d2
    go_wp2_with fail
    rw [← HW1.out] at c0 c2 d0 d2 ⊢
    go_region_held3 (fun w' => w'.cell? ⟨C, 2, none⟩ = some (.slice a ms.length c) ∧ w'.cell? ⟨w.heap.size, 2, none⟩ = some (.string nm))
      (first | go_keep | (refine ⟨hX3.cell ?_, hX3.cell ?_⟩ <;> simp [*]))
      (first | (go_at_call 177; (refine (HU2.out _ (HX0.out.drew)).mono ?_); rintro e3 w3 ⟨rfl, hX3⟩))
    go_wp2
    go_ret
    exact Gives.int HRr.out.symm ((HX0.out.drew).trans hX3)
  by_cases h3 : kd = 3
  · subst h3
    have HRr : Hid (R = useE t sc nm true) := HR.out
    have HU2 := Lib.hid (HUse.out true)
    go_enter Tryz.func176, Tryz.ntmps176
    rw [HW1.out] at c0 c2 d0 d2
    go_wp2_with fail
    rw [← HW1.out] at c0 c2 d0 d2 ⊢
    go_region_held3 (fun w' => w'.cell? ⟨C, 2, none⟩ = some (.slice a ms.length c) ∧ w'.cell? ⟨w.heap.size, 2, none⟩ = some (.string nm))
      (first | go_keep | (refine ⟨hX3.cell ?_, hX3.cell ?_⟩ <;> simp [*]))
      (first | (go_at_call 177; (refine (HU2.out _ (HX0.out.drew)).mono ?_); rintro e3 w3 ⟨rfl, hX3⟩))
    go_wp2
    go_ret
    exact Gives.int HRr.out.symm ((HX0.out.drew).trans hX3)
  by_cases h4 : kd = 4
  · subst h4
    have HRr : Hid (R = if findF t nm < 0 then 4 else if arityF t (findF t nm) = vl then 0 else 6) := HR.out
    have hr := findF_range t nm
    unfold arityF at HRr
    go_enter Tryz.func176, Tryz.ntmps176
    rw [HW1.out] at c0 c2 d0 d1 d2 u0 u1
    go_wp2_with fail
    rw [← HW1.out] at c0 c2 d0 d1 d2 u0 u1 ⊢
    go_region_held3 (fun w' => w'.cell? ⟨C, 0, none⟩ = some (.pointer (some ⟨b, 0, none⟩)) ∧ w'.cell? ⟨b, 0, none⟩ = some (.slice aG nG cG) ∧ w'.cell? ⟨b, 1, none⟩ = some (.slice aF nF cF) ∧ w'.cell? ⟨w.heap.size, 2, none⟩ = some (.string nm))
      (first | go_keep | (refine ⟨hX3.cell ?_, hX3.cell ?_, hX3.cell ?_, hX3.cell ?_⟩ <;> simp [*]))
      (first | (go_at_call 74; (refine (HFN.out _ (HX0.out.drew)).mono ?_); rintro e3 w3 ⟨rfl, hX3⟩))
    have hX13 : Ext w1 w3 := ((Ext.refl w1).drew).trans hX3
    have HX13 := Lib.hid (HX0.out.trans hX13)
    have u1 := hX13.cell u1
    have c0 := hX13.cell c0
    have d1 := hX13.cell d1
    clear hX13 hX3 u0 c2 d0 d2
    generalize findF t nm = u at hr HRr
    rcases hr with rfl | ⟨u0, u2, fm, hfm, _⟩
    · have HR4 : Hid (R = 4) := HRr.out
      go_wp2
      go_ret
      exact Gives.int HR4.out.symm HX13.out
    · obtain ⟨m, rfl⟩ : ∃ m : Nat, u = m := ⟨u.toNat, by omega⟩
      have hmF : m < nF := by have := HlF.out; omega
      obtain ⟨bF, oF, rfl, _, hel⟩ := helF (by omega)
      obtain ⟨g, cs, hg, _, hC, hcs⟩ := hel m hmF
      obtain ⟨vP, vB, rfl, sP, _⟩ := hC
      obtain ⟨aP, nP, cP, rfl⟩ := sP.shape
      have hlP := sl_len sP
      have e1 := HX13.out.cell (hcs 1 _ rfl)
      have HR5 : Hid (R = if (nP : Int) = vl then 0 else 6) := by
        show _ = _
        rw [HRr.out, if_neg (by omega), Int.toNat_natCast, hg]
        simp only [hlP]
      have g0 : ¬ ((m : Int) < 0) := by omega
      have g1 : (0 : Int) ≤ (m : Int) := by omega
      have g2 : (m : Int) < (nF : Int) := by omega
      clear hel hcs hg hfm sP hlP u0 u2 HRr
      by_cases hp : (nP : Int) = vl
      · have HR6 : Hid (R = 0) := by
          show _ = _
          rw [HR5.out, if_pos hp]
        have hq : (vl == (nP : Int)) = true := by simp [hp]
        subst hp
        go_wp2_with fail
        go_quiet (fail)
        go_wp2
        go_ret
        exact Gives.int HR6.out.symm (HX13.out.trans (drewN_ext w3 _))
      · have HR6 : Hid (R = 6) := by
          show _ = _
          rw [HR5.out, if_neg hp]
        have hq : (vl == (nP : Int)) = false := by simpa using fun e => hp e.symm
        clear hp
        go_wp2_with fail
        go_quiet (fail)
        go_wp2
        go_ret
        exact Gives.int HR6.out.symm (HX13.out.trans (drewN_ext w3 _))
  · have HRr : Hid (R = 0) := by
      show _ = _
      rw [HR.out]
      unfold nodeE
      rw [if_neg h2, if_neg h3, if_neg h4]
    have q2 : (kd == 2) = false := by simpa using h2
    have q3 : (kd == 3) = false := by simpa using h3
    have q4 : (kd == 4) = false := by simpa using h4
    go_enter Tryz.func176, Tryz.ntmps176
    rw [HW1.out] at d0
    go_wp2
    go_ret
    exact Gives.int HRr.out.symm ((Ext.refl w).alloc _)
end Go.Proofs.YtcfggjmdcaoecaaGreatDoor

/- impl's deferred closure in checker.block: the last map of names is given up. -/
set_option linter.unusedVariables false
set_option linter.unusedSimpArgs false
namespace Go.Proofs.YtcfggjmdcaoecaaGreatDoor
open Go Go.RowKit Md Go.Proofs.YtcfggjmdcaoecaaGreatDoorW.PrintLast

theorem cut_back {P : Program} {t e : TypeId} {i : TypeInfo} (ht : P.underlying t = some (.slice e)) (hi : P.info? e = some i) (g n c up : Nat) (li : Int) (hl : li = up) (h1 : up ≤ n) (h2 : n ≤ c) (h3 : 0 < up) :
    ∀ W : World, (Instr.slice t (.slice (some ⟨g, 0, none⟩) n c) none (some (.int .i64 li)) none).run P W = .ok (.slice (some ⟨g, 0, none⟩) up c) W := by
  subst hl
  have hel : P.elem t = e := by simp [Program.elem, ht]
  have hu : P.underlying t = some (.slice (P.elem t)) := by rw [hel]; exact ht
  intro W
  rw [run_slice_h W t _ n c hu .i64 (up : Int) (by omega) (by omega), hel]
  have hc : ¬ c = 0 := by omega
  simp [sizeOf, typeInfo, hi, sliced, Result.andThen, Addr.add, hc]
theorem info_map : (Tryz.prog.info? 142).map (fun i => (i.zero, i.size, i.bytes)) = some (some (.map none), 1, 8) := by kernel_rfl
set_option maxRecDepth 100000 in
set_option maxHeartbeats 2000000 in
theorem i_pop (base : Nat) (ub : Value) (fn : Int) (C T Bc : Nat) (v : Value) (ms : List Nat) (b : Nat) (mm : List MP) (m tk : MP) (u : FrameMode) (w : World)
    (hB : Blk w Bc 208 #[.pointer (some ⟨C, 0, none⟩)]) (h : CkS w base ub fn C T v (ms ++ [b]) (mm ++ [m]) tk) (h0 : 0 < ms.length) (h1 : ms.length ≤ 1000) :
    CallsD Tryz.prog 157 #[.pointer (some ⟨Bc, 0, none⟩)] u w fun e u' w' => u' = u ∧ (e = .returned (.tuple #[]) ∧ ∃ v', CkS w' base ub fn C T v' ms mm tk ∧ Tch w w' C T ms v v') := by
  obtain ⟨n, hn⟩ : ∃ n, n = ms.length := ⟨_, rfl⟩
  obtain ⟨g, c, rfl, _, _, hnc, hcm⟩ := rw_form h.sc.row (by simp)
  obtain ⟨N1, hN1⟩ : ∃ N1, N1 = (ms ++ [b]).length := ⟨_, rfl⟩
  have hN2 : N1 = n + 1 := by rw [hN1, hn]; simp
  rw [← hN1] at h hnc ⊢
  obtain ⟨i0, hi0, hz0, hz1, hz2⟩ := info_parts info_map
  have p0 : wrap64 ((N1 : Int) - 1) = (n : Int) := by unfold wrap64; omega
  have hcut := cut_back (P := Tryz.prog) Tryz.underlying210 hi0 g N1 c n (n : Int) rfl (by omega) hnc (by omega)
  have b0 : w.cell? ⟨Bc, 0, none⟩ = some (.pointer (some ⟨C, 0, none⟩)) := (hB.cell 0).trans rfl
  have c2 : w.cell? ⟨C, 2, none⟩ = some (.slice (some ⟨g, 0, none⟩) N1 c) := (h.blk.cell 2).trans rfl
  have H := Lib.hid h
  have HN2 := Lib.hid hN2
  have HN := Lib.hid hn
  clear h hN1 hN2 hn h0 h1 hnc
  go_enter_d Tryz.func157, Tryz.ntmps157
  go_wp2_with fail
  refine start_ (n := 15) (S := fun w' => w'.cell? ⟨Bc, 0, none⟩ = some (.pointer (some ⟨C, 0, none⟩)) ∧ w'.cell? ⟨C, 2, none⟩ = some (.slice (some ⟨g, 0, none⟩) N1 c)) (ds := [14]) #[false, false, false, false, false, false, false, false, false, false, false, false, false, false, false] (by kernel_rfl) rfl rfl ?hS (fun hHeld => ?_)
  case hS => exact ⟨by simpa using b0, by simpa using c2⟩
  refine take_ (i := 0) (N := some 1) (v := ?_) (a' := ?_) #[true, false, false, false, false, false, false, false, false, false, false, false, false, false, false] rfl rfl (by kernel_rfl) (fun _ _ _ h => h) (Or.inl ⟨by rfl, ?_⟩) hHeld ?_ ?_
  rotate_left
  · rintro w' ⟨s0, s1⟩
    go_simp
    with_reducible rfl
  rotate_left
  · simp only [Act.put, List.setIfInBounds_toArray, List.set_cons_zero, List.set_cons_succ, i64_w, i32_w]
    rfl
  refine take_ (i := 1) (N := some 2) (v := ?_) (a' := ?_) #[true, true, false, false, false, false, false, false, false, false, false, false, false, false, false] rfl rfl (by kernel_rfl) (fun _ _ _ h => h) (Or.inl ⟨by rfl, ?_⟩) hHeld ?_ ?_
  rotate_left
  · rintro w' ⟨s0, s1⟩
    go_simp
    with_reducible rfl
  rotate_left
  · simp only [Act.put, List.setIfInBounds_toArray, List.set_cons_zero, List.set_cons_succ, i64_w, i32_w]
    rfl
  refine pure_ (i := 2) (N := some 3) (v := ?_) (a' := ?_) #[true, true, true, false, false, false, false, false, false, false, false, false, false, false, false] rfl rfl (by kernel_rfl) (fun _ _ _ h => h) (Or.inl ⟨by rfl, ?_⟩) ?_ ?_
  rotate_left
  · intro w'
    go_simp
    with_reducible rfl
  rotate_left
  · simp only [Act.put, List.setIfInBounds_toArray, List.set_cons_zero, List.set_cons_succ, i64_w, i32_w]
    rfl
  refine pure_ (i := 3) (N := some 4) (v := ?_) (a' := ?_) #[true, true, true, true, false, false, false, false, false, false, false, false, false, false, false] rfl rfl (by kernel_rfl) (fun _ _ _ h => h) (Or.inl ⟨by rfl, ?_⟩) ?_ ?_
  rotate_left
  · intro w'
    go_simp
    with_reducible rfl
  rotate_left
  · simp only [Act.put, List.setIfInBounds_toArray, List.set_cons_zero, List.set_cons_succ, i64_w, i32_w]
    rfl
  refine take_ (i := 4) (N := some 5) (v := ?_) (a' := ?_) #[true, true, true, true, true, false, false, false, false, false, false, false, false, false, false] rfl rfl (by kernel_rfl) (fun _ _ _ h => h) (Or.inl ⟨by rfl, ?_⟩) hHeld ?_ ?_
  rotate_left
  · rintro w' ⟨s0, s1⟩
    go_simp
    with_reducible rfl
  rotate_left
  · simp only [Act.put, List.setIfInBounds_toArray, List.set_cons_zero, List.set_cons_succ, i64_w, i32_w]
    rfl
  refine take_ (i := 5) (N := some 6) (v := ?_) (a' := ?_) #[true, true, true, true, true, true, false, false, false, false, false, false, false, false, false] rfl rfl (by kernel_rfl) (fun _ _ _ h => h) (Or.inl ⟨by rfl, ?_⟩) hHeld ?_ ?_
  rotate_left
  · rintro w' ⟨s0, s1⟩
    go_simp
    with_reducible rfl
  rotate_left
  · simp only [Act.put, List.setIfInBounds_toArray, List.set_cons_zero, List.set_cons_succ, i64_w, i32_w]
    rfl
  refine pure_ (i := 6) (N := some 7) (v := ?_) (a' := ?_) #[true, true, true, true, true, true, true, false, false, false, false, false, false, false, false] rfl rfl (by kernel_rfl) (fun _ _ _ h => h) (Or.inl ⟨by rfl, ?_⟩) ?_ ?_
  rotate_left
  · intro w'
    go_simp
    with_reducible rfl
  rotate_left
  · simp only [Act.put, List.setIfInBounds_toArray, List.set_cons_zero, List.set_cons_succ, i64_w, i32_w]
    rfl
  refine pure_ (i := 7) (N := some 8) (v := ?_) (a' := ?_) #[true, true, true, true, true, true, true, true, false, false, false, false, false, false, false] rfl rfl (by kernel_rfl) (fun _ _ _ h => h) (Or.inl ⟨by rfl, ?_⟩) ?_ ?_
  rotate_left
  · intro w'
    go_simp
    with_reducible rfl
  rotate_left
  · simp only [Act.put, List.setIfInBounds_toArray, List.set_cons_zero, List.set_cons_succ, i64_w, i32_w]
    rfl
  refine take_ (i := 8) (N := some 9) (v := ?_) (a' := ?_) #[true, true, true, true, true, true, true, true, true, false, false, false, false, false, false] rfl rfl (by kernel_rfl) (fun _ _ _ h => h) (Or.inl ⟨by rfl, ?_⟩) hHeld ?_ ?_
  rotate_left
  · rintro w' ⟨s0, s1⟩
    go_simp
    with_reducible rfl
  rotate_left
  · simp only [Act.put, List.setIfInBounds_toArray, List.set_cons_zero, List.set_cons_succ, i64_w, i32_w]
    rfl
  refine pure_ (i := 9) (N := some 10) (v := ?_) (a' := ?_) #[true, true, true, true, true, true, true, true, true, true, false, false, false, false, false] rfl rfl (by kernel_rfl) (fun _ _ _ h => h) (Or.inl ⟨by rfl, ?_⟩) ?_ ?_
  rotate_left
  · intro w'
    go_simp
    with_reducible rfl
  rotate_left
  · simp only [Act.put, List.setIfInBounds_toArray, List.set_cons_zero, List.set_cons_succ, i64_w, i32_w]
    rfl
  refine pure_ (i := 10) (N := some 11) (v := ?_) (a' := ?_) #[true, true, true, true, true, true, true, true, true, true, true, false, false, false, false] rfl rfl (by kernel_rfl) (fun _ _ _ h => h) (Or.inl ⟨by rfl, ?_⟩) ?_ ?_
  rotate_left
  · intro w'
    go_simp
    with_reducible rfl
  rotate_left
  · simp only [Act.put, List.setIfInBounds_toArray, List.set_cons_zero, List.set_cons_succ, i64_w, i32_w]
    rfl
  refine pure_ (i := 11) (N := some 12) (v := ?_) (a' := ?_) #[true, true, true, true, true, true, true, true, true, true, true, true, false, false, false] rfl rfl (by kernel_rfl) (fun _ _ _ h => h) (Or.inl ⟨by rfl, ?_⟩) ?_ ?_
  rotate_left
  · intro w'
    go_simp
    with_reducible rfl
  rotate_left
  · simp only [Act.put, List.setIfInBounds_toArray, List.set_cons_zero, List.set_cons_succ, i64_w, i32_w]
    rfl
  refine pure_ (i := 12) (N := some 13) (v := ?_) (a' := ?_) #[true, true, true, true, true, true, true, true, true, true, true, true, true, false, false] rfl rfl (by kernel_rfl) (fun _ _ _ h => h) (Or.inl ⟨by rfl, ?_⟩) ?_ ?_
  rotate_left
  · intro w'
    go_simp
    with_reducible rfl
  rotate_left
  · simp only [Act.put, List.setIfInBounds_toArray, List.set_cons_zero, List.set_cons_succ, i64_w, i32_w]
    rfl
  refine pure_ (i := 13) (N := some 14) (v := ?_) (a' := ?_) #[true, true, true, true, true, true, true, true, true, true, true, true, true, true, false] rfl rfl (by kernel_rfl) (fun _ _ _ h => h) (Or.inl ⟨by rfl, ?_⟩) ?_ ?_
  rotate_left
  · intro w'
    go_simp
    with_reducible rfl
  rotate_left
  · simp only [Act.put, List.setIfInBounds_toArray, List.set_cons_zero, List.set_cons_succ, i64_w, i32_w]
    rfl
  refine last_ (i := 14) (N := none) #[true, true, true, true, true, true, true, true, true, true, true, true, true, true, true] rfl rfl (by kernel_rfl) (by decide) (fun K hK => ?_)
  have q2 : w.drew.cell? ⟨C, 2, none⟩ = some (.slice (some ⟨g, 0, none⟩) N1 c) := by simpa using c2
  have q3 : w.drew.frozen? ⟨C, 2, none⟩ = false := (H.out.blk.ext ((Ext.refl w).drew)).frozen 2
  go_simp
  refine hK.out _ _ ?_
  clear hK K
  refine done_ (by kernel_rfl) ?_
  go_wp2
  go_end0
  refine ⟨rfl, .slice (some ⟨g, 0, none⟩) n c, ?_, ?_⟩
  · have h2 := H.out
    rw [HN2.out] at h2
    exact (h2.pop HN.out.symm).ext ((Ext.refl _).drew)
  · exact Tch.trans (Tch.set (v := .slice (some ⟨g, 0, none⟩) N1 c) (v' := .slice (some ⟨g, 0, none⟩) n c) (ms := ms) (.slice (some ⟨g, 0, none⟩) n c) 2 rfl) (Tch.ext (v := .slice (some ⟨g, 0, none⟩) n c) (T := T) (ms := ms) ((Ext.refl _).drew)) (fun b hb => .inl hb)
end Go.Proofs.YtcfggjmdcaoecaaGreatDoor
