/- The reference's l3Calls answers as the model. -/
import Derived.Test.YtcfggjmdcaoecaaGreatDoorSpecCkA
import Derived.Test.YtcfggjmdcaoecaaGreatDoorSpecCallsA
import Derived.Test.YtcfggjmdcaoecaaGreatDoorApp2
import Derived.Deep.RegionHeld3
import Derived.Lib.AppendZeros
set_option linter.unusedVariables false
set_option linter.unusedSimpArgs false
namespace Go.Proofs.YtcfggjmdcaoecaaGreatDoor
open Go Go.RowKit Md Go.Proofs.YtcfggjmdcaoecaaGreatDoorW.PrintLast

theorem info_bool : (Tryz.prog.info? 4).map (fun i => (i.zero, i.size, i.bytes)) = some (some (.bool false), 1, 1) := by kernel_rfl
theorem info_int64 : (Tryz.prog.info? 2).map (fun i => (i.zero, i.size, i.bytes)) = some (some (.int .i64 0), 1, 8) := by kernel_rfl
theorem info_nod : (Tryz.prog.info? 104).map (fun i => (i.zero, i.size, i.bytes)) = some (some (.agg #[.int .i64 0, .int .i64 0, .string ⟨#[]⟩]), 3, 32) := by kernel_rfl
theorem bn0 (w : World) : (Instr.buildSlice 100 0 #[]).run Tryz.prog w = .ok (.slice (some ⟨w.heap.size, 0, none⟩) 0 0) (w.alloc (.cells #[] 104)) := by kernel_rfl
/-- What l3Calls comes to: a new row. -/
def Listed64 (w : World) (l : List Int) (e : Ending) (w' : World) : Prop := ∃ v, e = .returned v ∧ w'.ownsRow w.heap.size 2 1 v l.length (l.map (Value.int .i64)) ∧ Ext w w'
theorem outL_take' {t : PTree} {l : List PStmt} {k : Nat} {x : PStmt} (h : l[k]? = some x) : outL t (l.take (k + 1)) = outL t (l.take k) ++ outS t x := by
  rw [take_snoc h]; simp [outL]
theorem outS_take' {t : PTree} {l : List PNode} {k : Nat} {x : PNode} (h : l[k]? = some x) : (l.take (k + 1)).filterMap (callN t) = (l.take k).filterMap (callN t) ++ (callN t x).toList := by
  rw [take_snoc h, List.filterMap_append]
  congr 1

set_option maxRecDepth 1000000 in
set_option maxHeartbeats 0 in
theorem s_l3Calls (K : Foot) (t : PTree) (vG vF : Value) (f : Nat) (fi : Int) (hfi : fi = f) (x : PFunc) (w : World) (hG : SlGlob K w vG t.globals) (hF : SlFunc K w vF t.funcs) (hf : t.funcs[f]? = some x) (hn : t.funcs.length ≤ 1048576) (hb : x.body.length ≤ 1048576 ∧ ∀ s ∈ x.body, s.e.length ≤ 1048576 ∧ s.f.length ≤ 1048576) :
    Calls Tryz.prog 35 #[.agg #[vG, vF], .int .i64 fi] w (Listed64 w (callsL t x.body)) := by
  subst hfi
  obtain ⟨aG, nG, cG, rfl⟩ := hG.shape
  have HG := Lib.hid hG
  have HF := Lib.hid hF
  obtain ⟨aF, nF, cF, rfl, HlF, hlcF, hcmF, helF⟩ := hF.op
  have hnF : nF ≤ 1048576 := by have := HlF.out; omega
  have hiF : f < nF := by have := HlF.out; have := (List.getElem?_eq_some_iff.1 hf).1; omega
  obtain ⟨bF, oF, rfl, _, helF⟩ := helF (by omega)
  obtain ⟨x', csF, hf', _, hCF, hcsF⟩ := helF f hiF
  obtain rfl : x = x' := Option.some.inj (hf.symm.trans hf')
  obtain ⟨vP, vB, rfl, _, hB, _⟩ := hCF
  obtain ⟨aB, nB, cB, rfl, HlB, hlcB, hcmB, helB⟩ := hB.op
  have hnB : nB ≤ 1048576 := by have := HlB.out; omega
  have e2 := Lib.hid (hcsF 2 _ rfl)
  obtain ⟨i0, hi0, hz0, hz1, hz2⟩ := info_parts info_bool
  obtain ⟨i1, hi1, hy0, hy1, hy2⟩ := info_parts info_int64
  obtain ⟨i2, hi2, hx0, hx1, hx2⟩ := info_parts info_nod
  have HBd := Lib.hid hb.2
  have HFn : ∀ (s : ByteArray) (w' : World), Ext w w' → Calls Tryz.prog 46 #[.agg #[.slice aG nG cG, .slice (some ⟨bF, oF, none⟩) nF cF], .string s] w' (Gives (.int .i64 (findF t s)) w') := fun s w' hX =>
    s_l3Func K t _ _ s w' (Sl.ext HG.out hX (fun _ _ h => h.any)) (Sl.ext HF.out hX (fun _ _ h => h.ext hX))
  have HFn := Lib.hid HFn
  have BT := Blk.alloc w 32 #[.slice aG nG cG, .slice (some ⟨bF, oF, none⟩) nF cF]
  have X0 : Ext w (w.alloc (.cells #[.slice aG nG cG, .slice (some ⟨bF, oF, none⟩) nF cF] 32)) := (Ext.refl w).alloc _
  have HAppB : Hid (∀ (w0 wr : World) (v : Value) (n : Nat) (xs : List Bool) (y : Bool), Ext w0 wr → wr.ownsRow w0.heap.size 4 1 v n (xs.map Value.bool) → n ≤ 2000000 →
      ∃ v' w', (Builtin.append_ #[99, 99] 99 #[v, .slice (some ⟨wr.heap.size, 0, none⟩) 1 1]).run Tryz.prog (wr.alloc (.cells #[.bool y] 4)) = .ok v' w' ∧ w'.ownsRow w0.heap.size 4 1 v' (n + 1) ((xs ++ [y]).map Value.bool) ∧ Ext w0 w') :=
    fun w0 wr v n xs y hX ho hl => app_one (P := Tryz.prog) Value.bool (fun _ => rfl) Tryz.underlying99 hi0 hz0 hz1 hz2 rfl 99 hX ho y (by omega) (by omega)
  have HAppI : Hid (∀ (w0 wr : World) (v : Value) (n : Nat) (xs : List Int) (y : Int), Ext w0 wr → wr.ownsRow w0.heap.size 2 1 v n (xs.map (Value.int .i64)) → n ≤ 2000000 →
      ∃ v' w', (Builtin.append_ #[27, 27] 27 #[v, .slice (some ⟨wr.heap.size, 0, none⟩) 1 1]).run Tryz.prog (wr.alloc (.cells #[.int .i64 y] 2)) = .ok v' w' ∧ w'.ownsRow w0.heap.size 2 1 v' (n + 1) ((xs ++ [y]).map (Value.int .i64)) ∧ Ext w0 w') :=
    fun w0 wr v n xs y hX ho hl => app_one (P := Tryz.prog) (Value.int .i64) (fun _ => rfl) Tryz.underlying27 hi1 hy0 hy1 hy2 rfl 27 hX ho y (by omega) (by omega)
  clear hG hF hf hf' hcsF helF hB hn hb
  have g8 : (0 : Int) ≤ (f : Int) := by omega
  have g9 : (f : Int) < (nF : Int) := by omega
  go_enter Tryz.func35, Tryz.ntmps35
  go_wp2
  obtain ⟨w1, hw1⟩ : ∃ w1, w1 = w.alloc (.cells #[.slice aG nG cG, .slice (some ⟨bF, oF, none⟩) nF cF] 32) := ⟨_, rfl⟩
  have hs1 : w.heap.size + 1 = w1.heap.size := by rw [hw1]; simp
  have T1 : w1.cell? ⟨w.heap.size, 1, none⟩ = some (.slice (some ⟨bF, oF, none⟩) nF cF) := by rw [hw1]; exact (BT.cell 1).trans rfl
  rw [← hw1] at BT X0 ⊢
  have hR0 := rw_new0 w1 w1.heap.size 4 1 (Nat.le_refl _)
  have HR0 := Lib.hid hR0
  have hXa : Ext w1 (w1.alloc (.cells #[] 4)) := (Ext.refl w1).alloc _
  have HX0 := Lib.hid X0
  have HBT := Lib.hid BT
  clear hw1 hR0 BT X0
  try rw [hs1]
  go_loopw [5, 6] (fun v i wr => ∃ k : Nat, k ≤ nF ∧ i = .int .i64 k ∧ Hid (wr.ownsRow w1.heap.size 4 1 v k ((List.replicate k false).map Value.bool)) ∧ Ext w1 wr) (fun _ i _ => nF - (intOf i).toNat)
  case atStart => exact ⟨0, Nat.zero_le _, rfl, HR0.out, hXa⟩
  case round =>
    obtain ⟨k, hk, rfl, HO, hX⟩ := hrel
    obtain ⟨av, cv, rfl⟩ := rw_form0 HO.out
    have t1 := hX.cell T1
    by_cases hlt : k < nF
    · obtain ⟨v', w', r1, r2, r3⟩ := HAppB.out w1 wr _ k _ false hX HO.out (by omega)
      have HR1 := Lib.hid r1
      have HO2 := Lib.hid r2
      clear r1 r2
      go_wp2_with (at_builtin; refine Lib.wpList_append_run _ rfl _ _ _ _ rfl _ _ rfl rfl _ _ HR1.out ?_)
      go_roundw
      case rel => exact ⟨k + 1, by omega, by go_num, by rw [List.replicate_succ']; exact HO2.out, r3⟩
      case measure => simp [intOf]; omega
    · obtain rfl : nF = k := by omega
      have hO : wr.ownsRow w1.heap.size 4 1 (.slice av nF cv) nF ((thereB t []).map Value.bool) := by rw [thereB_nil, HlF.out]; exact HO.out
      obtain ⟨gB, cT, eB, hgB, hgL, hlT, hcT⟩ := rw_form hO (by omega)
      obtain ⟨rfl, rfl⟩ : some ⟨gB, 0, none⟩ = av ∧ cT = cv := by cases eB; exact ⟨rfl, rfl⟩
      clear eB
      have d2 := (HX0.out.trans hX).cell e2.out
      have HO2 := Lib.hid hO
      clear HO hO hlt hk
      go_wp2
      go_loopw [8] (fun i wq => ∃ k : Nat, k ≤ nB ∧ i = .int .i64 k ∧ Hid (wq.ownsRow w1.heap.size 4 1 (.slice (some ⟨gB, 0, none⟩) nF cT) nF ((thereB t (outL t (x.body.take k))).map Value.bool)) ∧ Hid (Ext w1 wq)) (fun i _ => nB - (intOf i).toNat)
      case atStart => exact ⟨0, Nat.zero_le _, rfl, HO2.out, hX⟩
      case round =>
        clear HO2 hX t1 d2 hgL
        obtain ⟨k, hk, rfl, HO, HX⟩ := hrel
        by_cases hlt : k < nB
        · obtain ⟨bB, oB, rfl, _, helB⟩ := helB (by omega)
          obtain ⟨y, cs, hy, _, hC, hcs⟩ := helB k hlt
          obtain ⟨vE, vF, rfl, sE, sF, q1, q2, q3, q4⟩ := hC
          have hXw := HX0.out.trans HX.out
          have c2 := hXw.cell (hcs 2 _ rfl)
          have c3 := hXw.cell (hcs 3 _ rfl)
          have Hy := Lib.hid (outL_take' (t := t) hy)
          have hbd := HBd.out y (List.mem_of_getElem? hy)
          have HE := Lib.hid (sE.ext hXw (fun _ _ h => h.any))
          have HFf := Lib.hid (sF.ext hXw (fun _ _ h => h.any))
          obtain ⟨aE, nE, cE, rfl⟩ := sE.shape
          obtain ⟨aF2, nF2, cF2, rfl⟩ := sF.shape
          clear hcs helB hy sE sF hXw
          have g0 : (0 : Int) ≤ (k : Int) := by omega
          have g1 : (k : Int) < (nB : Int) := by omega
          go_wp2_with fail
          refine start_ (n := 14) (S := fun w' => w'.cell? ⟨bB, oB + k * 6 + 2, none⟩ = some (.slice aE nE cE) ∧ w'.cell? ⟨bB, oB + k * 6 + 3, none⟩ = some (.slice aF2 nF2 cF2)) (ds := []) #[false, false, false, false, false, false, false, false, false, false, false, false, false, false] (by kernel_rfl) rfl rfl ?hS (fun hHeld => ?_)
          case hS => exact ⟨by simpa using c2, by simpa using c3⟩
          refine pure_ (i := 1) (N := some 38) (v := ?_) (a' := ?_) #[false, true, false, false, false, false, false, false, false, false, false, false, false, false] rfl rfl (by kernel_rfl) (fun _ _ _ h => h) (Or.inl ⟨by rfl, ?_⟩) ?_ ?_
          rotate_left
          · intro w'
            go_simp
            with_reducible rfl
          rotate_left
          · simp only [Act.put, List.setIfInBounds_toArray, List.set_cons_zero, List.set_cons_succ, i64_w, i32_w]
            rfl
          refine pure_ (i := 2) (N := some 39) (v := ?_) (a' := ?_) #[false, true, true, false, false, false, false, false, false, false, false, false, false, false] rfl rfl (by kernel_rfl) (fun _ _ _ h => h) (Or.inl ⟨by rfl, ?_⟩) ?_ ?_
          rotate_left
          · intro w'
            go_simp
            with_reducible rfl
          rotate_left
          · simp only [Act.put, List.setIfInBounds_toArray, List.set_cons_zero, List.set_cons_succ, i64_w, i32_w]
            rfl
          refine pure_ (i := 3) (N := some 40) (v := ?_) (a' := ?_) #[false, true, true, true, false, false, false, false, false, false, false, false, false, false] rfl rfl (by kernel_rfl) (fun _ _ _ h => h) (Or.inl ⟨by rfl, ?_⟩) ?_ ?_
          rotate_left
          · intro w'
            go_simp
            with_reducible rfl
          rotate_left
          · simp only [Act.put, List.setIfInBounds_toArray, List.set_cons_zero, List.set_cons_succ, i64_w, i32_w]
            rfl
          refine pure_ (i := 4) (N := some 41) (v := ?_) (a' := ?_) #[false, true, true, true, true, false, false, false, false, false, false, false, false, false] rfl rfl (by kernel_rfl) (fun _ _ _ h => h) (Or.inl ⟨by rfl, ?_⟩) ?_ ?_
          rotate_left
          · intro w'
            go_simp
            with_reducible rfl
          rotate_left
          · simp only [Act.put, List.setIfInBounds_toArray, List.set_cons_zero, List.set_cons_succ, i64_w, i32_w]
            rfl
          refine take_ (i := 5) (N := some 42) (v := ?_) (a' := ?_) #[false, true, true, true, true, true, false, false, false, false, false, false, false, false] rfl rfl (by kernel_rfl) (fun _ _ _ h => h) (Or.inl ⟨by rfl, ?_⟩) hHeld ?_ ?_
          rotate_left
          · rintro w' ⟨s0, s1⟩
            go_simp
            with_reducible rfl
          rotate_left
          · simp only [Act.put, List.setIfInBounds_toArray, List.set_cons_zero, List.set_cons_succ, i64_w, i32_w]
            rfl
          refine pure_ (i := 7) (N := some 44) (v := ?_) (a' := ?_) #[false, true, true, true, true, true, false, true, false, false, false, false, false, false] rfl rfl (by kernel_rfl) (fun _ _ _ h => h) (Or.inl ⟨by rfl, ?_⟩) ?_ ?_
          rotate_left
          · intro w'
            go_simp
            with_reducible rfl
          rotate_left
          · simp only [Act.put, List.setIfInBounds_toArray, List.set_cons_zero, List.set_cons_succ, i64_w, i32_w]
            rfl
          refine pure_ (i := 8) (N := some 45) (v := ?_) (a' := ?_) #[false, true, true, true, true, true, false, true, true, false, false, false, false, false] rfl rfl (by kernel_rfl) (fun _ _ _ h => h) (Or.inl ⟨by rfl, ?_⟩) ?_ ?_
          rotate_left
          · intro w'
            go_simp
            with_reducible rfl
          rotate_left
          · simp only [Act.put, List.setIfInBounds_toArray, List.set_cons_zero, List.set_cons_succ, i64_w, i32_w]
            rfl
          refine pure_ (i := 9) (N := some 46) (v := ?_) (a' := ?_) #[false, true, true, true, true, true, false, true, true, true, false, false, false, false] rfl rfl (by kernel_rfl) (fun _ _ _ h => h) (Or.inl ⟨by rfl, ?_⟩) ?_ ?_
          rotate_left
          · intro w'
            go_simp
            with_reducible rfl
          rotate_left
          · simp only [Act.put, List.setIfInBounds_toArray, List.set_cons_zero, List.set_cons_succ, i64_w, i32_w]
            rfl
          refine pure_ (i := 10) (N := some 47) (v := ?_) (a' := ?_) #[false, true, true, true, true, true, false, true, true, true, true, false, false, false] rfl rfl (by kernel_rfl) (fun _ _ _ h => h) (Or.inl ⟨by rfl, ?_⟩) ?_ ?_
          rotate_left
          · intro w'
            go_simp
            with_reducible rfl
          rotate_left
          · simp only [Act.put, List.setIfInBounds_toArray, List.set_cons_zero, List.set_cons_succ, i64_w, i32_w]
            rfl
          refine take_ (i := 11) (N := some 48) (v := ?_) (a' := ?_) #[false, true, true, true, true, true, false, true, true, true, true, true, false, false] rfl rfl (by kernel_rfl) (fun _ _ _ h => h) (Or.inl ⟨by rfl, ?_⟩) hHeld ?_ ?_
          rotate_left
          · rintro w' ⟨s0, s1⟩
            go_simp
            with_reducible rfl
          rotate_left
          · simp only [Act.put, List.setIfInBounds_toArray, List.set_cons_zero, List.set_cons_succ, i64_w, i32_w]
            rfl
          refine one_ (i := 0) (N := some 37) #[true, true, true, true, true, true, false, true, true, true, true, true, false, false] rfl rfl (by kernel_rfl) (by decide) (fun K hK => ?_)
          refine value_ (w1 := ?_) (v := ?_) (by rfl) rfl ?_ ?_
          rotate_left 2
          · go_simp
            constructor
            · rfl
            · rfl
          have hX1 : Ext wr (wr.drew.alloc (.cells #[] 104)) := ((Ext.refl wr).drew).alloc _
          refine hK.out _ _ ⟨hX1.cell c2, hX1.cell c3⟩ (fun hHeld => ?_)
          clear hK K
          refine norm_ (a' := ?_) ?_ ?_
          rotate_left
          · show Act.put _ (some 37) _ = _
            simp only [Act.put, List.setIfInBounds_toArray, List.set_cons_zero, List.set_cons_succ, i64_w, i32_w]
            rfl
          have hO1 := rw_new0 wr.drew wr.heap.size 104 3 (Nat.le_refl _)
          have hlE : y.e.length = nE := sl_len HE.out
          have hlF : y.f.length = nF2 := sl_len HFf.out
          obtain ⟨v2, w2, r1, r2, r3, r4⟩ := run_appN (P := Tryz.prog) CNode (fun _ _ _ h => h.1) encNode_len (by decide) encNode_one K (wr.drew.alloc (.cells #[] 104)) wr.heap.size Tryz.underlying100 hi2 hx0 hx1 hx2 rfl _ 0 [] hO1 _ y.e (Sl.ext HE.out hX1 (fun _ _ h => h.any)) (by omega) (by omega) hX1.size 100
          have hX2 : Ext wr w2 := Below.grown hX1 r3 hX1.size (fun k hk => by cases hk; exact Nat.le_refl _)
          refine one_ (i := 6) (N := some 43) #[true, true, true, true, true, true, true, true, true, true, true, true, false, false] rfl rfl (by kernel_rfl) (by decide) (fun K hK => ?_)
          refine value_ (w1 := w2) (v := v2) (by rfl) rfl (exec_append rfl r1) ?_
          refine hK.out _ _ ⟨hX2.cell c2, hX2.cell c3⟩ (fun hHeld => ?_)
          clear hK K
          refine norm_ (a' := ?_) ?_ ?_
          rotate_left
          · show Act.put _ (some 43) _ = _
            simp only [Act.put, List.setIfInBounds_toArray, List.set_cons_zero, List.set_cons_succ, i64_w, i32_w]
            rfl
          obtain ⟨v3, w3, r5, r6, r7, r8⟩ := run_appN (P := Tryz.prog) CNode (fun _ _ _ h => h.1) encNode_len (by decide) encNode_one K w2 wr.heap.size Tryz.underlying100 hi2 hx0 hx1 hx2 rfl _ _ _ r2 _ y.f (Sl.ext HFf.out hX2 (fun _ _ h => h.any)) (by omega) (by omega) hX2.size 100
          have hX3 : Ext wr w3 := Below.grown hX2 r7 hX2.size (rw_ge r2)
          refine one_ (i := 12) (N := some 49) #[true, true, true, true, true, true, true, true, true, true, true, true, true, false] rfl rfl (by kernel_rfl) (by decide) (fun K hK => ?_)
          refine value_ (w1 := w3) (v := v3) (by rfl) rfl (exec_append rfl r5) ?_
          refine hK.out _ _ ⟨hX3.cell c2, hX3.cell c3⟩ (fun hHeld => ?_)
          clear hK K
          refine norm_ (a' := ?_) ?_ ?_
          rotate_left
          · show Act.put _ (some 49) _ = _
            simp only [Act.put, List.setIfInBounds_toArray, List.set_cons_zero, List.set_cons_succ, i64_w, i32_w]
            rfl
          refine pure_ (i := 13) (N := some 9) (v := ?_) (a' := ?_) #[true, true, true, true, true, true, true, true, true, true, true, true, true, true] rfl rfl (by kernel_rfl) (fun _ _ _ h => h) (Or.inl ⟨by rfl, ?_⟩) ?_ ?_
          rotate_left
          · intro w'
            go_simp
            with_reducible rfl
          rotate_left
          · simp only [Act.put, List.setIfInBounds_toArray, List.set_cons_zero, List.set_cons_succ, i64_w, i32_w]
            rfl
          refine done_ (by kernel_rfl) ?_
          have hgL : gB < wr.heap.size := by
            obtain ⟨_, _, e, _, h, _⟩ := rw_form HO.out (by omega)
            cases e
            exact h
          have hA3 : SlNode (fun b => b ≠ gB) w3 v3 (y.e ++ y.f) := sl_ownN encNode_len (by decide) r6 (fun g hg e => by omega) (fun z hz => by
            rcases List.mem_append.1 hz with hz | hz
            · obtain ⟨cs, h1, h2⟩ := Sl.mem HE.out z hz; exact ⟨rfl, h2⟩
            · obtain ⟨cs, h1, h2⟩ := Sl.mem HFf.out z hz; exact ⟨rfl, h2⟩)
          have HO3 := Lib.hid (rw_ext HO.out hX3)
          have HX3 := Lib.hid (HX.out.trans hX3)
          obtain ⟨aA, nA, cA, rfl⟩ := hA3.shape
          have HA3 := Lib.hid hA3
          have hnA : (y.e ++ y.f).length = nA := sl_len hA3
          have hnA2 : nA ≤ 4194304 := by rw [← hnA, List.length_append]; omega
          have HnA := Lib.hid hnA
          clear r1 r2 r3 r4 r5 r6 r7 r8 hX1 hX2 hX3 hO1 hA3 hHeld c2 c3 hlE hlF hnA hgL HE HFf HO HX
          go_wp2
          go_loopw [10] (fun j wi => ∃ q : Nat, q ≤ nA ∧ j = .int .i64 q ∧ Hid (wi.ownsRow w1.heap.size 4 1 (.slice (some ⟨gB, 0, none⟩) nF cT) nF ((thereB t (outL t (x.body.take k) ++ ((y.e ++ y.f).take q).filterMap (callN t))).map Value.bool)) ∧
            Hid (SlNode (fun b => b ≠ gB) wi (.slice aA nA cA) (y.e ++ y.f)) ∧ Hid (Ext w1 wi)) (fun j _ => nA - (intOf j).toNat)
          case atStart => exact ⟨0, Nat.zero_le _, rfl, by rw [List.take_zero, List.filterMap_nil, List.append_nil]; exact HO3.out, HA3.out, HX3.out⟩
          case round =>
            clear HO3 HA3 HX3
            obtain ⟨q, hq, rfl, HO, HA, HX⟩ := hrel
            by_cases hqt : q < nA
            · obtain ⟨aC', nC', cC', eC, _, _, _, helC⟩ := HA.out.op
              cases eC
              obtain ⟨bC, oC, rfl, _, helC⟩ := helC (by omega)
              obtain ⟨n, csy, hn, _, hCn, hcsy⟩ := helC q hqt
              obtain ⟨rfl, _, _, hnn⟩ := hCn
              have c0 := hcsy.z rfl
              have c2 := hcsy 2 _ rfl
              have Hn := Lib.hid (outS_take' (t := t) hn)
              obtain ⟨yk, yv, yn⟩ := n
              simp only at c0 c2 Hn hnn
              clear hn hcsy helC
              have g2 : (0 : Int) ≤ (q : Int) := by omega
              have g3 : (q : Int) < (nA : Int) := by omega
              by_cases h4 : yk = 4
              · subst h4
                have u0 : wr.cell? ⟨w.heap.size, 0, none⟩ = some (.slice aG nG cG) := HX.out.cell ((HBT.out.cell 0).trans rfl)
                have u1 : wr.cell? ⟨w.heap.size, 1, none⟩ = some (.slice (some ⟨bF, oF, none⟩) nF cF) := HX.out.cell ((HBT.out.cell 1).trans rfl)
                go_wp2_with fail
                go_region_held3 (fun w' => w'.cell? ⟨w.heap.size, 0, none⟩ = some (.slice aG nG cG) ∧ w'.cell? ⟨w.heap.size, 1, none⟩ = some (.slice (some ⟨bF, oF, none⟩) nF cF) ∧ w'.cell? ⟨bC, oC + q * 3 + 2, none⟩ = some (.string yn))
                  (first | go_keep | (refine ⟨hX3.cell ?_, hX3.cell ?_, hX3.cell ?_⟩ <;> simp [*]))
                  (first
                    | (go_at_call 46; (refine (HFn.out yn _ (HX0.out.trans (HX.out.trans ((Ext.refl _).drew)))).mono ?_); rintro e3 w3 ⟨rfl, hX3⟩))
                have hX13 : Ext wr w3 := ((Ext.refl _).drew).trans hX3
                have HO3 := Lib.hid (rw_ext HO.out hX13)
                have HA3 := Lib.hid (Sl.ext HA.out hX13 (fun _ _ h => h.any))
                have HX3 := Lib.hid (HX.out.trans hX13)
                have hr := findF_range t yn
                have hcn : callN t ⟨4, yv, yn⟩ = if 0 ≤ findF t yn then some (findF t yn) else none := by simp [callN]
                rw [hcn] at Hn
                clear hX13 hX3 hcn HO HA HX u0 u1 c0 c2
                generalize findF t yn = u at hr Hn
                rcases hr with rfl | ⟨u0, u1, _⟩
                · go_wp2
                  go_roundw
                  case rel => exact ⟨q + 1, by omega, by go_num, by rw [Hn.out]; rw [show (if (0 : Int) ≤ -1 then some (-1 : Int) else none).toList = [] from rfl, List.append_nil]; exact HO3.out, HA3.out, HX3.out⟩
                  case measure => simp [intOf]; omega
                · obtain ⟨m, rfl⟩ : ∃ m : Nat, u = m := ⟨u.toNat, by omega⟩
                  have hmF : m < nF := by have := HlF.out; omega
                  have Hn2 : Hid (((y.e ++ y.f).take (q + 1)).filterMap (callN t) = ((y.e ++ y.f).take q).filterMap (callN t) ++ [(m : Int)]) := by
                    show _ = _
                    rw [Hn.out, if_pos u0]; rfl
                  have g4 : (m : Int) < (nF : Int) := by omega
                  obtain ⟨b0, b1⟩ := rw_at HO3.out (i := m) (u := Value.bool (decide ((m : Int) ∈ outL t (x.body.take k) ++ ((y.e ++ y.f).take q).filterMap (callN t)))) (by rw [List.getElem?_map, thereB_at (by have := HlF.out; omega)]; rfl)
                  have hO4 := rw_set HO3.out hmF (.bool true)
                  rw [← List.map_set, show (thereB t (outL t (x.body.take k) ++ ((y.e ++ y.f).take q).filterMap (callN t))).set m true = thereB t ((outL t (x.body.take k) ++ ((y.e ++ y.f).take q).filterMap (callN t)) ++ [(m : Int)]) from thereB_set t _ (m : Int) u0, List.append_assoc, ← Hn2.out] at hO4
                  have HO4 := Lib.hid hO4
                  have hgB1 : w1.heap.size ≤ gB := hgB
                  have HA4 : Hid (SlNode (fun b => b ≠ gB) (w3.setCell ⟨gB, m, none⟩ (.bool true)) (.slice (some ⟨bC, oC, none⟩) nA cA) (y.e ++ y.f)) := Sl.keep HA3.out (Keep.setCell (a := ⟨gB, m, none⟩) (Keep.refl (fun b => b ≠ gB) w3) (fun b hb => hb) (.bool true)) (fun _ _ _ h => h.any) (fun _ h => h)
                  have HX4 : Hid (Ext w1 (w3.setCell ⟨gB, m, none⟩ (.bool true))) := Below.setCell HX3.out hgB _
                  clear hO4 u1
                  go_wp2
                  go_roundw
                  case rel => exact ⟨q + 1, by omega, by go_num, HO4.out, HA4.out, HX4.out⟩
                  case measure => simp [intOf]; omega
              · have b4 : (yk == 4) = false := by simpa using h4
                have hcn : callN t ⟨yk, yv, yn⟩ = none := by simp [callN, h4]
                rw [hcn] at Hn
                clear h4 hcn
                go_wp2
                go_roundw
                case rel => exact ⟨q + 1, by omega, by go_num, by rw [Hn.out, Option.toList_none, List.append_nil]; exact HO.out, HA.out, HX.out⟩
                case measure => simp [intOf]; omega
            · have hqe : (y.e ++ y.f).take q = y.e ++ y.f := List.take_of_length_le (by rw [HnA.out]; omega)
              have hl : (outL t (x.body.take k) ++ ((y.e ++ y.f).take q).filterMap (callN t)) = outL t (x.body.take (k + 1)) := by rw [hqe, Hy.out]; rfl
              have HL := Lib.hid hl
              clear hqe hl
              go_wp2
              go_roundw
              case rel => exact ⟨k + 1, by omega, by go_num, by rw [← HL.out]; exact HO.out, HX.out⟩
              case measure => simp [intOf]; omega
        · have hke : x.body.take k = x.body := List.take_of_length_le (by have := HlB.out; omega)
          have hO := HO.out
          rw [hke] at hO
          have HO2 := Lib.hid hO
          have hR := rw_new0 wr wr.heap.size 2 1 (Nat.le_refl _)
          have HR := Lib.hid hR
          have hXr : Ext wr (wr.alloc (.cells #[] 2)) := (Ext.refl wr).alloc _
          clear hke hO HO hR
          obtain ⟨w2, hw2⟩ : ∃ w2, w2 = wr := ⟨_, rfl⟩
          go_wp2
          go_loopw [12, 13] (fun v i wq => ∃ k n : Nat, k ≤ nF ∧ n ≤ k ∧ i = .int .i64 k ∧ Hid (wq.ownsRow w2.heap.size 2 1 v n ((upTo (outL t x.body) k).map (Value.int .i64))) ∧ Ext w2 wq) (fun _ i _ => nF - (intOf i).toNat)
          case atStart => exact ⟨0, 0, Nat.zero_le _, Nat.le_refl _, rfl, by rw [hw2]; exact HR.out, by rw [hw2]; exact hXr⟩
          case round =>
            rw [← hw2] at HO2 HX
            clear hw2 HR hXr
            obtain ⟨k, n, hk, hnk, rfl, HO, hX⟩ := hrel
            obtain ⟨av, cv, rfl⟩ := rw_form0 HO.out
            by_cases hlt : k < nF
            · have hb0 := hX.cell (rw_at HO2.out (i := k) (u := Value.bool (decide ((k : Int) ∈ outL t x.body))) (by rw [List.getElem?_map, thereB_at (by have := HlF.out; omega)]; rfl)).1
              have g0 : (0 : Int) ≤ (k : Int) := by omega
              have g1 : (k : Int) < (nF : Int) := by omega
              by_cases hin : (k : Int) ∈ outL t x.body
              · rw [decide_eq_true hin] at hb0
                obtain ⟨v', w', r1, r2, r3⟩ := HAppI.out w2 wr _ n _ (k : Int) hX HO.out (by omega)
                rw [← upTo_in hin] at r2
                have HR1 := Lib.hid r1
                have HO3 := Lib.hid r2
                clear r1 r2
                go_wp2_with (at_builtin; refine Lib.wpList_append_run _ rfl _ _ _ _ rfl _ _ rfl rfl _ _ HR1.out ?_)
                go_roundw
                case rel => exact ⟨k + 1, n + 1, by omega, by omega, by go_num, HO3.out, r3⟩
                case measure => simp [intOf]; omega
              · rw [decide_eq_false hin] at hb0
                have HU := Lib.hid (upTo_out hin)
                go_wp2
                go_roundw
                case rel => exact ⟨k + 1, n, by omega, by omega, by go_num, by rw [HU.out]; exact HO.out, hX⟩
                case measure => simp [intOf]; omega
            · have hl : upTo (outL t x.body) k = callsL t x.body := by
                obtain rfl : nF = k := by omega
                rw [← HlF.out]; rfl
              have hO := HO.out
              rw [hl] at hO
              have hln : (callsL t x.body).length = n := by have := hO.1; simpa using this
              have HO3 := Lib.hid hO
              have Hln := Lib.hid hln
              have hXX := HX0.out.trans (HX.out.trans hX)
              have hs2 : w.heap.size ≤ w2.heap.size := (HX0.out.trans HX.out).size
              clear hl hO hln
              go_wp2
              go_ret
              exact ⟨_, rfl, by rw [Hln.out]; exact rw_base HO3.out hs2, hXX⟩
end Go.Proofs.YtcfggjmdcaoecaaGreatDoor

