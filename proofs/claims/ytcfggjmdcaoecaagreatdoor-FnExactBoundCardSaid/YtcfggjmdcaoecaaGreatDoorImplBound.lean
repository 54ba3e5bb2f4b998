/- impl's unit.bound: its closure, Bound. -/
import Derived.Test.YtcfggjmdcaoecaaGreatDoorMdBound
import Derived.Test.YtcfggjmdcaoecaaGreatDoorFrImpl
import Derived.Test.YtcfggjmdcaoecaaGreatDoorSpecBound
set_option linter.unusedVariables false
set_option linter.unusedSimpArgs false
namespace Go.Proofs.YtcfggjmdcaoecaaGreatDoor
open Go Go.RowKit Md Go.Proofs.YtcfggjmdcaoecaaGreatDoorW.PrintLast

abbrev NP := List (Int × Value)
/-- Of what was there only block M has turned. -/
structure Tm (M : Nat) (w w' : World) : Prop where
  os : w'.os = w.os
  tape : w'.tape = w.tape
  output : w'.output = w.output
  size : w.heap.size ≤ w'.heap.size
  block : ∀ k, k < w.heap.size → k ≠ M → w'.heap[k]? = w.heap[k]?
theorem Tm.refl (M : Nat) (w : World) : Tm M w w := ⟨rfl, rfl, rfl, Nat.le_refl _, fun _ _ _ => rfl⟩
theorem Tm.trans {M : Nat} {a b c : World} (h : Tm M a b) (k : Tm M b c) : Tm M a c :=
  ⟨k.os.trans h.os, k.tape.trans h.tape, k.output.trans h.output, Nat.le_trans h.size k.size, fun i hi hn => (k.block i (Nat.lt_of_lt_of_le hi h.size) hn).trans (h.block i hi hn)⟩
theorem Tm.ext {M : Nat} {w w' : World} (k : Ext w w') : Tm M w w' := ⟨k.os, k.tape, k.output, k.size, fun i hi _ => k.block i hi⟩
theorem Tm.turn {M : Nat} {w w' : World} (k : Turned w M w') : Tm M w w' := ⟨k.1, k.2.1, k.2.2.1, by rw [k.2.2.2.1]; exact Nat.le_refl _, fun i _ hn => k.2.2.2.2 i hn⟩
theorem Tm.cell {M : Nat} {w w' : World} (h : Tm M w w') {a : Addr} {v : Value} (ha : a.block ≠ M) (hc : w.cell? a = some v) : w'.cell? a = some v :=
  (World.cell?_of_block (w := w) (h.block a.block (World.block_lt_of_cell? w a hc) ha)).trans hc
theorem Tm.keep {M : Nat} {w w' : World} (h : Tm M w w') {K : Foot} (hK : ∀ b, K b → b ≠ M) : Keep K w w' := fun b hb hl => h.block b hl (hK b hb)
theorem Tm.below {M base : Nat} {w w' : World} (h : Tm M w w') (hb : base ≤ M) (hs : base ≤ w.heap.size) : Below base w w' := ⟨h.os, h.tape, h.output, h.size, fun k hk => h.block k (by omega) (by omega)⟩
def GoodM (t : PTree) (m : NP) : Prop := ∀ k v, assoc m k = some v → v = .int .i64 (deep t k : Nat)
theorem GoodM.nil (t : PTree) : GoodM t [] := fun k v h => by cases h
theorem GoodM.add {t : PTree} {m : NP} (h : GoodM t m) (k : Int) : GoodM t (updA m k (.int .i64 (deep t k : Nat))) := fun j v hv => by
  rw [assoc_upd] at hv
  by_cases he : j = k
  · rw [if_pos he] at hv
    cases hv
    rw [he]
  · rw [if_neg he] at hv
    exact h j v hv
/-- What the closure has hold of. -/
structure FromS (K : Foot) (t : PTree) (fs : List Fn) (w0 : World) (Fo Ub Cl Fr M ub g n cR : Nat) : Prop where
  c1 : w0.cell? ⟨Fo, 0, none⟩ = some (.map (some M))
  c2 : w0.cell? ⟨Ub, 0, none⟩ = some (.pointer (some ⟨ub, 0, none⟩))
  c3 : w0.cell? ⟨Cl, 0, none⟩ = some (.func (.func 98) #[] #[.pointer (some ⟨Fo, 0, none⟩), .pointer (some ⟨Ub, 0, none⟩), .pointer (some ⟨Cl, 0, none⟩), .pointer (some ⟨Fr, 0, none⟩)])
  c4 : w0.cell? ⟨Fr, 0, none⟩ = some (.slice (some ⟨g, 0, none⟩) n cR)
  row : ∀ i, i < n → w0.cell? ⟨g, i, none⟩ = some (.int .i64 (fsz t (i : Int) : Nat))
  ne : Fo ≠ M ∧ Ub ≠ M ∧ Cl ≠ M ∧ Fr ≠ M ∧ g ≠ M
  unit : UnitAt K w0 (.pointer (some ⟨ub, 0, none⟩)) t fs
  apart : ∀ b, K b → b ≠ M
  lt : M < w0.heap.size
  len : t.funcs.length = n ∧ n ≤ cR ∧ cR ≤ 9223372036854775807
structure MOk (t : PTree) (w0 : World) (M : Nat) (w : World) (m : NP) : Prop where
  tm : Tm M w0 w
  mp : MapAt intKey w M m
  good : GoodM t m
def FromOut (t : PTree) (M : Nat) (i : Int) (w : World) (e : Ending) (w' : World) : Prop := ∃ m, e = .returned (.int .i64 (deep t i : Nat)) ∧ MapAt intKey w' M m ∧ GoodM t m ∧ Tm M w w'
theorem zero_i64 (w : World) : (zeroValue 2).run Tryz.prog w = .ok (.int .i64 0) w := by kernel_rfl
theorem fold_snoc {g : Int → Nat} {l : List Int} {k : Nat} {x : Int} (h : l[k]? = some x) : (l.take (k + 1)).foldl (fun m x => max m (g x)) 0 = max ((l.take k).foldl (fun m x => max m (g x)) 0) (g x) := by
  rw [take_snoc h, List.foldl_append]
  rfl
set_option maxRecDepth 1000000 in
set_option maxHeartbeats 0 in
theorem i_from (K : Foot) (t : PTree) (fs : List Fn) (m0 : Int) (w0 : World) (Fo Ub Cl Fr M ub g n cR : Nat) (hS : FromS K t fs w0 Fo Ub Cl Fr M ub g n cR) (hv : valid t = true) (hfr : ∀ x ∈ t.funcs, frameSz x ≤ 2032) (hm : 0 ≤ m0 ∧ m0 < t.funcs.length) (hrec : ∀ x, MetF t m0 x → ¬ Rch t [x] x) :
    ∀ (r : Nat) (i : Nat) (w : World) (m : NP), Low t r (i : Int) → MetF t m0 (i : Int) → MOk t w0 M w m →
      Calls Tryz.prog 98 #[.int .i64 (i : Int), .pointer (some ⟨Fo, 0, none⟩), .pointer (some ⟨Ub, 0, none⟩), .pointer (some ⟨Cl, 0, none⟩), .pointer (some ⟨Fr, 0, none⟩)] w (FromOut t M (i : Int) w) := by
  intro r
  induction r with
  | zero => intro i w m h; exact h.elim
  | succ r ih =>
  intro i w m hlow hmet hok
  have hin : i < n := by have := (met_all hm hmet).2; have := hS.len.1; omega
  have hvb := valid_bounds hv
  have hn50 : n ≤ 50 := by have := hvb.2.1; have := hS.len.1; omega
  have hD := deep_eq hm hrec hmet
  have hdl := deep_le hfr hvb.2.1
  obtain ⟨D, hDd⟩ : ∃ D, D = deep t (i : Int) := ⟨_, rfl⟩
  obtain ⟨F, hF⟩ : ∃ F, F = fsz t (i : Int) := ⟨_, rfl⟩
  have hF2 : F ≤ 2032 := by rw [hF]; exact fsz_le hfr _
  rw [← hF, ← hDd] at hD
  unfold FromOut
  rw [← hDd]
  have HM := Lib.hid hok
  have HC : Hid (∀ w', Tm M w0 w' → Calls Tryz.prog 39 #[.pointer (some ⟨ub, 0, none⟩), .int .i64 (i : Int)] w' (Listed w' (succ t (i : Int)))) := fun w' hT => by
    obtain ⟨x, hx⟩ : ∃ x, t.funcs[i]? = some x := ⟨t.funcs[i]'(by have := hS.len.1; omega), List.getElem?_eq_getElem _⟩
    have hxb := hvb.2.2 x (List.mem_of_getElem? hx)
    have := i_calls K t fs (.pointer (some ⟨ub, 0, none⟩)) i (i : Int) rfl x w' (hS.unit.keep (hT.keep hS.apart) (fun _ h => h)) hx (by omega) (by omega) (fun s hs => by have := nodes_mem hs; omega) (by have := outL_nodes t x.body; omega)
    unfold succ bodyOf
    simpa [hx] using this
  have HSl : Hid ((succ t (i : Int)).length ≤ 50) := by
    have h : (succ t (i : Int)).length ≤ t.funcs.length := callsL_len t _
    have := hvb.2.1
    show _ ≤ _
    omega
  have HIH : Hid (∀ (c : Nat) (w' : World) (m' : NP), (c : Int) ∈ succ t (i : Int) → MOk t w0 M w' m' → Calls Tryz.prog 98 #[.int .i64 (c : Int), .pointer (some ⟨Fo, 0, none⟩), .pointer (some ⟨Ub, 0, none⟩), .pointer (some ⟨Cl, 0, none⟩), .pointer (some ⟨Fr, 0, none⟩)] w' (FromOut t M (c : Int) w')) :=
    fun c w' m' hc hk => ih c w' m' (hlow c hc) (hmet.succ hc) hk
  have Hc : Hid (∀ w', Tm M w0 w' → w'.cell? ⟨Fo, 0, none⟩ = some (.map (some M)) ∧ w'.cell? ⟨Ub, 0, none⟩ = some (.pointer (some ⟨ub, 0, none⟩)) ∧ w'.cell? ⟨Cl, 0, none⟩ = some (.func (.func 98) #[] #[.pointer (some ⟨Fo, 0, none⟩), .pointer (some ⟨Ub, 0, none⟩), .pointer (some ⟨Cl, 0, none⟩), .pointer (some ⟨Fr, 0, none⟩)]) ∧
      w'.cell? ⟨Fr, 0, none⟩ = some (.slice (some ⟨g, 0, none⟩) n cR) ∧ w'.cell? ⟨g, i, none⟩ = some (.int .i64 (F : Nat))) := fun w' hT =>
    ⟨hT.cell hS.ne.1 hS.c1, hT.cell hS.ne.2.1 hS.c2, hT.cell hS.ne.2.2.1 hS.c3, hT.cell hS.ne.2.2.2.1 hS.c4, by rw [hF]; exact hT.cell (a := ⟨g, i, none⟩) hS.ne.2.2.2.2 (hS.row i hin)⟩
  have Hlen := Lib.hid hS.len.2
  have HMlt := Lib.hid hS.lt
  have HD := Lib.hid hD
  have HDd := Lib.hid hDd
  have Hdl := Lib.hid hdl
  have Hsr : Hid (∀ x ∈ succ t (i : Int), 0 ≤ x) := fun x hx => (succ_range hx).1
  clear hS ih hlow hmet hvb hD hF hDd hdl hok hm hrec hfr hv
  obtain ⟨q1, q2, q3, q4, q5⟩ := Hc.out w HM.out.tm
  have hlk := run_look (P := Tryz.prog) (kk := intKey) HM.out.mp Tryz.underlying161 Tryz.underlying3 (zero_i64 w) (i : Int)
  go_enter Tryz.func98, Tryz.ntmps98
  cases ha : assoc m (i : Int) with
  | some u =>
    obtain rfl := HM.out.good _ u ha
    rw [ha, ← HDd.out] at hlk
    have hlk2 : (Instr.lookup 161 (.map (some M)) (.int .i64 (i : Int)) true).run Tryz.prog w = .ok (.tuple #[.int .i64 (D : Nat), .bool true]) w := hlk
    clear ha hlk
    go_wp2
    go_ret
    exact ⟨m, rfl, HM.out.mp, HM.out.good, Tm.refl _ _⟩
  | none =>
    rw [ha] at hlk
    have hlk2 : (Instr.lookup 161 (.map (some M)) (.int .i64 (i : Int)) true).run Tryz.prog w = .ok (.tuple #[.int .i64 0, .bool false]) w := hlk
    have HC1 := Lib.hid (HC.out w HM.out.tm)
    clear ha hlk
    go_wp2_with fail
    refine HC1.out.mono ?_
    rintro e w2 ⟨v2, rfl, ho2, hX2⟩
    obtain ⟨nc, hnc⟩ : ∃ nc, nc = (succ t (i : Int)).length := ⟨_, rfl⟩
    obtain ⟨cl, hcl⟩ : ∃ cl, cl = succ t (i : Int) := ⟨_, rfl⟩
    rw [← hcl] at hnc ho2 HSl HIH HD Hsr
    rw [← hnc] at ho2 HSl
    obtain ⟨a2, c2, rfl⟩ := rw_form0 ho2
    have hnc50 : nc ≤ 50 := HSl.out
    have HM2 : Hid (MOk t w0 M w2 m) := ⟨HM.out.tm.trans (Tm.ext hX2), HM.out.mp.ext hX2, HM.out.good⟩
    have HO2 := Lib.hid ho2
    have Hnc := Lib.hid hnc
    have HX2 := Lib.hid hX2
    clear ho2 hX2 HC1 HC hlk2 q1 q2 q3 q4 q5 hnc hcl
    go_wp2_with fail
    go_loopw [9, 24] (fun v9 v24 wr => ∃ (k most : Nat) (m2 : NP), k ≤ nc ∧ most ≤ 110000 ∧ v24 = .int .i64 k ∧ v9 = .int .i64 most ∧ Hid (most = (cl.take k).foldl (fun m x => max m (deep t x)) 0) ∧ Hid (MOk t w0 M wr m2) ∧ Hid (wr.ownsRow w.heap.size 3 1 (.slice a2 nc c2) nc (cl.map (Value.int .i64))) ∧ Hid (Tm M w wr)) (fun _ v24 _ => nc - (intOf v24).toNat)
    case atStart => exact ⟨0, 0, m, Nat.zero_le _, by omega, rfl, rfl, rfl, HM2.out, HO2.out, Tm.ext HX2.out⟩
    case round =>
      clear HM2 HO2 HX2
      obtain ⟨k, most, m2, hk, hmb, rfl, rfl, HA, HM2, HO, HT⟩ := hrel
      obtain ⟨q1, q2, q3, q4, q5⟩ := Hc.out wr HM2.out.tm
      by_cases hlt : k < nc
      · obtain ⟨x, hx⟩ : ∃ x, cl[k]? = some x := ⟨cl[k]'(by have := Hnc.out; omega), List.getElem?_eq_getElem _⟩
        have hx0 := Hsr.out x (List.mem_of_getElem? hx)
        obtain ⟨c, rfl⟩ : ∃ c : Nat, x = c := ⟨x.toNat, by omega⟩
        obtain ⟨g2, c2', e2, hg2, hgl, _, _⟩ := rw_form HO.out (by omega)
        obtain ⟨rfl, rfl⟩ : a2 = some ⟨g2, 0, none⟩ ∧ c2' = c2 := by cases e2; exact ⟨rfl, rfl⟩
        have k0 := (rw_at HO.out (i := k) (u := .int .i64 (c : Int)) (by rw [List.getElem?_map, hx]; rfl)).1
        have HR := Lib.hid (HIH.out c wr m2 (List.mem_of_getElem? hx) HM2.out)
        have hA2 := fold_snoc (g := deep t) hx
        rw [← HA.out] at hA2
        obtain ⟨dc, hdc⟩ : ∃ dc, dc = deep t (c : Int) := ⟨_, rfl⟩
        have hdb : dc ≤ 101600 := by rw [hdc]; exact Hdl.out _
        unfold FromOut at HR
        rw [← hdc] at HR hA2
        have HA2 := Lib.hid hA2.symm
        have hgM : g2 ≠ M := by have := HMlt.out; have := HM.out.tm.size; omega
        have HgM := Lib.hid hgM
        have Hgl := Lib.hid hgl
        have z0 : (0 : Int) ≤ (k : Int) := by omega
        have z1 : (k : Int) < (nc : Int) := by omega
        clear hx hx0 e2 hg2 hgl hA2 hdc hgM
        go_wp2_with fail
        refine HR.out.mono ?_
        rintro e w5 ⟨m5, rfl, hM5, hG5, hT5⟩
        have HM5 : Hid (MOk t w0 M w5 m5) := ⟨HM2.out.tm.trans hT5, hM5, hG5⟩
        have HT5 : Hid (Tm M w w5) := HT.out.trans hT5
        have HO5 : Hid (w5.ownsRow w.heap.size 3 1 (.slice (some ⟨g2, 0, none⟩) nc c2') nc (cl.map (Value.int .i64))) := own_keep HO.out (fun g hg => by
          cases hg
          exact hT5.block _ Hgl.out HgM.out)
        clear hM5 hG5 hT5 HR q1 q2 q3 q4 q5 k0
        go_wp2
        go_roundw
        case rel => exact ⟨k + 1, max most dc, m5, by omega, by omega, by go_num, by (first | (congr 1; omega) | simp), HA2.out, HM5.out, HO5.out, HT5.out⟩
        case measure => simp [intOf]; omega
      · have hke : cl.take k = cl := List.take_of_length_le (by rw [← Hnc.out]; omega)
        have hDm : D = most + F := by
          rw [HD.out, HA.out, hke]
          rfl
        have HDw : Hid (wrap64 ((F : Int) + (most : Int)) = (D : Int)) := by
          show _ = _
          rw [hDm]
          unfold Go.RowKit.wrap64
          omega
        have hDd : Hid (deep t (i : Int) = D) := HDd.out.symm
        obtain ⟨w6, r6, hM6, hT6⟩ := run_upd (kk := intKey) (P := Tryz.prog) (HM2.out.mp.ext ((Ext.refl wr).drew)) Tryz.underlying161 Tryz.underlying3 (i : Int) (.int .i64 (D : Int))
        have hG6 : GoodM t (updA m2 (i : Int) (.int .i64 (D : Int))) := by
          have := HM2.out.good.add (i : Int)
          rw [hDd.out] at this
          exact this
        have hlk6 := run_look1 (P := Tryz.prog) (kk := intKey) hM6 Tryz.underlying161 Tryz.underlying3 (zero_i64 w6) (i : Int)
        rw [assoc_upd, if_pos rfl] at hlk6
        have hlk7 : (Instr.lookup 161 (.map (some M)) (.int .i64 (i : Int)) false).run Tryz.prog w6 = .ok (.int .i64 (D : Int)) w6 := hlk6
        have hT06 : Tm M wr w6 := (Tm.ext ((Ext.refl wr).drew)).trans (Tm.turn hT6)
        have HM6 : Hid (MOk t w0 M w6 (updA m2 (i : Int) (.int .i64 (D : Int)))) := ⟨HM2.out.tm.trans hT06, hM6, hG6⟩
        have HT6 : Hid (Tm M w w6) := HT.out.trans hT06
        have HR6 := Lib.hid r6
        obtain ⟨p1, _, _, _, _⟩ := Hc.out w6 HM6.out.tm
        have z0 : (0 : Int) ≤ (i : Int) := by omega
        have z1 : (i : Int) < (n : Int) := by omega
        clear hke hDm r6 hM6 hT6 hG6 hlk6 hT06
        go_wp2_with fail
        refine start_ (n := 9) (S := fun w' => w'.cell? ⟨Fo, 0, none⟩ = some (.map (some M)) ∧ w'.cell? ⟨Fr, 0, none⟩ = some (.slice (some ⟨g, 0, none⟩) n cR) ∧ w'.cell? ⟨g, i, none⟩ = some (.int .i64 (F : Nat))) (ds := [8]) #[false, false, false, false, false, false, false, false, false] (by kernel_rfl) rfl rfl ?hS (fun hHeld => ?_)
        case hS => exact ⟨by simpa using q1, by simpa using q4, by simpa using q5⟩
        refine take_ (i := 0) (N := some 34) (v := ?_) (a' := ?_) #[true, false, false, false, false, false, false, false, false] rfl rfl (by kernel_rfl) (fun _ _ _ h => h) (Or.inl ⟨by rfl, ?_⟩) hHeld ?_ ?_
        rotate_left
        · rintro w' ⟨s0, s1, s2⟩
          go_simp
          with_reducible rfl
        rotate_left
        · simp only [Act.put, List.setIfInBounds_toArray, List.set_cons_zero, List.set_cons_succ, i64_w, i32_w]
          rfl
        refine pure_ (i := 1) (N := some 35) (v := ?_) (a' := ?_) #[true, true, false, false, false, false, false, false, false] rfl rfl (by kernel_rfl) (fun _ _ _ h => h) (Or.inl ⟨by rfl, ?_⟩) ?_ ?_
        rotate_left
        · intro w'
          go_simp
          with_reducible rfl
        rotate_left
        · simp only [Act.put, List.setIfInBounds_toArray, List.set_cons_zero, List.set_cons_succ, i64_w, i32_w]
          rfl
        refine take_ (i := 2) (N := some 36) (v := ?_) (a' := ?_) #[true, true, true, false, false, false, false, false, false] rfl rfl (by kernel_rfl) (fun _ _ _ h => h) (Or.inl ⟨by rfl, ?_⟩) hHeld ?_ ?_
        rotate_left
        · rintro w' ⟨s0, s1, s2⟩
          go_simp
          with_reducible rfl
        rotate_left
        · simp only [Act.put, List.setIfInBounds_toArray, List.set_cons_zero, List.set_cons_succ, i64_w, i32_w]
          rfl
        refine pure_ (i := 3) (N := some 37) (v := ?_) (a' := ?_) #[true, true, true, true, false, false, false, false, false] rfl rfl (by kernel_rfl) (fun _ _ _ h => h) (Or.inl ⟨by rfl, ?_⟩) ?_ ?_
        rotate_left
        · intro w'
          go_simp
          with_reducible rfl
        rotate_left
        · simp only [Act.put, List.setIfInBounds_toArray, List.set_cons_zero, List.set_cons_succ, i64_w, i32_w]
          rfl
        refine pure_ (i := 4) (N := some 38) (v := ?_) (a' := ?_) #[true, true, true, true, true, false, false, false, false] rfl rfl (by kernel_rfl) (fun _ _ _ h => h) (Or.inl ⟨by rfl, ?_⟩) ?_ ?_
        rotate_left
        · intro w'
          go_simp
          with_reducible rfl
        rotate_left
        · simp only [Act.put, List.setIfInBounds_toArray, List.set_cons_zero, List.set_cons_succ, i64_w, i32_w]
          rfl
        refine take_ (i := 5) (N := some 39) (v := ?_) (a' := ?_) #[true, true, true, true, true, true, false, false, false] rfl rfl (by kernel_rfl) (fun _ _ _ h => h) (Or.inl ⟨by rfl, ?_⟩) hHeld ?_ ?_
        rotate_left
        · rintro w' ⟨s0, s1, s2⟩
          go_simp
          with_reducible rfl
        rotate_left
        · simp only [Act.put, List.setIfInBounds_toArray, List.set_cons_zero, List.set_cons_succ, i64_w, i32_w]
          rfl
        refine pure_ (i := 6) (N := some 40) (v := ?_) (a' := ?_) #[true, true, true, true, true, true, true, false, false] rfl rfl (by kernel_rfl) (fun _ _ _ h => h) (Or.inl ⟨by rfl, ?_⟩) ?_ ?_
        rotate_left
        · intro w'
          go_simp
          with_reducible rfl
        rotate_left
        · simp only [Act.put, List.setIfInBounds_toArray, List.set_cons_zero, List.set_cons_succ, i64_w, i32_w]
          rfl
        refine pure_ (i := 7) (N := some 41) (v := ?_) (a' := ?_) #[true, true, true, true, true, true, true, true, false] rfl rfl (by kernel_rfl) (fun _ _ _ h => h) (Or.inl ⟨by rfl, ?_⟩) ?_ ?_
        rotate_left
        · intro w'
          go_simp
          with_reducible rfl
        rotate_left
        · simp only [Act.put, List.setIfInBounds_toArray, List.set_cons_zero, List.set_cons_succ, i64_w, i32_w]
          rfl
        refine last_ (i := 8) (N := none) #[true, true, true, true, true, true, true, true, true] rfl rfl (by kernel_rfl) (by decide) (fun K hK => ?_)
        refine skip_ (w1 := w6) (by rfl) rfl (exec_upd (v := .int .i64 (D : Int)) rfl rfl rfl (congrArg (Value.int .i64) HDw.out) HR6.out) ?_
        refine hK.out _ _ ?_
        clear hK K
        refine done_ (by kernel_rfl) ?_
        clear hHeld q1 q2 q3 q4 q5
        go_wp2
        go_ret
        exact ⟨_, rfl, HM6.out.mp, HM6.out.good, HT6.out⟩

theorem goesC_ {P : Program} {ops : Array Oper} {Q : Exit → Act → World → Prop} {oi : Oper} {N : Option Tmp} {a : Act} {w : World} {K : Act → World → Prop} {f : FuncId} {fn : Func} {x : Operand} {caps : Array Value} {xs : Array Operand} {ts : Array TypeId} (hf : P.funcs[f]? = some fn) (hname : (fn.name == "runtime.NumGoroutine") = false) (hb : fn.body.isSome = true) (args : Array Value)
    (hw : Region.wanted oi (yielded ops a.tmps) = true) (hN : oi.dst = N) (hop : oi.op = .call { callee := .value x, args := xs, argTypes := ts }) (hx : a.eval x = .func (.func f) #[] caps) (hargs : xs.map a.eval ++ caps = args)
    (h : Calls P f args w fun e w' => ∃ v, e = .returned v ∧ K (a.put N v) w') : if Region.wanted oi (yielded ops a.tmps) = true then Oper.wp P oi a w K Q else K (a.put N undef) w := by
  refine call_ f args hw hN ?_ h
  have he := enters_ hf hname hb args w
  unfold execOp
  simp [hop, resolve, hx, Deferred.ofValue, invoke, hargs, he]
theorem MapAt.lt_of {w : World} {b : Nat} {m : NP} (h : MapAt intKey w b m) : b < w.heap.size := MapAt.lt h
set_option maxRecDepth 1000000 in
set_option maxHeartbeats 4000000 in
theorem i_bound (K : Foot) (t : PTree) (fs : List Fn) (ub : Nat) (w : World) (hK : ∀ b, K b → b < w.heap.size) (hU : UnitAt K w (.pointer (some ⟨ub, 0, none⟩)) t fs) (hB : Bodies t.funcs fs) (hS : ∀ p ∈ fs, SoundFn p) (hv : valid t = true) (hrec : 0 ≤ findF t mainB ∧ ∀ x, MetF t (findF t mainB) x → ¬ Rch t [x] x) (R : Int) (HR : Hid (R = if ∃ x ∈ t.funcs, 2032 < frameSz x then -1 else ((deep t (findF t mainB) : Nat) : Int))) :
    Calls Tryz.prog 57 #[.pointer (some ⟨ub, 0, none⟩)] w (Gives (.int .i64 R) w) := by
  have hn50 := (valid_bounds hv).2.1
  have hln : fs.length ≤ 50 := by
    rw [← hB.1, List.length_map] at hn50
    exact hn50
  have hmr := findF_range t mainB
  obtain ⟨m, hm⟩ : ∃ m : Nat, findF t mainB = m := ⟨(findF t mainB).toNat, by omega⟩
  have hmn : m < t.funcs.length := by
    rcases hmr with h | ⟨_, h, _⟩
    · omega
    · omega
  rw [hm] at hrec HR
  obtain ⟨n, hn⟩ : ∃ n, n = t.funcs.length := ⟨_, rfl⟩
  obtain ⟨w1, hw1⟩ : ∃ w1, w1 = w.alloc (.cells #[.pointer (some ⟨ub, 0, none⟩)] 57) := ⟨_, rfl⟩
  have X1 : Ext w w1 := by rw [hw1]; exact (Ext.refl w).alloc _
  have BU : Blk w1 w.heap.size 57 #[.pointer (some ⟨ub, 0, none⟩)] := by rw [hw1]; exact Blk.alloc _ _ _
  have HFr := Lib.hid (i_frames K t fs (.pointer (some ⟨ub, 0, none⟩)) w1 (fun b hb => Nat.lt_of_lt_of_le (hK b hb) X1.size) (hU.ext X1) hB hS hln)
  have HUx : Hid (∀ w', Ext w w' → UnitAt K w' (.pointer (some ⟨ub, 0, none⟩)) t fs) := fun w' k => hU.ext k
  obtain ⟨_, vG, vF, vs, ps, e, _, hc, hG, hF, _⟩ := hU
  cases e
  have HFN : Hid (∀ w', Ext w w' → Calls Tryz.prog 74 #[.agg #[vG, vF], .string mainB] w' (Gives (.int .i64 (m : Int)) w')) := fun w' hX => by
    have := i_funcNamed K t vG vF mainB w' (hG.ext hX (fun _ _ h => h.any)) (Sl.ext hF hX (fun _ _ h => h.ext hX))
    rw [hm] at this
    exact this
  obtain ⟨aG, nG, cG, rfl⟩ := hG.shape
  obtain ⟨aF, nF, cF, rfl⟩ := hF.shape
  have u0 := hc 0 _ rfl
  have u1 := hc 1 _ rfl
  simp only [Nat.zero_add] at u0 u1
  have HU0 := Lib.hid u0
  have HU1 := Lib.hid u1
  have HX1 := Lib.hid X1
  have HBU := Lib.hid BU
  have HW1 := Lib.hid hw1
  have HK := Lib.hid hK
  have Hn := Lib.hid hn
  have Hv := Lib.hid hv
  have Hrec := Lib.hid hrec
  have HB := Lib.hid hB
  have hmn' : m < n := by omega
  have hn50' : n ≤ 50 := by omega
  have hmm := @run_makeMap Tryz.prog
  have b0 : w1.cell? ⟨w.heap.size, 0, none⟩ = some (.pointer (some ⟨ub, 0, none⟩)) := (BU.cell 0).trans rfl
  have hmn : m < n := hmn'
  clear hn50 hln hmr hm hc hG hF u0 u1 X1 BU hw1 hK hn hv hrec hB hS hmn'
  rw [HW1.out] at b0
  go_enter Tryz.func57, Tryz.ntmps57
  go_wp2_with fail
  rw [← HW1.out]
  refine HFr.out.mono ?_
  rintro e w2 ⟨v2, rfl, ho2, hX2⟩
  rw [List.length_map, ← Hn.out] at ho2
  obtain ⟨a2, c2, rfl⟩ := rw_form0 ho2
  obtain ⟨g, c2', e2, hg, hgl, hlc, hlm⟩ := rw_form ho2 (by omega)
  obtain ⟨rfl, rfl⟩ : a2 = some ⟨g, 0, none⟩ ∧ c2' = c2 := by cases e2; exact ⟨rfl, rfl⟩
  have HO2 := Lib.hid ho2
  have HX2 := Lib.hid hX2
  obtain ⟨w3, hw3⟩ : ∃ w3, w3 = w2.alloc (.cells #[.slice (some ⟨g, 0, none⟩) n c2'] 27) := ⟨_, rfl⟩
  have X3 : Ext w2 w3 := by rw [hw3]; exact (Ext.refl w2).alloc _
  have BF : Blk w3 w2.heap.size 27 #[.slice (some ⟨g, 0, none⟩) n c2'] := by rw [hw3]; exact Blk.alloc _ _ _
  have HX3 := Lib.hid (hX2.trans X3)
  have HBF := Lib.hid BF
  have HW3 := Lib.hid hw3
  have Hcel : Hid (∀ i x, i < n → t.funcs[i]? = some x → w3.cell? ⟨g, i, none⟩ = some (.int .i64 (frameSz x : Nat))) := fun i x hi hx =>
    X3.cell (rw_at ho2 (i := i) (u := .int .i64 (frameSz x : Nat)) (by rw [List.map_map, List.getElem?_map, hx]; rfl)).1
  have Hgl := Lib.hid hgl
  clear b0 HFr ho2 hX2 X3 BF e2 hg hgl hw3
  have b1 : w3.cell? ⟨w2.heap.size, 0, none⟩ = some (.slice (some ⟨g, 0, none⟩) n c2') := (HBF.out.cell 0).trans rfl
  rw [HW3.out] at b1
  go_wp2_with fail
  rw [← HW3.out]
  clear b1
  go_loop [12] (fun v12 => ∃ k : Nat, k ≤ n ∧ v12 = .int .i64 k ∧ Hid (∀ i x, i < k → t.funcs[i]? = some x → frameSz x ≤ 2032)) (fun v12 => n - (intOf v12).toNat)
  case atStart => exact ⟨0, Nat.zero_le _, rfl, fun i x h => absurd h (Nat.not_lt_zero _)⟩
  case round =>
    obtain ⟨k, hk, rfl, HA⟩ := hrel
    by_cases hlt : k < n
    · obtain ⟨x, hx⟩ : ∃ x, t.funcs[k]? = some x := ⟨t.funcs[k]'(by have := Hn.out; omega), List.getElem?_eq_getElem _⟩
      have k0 := Hcel.out k x hlt hx
      obtain ⟨fz, hfz⟩ : ∃ fz, fz = frameSz x := ⟨_, rfl⟩
      rw [← hfz] at k0
      have z0 : (0 : Int) ≤ (k : Int) := by omega
      have z1 : (k : Int) < (n : Int) := by omega
      by_cases hb : (2032 : Int) < (fz : Int)
      · have HRr : Hid (R = -1) := by
          show _ = _
          rw [HR.out, if_pos ⟨x, List.mem_of_getElem? hx, by omega⟩]
        clear hx hfz
        go_wp2
        go_ret
        exact Gives.int HRr.out.symm (HX1.out.trans HX3.out)
      · have HA2 : Hid (∀ i x, i < k + 1 → t.funcs[i]? = some x → frameSz x ≤ 2032) := fun i y hi hy => by
          by_cases hik : i < k
          · exact HA.out i y hik hy
          · obtain rfl : k = i := by omega
            obtain rfl : x = y := Option.some.inj (hx.symm.trans hy)
            omega
        clear hx hfz
        go_wp2
        go_round
        case rel => exact ⟨k + 1, by omega, by go_num, HA2.out⟩
        case measure => simp [intOf]; omega
    · obtain rfl : n = k := by omega
      have hall : ∀ x ∈ t.funcs, frameSz x ≤ 2032 := fun x hx => by
        obtain ⟨i, hi, e⟩ := List.getElem_of_mem hx
        exact HA.out i x (by have := Hn.out; omega) (by rw [List.getElem?_eq_getElem hi, e])
      have HRr : Hid (R = (deep t (m : Int) : Nat)) := by
        show _ = _
        rw [HR.out, if_neg]
        rintro ⟨x, hx, h⟩
        have := hall x hx
        omega
      have Hall := Lib.hid hall
      have hmf : ∀ (fn : Go.Fn) (first cap : Array Value) (w : World), (Instr.makeFunc fn first cap).run Tryz.prog w = .ok (.func fn first cap) w := fun _ _ _ _ => rfl
      clear hall
      obtain ⟨M, hM⟩ : ∃ M, M = w3.heap.size := ⟨_, rfl⟩
      obtain ⟨Fo, hFo⟩ : ∃ Fo, Fo = M + 1 := ⟨_, rfl⟩
      obtain ⟨Cl, hCl⟩ : ∃ Cl, Cl = M + 1 + 1 := ⟨_, rfl⟩
      obtain ⟨Fr, hFr⟩ : ∃ Fr, Fr = w2.heap.size := ⟨_, rfl⟩
      obtain ⟨Ub, hUb⟩ : ∃ Ub, Ub = w.heap.size := ⟨_, rfl⟩
      obtain ⟨cv, hcv⟩ : ∃ cv, cv = Value.func (.func 98) #[] #[.pointer (some ⟨Fo, 0, none⟩), .pointer (some ⟨Ub, 0, none⟩), .pointer (some ⟨Cl, 0, none⟩), .pointer (some ⟨Fr, 0, none⟩)] := ⟨_, rfl⟩
      obtain ⟨wN, hwN⟩ : ∃ wN, wN = ((w3.alloc (.map #[] 0)).alloc (.cells #[.map (some M)] 161)).alloc (.cells #[.nilFunc] 162) := ⟨_, rfl⟩
      obtain ⟨wA, hwA⟩ : ∃ wA, wA = ((w3.alloc (.map #[] 0)).alloc (.cells #[.map (some M)] 161)).alloc (.cells #[cv] 162) := ⟨_, rfl⟩
      have XA : Ext w3 wA := by rw [hwA]; exact (((Ext.refl w3).alloc _).alloc _).alloc _
      have hs1 : (w3.alloc (.map #[] 0)).heap.size = Fo := by rw [hFo, hM]; simp
      have hs2 : ((w3.alloc (.map #[] 0)).alloc (.cells #[.map (some M)] 161)).heap.size = Cl := by rw [hCl, hM]; simp
      have BN : Blk wN Cl 162 #[.nilFunc] := by rw [hwN, ← hs2]; exact Blk.alloc _ _ _
      have BC : Blk wA Cl 162 #[cv] := by rw [hwA, ← hs2]; exact Blk.alloc _ _ _
      have BM : Blk wA Fo 161 #[.map (some M)] := by rw [hwA, ← hs1]; exact (Blk.alloc _ _ _).ext ((Ext.refl _).alloc _)
      have MM : MapAt intKey wA M ([] : NP) := by rw [hwA, hM]; exact ((MapAt.new intKey w3).ext ((Ext.refl _).alloc _)).ext ((Ext.refl _).alloc _)
      have cA : wN.cell? ⟨Cl, 0, none⟩ = some .nilFunc := (BN.cell 0).trans rfl
      have gA : wN.frozen? ⟨Cl, 0, none⟩ = false := BN.frozen 0
      have HXA := Lib.hid XA
      have HBC := Lib.hid BC
      have HBM := Lib.hid BM
      have HMM := Lib.hid MM
      have hsf : ∀ (a : Addr) (fn : Go.Fn) (first cap : Array Value) (mo : Mode) (w : World), (store a (.func fn first cap) mo).run Tryz.prog w = stored Tryz.prog w a (.func fn first cap) mo := fun a fn first cap mo w => run_store Tryz.prog w a _ mo rfl
      rw [hwN, hCl, hM] at cA gA
      have HFo : Hid (w3.heap.size + 1 = Fo) := by rw [hFo, hM]; rfl
      have HCl : Hid (w3.heap.size + 1 + 1 = Cl) := by rw [hCl, hM]; rfl
      have HMm : Hid (w3.heap.size = M) := hM.symm
      have HFr' : Hid (w2.heap.size = Fr) := hFr.symm
      have HUb : Hid (w.heap.size = Ub) := hUb.symm
      have Hcv := Lib.hid hcv
      have HWA : Hid (((w3.alloc (.map #[] 0)).alloc (.cells #[.map (some M)] 161)).alloc (.cells #[cv] 162) = wA) := hwA.symm
      clear hwN hwA XA hs1 hs2 BN BC BM MM hM hFo hCl hFr hUb hcv
      go_wp2_with fail
      clear cA gA hsf hmf
      rw [HCl.out, HFo.out, HMm.out, HFr'.out]
      try rw [HUb.out]
      rw [← Hcv.out, HWA.out]
      have HXwA := Lib.hid (HX3.out.trans HXA.out)
      have hFS : FromS K t fs wA Fo Ub Cl Fr M ub g n c2' := by
        have hcl : wA.cell? ⟨Cl, 0, none⟩ = some cv := (HBC.out.cell 0).trans rfl
        rw [Hcv.out] at hcl
        have hUb2 : wA.cell? ⟨Ub, 0, none⟩ = some (.pointer (some ⟨ub, 0, none⟩)) := by
          rw [← HUb.out]
          exact HXwA.out.cell ((HBU.out.cell 0).trans rfl)
        have hFr2 : wA.cell? ⟨Fr, 0, none⟩ = some (.slice (some ⟨g, 0, none⟩) n c2') := by
          rw [← HFr'.out]
          exact HXA.out.cell ((HBF.out.cell 0).trans rfl)
        have h2 : w2.heap.size < w3.heap.size := HBF.out.lt
        have h1 : w.heap.size < w1.heap.size := HBU.out.lt
        have h3 := HX3.out.size
        have e1 := HUb.out
        have e2 := HFr'.out
        have e3 := HMm.out
        have e4 := HFo.out
        have e5 := HCl.out
        have e6 := Hgl.out
        refine ⟨(HBM.out.cell 0).trans rfl, hUb2, hcl, hFr2, fun i hi => ?_, ⟨by omega, by omega, by omega, by omega, by omega⟩, HUx.out _ (HX1.out.trans HXwA.out), fun b hb => ?_, HMM.out.lt, ⟨Hn.out.symm, hlc, hlm⟩⟩
        · obtain ⟨x, hx⟩ : ∃ x, t.funcs[i]? = some x := ⟨t.funcs[i]'(by have := Hn.out; omega), List.getElem?_eq_getElem _⟩
          have e : fsz t (i : Int) = frameSz x := by unfold fsz; simp [hx]
          rw [e]
          exact HXA.out.cell (Hcel.out i x hi hx)
        · have := HK.out b hb
          omega
      have hmr : 0 ≤ (m : Int) ∧ (m : Int) < t.funcs.length := ⟨by omega, by have := Hn.out; omega⟩
      have HFrom : Hid (∀ w', MOk t wA M w' [] → Calls Tryz.prog 98 #[.int .i64 (m : Int), .pointer (some ⟨Fo, 0, none⟩), .pointer (some ⟨Ub, 0, none⟩), .pointer (some ⟨Cl, 0, none⟩), .pointer (some ⟨Fr, 0, none⟩)] w' (FromOut t M (m : Int) w')) := fun w' hk =>
        i_from K t fs (m : Int) wA Fo Ub Cl Fr M ub g n c2' hFS Hv.out Hall.out hmr Hrec.out.2 t.funcs.length m w' [] (met_n hmr Hrec.out.2 (.inl rfl)) (.inl rfl) hk
      have d0 : wA.cell? ⟨Cl, 0, none⟩ = some cv := (HBC.out.cell 0).trans rfl
      have d1 : wA.cell? ⟨Ub, 0, none⟩ = some (.pointer (some ⟨ub, 0, none⟩)) := hFS.c2
      have d2 : wA.cell? ⟨ub, 0, none⟩ = some (.slice aG nG cG) := (HX1.out.trans HXwA.out).cell HU0.out
      have d3 : wA.cell? ⟨ub, 1, none⟩ = some (.slice aF nF cF) := (HX1.out.trans HXwA.out).cell HU1.out
      clear hFS hmr
      refine start_ (n := 8) (S := fun w' => w'.cell? ⟨Cl, 0, none⟩ = some cv ∧ w'.cell? ⟨Ub, 0, none⟩ = some (.pointer (some ⟨ub, 0, none⟩)) ∧ w'.cell? ⟨ub, 0, none⟩ = some (.slice aG nG cG) ∧ w'.cell? ⟨ub, 1, none⟩ = some (.slice aF nF cF)) (ds := [6]) #[false, false, false, false, false, false, false, false] (by kernel_rfl) rfl rfl ?hS (fun hHeld => ?_)
      case hS => exact ⟨by simpa using d0, by simpa using d1, by simpa using d2, by simpa using d3⟩
      refine take_ (i := 0) (N := some 21) (v := ?_) (a' := ?_) #[true, false, false, false, false, false, false, false] rfl rfl (by kernel_rfl) (fun _ _ _ h => h) (Or.inl ⟨by rfl, ?_⟩) hHeld ?_ ?_
      rotate_left
      · rintro w' ⟨s0, s1, s2, s3⟩
        go_simp
        with_reducible rfl
      rotate_left
      · simp only [Act.put, List.setIfInBounds_toArray, List.set_cons_zero, List.set_cons_succ, i64_w, i32_w]
        rfl
      refine take_ (i := 1) (N := some 22) (v := ?_) (a' := ?_) #[true, true, false, false, false, false, false, false] rfl rfl (by kernel_rfl) (fun _ _ _ h => h) (Or.inl ⟨by rfl, ?_⟩) hHeld ?_ ?_
      rotate_left
      · rintro w' ⟨s0, s1, s2, s3⟩
        go_simp
        with_reducible rfl
      rotate_left
      · simp only [Act.put, List.setIfInBounds_toArray, List.set_cons_zero, List.set_cons_succ, i64_w, i32_w]
        rfl
      refine pure_ (i := 2) (N := some 23) (v := ?_) (a' := ?_) #[true, true, true, false, false, false, false, false] rfl rfl (by kernel_rfl) (fun _ _ _ h => h) (Or.inl ⟨by rfl, ?_⟩) ?_ ?_
      rotate_left
      · intro w'
        go_simp
        with_reducible rfl
      rotate_left
      · simp only [Act.put, List.setIfInBounds_toArray, List.set_cons_zero, List.set_cons_succ, i64_w, i32_w]
        rfl
      refine pure_ (i := 3) (N := some 24) (v := ?_) (a' := ?_) #[true, true, true, true, false, false, false, false] rfl rfl (by kernel_rfl) (fun _ _ _ h => h) (Or.inl ⟨by rfl, ?_⟩) ?_ ?_
      rotate_left
      · intro w'
        go_simp
        with_reducible rfl
      rotate_left
      · simp only [Act.put, List.setIfInBounds_toArray, List.set_cons_zero, List.set_cons_succ, i64_w, i32_w]
        rfl
      refine take_ (i := 4) (N := some 25) (v := ?_) (a' := ?_) #[true, true, true, true, true, false, false, false] rfl rfl (by kernel_rfl) (fun _ _ _ h => h) (Or.inl ⟨by rfl, ?_⟩) hHeld ?_ ?_
      rotate_left
      · rintro w' ⟨s0, s1, s2, s3⟩
        go_simp
        with_reducible rfl
      rotate_left
      · simp only [Act.put, List.setIfInBounds_toArray, List.set_cons_zero, List.set_cons_succ, i64_w, i32_w]
        rfl
      refine one_ (i := 5) (N := some 26) #[true, true, true, true, true, true, false, false] rfl rfl (by kernel_rfl) (by decide) (fun K hK => ?_)
      refine goes_ (N := some 26) Tryz.func74 (by kernel_rfl) rfl #[.agg #[.slice aG nG cG, .slice aF nF cF], .string mainB] (by rfl) rfl rfl (by simp [Act.eval, mainB]) ?_
      refine (HFN.out _ ((HX1.out.trans HXwA.out).drew)).mono ?_
      rintro e w5 ⟨rfl, hX5⟩
      refine ⟨_, rfl, ?_⟩
      have hXA5 : Ext wA w5 := ((Ext.refl wA).drew).trans hX5
      refine hK.out _ _ ⟨hXA5.cell d0, hXA5.cell d1, hXA5.cell d2, hXA5.cell d3⟩ (fun hHeld => ?_)
      clear hK K
      refine norm_ (a' := ?_) ?_ ?_
      rotate_left
      · show Act.put _ (some 26) _ = _
        simp only [Act.put, List.setIfInBounds_toArray, List.set_cons_zero, List.set_cons_succ, i64_w, i32_w]
        rfl
      refine last_ (i := 6) (N := some 27) #[true, true, true, true, true, true, true, false] rfl rfl (by kernel_rfl) (by decide) (fun K hK => ?_)
      refine goesC_ (N := some 27) Tryz.func98 (by kernel_rfl) rfl #[.int .i64 (m : Int), .pointer (some ⟨Fo, 0, none⟩), .pointer (some ⟨Ub, 0, none⟩), .pointer (some ⟨Cl, 0, none⟩), .pointer (some ⟨Fr, 0, none⟩)] (by rfl) rfl rfl Hcv.out (by simp [Act.eval]) ?_
      refine (HFrom.out w5 ⟨Tm.ext hXA5, HMM.out.ext hXA5, GoodM.nil t⟩).mono ?_
      rintro e w6 ⟨m6, rfl, hM6, hG6, hT6⟩
      refine ⟨_, rfl, ?_⟩
      have hB6 : Ext w w6 := Below.trans ((HX1.out.trans HXwA.out).trans hXA5) (hT6.below (by have h1 : w.heap.size < w1.heap.size := HBU.out.lt; have := HX3.out.size; have := HMm.out; omega) ((HX1.out.trans HXwA.out).trans hXA5).size)
      have HB6 := Lib.hid hB6
      clear hB6 hT6 hM6 hG6
      refine hK.out _ _ ?_
      clear hK K
      refine pure_ (i := 7) (N := some 2) (v := ?_) (a' := ?_) #[true, true, true, true, true, true, true, true] rfl rfl (by kernel_rfl) (fun _ _ _ h => h) (Or.inl ⟨by rfl, ?_⟩) ?_ ?_
      rotate_left
      · intro w'
        go_simp
        with_reducible rfl
      rotate_left
      · simp only [Act.put, List.setIfInBounds_toArray, List.set_cons_zero, List.set_cons_succ, i64_w, i32_w]
        rfl
      refine done_ (by kernel_rfl) ?_
      clear hHeld d0 d1 d2 d3
      go_wp2
      go_ret
      exact Gives.int HRr.out.symm HB6.out
set_option maxRecDepth 1000000 in
set_option maxHeartbeats 4000000 in
theorem i_Bound (K : Foot) (t : PTree) (vG vF : Value) (w : World) (hG : SlGlob K w vG t.globals) (hF : SlFunc K w vF t.funcs) (hz : Small t) (hres : Res w) :
    Calls Tryz.prog 25 #[.agg #[vG, vF]] w (Gives (.int .i64 (boundAns t)) w) := by
  obtain ⟨w1, hw1⟩ : ∃ w1, w1 = w.alloc (.cells #[vG, vF] 32) := ⟨_, rfl⟩
  have X0 : Ext w w1 := by rw [hw1]; exact (Ext.refl w).alloc _
  have HU := Lib.hid (i_sound _ t vG vF w1 ((SlGlob.bound hG).ext X0 (fun _ _ h => h.any)) ((SlFunc.bound hF).ext X0 (fun _ _ h => h.ext X0)) hz (hres.ext X0) (fun b hb => Nat.lt_of_lt_of_le hb.2 X0.size))
  obtain ⟨aG, nG, cG, rfl⟩ := hG.shape
  obtain ⟨aF, nF, cF, rfl⟩ := hF.shape
  have BT : Blk w1 w.heap.size 32 #[.slice aG nG cG, .slice aF nF cF] := by rw [hw1]; exact Blk.alloc _ _ _
  have t0 := (BT.cell 0).trans (show _ = some (Value.slice aG nG cG) from rfl)
  have t1 := (BT.cell 1).trans (show _ = some (Value.slice aF nF cF) from rfl)
  obtain ⟨R, hR⟩ : ∃ R, R = boundAns t := ⟨_, rfl⟩
  rw [← hR]
  have HR := Lib.hid hR
  have HX0 := Lib.hid X0
  have HW1 := Lib.hid hw1
  rw [hw1] at t0 t1
  clear hG hF hz hres hR X0 BT hw1
  go_enter Tryz.func25, Tryz.ntmps25
  go_wp2_with fail
  rw [← HW1.out]
  refine HU.out.mono ?_
  rintro e w2 (⟨h0, fs, ub, hb, hs, rfl, hu, hX2⟩ | ⟨h0, rfl, hX2⟩)
  · have hv := check_valid h0
    have hc := h0
    unfold checkAns at hc
    rw [if_pos hv] at hc
    have HRr : Hid (R = if ∃ x ∈ t.funcs, 2032 < frameSz x then -1 else ((deep t (findF t mainB) : Nat) : Int)) := by
      show _ = _
      rw [HR.out]
      by_cases hx : ∃ x ∈ t.funcs, 2032 < frameSz x
      · rw [if_pos hx]
        obtain ⟨x, hx1, hx2⟩ := hx
        exact bound_wide hx1 hx2
      · rw [if_neg hx]
        exact bound_deep h0 (fun x hxm => Nat.le_of_not_lt fun hl => hx ⟨x, hxm, hl⟩)
    have HF := Lib.hid (i_bound _ t fs ub w2 (fun b hb => hb.2) hu.bound hb hs hv (check_met hc) R HRr)
    have HX2 := Lib.hid (HX0.out.trans hX2)
    clear h0 hb hs hu hX2 hv hc t0 t1 HU HRr
    go_wp2_with fail
    refine HF.out.mono ?_
    rintro e w3 ⟨rfl, hX3⟩
    go_wp2
    go_ret
    exact Gives.int rfl (HX2.out.trans hX3)
  · have HRr : Hid (R = -1) := by
      show _ = _
      rw [HR.out]; exact bound_neg h0
    have HX2 := Lib.hid (HX0.out.trans hX2)
    clear h0 hX2
    go_wp2
    go_ret
    exact Gives.int HRr.out.symm HX2.out
end Go.Proofs.YtcfggjmdcaoecaaGreatDoor
