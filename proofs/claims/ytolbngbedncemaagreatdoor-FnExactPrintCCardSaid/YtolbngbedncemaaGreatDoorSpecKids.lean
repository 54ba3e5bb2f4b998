/- The reference's l2Kids yields the lists of the operands. (The part of FrSpec that needs no frames.) -/
import Derived.Test.YtolbngbedncemaaGreatDoorSpecShape
import Derived.Test.YtolbngbedncemaaGreatDoorSpecCallsA
import Derived.Test.YtolbngbedncemaaGreatDoorApp2
import Derived.Test.YtolbngbedncemaaGreatDoorMdCheck
import Derived.Test.YtolbngbedncemaaGreatDoorCuts
import Derived.Deep.Upon
import Derived.Lib.AppendZeros
import Derived.Deep.AppendLies
import Derived.ArgAppend
import Derived.OwnWalk
import Derived.WalkSpells
import Derived.Lib.SliceRun
import Derived.Deep.AppendSrc
set_option linter.unusedVariables false
set_option linter.unusedSimpArgs false
namespace Go.Proofs.YtolbngbedncemaaGreatDoor
open Go Go.RowKit Md

theorem info_node : (Tryz.prog.info? 56).map (fun i => (i.zero, i.size, i.bytes)) = some (some (.agg #[.int .i64 0, .int .i64 0, .string ⟨#[]⟩]), 3, 32) := by kernel_rfl
theorem cut_head {P : Program} {t e : TypeId} {i : TypeInfo} {sz : Nat} (ht : P.underlying t = some (.slice e)) (hi : P.info? e = some i) (hsz : i.size = sz) (a : Option Addr) (n c up : Nat) (h1 : up ≤ n) (h2 : n ≤ c) :
    ∃ a', (∀ W : World, (Instr.slice t (.slice a n c) none (some (.int .i64 up)) none).run P W = .ok (.slice a' up c) W) ∧ CutAt sz 0 up a a' := by
  refine ⟨_, fun W => ?_, CutAt.mk_ sz 0 up c a (by omega)⟩
  have hel : P.elem t = e := by simp [Program.elem, ht]
  have hu : P.underlying t = some (.slice (P.elem t)) := by rw [hel]; exact ht
  rw [run_slice_h W t a n c hu .i64 (up : Int) (by omega) (by omega), hel]
  simp [sizeOf, typeInfo, hi, hsz, sliced, Result.andThen]
theorem info_nodes : (Tryz.prog.info? 52).map (fun i => (i.zero, i.size, i.bytes)) = some (some (.slice none 0 0), 1, 24) := by kernel_rfl
/-- A slice as three numbers. -/
abbrev Tri := Option Addr × Nat × Nat
def encS (p : Tri) : Value := .slice p.1 p.2.1 p.2.2
structure KidsAt (K : Foot) (w : World) (ts : List Tri) (args : List Ex) : Prop where
  len : ts.length = args.length
  at_ : ∀ (i : Nat) (t : Tri) (a : Ex), ts[i]? = some t → args[i]? = some a → SlNode K w (encS t) a.list
theorem KidsAt.ext {K : Foot} {w w' : World} {ts : List Tri} {args : List Ex} (h : KidsAt K w ts args) (k : Ext w w') : KidsAt K w' ts args :=
  ⟨h.len, fun i t a h1 h2 => (h.at_ i t a h1 h2).ext k (fun _ _ h => h.any)⟩
theorem KidsAt.cons {K : Foot} {w : World} {t : Tri} {ts : List Tri} {a : Ex} {args : List Ex} (h0 : SlNode K w (encS t) a.list) (h : KidsAt K w ts args) : KidsAt K w (t :: ts) (a :: args) :=
  ⟨by simp [h.len], fun i u b h1 h2 => by
    cases i with
    | zero => cases h1; cases h2; exact h0
    | succ i => exact h.at_ i u b (by simpa using h1) (by simpa using h2)⟩
theorem ok_nodes (x : Ex) : x.ok → ∀ n ∈ x.list, (arity n).isSome = true := by
  refine Ex.ind (P := fun x => x.ok → ∀ n ∈ x.list, (arity n).isSome = true) (fun n args ih => ?_) x
  intro h m hm
  rw [Ex.ok_mk] at h
  rw [Ex.list_mk] at hm
  rcases List.mem_append.1 hm with hm | hm
  · obtain ⟨a, ha, hm⟩ := List.mem_flatMap.1 hm
    exact ih a ha (h.2 a ha) m hm
  · rw [List.mem_singleton.1 hm, h.1]; rfl
theorem from_last (a : List PNode) (x : Ex) (hx : x.ok) : fromL (a ++ x.list) (a ++ x.list).length 1 = (a.length : Int) := by
  have h := fromL_tree x hx a [] 1 (by omega)
  rw [List.append_nil, show (1 : Int) - 1 = 0 by omega, fromL_stop _ _ _ (Int.le_refl _)] at h
  rw [List.length_append]
  exact h
/-- The lists of the first operands. -/
def pre (args : List Ex) (j : Nat) : List PNode := (args.take j).flatMap Ex.list
theorem pre_succ {args : List Ex} {j : Nat} {a : Ex} (h : args[j]? = some a) : pre args (j + 1) = pre args j ++ a.list := by
  unfold pre
  rw [take_snoc h, List.flatMap_append]
  simp
def KidsOut (K : Foot) (args : List Ex) (w : World) (e : Ending) (w' : World) : Prop :=
  ∃ v ts, e = .returned v ∧ w'.ownsRow w.heap.size 52 1 v ts.length (ts.map encS) ∧ KidsAt K w' ts args ∧ Ext w w'
set_option maxRecDepth 1000000 in
set_option maxHeartbeats 0 in
theorem s_l2Kids (K : Foot) (n : PNode) (args : List Ex) (hx : (Ex.mk n args).ok) (v : Value) (w : World) (hv : SlNode K w v (Ex.mk n args).list) (hl : (Ex.mk n args).list.length ≤ 1000000) :
    Calls Tryz.prog 108 #[v] w (KidsOut K args w) := by
  have hok := (Ex.ok_mk n args).1 hx
  have har := ar_of_arity hok.1
  have hnodes := ok_nodes _ hx
  have hlist : (Ex.mk n args).list = pre args args.length ++ [n] := by rw [Ex.list_mk]; unfold pre; rw [List.take_length]
  have hargs : args.length ≤ 1000000 := by
    have h1 : ∀ (l : List Ex), l.length ≤ (l.flatMap Ex.list).length := by
      intro l
      induction l with
      | nil => simp
      | cons a r ih =>
        have := a.list_pos
        rw [List.flatMap_cons, List.length_append, List.length_cons]
        omega
    rw [Ex.list_mk, List.length_append] at hl
    have := h1 args
    omega
  have hroot : (Ex.mk n args).list.getLast? = some n := by rw [hlist]; simp
  have Hroot := Lib.hid (s_l2Root K _ v n w hv hroot)
  have Harity : Hid (∀ w', Calls Tryz.prog 150 #[.agg #[.int .i64 n.kind, .int .i64 n.val, .string n.name]] w' (Gives (.int .i64 (args.length : Int)) w')) := fun w' => by
    have := s_l2Arity n w'
    rw [har] at this
    exact this
  have HAr : Hid (∀ j, j ≤ args.length → ArOk (pre args j)) := fun j hj m hm => by
    refine ArOk.of_isSome (hnodes m ?_)
    rw [hlist]
    refine List.mem_append_left _ ?_
    unfold pre at hm ⊢
    obtain ⟨a, ha, hma⟩ := List.mem_flatMap.1 hm
    rw [List.take_length]
    exact List.mem_flatMap.2 ⟨a, List.mem_of_mem_take ha, hma⟩
  have HLe : Hid (∀ j, (pre args j).length ≤ 1000000) := fun j => by
    have h1 : (pre args j).length ≤ (pre args args.length).length := by
      unfold pre
      rw [List.take_length]
      conv => rhs; rw [← List.take_append_drop j args]
      rw [List.flatMap_append, List.length_append]
      omega
    rw [hlist, List.length_append] at hl
    omega
  have Hoks : Hid (∀ a ∈ args, a.ok) := hok.2
  obtain ⟨i0, hi0, hz0, hz1, hz2⟩ := info_parts info_nodes
  obtain ⟨iN, hiN, hnz, hns, hnb⟩ := info_parts info_node
  obtain ⟨a, N, c, rfl⟩ := hv.shape
  have hN := sl_len hv
  have hcap := hv.op
  obtain ⟨a', N', c', e', _, hNc, hcm, _⟩ := hcap
  cases e'
  have hN1 : (pre args args.length).length + 1 = N := by rw [hlist, List.length_append] at hN; simpa using hN
  obtain ⟨aQ, hcut, hat⟩ := cut_head (P := Tryz.prog) Tryz.underlying52 hiN hns a N c (N - 1) (by omega) hNc
  have hR0 : SlNode K w (.slice aQ (N - 1) c) (pre args args.length) := by
    have h := Sl.cutAt hv 0 (N - 1) (by omega) (by omega) (Nat.le_refl _) hat
    rw [List.drop_zero, hlist, List.take_left' (by omega)] at h
    exact h
  obtain ⟨N1, hN1e⟩ : ∃ N1, N1 = N - 1 := ⟨_, rfl⟩
  rw [← hN1e] at hcut hR0
  have eN : ((N1 : Nat) : Int) = (N : Int) - 1 := by omega
  simp only [eN] at hcut
  clear hN1e eN
  obtain ⟨w1, hw1⟩ : ∃ w1, w1 = w.alloc (.cells #[] 52) := ⟨_, rfl⟩
  have X1 : Ext w w1 := by rw [hw1]; exact (Ext.refl w).alloc _
  have HO0 : Hid (w1.ownsRow w.heap.size 52 1 (.slice (some ⟨w.heap.size, 0, none⟩) 0 0) 0 (([] : List Tri).map encS)) := by rw [hw1]; exact rw_new0 w w.heap.size _ 1 (Nat.le_refl _)
  have HR0 := Lib.hid hR0
  have HX1 := Lib.hid X1
  have HW1 := Lib.hid hw1
  have Hv := Lib.hid hv
  have Hroot1 : Hid (Calls Tryz.prog 107 #[.slice a N c] w1 (Gives (.agg #[.int .i64 n.kind, .int .i64 n.val, .string n.name]) w1)) := s_l2Root K _ _ n w1 (hv.ext X1 (fun _ _ h => h.any)) hroot
  obtain ⟨m, hm⟩ : ∃ m, m = args.length := ⟨_, rfl⟩
  rw [← hm] at HR0 Harity hargs
  have Hm := Lib.hid hm
  clear hx hv hl hok har hnodes hlist hroot hN hat hR0 hN1 hw1 X1 Hroot hm
  go_enter Tryz.func108, Tryz.ntmps108
  go_wp2_with fail
  rw [← HW1.out]
  refine Hroot1.out.mono ?_
  rintro e w2 ⟨rfl, hX2⟩
  go_wp2_with fail
  refine (Harity.out _).mono ?_
  rintro e w3 ⟨rfl, hX3⟩
  have HX3 := Lib.hid (HX1.out.trans (hX2.trans hX3))
  have HO3 := Lib.hid (rw_ext HO0.out (hX2.trans hX3))
  clear hX2 hX3 HO0 Hroot1 Harity hcut
  go_wp2
  go_loopw [3, 4, 5] (fun v3 v4 v5 wr => ∃ (j n3 n4 c3 c4 : Nat) (a3 a4 : Option Addr) (ts : List Tri), j ≤ m ∧ v5 = .int .i64 j ∧ v3 = .slice a3 n3 c3 ∧ v4 = .slice a4 n4 c4 ∧ Hid (SlNode K w (.slice a3 n3 c3) (pre args j)) ∧
    Hid (wr.ownsRow w.heap.size 52 1 (.slice a4 n4 c4) n4 (ts.map encS)) ∧ Hid (KidsAt K w ts (args.drop j)) ∧ Ext w wr) (fun _ _ v5 _ => (intOf v5).toNat)
  case atStart => exact ⟨m, N1, 0, c, 0, aQ, _, [], Nat.le_refl _, rfl, rfl, rfl, HR0.out, HO3.out, by rw [Hm.out, List.drop_length]; exact ⟨rfl, fun i t a h => by simp at h⟩, HX3.out⟩
  case round =>
    clear HR0 HO3 HX3
    obtain ⟨j, n3, n4, c3, c4, a3, a4, ts, hj, rfl, rfl, rfl, HR, HO, HKd, hX⟩ := hrel
    rcases Nat.eq_zero_or_pos j with rfl | hj0
    · have hK0 := HKd.out
      rw [List.drop_zero] at hK0
      have hlo := HO.out.1
      have hln : ts.length = n4 := by simpa using hlo
      have HF : Hid (KidsOut K args w (.returned (.slice a4 n4 c4)) wr) := ⟨_, ts, rfl, by rw [hln]; exact HO.out, hK0.ext hX, hX⟩
      clear hK0 hlo hln
      go_wp2
      go_ret
      exact HF.out
    · obtain ⟨q, rfl⟩ : ∃ q, j = q + 1 := ⟨j - 1, by omega⟩
      obtain ⟨x, hxq⟩ : ∃ x, args[q]? = some x := ⟨args[q]'(by have := Hm.out; omega), List.getElem?_eq_getElem _⟩
      have hps := pre_succ hxq
      have hR := HR.out
      have hxo := Hoks.out x (List.mem_of_getElem? hxq)
      have HFr := Lib.hid (s_l2From K (pre args (q + 1)) _ wr (hR.ext hX (fun _ _ h => h.any)) (HAr.out (q + 1) (by have := Hm.out; omega)) (HLe.out _))
      rw [hps, from_last _ x hxo] at HFr
      rw [hps] at hR
      have hn3 := sl_len hR
      obtain ⟨_, _, _, e3, _, hnc3, hcm3, _⟩ := hR.op
      cases e3
      obtain ⟨C0, hC0⟩ : ∃ C0, C0 = (pre args q).length := ⟨_, rfl⟩
      rw [← hC0] at HFr
      rw [List.length_append, ← hC0] at hn3
      have hxp := x.list_pos
      obtain ⟨aL, hcutL, hatL⟩ := cut_from (P := Tryz.prog) Tryz.underlying52 hiN hns a3 n3 c3 C0 (by omega) hnc3
      obtain ⟨aH, hcutH, hatH⟩ := cut_head (P := Tryz.prog) Tryz.underlying52 hiN hns a3 n3 c3 C0 (by omega) hnc3
      have hKid : SlNode K w (encS (aL, n3 - C0, c3 - C0)) x.list := by
        have h := Sl.cutAt hR C0 (n3 - C0) (by omega) (by omega) (show c3 - C0 ≤ c3 by omega) hatL
        rw [List.drop_left' hC0.symm, List.take_of_length_le (by omega)] at h
        exact h
      have hRest : SlNode K w (.slice aH C0 c3) (pre args q) := by
        have h := Sl.cutAt hR 0 C0 (by omega) (by omega) (Nat.le_refl _) hatH
        rw [List.drop_zero, List.take_left' hC0.symm] at h
        exact h
      have hKd2 : KidsAt K w ((aL, n3 - C0, c3 - C0) :: ts) (args.drop q) := by
        have e : args.drop q = x :: args.drop (q + 1) := by
          obtain ⟨hq, e⟩ := List.getElem?_eq_some_iff.1 hxq
          rw [List.drop_eq_getElem_cons hq, e]
        rw [e]
        exact KidsAt.cons hKid HKd.out
      have HRest := Lib.hid hRest
      have HKd2 := Lib.hid hKd2
      have hts : ts.length ≤ 1000000 := by have h1 := HKd.out.len; rw [List.length_drop] at h1; have := Hm.out; omega
      have z0 : (0 : Int) ≤ (C0 : Int) := by omega
      have z1 : (C0 : Int) ≤ (n3 : Int) := by omega
      obtain ⟨nL, hnL⟩ : ∃ nL, nL = n3 - C0 := ⟨_, rfl⟩
      obtain ⟨cL, hcL⟩ : ∃ cL, cL = c3 - C0 := ⟨_, rfl⟩
      rw [← hnL, ← hcL] at hcutL HKd2
      clear hps hR hxo hn3 hC0 hxp hatL hatH hKid hRest hKd2 hxq hnc3 hnL hcL
      go_wp2_with fail
      refine HFr.out.mono ?_
      rintro e w4 ⟨rfl, hX4⟩
      have hX5 : Ext w4 (w4.alloc (.cells #[encS (aL, nL, cL)] 52)) := (Ext.refl w4).alloc _
      have hrow1 : (w4.alloc (.cells #[encS (aL, nL, cL)] 52)).ownsRow w.heap.size 52 1 (.slice (some ⟨w4.heap.size, 0, none⟩) 1 1) 1 [encS (aL, nL, cL)] :=
        ⟨rfl, .inr ⟨w4.heap.size, 1, #[encS (aL, nL, cL)], rfl, (hX.trans hX4).size, heap_alloc_new w4 _, Nat.le_refl _, by unfold maxLen; omega, rfl, rfl⟩⟩
      have hsrc := sl_own encS (fun _ cs (y : Tri) => cs = [encS y]) (fun _ _ => .inr trivial) (K := AnyB) (rw_ext HO.out (hX4.trans hX5)) (fun _ _ => trivial) (fun _ _ => rfl)
      obtain ⟨v', w', r1, r2, r3, r4⟩ := run_app (P := Tryz.prog) encS _ (fun _ _ _ h => h) (fun _ => rfl) AnyB (w4.alloc (.cells #[encS (aL, nL, cL)] 52)) w.heap.size Tryz.underlying171 hi0 hz0 hz1 hz2 rfl _ _ hrow1 _ ts hsrc (by simp; omega) (by simp; omega) ((hX.trans hX4).trans hX5).size 171
      have r2' : w'.ownsRow w.heap.size 52 1 v' (ts.length + 1) (((aL, nL, cL) :: ts).map encS) := by
        have h := r2
        simp only [List.singleton_append, List.length_cons, List.length_map] at h
        exact h
      have hX6 : Ext w w' := Below.grown ((hX.trans hX4).trans hX5) r3 ((hX.trans hX4).trans hX5).size (fun g hg => by cases hg; exact (hX.trans hX4).size)
      obtain ⟨a5, c5, rfl⟩ := rw_form0 r2'
      have HR1 : Hid ((Builtin.append_ #[171, 171] 171 #[.slice (some ⟨w4.heap.size, 0, none⟩) 1 1, .slice a4 n4 c4]).run Tryz.prog (w4.alloc (.cells #[.slice aL nL cL] 52)) = .ok (.slice a5 (ts.length + 1) c5) w') := r1
      have HO5 := Lib.hid r2'
      clear hX4 hX5 hrow1 hsrc r1 r2 r3 r4 r2' HFr hX
      go_wp2_with (at_builtin; refine Lib.wpList_append_run _ rfl _ _ _ _ rfl _ _ rfl rfl _ _ HR1.out ?_)
      go_roundw
      case rel => exact ⟨q, C0, ts.length + 1, c3, c5, aH, a5, _, by omega, by go_num, rfl, rfl, HRest.out, HO5.out, HKd2.out, hX6⟩
      case measure => simp [intOf]
end Go.Proofs.YtolbngbedncemaaGreatDoor
