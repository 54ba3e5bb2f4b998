/- The reference's l2Show answers as the model. -/
import Derived.Test.YtolbngbedncemaaGreatDoorSpPrint
set_option linter.unusedVariables false
set_option linter.unusedSimpArgs false
namespace Go.Proofs.YtolbngbedncemaaGreatDoor
open Go Go.RowKit Md Go.Proofs.YtolbngbedncemaaGreatDoorW.PrintLast

theorem stronger_ {P : Program} {md : Region.Mode} {ops : Array Oper} {Q : Exit → Act → World → Prop} {S S' : World → Prop} (hS : ∀ x, S' x → S x) :
    ∀ (fuel : Nat) (l : Array Bool) (a : Act) (w : World), S' w → wpAnyLast P md ops Q S' [] fuel l a w → wpAnyLast P md ops Q S [] fuel l a w := by
  intro fuel
  induction fuel with
  | zero => intro l a w _ h; exact h
  | succ fuel ih =>
    intro l a w hw h
    refine ⟨h.1, fun i hi => wpOp_mono (fun a' w' h' => ⟨fun hn _ => hS _ (h'.1 hn hw), ih _ _ _ (h'.1 (by simp) hw) h'.2⟩) (h.2 i hi)⟩
theorem idx_leK {args : List Ex} : ∀ {i : Nat} {a : Ex}, args[i]? = some a → a.list.length ≤ (args.flatMap Ex.list).length := by
  intro i a h
  have hm := List.mem_of_getElem? h
  clear h
  induction args with
  | nil => cases hm
  | cons b r ih =>
    rw [List.flatMap_cons, List.length_append]
    rcases List.mem_cons.1 hm with rfl | hm
    · omega
    · have := ih hm
      omega
theorem commas_snoc : ∀ (l : List (List UInt8)) (s : List UInt8), commas (l ++ [s]) = (if l = [] then [] else commas l ++ [44, 32]) ++ s
  | [], s => by simp [commas]
  | [a], s => by simp [commas]
  | a :: b :: r, s => by
    have ih := commas_snoc (b :: r) s
    rw [if_neg (by simp)] at ih ⊢
    have e1 : commas (a :: (b :: r ++ [s])) = a ++ [44, 32] ++ commas (b :: r ++ [s]) := by rw [commas]; simp
    have e2 : commas (a :: b :: r) = a ++ [44, 32] ++ commas (b :: r) := by rw [commas]; simp
    rw [List.cons_append, e1, ih, e2]
    simp
theorem ar_bin7 {n : PNode} {k : Nat} (h : arity n = some k) (hk : n.kind = 7) : 0 ≤ n.val ∧ n.val ≤ 15 := by
  unfold arity at h
  rw [if_neg (by omega)] at h
  by_cases hz : n.name.size = 0
  · rw [if_pos hz, if_neg (by omega), if_neg (by omega), if_neg (by omega), if_pos hk] at h
    by_cases hv : 0 ≤ n.val ∧ n.val ≤ 15
    · exact hv
    · rw [if_neg hv] at h
      cases h
  · rw [if_neg hz] at h
    cases h
theorem ar_un6 {n : PNode} {k : Nat} (h : arity n = some k) (hk : n.kind = 6) : n.val = 0 ∨ n.val = 1 ∨ n.val = 2 := by
  unfold arity at h
  rw [if_neg (by omega)] at h
  by_cases hz : n.name.size = 0
  · rw [if_pos hz, if_neg (by omega), if_neg (by omega), if_pos hk] at h
    by_cases hv : 0 ≤ n.val ∧ n.val ≤ 2
    · omega
    · rw [if_neg hv] at h
      cases h
  · rw [if_neg hz] at h
    cases h
theorem ok_bin {x : Ex} (h : x.ok) : x.node.kind = 7 → 0 ≤ x.node.val ∧ x.node.val ≤ 15 := by
  cases x with
  | mk n args => exact ar_bin7 ((Ex.ok_mk n args).1 h).1
theorem kids_len {args : List Ex} (h : ∀ a ∈ args, a.ok) : ((args.map showE).map List.length).sum ≤ 64 * (args.flatMap Ex.list).length := by
  induction args with
  | nil => simp
  | cons a r ih =>
    have g1 := showE_len a (h a List.mem_cons_self)
    have g2 := ih (fun b hb => h b (List.mem_cons_of_mem _ hb))
    simp only [List.map_cons, List.sum_cons, List.flatMap_cons, List.length_append]
    omega
set_option maxRecDepth 1000000 in
set_option maxHeartbeats 16000000 in
theorem s_l2Show (x : Ex) : x.ok → ∀ (K : Foot) (v : Value) (w : World), SlNode K w v x.list → x.list.length ≤ 10000 →
    Calls Tryz.prog 61 #[v] w (Gives (.string (str (showE x))) w) := by
  refine Ex.ind (P := fun x => x.ok → ∀ (K : Foot) (v : Value) (w : World), SlNode K w v x.list → x.list.length ≤ 10000 →
    Calls Tryz.prog 61 #[v] w (Gives (.string (str (showE x))) w)) (fun n args ih => ?_) x
  intro hx K v w hv hl
  have hok := (Ex.ok_mk n args).1 hx
  have har := ar_of_arity hok.1
  have hlen : (Ex.mk n args).list.length = (args.flatMap Ex.list).length + 1 := by rw [Ex.list_mk]; simp
  have hroot : (Ex.mk n args).list.getLast? = some n := by rw [Ex.list_mk]; simp
  have Hroot := Lib.hid (s_l2Root K _ v n w hv hroot)
  have HKids : Hid (∀ w', Ext w w' → Calls Tryz.prog 108 #[v] w' (KidsOut K args w')) := fun w' hX => s_l2Kids K n args hx v w' (hv.ext hX (fun _ _ h => h.any)) (by omega)
  have hsz := showE_len _ hx
  obtain ⟨R, hR⟩ : ∃ R, R = str (showE (.mk n args)) := ⟨_, rfl⟩
  rw [← hR]
  have hRs : R.size ≤ 640000 := by rw [hR, str_size]; omega
  rw [showE_mk] at hR
  have HR := Lib.hid hR
  obtain ⟨av, Nv, cv, rfl⟩ := hv.shape
  have Hih := Lib.hid ih
  have Hoks : Hid (∀ a ∈ args, a.ok) := hok.2
  have Hari : Hid (arity n = some args.length) := hok.1
  obtain ⟨kd, vl, nm⟩ := n
  simp only at har hR HR Hroot
  have Hl := Lib.hid hl
  have Hlen := Lib.hid hlen
  have Har := Lib.hid har
  clear hx hv hok hroot ih hR hl hlen har hsz
  go_enter Tryz.func61, Tryz.ntmps61
  go_wp2_with fail
  refine Hroot.out.mono ?_
  rintro e w2 ⟨rfl, hX2⟩
  obtain ⟨w3, hw3⟩ : ∃ w3, w3 = w2.alloc (.cells #[.int .i64 kd, .int .i64 vl, .string nm] 56) := ⟨_, rfl⟩
  have X3 : Ext w2 w3 := by rw [hw3]; exact (Ext.refl w2).alloc _
  have BN : Blk w3 w2.heap.size 56 #[.int .i64 kd, .int .i64 vl, .string nm] := by rw [hw3]; exact Blk.alloc _ _ _
  have HK3 := Lib.hid (HKids.out w3 (hX2.trans X3))
  have HX3 := Lib.hid (hX2.trans X3)
  have HBN := Lib.hid BN
  have HW3 := Lib.hid hw3
  clear hX2 X3 BN hw3 HKids
  go_wp2_with fail
  rw [← HW3.out]
  refine HK3.out.mono ?_
  rintro e w4 ⟨vO, ts, rfl, ho, hKA, hX4⟩
  obtain ⟨aO, cO, rfl⟩ := rw_form0 ho
  have q0 : w4.cell? ⟨w2.heap.size, 0, none⟩ = some (.int .i64 kd) := hX4.cell ((HBN.out.cell 0).trans rfl)
  have q1 : w4.cell? ⟨w2.heap.size, 1, none⟩ = some (.int .i64 vl) := hX4.cell ((HBN.out.cell 1).trans rfl)
  have q2 : w4.cell? ⟨w2.heap.size, 2, none⟩ = some (.string nm) := hX4.cell ((HBN.out.cell 2).trans rfl)
  have HX4 := Lib.hid (HX3.out.trans hX4)
  have HO := Lib.hid ho
  have HKA := Lib.hid hKA
  have hnl := hKA.len
  have HIH : Hid (∀ (i : Nat) (a : Ex) (t : Tri), args[i]? = some a → ts[i]? = some t → ∀ w', Ext w4 w' →
      Calls Tryz.prog 61 #[encS t] w' (Gives (.string (str (showE a))) w')) := fun i a t ha ht w' hX => by
    have h1 := idx_leK ha
    have hl := Hl.out
    have hlen := Hlen.out
    exact Hih.out a (List.mem_of_getElem? ha) (Hoks.out a (List.mem_of_getElem? ha)) K _ w' ((HKA.out.at_ i t a ht ha).ext hX (fun _ _ h => h.any)) (by omega)
  obtain ⟨nO, hnO⟩ : ∃ nO, nO = ts.length := ⟨_, rfl⟩
  rw [← hnO] at HO hnl
  have HnO := Lib.hid hnO
  clear ho hKA hX4 HK3 Hih
  try rw [← hnO]
  clear hnO
  by_cases h1 : kd = 1
  · subst h1
    have hw := ar_word Hari.out rfl
    unfold isWord at hw
    simp only [Bool.and_eq_true, decide_eq_true_eq] at hw
    have HD := Lib.hid (s_l2Digits vl w4 (by omega))
    have HRr : Hid (R = str (dig vl)) := HR.out
    clear hw HR
    go_wp2_with fail
    refine HD.out.mono ?_
    rintro e w5 ⟨rfl, hX5⟩
    have HXe := Lib.hid (HX4.out.trans hX5)
    clear hX5
    go_wp2
    go_ret
    exact ⟨by rw [HRr.out]; rfl, HXe.out⟩
  by_cases h2 : kd = 2
  · subst h2
    have HRr : Hid (R = nm) := HR.out.trans (str_data nm)
    clear HR
    go_wp2
    go_ret
    exact ⟨by rw [HRr.out]; rfl, HX4.out⟩
  by_cases h5 : kd = 5
  · subst h5
    have HRr : Hid (R = ⟨#[105, 110, 40, 41]⟩) := HR.out
    clear HR
    go_wp2
    go_ret
    exact ⟨by rw [HRr.out]; rfl, HX4.out⟩
  by_cases h3 : kd = 3
  · subst h3
    have har1 : args.length = 1 := by
      have : ar ⟨3, vl, nm⟩ = 1 := by unfold ar; simp
      have har := Har.out
      omega
    obtain ⟨x0, rfl⟩ : ∃ x0, args = [x0] := by
      match args, har1 with
      | [x0], _ => exact ⟨x0, rfl⟩
    obtain ⟨t0, ht0⟩ : ∃ t0, ts[0]? = some t0 := ⟨ts[0]'(by have := HKA.out.len; omega), List.getElem?_eq_getElem _⟩
    have H0 := Lib.hid (HIH.out 0 x0 t0 rfl ht0)
    obtain ⟨g, c', e', _, _, _, _⟩ := rw_form HO.out (by omega)
    obtain ⟨rfl, rfl⟩ : aO = some ⟨g, 0, none⟩ ∧ c' = cO := by cases e'; exact ⟨rfl, rfl⟩
    have k0 := (rw_at HO.out (i := 0) (u := encS t0) (by rw [List.getElem?_map, ht0]; rfl)).1
    obtain ⟨s, hs⟩ : ∃ s, s = str (showE x0) := ⟨_, rfl⟩
    have HRr : Hid (R = nm ++ str [91] ++ s ++ str [93]) := by
      show _ = _
      rw [HR.out, hs]
      conv => rhs; rw [← str_data nm, str_append, str_append, str_append]
      rfl
    rw [← hs] at H0
    have hsz : nm.size + 1 + s.size + 1 ≤ 640000 := by
      have := hRs
      rw [HRr.out] at this
      simp only [ByteArray.size_append, str_size, List.length_singleton] at this
      omega
    obtain ⟨p0, q0', r0⟩ := t0
    simp only [encS] at H0 k0
    have hn1 : nO = 1 := by simpa using hnl
    subst hn1
    have Xd : Ext w4 w4.drew := (Ext.refl w4).drew
    have z1 : ¬ 9223372036854775807 < nm.size + 1 := by omega
    have z2 : ¬ 9223372036854775807 < nm.size + 1 + s.size := by omega
    have z3 : ¬ 9223372036854775807 < nm.size + 1 + s.size + 1 := by omega
    clear hs hnl har1 ht0 HnO e' hsz HR
    go_wp2_with fail
    refine start_ (n := 10) (S := fun w' => w'.cell? ⟨w2.heap.size, 2, none⟩ = some (.string nm) ∧ w'.cell? ⟨g, 0, none⟩ = some (.slice p0 q0' r0)) (ds := []) #[false, false, false, false, false, false, false, false, false, false] (by kernel_rfl) rfl rfl ?hS (fun hHeld => ?_)
    case hS => exact ⟨Xd.cell q2, Xd.cell k0⟩
    refine pure_ (i := 0) (N := some 28) (v := ?_) (a' := ?_) #[true, false, false, false, false, false, false, false, false, false] rfl rfl (by kernel_rfl) (fun _ _ _ h => h) (Or.inl ⟨by rfl, ?_⟩) ?_ ?_
    rotate_left
    · intro w'
      go_simp
      with_reducible rfl
    rotate_left
    · simp only [Act.put, List.setIfInBounds_toArray, List.set_cons_zero, List.set_cons_succ, i64_w, i32_w]
      rfl
    refine take_ (i := 1) (N := some 29) (v := ?_) (a' := ?_) #[true, true, false, false, false, false, false, false, false, false] rfl rfl (by kernel_rfl) (fun _ _ _ h => h) (Or.inl ⟨by rfl, ?_⟩) hHeld ?_ ?_
    rotate_left
    · rintro w' ⟨s0, s1⟩
      go_simp
      with_reducible rfl
    rotate_left
    · simp only [Act.put, List.setIfInBounds_toArray, List.set_cons_zero, List.set_cons_succ, i64_w, i32_w]
      rfl
    refine pure_ (i := 2) (N := some 30) (v := ?_) (a' := ?_) #[true, true, true, false, false, false, false, false, false, false] rfl rfl (by kernel_rfl) (fun _ _ _ h => h) (Or.inl ⟨by rfl, ?_⟩) ?_ ?_
    rotate_left
    · intro w'
      go_simp
      with_reducible rfl
    rotate_left
    · simp only [Act.put, List.setIfInBounds_toArray, List.set_cons_zero, List.set_cons_succ, i64_w, i32_w]
      rfl
    refine pure_ (i := 3) (N := some 31) (v := ?_) (a' := ?_) #[true, true, true, true, false, false, false, false, false, false] rfl rfl (by kernel_rfl) (fun _ _ _ h => h) (Or.inl ⟨by rfl, ?_⟩) ?_ ?_
    rotate_left
    · intro w'
      go_simp
      with_reducible rfl
    rotate_left
    · simp only [Act.put, List.setIfInBounds_toArray, List.set_cons_zero, List.set_cons_succ, i64_w, i32_w]
      rfl
    refine pure_ (i := 4) (N := some 32) (v := ?_) (a' := ?_) #[true, true, true, true, true, false, false, false, false, false] rfl rfl (by kernel_rfl) (fun _ _ _ h => h) (Or.inl ⟨by rfl, ?_⟩) ?_ ?_
    rotate_left
    · intro w'
      go_simp
      with_reducible rfl
    rotate_left
    · simp only [Act.put, List.setIfInBounds_toArray, List.set_cons_zero, List.set_cons_succ, i64_w, i32_w]
      rfl
    refine take_ (i := 5) (N := some 33) (v := ?_) (a' := ?_) #[true, true, true, true, true, true, false, false, false, false] rfl rfl (by kernel_rfl) (fun _ _ _ h => h) (Or.inl ⟨by rfl, ?_⟩) hHeld ?_ ?_
    rotate_left
    · rintro w' ⟨s0, s1⟩
      go_simp
      with_reducible rfl
    rotate_left
    · simp only [Act.put, List.setIfInBounds_toArray, List.set_cons_zero, List.set_cons_succ, i64_w, i32_w]
      rfl
    generalize w4.drew = wd at Xd hHeld ⊢
    refine one_ (i := 6) (N := some 34) #[true, true, true, true, true, true, true, false, false, false] rfl rfl (by kernel_rfl) (by decide) (fun K hK => ?_)
    refine goes_ (N := some 34) Tryz.func61 (by kernel_rfl) rfl #[.slice p0 q0' r0] (by rfl) rfl rfl (by simp [Act.eval]) ?_
    refine (H0.out wd Xd).mono ?_
    rintro e w5 ⟨rfl, hX5⟩
    refine ⟨_, rfl, ?_⟩
    refine hK.out _ _ ⟨hX5.cell hHeld.1, hX5.cell hHeld.2⟩ (fun hHeld => ?_)
    clear hK K
    refine norm_ (a' := ?_) ?_ ?_
    rotate_left
    · show Act.put _ (some 34) _ = _
      simp only [Act.put, List.setIfInBounds_toArray, List.set_cons_zero, List.set_cons_succ, i64_w, i32_w]
      rfl
    refine pure_ (i := 7) (N := some 35) (v := ?_) (a' := ?_) #[true, true, true, true, true, true, true, true, false, false] rfl rfl (by kernel_rfl) (fun _ _ _ h => h) (Or.inl ⟨by rfl, ?_⟩) ?_ ?_
    rotate_left
    · intro w'
      go_simp
      with_reducible rfl
    rotate_left
    · simp only [Act.put, List.setIfInBounds_toArray, List.set_cons_zero, List.set_cons_succ, i64_w, i32_w]
      rfl
    refine pure_ (i := 8) (N := some 36) (v := ?_) (a' := ?_) #[true, true, true, true, true, true, true, true, true, false] rfl rfl (by kernel_rfl) (fun _ _ _ h => h) (Or.inl ⟨by rfl, ?_⟩) ?_ ?_
    rotate_left
    · intro w'
      go_simp
      with_reducible rfl
    rotate_left
    · simp only [Act.put, List.setIfInBounds_toArray, List.set_cons_zero, List.set_cons_succ, i64_w, i32_w]
      rfl
    refine pure_ (i := 9) (N := some 2) (v := ?_) (a' := ?_) #[true, true, true, true, true, true, true, true, true, true] rfl rfl (by kernel_rfl) (fun _ _ _ h => h) (Or.inl ⟨by rfl, ?_⟩) ?_ ?_
    rotate_left
    · intro w'
      go_simp
      with_reducible rfl
    rotate_left
    · simp only [Act.put, List.setIfInBounds_toArray, List.set_cons_zero, List.set_cons_succ, i64_w, i32_w]
      rfl
    refine done_ (by kernel_rfl) ?_
    have HXe : Hid (Ext w w5) := HX4.out.trans (Xd.trans hX5)
    clear hHeld Xd hX5
    go_wp2
    go_ret
    exact ⟨by show Ending.returned (Value.string _) = _; rw [HRr.out]; rfl, HXe.out⟩
  by_cases h4 : kd = 4
  · subst h4
    have hna := name_len (ar_name Hari.out (.inr (.inr rfl)))
    have h6 := ar_six Hari.out
    have hnm : nm.size ≤ 20 := hna
    have hnl2 : nm.data.toList.length ≤ 20 := hna
    have HRr : Hid (R = str (nm.data.toList ++ [40] ++ commas (args.map showE) ++ [41])) := by
      show _ = _
      rw [HR.out]
      unfold showN
      simp only [List.map_map]
      rfl
    have HCl : Hid (∀ k, (str (nm.data.toList ++ [40] ++ commas ((args.take k).map showE))).size ≤ 700000) := fun k => by
      have g1 := commas_len ((args.take k).map showE)
      have g2 := kids_len (args := args.take k) (fun a ha => Hoks.out a (List.mem_of_mem_take ha))
      have g3 : ((args.take k).flatMap Ex.list).length ≤ (args.flatMap Ex.list).length := by
        conv => rhs; rw [← List.take_append_drop k args, List.flatMap_append, List.length_append]
        omega
      have g4 : (args.take k).length ≤ 6 := by rw [List.length_take]; omega
      have g5 := Hl.out
      have g6 := Hlen.out
      rw [List.length_map] at g1
      rw [str_size, List.length_append, List.length_append, List.length_singleton]
      omega
    have HC0 : Hid (nm ++ str [40] = str (nm.data.toList ++ [40] ++ commas ((args.take 0).map showE))) := by
      show _ = _
      conv => lhs; rw [← str_data nm, str_append]
      simp [commas]
    have z1 : ¬ 9223372036854775807 < nm.size + 1 := by omega
    clear hna HR hRs
    go_wp2_with fail
    go_loopw [5, 6] (fun v5 v6 wr => ∃ (k : Nat) (s : ByteArray), k ≤ nO ∧ v5 = .string s ∧ v6 = .int .i64 k ∧ s.size ≤ 700000 ∧ Hid (s = str (nm.data.toList ++ [40] ++ commas ((args.take k).map showE))) ∧ Hid (Ext w4 wr)) (fun _ v6 _ => nO - (intOf v6).toNat)
    case atStart => exact ⟨0, nm ++ str [40], Nat.zero_le _, rfl, rfl, by rw [ByteArray.size_append, str_size]; simp; omega, HC0.out, Ext.refl _⟩
    case round =>
      obtain ⟨k, s, hk, rfl, rfl, hs7, HS, HX⟩ := hrel
      by_cases hlt : k < nO
      · obtain ⟨a, ha⟩ : ∃ a, args[k]? = some a := ⟨args[k]'(by omega), List.getElem?_eq_getElem _⟩
        obtain ⟨t0, ht0⟩ : ∃ t0, ts[k]? = some t0 := ⟨ts[k]'(by have := HKA.out.len; omega), List.getElem?_eq_getElem _⟩
        have H0 := Lib.hid (HIH.out k a t0 ha ht0)
        obtain ⟨g, c', e', _, _, _, _⟩ := rw_form HO.out (by omega)
        obtain ⟨rfl, rfl⟩ : aO = some ⟨g, 0, none⟩ ∧ c' = cO := by cases e'; exact ⟨rfl, rfl⟩
        have k0 := HX.out.cell (rw_at HO.out (i := k) (u := encS t0) (by rw [List.getElem?_map, ht0]; rfl)).1
        obtain ⟨y, hy⟩ : ∃ y, y = str (showE a) := ⟨_, rfl⟩
        have hyz : y.size ≤ 640000 := by
          have g1 := showE_len a (Hoks.out a (List.mem_of_getElem? ha))
          have g2 := idx_leK ha
          have g3 := Hl.out
          have g4 := Hlen.out
          rw [hy, str_size]
          omega
        have hsn : (args.take (k + 1)).map showE = (args.take k).map showE ++ [showE a] := by rw [take_snoc ha, List.map_append]; rfl
        have HC1 := HCl.out (k + 1)
        have HN : Hid (s ++ (if k = 0 then str [] else str [44, 32]) ++ y = str (nm.data.toList ++ [40] ++ commas ((args.take (k + 1)).map showE))) := by
          show _ = _
          rw [HS.out, hy, hsn, commas_snoc]
          by_cases hk0 : k = 0
          · subst hk0
            simp [str_append, commas]
          · have hne : ¬ (args.take k).map showE = [] := fun e => by
              have := congrArg List.length e
              rw [List.length_map, List.length_take, List.length_nil] at this
              omega
            rw [if_neg hk0, if_neg hne, str_append, str_append]
            simp
        rw [← hy] at H0
        have HC2 : Hid (s.size ≤ 700000) := hs7
        have HC3 := Lib.hid HC1
        obtain ⟨p0, q0', r0⟩ := t0
        simp only [encS] at H0 k0
        have y0 : (0 : Int) ≤ (k : Int) := by omega
        have y1 : (k : Int) < (nO : Int) := by omega
        have z2 : ¬ 9223372036854775807 < s.size + 2 := by omega
        have z3 : ¬ 9223372036854775807 < s.size + 2 + y.size := by omega
        have z4 : ¬ 9223372036854775807 < s.size + y.size := by omega
        clear hy hsn ha ht0 HC1 e'
        by_cases hk0 : k = 0
        · subst hk0
          have HN2 : Hid (s ++ y = str (nm.data.toList ++ [40] ++ commas ((args.take (0 + 1)).map showE))) := by
            have := HN.out
            rw [if_pos rfl] at this
            show _ = _
            rw [← this]
            congr 1
            unfold str
            apply ByteArray.ext
            simp
          have hz : ¬ (0 : Int) < ((0 : Nat) : Int) := by omega
          clear HN
          go_wp2_with fail
          refine (H0.out wr HX.out).mono ?_
          rintro e w5 ⟨rfl, hX5⟩
          have HX5 := Lib.hid (HX.out.trans hX5)
          clear hX5
          go_wp2
          go_roundw
          case rel => exact ⟨0 + 1, s ++ y, by omega, rfl, by go_num, by rw [HN2.out]; exact HC3.out, HN2.out, HX5.out⟩
          case measure => simp [intOf]; omega
        · have HN2 : Hid (s ++ str [44, 32] ++ y = str (nm.data.toList ++ [40] ++ commas ((args.take (k + 1)).map showE))) := by
            have := HN.out
            rw [if_neg hk0] at this
            exact this
          have hz : (0 : Int) < (k : Int) := by omega
          clear HN
          go_wp2_with fail
          refine (H0.out wr HX.out).mono ?_
          rintro e w5 ⟨rfl, hX5⟩
          have HX5 := Lib.hid (HX.out.trans hX5)
          clear hX5
          go_wp2
          go_roundw
          case rel => exact ⟨k + 1, s ++ str [44, 32] ++ y, by omega, rfl, by go_num, by rw [HN2.out]; exact HC3.out, HN2.out, HX5.out⟩
          case measure => simp [intOf]; omega
      · obtain rfl : k = nO := by omega
        have HRe : Hid (R = s ++ str [41]) := by
          show _ = _
          rw [HRr.out, HS.out, str_append, List.take_of_length_le (by omega)]
        have z5 : ¬ 9223372036854775807 < s.size + 1 := by omega
        have HXe := Lib.hid (HX4.out.trans HX.out)
        clear HX
        go_wp2
        go_ret
        exact ⟨by show Ending.returned (Value.string _) = _; rw [HRe.out]; rfl, HXe.out⟩
  by_cases h6 : kd = 6
  · subst h6
    have hv3 := ar_un6 Hari.out rfl
    have har1 : args.length = 1 := by
      have : ar ⟨6, vl, nm⟩ = 1 := by unfold ar; simp
      have har := Har.out
      omega
    obtain ⟨x0, rfl⟩ : ∃ x0, args = [x0] := by
      match args, har1 with
      | [x0], _ => exact ⟨x0, rfl⟩
    obtain ⟨t0, ht0⟩ : ∃ t0, ts[0]? = some t0 := ⟨ts[0]'(by have := HKA.out.len; omega), List.getElem?_eq_getElem _⟩
    have HS0 := Lib.hid (HIH.out 0 x0 t0 rfl ht0)
    have HG0 : Hid (∀ w', Ext w4 w' → Calls Tryz.prog 107 #[encS t0] w' (Gives (.agg #[.int .i64 x0.node.kind, .int .i64 x0.node.val, .string x0.node.name]) w')) := fun w' hX =>
      s_l2Root K x0.list _ x0.node w' ((HKA.out.at_ 0 t0 x0 ht0 rfl).ext hX (fun _ _ h => h.any)) (by cases x0; rw [Ex.list_mk]; simp [Ex.node])
    have hx0 := ok_bin (Hoks.out x0 (by simp))
    have HN0 : Hid (∀ w', Calls Tryz.prog 110 #[.agg #[.int .i64 x0.node.kind, .int .i64 x0.node.val, .string x0.node.name]] w' (Gives (.int .i64 (strong x0.node : Nat)) w')) := fun w' => c_l2Strength x0.node w' hx0
    have hl0 := showE_len x0 (Hoks.out x0 (by simp))
    have g0 := idx_leK (args := [x0]) (i := 0) rfl
    have hll := Hl.out
    have hle := Hlen.out
    obtain ⟨A, hA⟩ : ∃ A, A = str (heldT (showE x0) (decide (((strong x0.node : Nat) : Int) < 11))) := ⟨_, rfl⟩
    obtain ⟨U, hU⟩ : ∃ U, U = str (unWord ⟨6, vl, nm⟩) := ⟨_, rfl⟩
    have HH0 : Hid (∀ w', Calls Tryz.prog 109 #[.string (str (showE x0)), .bool (decide (((strong x0.node : Nat) : Int) < 11))] w' (Same (.string A) w')) := fun w' => by
      rw [hA]
      exact c_l2Held _ _ w' (by omega)
    obtain ⟨g, c', e', _, _, _, _⟩ := rw_form HO.out (by omega)
    obtain ⟨rfl, rfl⟩ : aO = some ⟨g, 0, none⟩ ∧ c' = cO := by cases e'; exact ⟨rfl, rfl⟩
    have k0 := (rw_at HO.out (i := 0) (u := encS t0) (by rw [List.getElem?_map, ht0]; rfl)).1
    have hn1 : nO = 1 := by simpa using hnl
    subst hn1
    obtain ⟨s0, hs0⟩ : ∃ s0, s0 = str (showE x0) := ⟨_, rfl⟩
    rw [← hs0] at HS0 HH0
    obtain ⟨p0, q0', r0⟩ := t0
    simp only [encS] at HS0 HG0 k0
    have HRr : Hid (R = U ++ A) := by
      show _ = _
      rw [HR.out, hA, hU, str_append]
      unfold showN
      simp only [List.map_cons, List.map_nil]
      rw [if_neg (by decide), if_neg (by decide), if_neg (by decide), if_neg (by decide), if_neg (by decide)]
      have hd : decide (((strong x0.node : Nat) : Int) < 11) = decide (strong x0.node < 11) := decide_eq_decide.2 (by omega)
      rw [hd]
    have z1 : ¬ 9223372036854775807 < U.size + A.size := by
      have := hRs
      rw [HRr.out, ByteArray.size_append] at this
      omega
    have HU := Lib.hid hU
    have HCs : Hid (∀ w', Ext w4 w' → w'.cell? ⟨w2.heap.size, 1, none⟩ = some (.int .i64 vl) ∧ w'.cell? ⟨g, 0, none⟩ = some (.slice p0 q0' r0)) := fun w' hX => ⟨hX.cell q1, hX.cell k0⟩
    clear hA hU hl0 g0 hll hle hs0 har1 hnl ht0 HnO e' hx0 hRs HIH HKA Hoks HR h1 h2 h3 h4 h5
    rcases hv3 with rfl | rfl | rfl
    · skip
      go_wp2_with fail
      have Xd : Ext w4 w4.drew := (Ext.refl w4).drew
      have HXw : Hid (Ext w4 w4.drew) := Xd
      refine start_ (n := 18) (S := fun w' => w'.cell? ⟨w2.heap.size, 1, none⟩ = some (.int .i64 0) ∧ w'.cell? ⟨g, 0, none⟩ = some (.slice p0 q0' r0)) (ds := []) #[false, false, false, false, false, false, false, false, false, false, false, false, false, false, false, false, false, false] (by kernel_rfl) rfl rfl ?hS (fun hHeld => ?_)
      case hS => exact HCs.out _ HXw.out
      refine pure_ (i := 1) (N := some 40) (v := ?_) (a' := ?_) #[false, true, false, false, false, false, false, false, false, false, false, false, false, false, false, false, false, false] rfl rfl (by kernel_rfl) (fun _ _ _ h => h) (Or.inl ⟨by rfl, ?_⟩) ?_ ?_
      rotate_left
      · intro w'
        go_simp
        with_reducible rfl
      rotate_left
      · simp only [Act.put, List.setIfInBounds_toArray, List.set_cons_zero, List.set_cons_succ, i64_w, i32_w]
        rfl
      refine take_ (i := 2) (N := some 41) (v := ?_) (a' := ?_) #[false, true, true, false, false, false, false, false, false, false, false, false, false, false, false, false, false, false] rfl rfl (by kernel_rfl) (fun _ _ _ h => h) (Or.inl ⟨by rfl, ?_⟩) hHeld ?_ ?_
      rotate_left
      · rintro w' ⟨y0, y1⟩
        go_simp
        with_reducible rfl
      rotate_left
      · simp only [Act.put, List.setIfInBounds_toArray, List.set_cons_zero, List.set_cons_succ, i64_w, i32_w]
        rfl
      refine pure_ (i := 5) (N := some 44) (v := ?_) (a' := ?_) #[false, true, true, false, false, true, false, false, false, false, false, false, false, false, false, false, false, false] rfl rfl (by kernel_rfl) (fun _ _ _ h => h) (Or.inl ⟨by rfl, ?_⟩) ?_ ?_
      rotate_left
      · intro w'
        go_simp
        with_reducible rfl
      rotate_left
      · simp only [Act.put, List.setIfInBounds_toArray, List.set_cons_zero, List.set_cons_succ, i64_w, i32_w]
        rfl
      refine pure_ (i := 6) (N := some 45) (v := ?_) (a' := ?_) #[false, true, true, false, false, true, true, false, false, false, false, false, false, false, false, false, false, false] rfl rfl (by kernel_rfl) (fun _ _ _ h => h) (Or.inl ⟨by rfl, ?_⟩) ?_ ?_
      rotate_left
      · intro w'
        go_simp
        with_reducible rfl
      rotate_left
      · simp only [Act.put, List.setIfInBounds_toArray, List.set_cons_zero, List.set_cons_succ, i64_w, i32_w]
        rfl
      refine take_ (i := 7) (N := some 46) (v := ?_) (a' := ?_) #[false, true, true, false, false, true, true, true, false, false, false, false, false, false, false, false, false, false] rfl rfl (by kernel_rfl) (fun _ _ _ h => h) (Or.inl ⟨by rfl, ?_⟩) hHeld ?_ ?_
      rotate_left
      · rintro w' ⟨y0, y1⟩
        go_simp
        with_reducible rfl
      rotate_left
      · simp only [Act.put, List.setIfInBounds_toArray, List.set_cons_zero, List.set_cons_succ, i64_w, i32_w]
        rfl
      refine pure_ (i := 9) (N := some 48) (v := ?_) (a' := ?_) #[false, true, true, false, false, true, true, true, false, true, false, false, false, false, false, false, false, false] rfl rfl (by kernel_rfl) (fun _ _ _ h => h) (Or.inl ⟨by rfl, ?_⟩) ?_ ?_
      rotate_left
      · intro w'
        go_simp
        with_reducible rfl
      rotate_left
      · simp only [Act.put, List.setIfInBounds_toArray, List.set_cons_zero, List.set_cons_succ, i64_w, i32_w]
        rfl
      refine pure_ (i := 10) (N := some 49) (v := ?_) (a' := ?_) #[false, true, true, false, false, true, true, true, false, true, true, false, false, false, false, false, false, false] rfl rfl (by kernel_rfl) (fun _ _ _ h => h) (Or.inl ⟨by rfl, ?_⟩) ?_ ?_
      rotate_left
      · intro w'
        go_simp
        with_reducible rfl
      rotate_left
      · simp only [Act.put, List.setIfInBounds_toArray, List.set_cons_zero, List.set_cons_succ, i64_w, i32_w]
        rfl
      refine take_ (i := 11) (N := some 50) (v := ?_) (a' := ?_) #[false, true, true, false, false, true, true, true, false, true, true, true, false, false, false, false, false, false] rfl rfl (by kernel_rfl) (fun _ _ _ h => h) (Or.inl ⟨by rfl, ?_⟩) hHeld ?_ ?_
      rotate_left
      · rintro w' ⟨y0, y1⟩
        go_simp
        with_reducible rfl
      rotate_left
      · simp only [Act.put, List.setIfInBounds_toArray, List.set_cons_zero, List.set_cons_succ, i64_w, i32_w]
        rfl
      generalize w4.drew = wd at Xd HXw hHeld ⊢
      clear Xd k0 q0 q1 q2
      refine two_ (i := 0) (j := 8) (Ni := some 39) (Nj := some 47) #[true, true, true, false, false, true, true, true, false, true, true, true, false, false, false, false, false, false] #[false, true, true, false, false, true, true, true, true, true, true, true, false, false, false, false, false, false] rfl rfl rfl rfl (by kernel_rfl) (by simp) (by simp) (fun K hK => ?_) (fun K hK => ?_)
      · skip
        refine value_ (w1 := wd.alloc (.cells #[.string ⟨#[45]⟩, .string ⟨#[33]⟩, .string ⟨#[126]⟩] 9)) (v := .slice (some ⟨wd.heap.size, 0, none⟩) 3 3) (by rfl) rfl (by go_simp) ?_
        have X39 : Ext wd (wd.alloc (.cells #[.string ⟨#[45]⟩, .string ⟨#[33]⟩, .string ⟨#[126]⟩] 9)) := (Ext.refl wd).alloc _
        have B39 := Blk.alloc wd 9 #[.string ⟨#[45]⟩, .string ⟨#[33]⟩, .string ⟨#[126]⟩]
        have HX39 : Hid (Ext w4 (wd.alloc (.cells #[.string ⟨#[45]⟩, .string ⟨#[33]⟩, .string ⟨#[126]⟩] 9))) := (HXw.out).trans X39
        refine hK.out _ _ (HCs.out _ HX39.out) (fun hHeld => ?_)
        clear hK K
        refine norm_ (a' := ?_) ?_ ?_
        rotate_left
        · show Act.put _ (some 39) _ = _
          simp only [Act.put, List.setIfInBounds_toArray, List.set_cons_zero, List.set_cons_succ, i64_w, i32_w]
          rfl
        generalize wd.alloc (.cells #[.string ⟨#[45]⟩, .string ⟨#[33]⟩, .string ⟨#[126]⟩] 9) = w39 at X39 B39 HX39 hHeld ⊢
        have HB39 := Lib.hid B39
        have HCs2 : Hid (∀ w', Ext w39 w' → (w'.cell? ⟨w2.heap.size, 1, none⟩ = some (.int .i64 0) ∧ w'.cell? ⟨g, 0, none⟩ = some (.slice p0 q0' r0)) ∧ w'.cell? ⟨wd.heap.size, 0, none⟩ = some (.string U)) := fun w' hX => ⟨HCs.out _ (HX39.out.trans hX), ((HB39.out.ext hX).cell 0).trans (by rw [HU.out]; rfl)⟩
        clear X39 B39 hHeld
        have hHeld := HCs2.out w39 (Ext.refl _)
        refine stronger_ (S' := fun w' => (w'.cell? ⟨w2.heap.size, 1, none⟩ = some (.int .i64 0) ∧ w'.cell? ⟨g, 0, none⟩ = some (.slice p0 q0' r0)) ∧ w'.cell? ⟨wd.heap.size, 0, none⟩ = some (.string U)) (fun _ h => h.1) _ _ _ _ hHeld ?_
        refine pure_ (i := 3) (N := some 42) (v := ?_) (a' := ?_) #[true, true, true, true, false, true, true, true, false, true, true, true, false, false, false, false, false, false] rfl rfl (by kernel_rfl) (fun _ _ _ h => h) (Or.inl ⟨by rfl, ?_⟩) ?_ ?_
        rotate_left
        · intro w'
          go_simp
          with_reducible rfl
        rotate_left
        · simp only [Act.put, List.setIfInBounds_toArray, List.set_cons_zero, List.set_cons_succ, i64_w, i32_w]
          rfl
        refine take_ (i := 4) (N := some 43) (v := ?_) (a' := ?_) #[true, true, true, true, true, true, true, true, false, true, true, true, false, false, false, false, false, false] rfl rfl (by kernel_rfl) (fun _ _ _ h => h) (Or.inl ⟨by rfl, ?_⟩) hHeld ?_ ?_
        rotate_left
        · rintro w' ⟨⟨y0, y1⟩, y2⟩
          go_simp
          with_reducible rfl
        rotate_left
        · simp only [Act.put, List.setIfInBounds_toArray, List.set_cons_zero, List.set_cons_succ, i64_w, i32_w]
          rfl
        refine one_ (i := 8) (N := some 47) #[true, true, true, true, true, true, true, true, true, true, true, true, false, false, false, false, false, false] rfl rfl (by kernel_rfl) (by decide) (fun K hK => ?_)
        refine goes_ (N := some 47) Tryz.func61 (by kernel_rfl) rfl #[.slice p0 q0' r0] (by rfl) rfl rfl (by simp [Act.eval]) ?_
        refine (HS0.out w39 HX39.out).mono ?_
        rintro e wc0 ⟨rfl, hXwc0⟩
        refine ⟨_, rfl, ?_⟩
        have HXwc0 : Hid (Ext w4 wc0) := (HX39.out).trans hXwc0
        refine hK.out _ _ (HCs2.out _ (hXwc0)) (fun hHeld => ?_)
        clear hK K
        refine norm_ (a' := ?_) ?_ ?_
        rotate_left
        · show Act.put _ (some 47) _ = _
          simp only [Act.put, List.setIfInBounds_toArray, List.set_cons_zero, List.set_cons_succ, i64_w, i32_w]
          rfl
        refine one_ (i := 12) (N := some 51) #[true, true, true, true, true, true, true, true, true, true, true, true, true, false, false, false, false, false] rfl rfl (by kernel_rfl) (by decide) (fun K hK => ?_)
        refine goes_ (N := some 51) Tryz.func107 (by kernel_rfl) rfl #[.slice p0 q0' r0] (by rfl) rfl rfl (by simp [Act.eval]) ?_
        refine (HG0.out wc0 HXwc0.out).mono ?_
        rintro e wc1 ⟨rfl, hXwc1⟩
        refine ⟨_, rfl, ?_⟩
        have HXwc1 : Hid (Ext w4 wc1) := (HXwc0.out).trans hXwc1
        refine hK.out _ _ (HCs2.out _ ((hXwc0).trans hXwc1)) (fun hHeld => ?_)
        clear hK K
        refine norm_ (a' := ?_) ?_ ?_
        rotate_left
        · show Act.put _ (some 51) _ = _
          simp only [Act.put, List.setIfInBounds_toArray, List.set_cons_zero, List.set_cons_succ, i64_w, i32_w]
          rfl
        refine one_ (i := 13) (N := some 52) #[true, true, true, true, true, true, true, true, true, true, true, true, true, true, false, false, false, false] rfl rfl (by kernel_rfl) (by decide) (fun K hK => ?_)
        refine goes_ (N := some 52) Tryz.func110 (by kernel_rfl) rfl #[.agg #[.int .i64 x0.node.kind, .int .i64 x0.node.val, .string x0.node.name]] (by rfl) rfl rfl (by simp [Act.eval]) ?_
        refine (HN0.out wc1).mono ?_
        rintro e wc2 ⟨rfl, hXwc2⟩
        refine ⟨_, rfl, ?_⟩
        have HXwc2 : Hid (Ext w4 wc2) := (HXwc1.out).trans hXwc2
        refine hK.out _ _ (HCs2.out _ (((hXwc0).trans hXwc1).trans hXwc2)) (fun hHeld => ?_)
        clear hK K
        refine norm_ (a' := ?_) ?_ ?_
        rotate_left
        · show Act.put _ (some 52) _ = _
          simp only [Act.put, List.setIfInBounds_toArray, List.set_cons_zero, List.set_cons_succ, i64_w, i32_w]
          rfl
        refine pure_ (i := 14) (N := some 53) (v := ?_) (a' := ?_) #[true, true, true, true, true, true, true, true, true, true, true, true, true, true, true, false, false, false] rfl rfl (by kernel_rfl) (fun _ _ _ h => h) (Or.inl ⟨by rfl, ?_⟩) ?_ ?_
        rotate_left
        · intro w'
          go_simp
          with_reducible rfl
        rotate_left
        · simp only [Act.put, List.setIfInBounds_toArray, List.set_cons_zero, List.set_cons_succ, i64_w, i32_w]
          rfl
        refine one_ (i := 15) (N := some 54) #[true, true, true, true, true, true, true, true, true, true, true, true, true, true, true, true, false, false] rfl rfl (by kernel_rfl) (by decide) (fun K hK => ?_)
        refine goes_ (N := some 54) Tryz.func109 (by kernel_rfl) rfl #[.string s0, .bool (decide (((strong x0.node : Nat) : Int) < 11))] (by rfl) rfl rfl (by simp [Act.eval]) ?_
        refine (HH0.out wc2).mono ?_
        rintro e wc3 ⟨rfl, rfl⟩
        refine ⟨_, rfl, ?_⟩
        refine hK.out _ _ (HCs2.out _ (((hXwc0).trans hXwc1).trans hXwc2)) (fun hHeld => ?_)
        clear hK K
        refine norm_ (a' := ?_) ?_ ?_
        rotate_left
        · show Act.put _ (some 54) _ = _
          simp only [Act.put, List.setIfInBounds_toArray, List.set_cons_zero, List.set_cons_succ, i64_w, i32_w]
          rfl
        refine pure_ (i := 16) (N := some 55) (v := ?_) (a' := ?_) #[true, true, true, true, true, true, true, true, true, true, true, true, true, true, true, true, true, false] rfl rfl (by kernel_rfl) (fun _ _ _ h => h) (Or.inl ⟨by rfl, ?_⟩) ?_ ?_
        rotate_left
        · intro w'
          go_simp
          with_reducible rfl
        rotate_left
        · simp only [Act.put, List.setIfInBounds_toArray, List.set_cons_zero, List.set_cons_succ, i64_w, i32_w]
          rfl
        refine pure_ (i := 17) (N := some 2) (v := ?_) (a' := ?_) #[true, true, true, true, true, true, true, true, true, true, true, true, true, true, true, true, true, true] rfl rfl (by kernel_rfl) (fun _ _ _ h => h) (Or.inl ⟨by rfl, ?_⟩) ?_ ?_
        rotate_left
        · intro w'
          go_simp
          with_reducible rfl
        rotate_left
        · simp only [Act.put, List.setIfInBounds_toArray, List.set_cons_zero, List.set_cons_succ, i64_w, i32_w]
          rfl
        refine done_ (by kernel_rfl) ?_
        have HXe := Lib.hid (HX4.out.trans (HXwc2.out))
        clear hHeld
        go_wp2
        go_ret
        exact ⟨by show Ending.returned (Value.string _) = _; rw [HRr.out], HXe.out⟩
      · skip
        refine goes_ (N := some 47) Tryz.func61 (by kernel_rfl) rfl #[.slice p0 q0' r0] (by rfl) rfl rfl (by simp [Act.eval]) ?_
        refine (HS0.out wd HXw.out).mono ?_
        rintro e wc0 ⟨rfl, hXwc0⟩
        refine ⟨_, rfl, ?_⟩
        have HXwc0 : Hid (Ext w4 wc0) := (HXw.out).trans hXwc0
        refine hK.out _ _ (HCs.out _ HXwc0.out) (fun hHeld => ?_)
        clear hK K
        refine norm_ (a' := ?_) ?_ ?_
        rotate_left
        · show Act.put _ (some 47) _ = _
          simp only [Act.put, List.setIfInBounds_toArray, List.set_cons_zero, List.set_cons_succ, i64_w, i32_w]
          rfl
        refine two_ (i := 0) (j := 12) (Ni := some 39) (Nj := some 51) #[true, true, true, false, false, true, true, true, true, true, true, true, false, false, false, false, false, false] #[false, true, true, false, false, true, true, true, true, true, true, true, true, false, false, false, false, false] rfl rfl rfl rfl (by kernel_rfl) (by simp) (by simp) (fun K hK => ?_) (fun K hK => ?_)
        · skip
          refine value_ (w1 := wc0.alloc (.cells #[.string ⟨#[45]⟩, .string ⟨#[33]⟩, .string ⟨#[126]⟩] 9)) (v := .slice (some ⟨wc0.heap.size, 0, none⟩) 3 3) (by rfl) rfl (by go_simp) ?_
          have X39 : Ext wc0 (wc0.alloc (.cells #[.string ⟨#[45]⟩, .string ⟨#[33]⟩, .string ⟨#[126]⟩] 9)) := (Ext.refl wc0).alloc _
          have B39 := Blk.alloc wc0 9 #[.string ⟨#[45]⟩, .string ⟨#[33]⟩, .string ⟨#[126]⟩]
          have HX39 : Hid (Ext w4 (wc0.alloc (.cells #[.string ⟨#[45]⟩, .string ⟨#[33]⟩, .string ⟨#[126]⟩] 9))) := (HXwc0.out).trans X39
          refine hK.out _ _ (HCs.out _ HX39.out) (fun hHeld => ?_)
          clear hK K
          refine norm_ (a' := ?_) ?_ ?_
          rotate_left
          · show Act.put _ (some 39) _ = _
            simp only [Act.put, List.setIfInBounds_toArray, List.set_cons_zero, List.set_cons_succ, i64_w, i32_w]
            rfl
          generalize wc0.alloc (.cells #[.string ⟨#[45]⟩, .string ⟨#[33]⟩, .string ⟨#[126]⟩] 9) = w39 at X39 B39 HX39 hHeld ⊢
          have HB39 := Lib.hid B39
          have HCs2 : Hid (∀ w', Ext w39 w' → (w'.cell? ⟨w2.heap.size, 1, none⟩ = some (.int .i64 0) ∧ w'.cell? ⟨g, 0, none⟩ = some (.slice p0 q0' r0)) ∧ w'.cell? ⟨wc0.heap.size, 0, none⟩ = some (.string U)) := fun w' hX => ⟨HCs.out _ (HX39.out.trans hX), ((HB39.out.ext hX).cell 0).trans (by rw [HU.out]; rfl)⟩
          clear X39 B39 hHeld
          have hHeld := HCs2.out w39 (Ext.refl _)
          refine stronger_ (S' := fun w' => (w'.cell? ⟨w2.heap.size, 1, none⟩ = some (.int .i64 0) ∧ w'.cell? ⟨g, 0, none⟩ = some (.slice p0 q0' r0)) ∧ w'.cell? ⟨wc0.heap.size, 0, none⟩ = some (.string U)) (fun _ h => h.1) _ _ _ _ hHeld ?_
          refine pure_ (i := 3) (N := some 42) (v := ?_) (a' := ?_) #[true, true, true, true, false, true, true, true, true, true, true, true, false, false, false, false, false, false] rfl rfl (by kernel_rfl) (fun _ _ _ h => h) (Or.inl ⟨by rfl, ?_⟩) ?_ ?_
          rotate_left
          · intro w'
            go_simp
            with_reducible rfl
          rotate_left
          · simp only [Act.put, List.setIfInBounds_toArray, List.set_cons_zero, List.set_cons_succ, i64_w, i32_w]
            rfl
          refine take_ (i := 4) (N := some 43) (v := ?_) (a' := ?_) #[true, true, true, true, true, true, true, true, true, true, true, true, false, false, false, false, false, false] rfl rfl (by kernel_rfl) (fun _ _ _ h => h) (Or.inl ⟨by rfl, ?_⟩) hHeld ?_ ?_
          rotate_left
          · rintro w' ⟨⟨y0, y1⟩, y2⟩
            go_simp
            with_reducible rfl
          rotate_left
          · simp only [Act.put, List.setIfInBounds_toArray, List.set_cons_zero, List.set_cons_succ, i64_w, i32_w]
            rfl
          refine one_ (i := 12) (N := some 51) #[true, true, true, true, true, true, true, true, true, true, true, true, true, false, false, false, false, false] rfl rfl (by kernel_rfl) (by decide) (fun K hK => ?_)
          refine goes_ (N := some 51) Tryz.func107 (by kernel_rfl) rfl #[.slice p0 q0' r0] (by rfl) rfl rfl (by simp [Act.eval]) ?_
          refine (HG0.out w39 HX39.out).mono ?_
          rintro e wc1 ⟨rfl, hXwc1⟩
          refine ⟨_, rfl, ?_⟩
          have HXwc1 : Hid (Ext w4 wc1) := (HX39.out).trans hXwc1
          refine hK.out _ _ (HCs2.out _ (hXwc1)) (fun hHeld => ?_)
          clear hK K
          refine norm_ (a' := ?_) ?_ ?_
          rotate_left
          · show Act.put _ (some 51) _ = _
            simp only [Act.put, List.setIfInBounds_toArray, List.set_cons_zero, List.set_cons_succ, i64_w, i32_w]
            rfl
          refine one_ (i := 13) (N := some 52) #[true, true, true, true, true, true, true, true, true, true, true, true, true, true, false, false, false, false] rfl rfl (by kernel_rfl) (by decide) (fun K hK => ?_)
          refine goes_ (N := some 52) Tryz.func110 (by kernel_rfl) rfl #[.agg #[.int .i64 x0.node.kind, .int .i64 x0.node.val, .string x0.node.name]] (by rfl) rfl rfl (by simp [Act.eval]) ?_
          refine (HN0.out wc1).mono ?_
          rintro e wc2 ⟨rfl, hXwc2⟩
          refine ⟨_, rfl, ?_⟩
          have HXwc2 : Hid (Ext w4 wc2) := (HXwc1.out).trans hXwc2
          refine hK.out _ _ (HCs2.out _ ((hXwc1).trans hXwc2)) (fun hHeld => ?_)
          clear hK K
          refine norm_ (a' := ?_) ?_ ?_
          rotate_left
          · show Act.put _ (some 52) _ = _
            simp only [Act.put, List.setIfInBounds_toArray, List.set_cons_zero, List.set_cons_succ, i64_w, i32_w]
            rfl
          refine pure_ (i := 14) (N := some 53) (v := ?_) (a' := ?_) #[true, true, true, true, true, true, true, true, true, true, true, true, true, true, true, false, false, false] rfl rfl (by kernel_rfl) (fun _ _ _ h => h) (Or.inl ⟨by rfl, ?_⟩) ?_ ?_
          rotate_left
          · intro w'
            go_simp
            with_reducible rfl
          rotate_left
          · simp only [Act.put, List.setIfInBounds_toArray, List.set_cons_zero, List.set_cons_succ, i64_w, i32_w]
            rfl
          refine one_ (i := 15) (N := some 54) #[true, true, true, true, true, true, true, true, true, true, true, true, true, true, true, true, false, false] rfl rfl (by kernel_rfl) (by decide) (fun K hK => ?_)
          refine goes_ (N := some 54) Tryz.func109 (by kernel_rfl) rfl #[.string s0, .bool (decide (((strong x0.node : Nat) : Int) < 11))] (by rfl) rfl rfl (by simp [Act.eval]) ?_
          refine (HH0.out wc2).mono ?_
          rintro e wc3 ⟨rfl, rfl⟩
          refine ⟨_, rfl, ?_⟩
          refine hK.out _ _ (HCs2.out _ ((hXwc1).trans hXwc2)) (fun hHeld => ?_)
          clear hK K
          refine norm_ (a' := ?_) ?_ ?_
          rotate_left
          · show Act.put _ (some 54) _ = _
            simp only [Act.put, List.setIfInBounds_toArray, List.set_cons_zero, List.set_cons_succ, i64_w, i32_w]
            rfl
          refine pure_ (i := 16) (N := some 55) (v := ?_) (a' := ?_) #[true, true, true, true, true, true, true, true, true, true, true, true, true, true, true, true, true, false] rfl rfl (by kernel_rfl) (fun _ _ _ h => h) (Or.inl ⟨by rfl, ?_⟩) ?_ ?_
          rotate_left
          · intro w'
            go_simp
            with_reducible rfl
          rotate_left
          · simp only [Act.put, List.setIfInBounds_toArray, List.set_cons_zero, List.set_cons_succ, i64_w, i32_w]
            rfl
          refine pure_ (i := 17) (N := some 2) (v := ?_) (a' := ?_) #[true, true, true, true, true, true, true, true, true, true, true, true, true, true, true, true, true, true] rfl rfl (by kernel_rfl) (fun _ _ _ h => h) (Or.inl ⟨by rfl, ?_⟩) ?_ ?_
          rotate_left
          · intro w'
            go_simp
            with_reducible rfl
          rotate_left
          · simp only [Act.put, List.setIfInBounds_toArray, List.set_cons_zero, List.set_cons_succ, i64_w, i32_w]
            rfl
          refine done_ (by kernel_rfl) ?_
          have HXe := Lib.hid (HX4.out.trans (HXwc2.out))
          clear hHeld
          go_wp2
          go_ret
          exact ⟨by show Ending.returned (Value.string _) = _; rw [HRr.out], HXe.out⟩
        · skip
          refine goes_ (N := some 51) Tryz.func107 (by kernel_rfl) rfl #[.slice p0 q0' r0] (by rfl) rfl rfl (by simp [Act.eval]) ?_
          refine (HG0.out wc0 HXwc0.out).mono ?_
          rintro e wc1 ⟨rfl, hXwc1⟩
          refine ⟨_, rfl, ?_⟩
          have HXwc1 : Hid (Ext w4 wc1) := (HXwc0.out).trans hXwc1
          refine hK.out _ _ (HCs.out _ HXwc1.out) (fun hHeld => ?_)
          clear hK K
          refine norm_ (a' := ?_) ?_ ?_
          rotate_left
          · show Act.put _ (some 51) _ = _
            simp only [Act.put, List.setIfInBounds_toArray, List.set_cons_zero, List.set_cons_succ, i64_w, i32_w]
            rfl
          refine two_ (i := 0) (j := 13) (Ni := some 39) (Nj := some 52) #[true, true, true, false, false, true, true, true, true, true, true, true, true, false, false, false, false, false] #[false, true, true, false, false, true, true, true, true, true, true, true, true, true, false, false, false, false] rfl rfl rfl rfl (by kernel_rfl) (by simp) (by simp) (fun K hK => ?_) (fun K hK => ?_)
          · skip
            refine value_ (w1 := wc1.alloc (.cells #[.string ⟨#[45]⟩, .string ⟨#[33]⟩, .string ⟨#[126]⟩] 9)) (v := .slice (some ⟨wc1.heap.size, 0, none⟩) 3 3) (by rfl) rfl (by go_simp) ?_
            have X39 : Ext wc1 (wc1.alloc (.cells #[.string ⟨#[45]⟩, .string ⟨#[33]⟩, .string ⟨#[126]⟩] 9)) := (Ext.refl wc1).alloc _
            have B39 := Blk.alloc wc1 9 #[.string ⟨#[45]⟩, .string ⟨#[33]⟩, .string ⟨#[126]⟩]
            have HX39 : Hid (Ext w4 (wc1.alloc (.cells #[.string ⟨#[45]⟩, .string ⟨#[33]⟩, .string ⟨#[126]⟩] 9))) := (HXwc1.out).trans X39
            refine hK.out _ _ (HCs.out _ HX39.out) (fun hHeld => ?_)
            clear hK K
            refine norm_ (a' := ?_) ?_ ?_
            rotate_left
            · show Act.put _ (some 39) _ = _
              simp only [Act.put, List.setIfInBounds_toArray, List.set_cons_zero, List.set_cons_succ, i64_w, i32_w]
              rfl
            generalize wc1.alloc (.cells #[.string ⟨#[45]⟩, .string ⟨#[33]⟩, .string ⟨#[126]⟩] 9) = w39 at X39 B39 HX39 hHeld ⊢
            have HB39 := Lib.hid B39
            have HCs2 : Hid (∀ w', Ext w39 w' → (w'.cell? ⟨w2.heap.size, 1, none⟩ = some (.int .i64 0) ∧ w'.cell? ⟨g, 0, none⟩ = some (.slice p0 q0' r0)) ∧ w'.cell? ⟨wc1.heap.size, 0, none⟩ = some (.string U)) := fun w' hX => ⟨HCs.out _ (HX39.out.trans hX), ((HB39.out.ext hX).cell 0).trans (by rw [HU.out]; rfl)⟩
            clear X39 B39 hHeld
            have hHeld := HCs2.out w39 (Ext.refl _)
            refine stronger_ (S' := fun w' => (w'.cell? ⟨w2.heap.size, 1, none⟩ = some (.int .i64 0) ∧ w'.cell? ⟨g, 0, none⟩ = some (.slice p0 q0' r0)) ∧ w'.cell? ⟨wc1.heap.size, 0, none⟩ = some (.string U)) (fun _ h => h.1) _ _ _ _ hHeld ?_
            refine pure_ (i := 3) (N := some 42) (v := ?_) (a' := ?_) #[true, true, true, true, false, true, true, true, true, true, true, true, true, false, false, false, false, false] rfl rfl (by kernel_rfl) (fun _ _ _ h => h) (Or.inl ⟨by rfl, ?_⟩) ?_ ?_
            rotate_left
            · intro w'
              go_simp
              with_reducible rfl
            rotate_left
            · simp only [Act.put, List.setIfInBounds_toArray, List.set_cons_zero, List.set_cons_succ, i64_w, i32_w]
              rfl
            refine take_ (i := 4) (N := some 43) (v := ?_) (a' := ?_) #[true, true, true, true, true, true, true, true, true, true, true, true, true, false, false, false, false, false] rfl rfl (by kernel_rfl) (fun _ _ _ h => h) (Or.inl ⟨by rfl, ?_⟩) hHeld ?_ ?_
            rotate_left
            · rintro w' ⟨⟨y0, y1⟩, y2⟩
              go_simp
              with_reducible rfl
            rotate_left
            · simp only [Act.put, List.setIfInBounds_toArray, List.set_cons_zero, List.set_cons_succ, i64_w, i32_w]
              rfl
            refine one_ (i := 13) (N := some 52) #[true, true, true, true, true, true, true, true, true, true, true, true, true, true, false, false, false, false] rfl rfl (by kernel_rfl) (by decide) (fun K hK => ?_)
            refine goes_ (N := some 52) Tryz.func110 (by kernel_rfl) rfl #[.agg #[.int .i64 x0.node.kind, .int .i64 x0.node.val, .string x0.node.name]] (by rfl) rfl rfl (by simp [Act.eval]) ?_
            refine (HN0.out w39).mono ?_
            rintro e wc2 ⟨rfl, hXwc2⟩
            refine ⟨_, rfl, ?_⟩
            have HXwc2 : Hid (Ext w4 wc2) := (HX39.out).trans hXwc2
            refine hK.out _ _ (HCs2.out _ (hXwc2)) (fun hHeld => ?_)
            clear hK K
            refine norm_ (a' := ?_) ?_ ?_
            rotate_left
            · show Act.put _ (some 52) _ = _
              simp only [Act.put, List.setIfInBounds_toArray, List.set_cons_zero, List.set_cons_succ, i64_w, i32_w]
              rfl
            refine pure_ (i := 14) (N := some 53) (v := ?_) (a' := ?_) #[true, true, true, true, true, true, true, true, true, true, true, true, true, true, true, false, false, false] rfl rfl (by kernel_rfl) (fun _ _ _ h => h) (Or.inl ⟨by rfl, ?_⟩) ?_ ?_
            rotate_left
            · intro w'
              go_simp
              with_reducible rfl
            rotate_left
            · simp only [Act.put, List.setIfInBounds_toArray, List.set_cons_zero, List.set_cons_succ, i64_w, i32_w]
              rfl
            refine one_ (i := 15) (N := some 54) #[true, true, true, true, true, true, true, true, true, true, true, true, true, true, true, true, false, false] rfl rfl (by kernel_rfl) (by decide) (fun K hK => ?_)
            refine goes_ (N := some 54) Tryz.func109 (by kernel_rfl) rfl #[.string s0, .bool (decide (((strong x0.node : Nat) : Int) < 11))] (by rfl) rfl rfl (by simp [Act.eval]) ?_
            refine (HH0.out wc2).mono ?_
            rintro e wc3 ⟨rfl, rfl⟩
            refine ⟨_, rfl, ?_⟩
            refine hK.out _ _ (HCs2.out _ (hXwc2)) (fun hHeld => ?_)
            clear hK K
            refine norm_ (a' := ?_) ?_ ?_
            rotate_left
            · show Act.put _ (some 54) _ = _
              simp only [Act.put, List.setIfInBounds_toArray, List.set_cons_zero, List.set_cons_succ, i64_w, i32_w]
              rfl
            refine pure_ (i := 16) (N := some 55) (v := ?_) (a' := ?_) #[true, true, true, true, true, true, true, true, true, true, true, true, true, true, true, true, true, false] rfl rfl (by kernel_rfl) (fun _ _ _ h => h) (Or.inl ⟨by rfl, ?_⟩) ?_ ?_
            rotate_left
            · intro w'
              go_simp
              with_reducible rfl
            rotate_left
            · simp only [Act.put, List.setIfInBounds_toArray, List.set_cons_zero, List.set_cons_succ, i64_w, i32_w]
              rfl
            refine pure_ (i := 17) (N := some 2) (v := ?_) (a' := ?_) #[true, true, true, true, true, true, true, true, true, true, true, true, true, true, true, true, true, true] rfl rfl (by kernel_rfl) (fun _ _ _ h => h) (Or.inl ⟨by rfl, ?_⟩) ?_ ?_
            rotate_left
            · intro w'
              go_simp
              with_reducible rfl
            rotate_left
            · simp only [Act.put, List.setIfInBounds_toArray, List.set_cons_zero, List.set_cons_succ, i64_w, i32_w]
              rfl
            refine done_ (by kernel_rfl) ?_
            have HXe := Lib.hid (HX4.out.trans (HXwc2.out))
            clear hHeld
            go_wp2
            go_ret
            exact ⟨by show Ending.returned (Value.string _) = _; rw [HRr.out], HXe.out⟩
          · skip
            refine goes_ (N := some 52) Tryz.func110 (by kernel_rfl) rfl #[.agg #[.int .i64 x0.node.kind, .int .i64 x0.node.val, .string x0.node.name]] (by rfl) rfl rfl (by simp [Act.eval]) ?_
            refine (HN0.out wc1).mono ?_
            rintro e wc2 ⟨rfl, hXwc2⟩
            refine ⟨_, rfl, ?_⟩
            have HXwc2 : Hid (Ext w4 wc2) := (HXwc1.out).trans hXwc2
            refine hK.out _ _ (HCs.out _ HXwc2.out) (fun hHeld => ?_)
            clear hK K
            refine norm_ (a' := ?_) ?_ ?_
            rotate_left
            · show Act.put _ (some 52) _ = _
              simp only [Act.put, List.setIfInBounds_toArray, List.set_cons_zero, List.set_cons_succ, i64_w, i32_w]
              rfl
            refine pure_ (i := 14) (N := some 53) (v := ?_) (a' := ?_) #[false, true, true, false, false, true, true, true, true, true, true, true, true, true, true, false, false, false] rfl rfl (by kernel_rfl) (fun _ _ _ h => h) (Or.inl ⟨by rfl, ?_⟩) ?_ ?_
            rotate_left
            · intro w'
              go_simp
              with_reducible rfl
            rotate_left
            · simp only [Act.put, List.setIfInBounds_toArray, List.set_cons_zero, List.set_cons_succ, i64_w, i32_w]
              rfl
            refine two_ (i := 0) (j := 15) (Ni := some 39) (Nj := some 54) #[true, true, true, false, false, true, true, true, true, true, true, true, true, true, true, false, false, false] #[false, true, true, false, false, true, true, true, true, true, true, true, true, true, true, true, false, false] rfl rfl rfl rfl (by kernel_rfl) (by simp) (by simp) (fun K hK => ?_) (fun K hK => ?_)
            · skip
              refine value_ (w1 := wc2.alloc (.cells #[.string ⟨#[45]⟩, .string ⟨#[33]⟩, .string ⟨#[126]⟩] 9)) (v := .slice (some ⟨wc2.heap.size, 0, none⟩) 3 3) (by rfl) rfl (by go_simp) ?_
              have X39 : Ext wc2 (wc2.alloc (.cells #[.string ⟨#[45]⟩, .string ⟨#[33]⟩, .string ⟨#[126]⟩] 9)) := (Ext.refl wc2).alloc _
              have B39 := Blk.alloc wc2 9 #[.string ⟨#[45]⟩, .string ⟨#[33]⟩, .string ⟨#[126]⟩]
              have HX39 : Hid (Ext w4 (wc2.alloc (.cells #[.string ⟨#[45]⟩, .string ⟨#[33]⟩, .string ⟨#[126]⟩] 9))) := (HXwc2.out).trans X39
              refine hK.out _ _ (HCs.out _ HX39.out) (fun hHeld => ?_)
              clear hK K
              refine norm_ (a' := ?_) ?_ ?_
              rotate_left
              · show Act.put _ (some 39) _ = _
                simp only [Act.put, List.setIfInBounds_toArray, List.set_cons_zero, List.set_cons_succ, i64_w, i32_w]
                rfl
              generalize wc2.alloc (.cells #[.string ⟨#[45]⟩, .string ⟨#[33]⟩, .string ⟨#[126]⟩] 9) = w39 at X39 B39 HX39 hHeld ⊢
              have HB39 := Lib.hid B39
              have HCs2 : Hid (∀ w', Ext w39 w' → (w'.cell? ⟨w2.heap.size, 1, none⟩ = some (.int .i64 0) ∧ w'.cell? ⟨g, 0, none⟩ = some (.slice p0 q0' r0)) ∧ w'.cell? ⟨wc2.heap.size, 0, none⟩ = some (.string U)) := fun w' hX => ⟨HCs.out _ (HX39.out.trans hX), ((HB39.out.ext hX).cell 0).trans (by rw [HU.out]; rfl)⟩
              clear X39 B39 hHeld
              have hHeld := HCs2.out w39 (Ext.refl _)
              refine stronger_ (S' := fun w' => (w'.cell? ⟨w2.heap.size, 1, none⟩ = some (.int .i64 0) ∧ w'.cell? ⟨g, 0, none⟩ = some (.slice p0 q0' r0)) ∧ w'.cell? ⟨wc2.heap.size, 0, none⟩ = some (.string U)) (fun _ h => h.1) _ _ _ _ hHeld ?_
              refine pure_ (i := 3) (N := some 42) (v := ?_) (a' := ?_) #[true, true, true, true, false, true, true, true, true, true, true, true, true, true, true, false, false, false] rfl rfl (by kernel_rfl) (fun _ _ _ h => h) (Or.inl ⟨by rfl, ?_⟩) ?_ ?_
              rotate_left
              · intro w'
                go_simp
                with_reducible rfl
              rotate_left
              · simp only [Act.put, List.setIfInBounds_toArray, List.set_cons_zero, List.set_cons_succ, i64_w, i32_w]
                rfl
              refine take_ (i := 4) (N := some 43) (v := ?_) (a' := ?_) #[true, true, true, true, true, true, true, true, true, true, true, true, true, true, true, false, false, false] rfl rfl (by kernel_rfl) (fun _ _ _ h => h) (Or.inl ⟨by rfl, ?_⟩) hHeld ?_ ?_
              rotate_left
              · rintro w' ⟨⟨y0, y1⟩, y2⟩
                go_simp
                with_reducible rfl
              rotate_left
              · simp only [Act.put, List.setIfInBounds_toArray, List.set_cons_zero, List.set_cons_succ, i64_w, i32_w]
                rfl
              refine one_ (i := 15) (N := some 54) #[true, true, true, true, true, true, true, true, true, true, true, true, true, true, true, true, false, false] rfl rfl (by kernel_rfl) (by decide) (fun K hK => ?_)
              refine goes_ (N := some 54) Tryz.func109 (by kernel_rfl) rfl #[.string s0, .bool (decide (((strong x0.node : Nat) : Int) < 11))] (by rfl) rfl rfl (by simp [Act.eval]) ?_
              refine (HH0.out w39).mono ?_
              rintro e wc3 ⟨rfl, rfl⟩
              refine ⟨_, rfl, ?_⟩
              refine hK.out _ _ (HCs2.out _ (Ext.refl _)) (fun hHeld => ?_)
              clear hK K
              refine norm_ (a' := ?_) ?_ ?_
              rotate_left
              · show Act.put _ (some 54) _ = _
                simp only [Act.put, List.setIfInBounds_toArray, List.set_cons_zero, List.set_cons_succ, i64_w, i32_w]
                rfl
              refine pure_ (i := 16) (N := some 55) (v := ?_) (a' := ?_) #[true, true, true, true, true, true, true, true, true, true, true, true, true, true, true, true, true, false] rfl rfl (by kernel_rfl) (fun _ _ _ h => h) (Or.inl ⟨by rfl, ?_⟩) ?_ ?_
              rotate_left
              · intro w'
                go_simp
                with_reducible rfl
              rotate_left
              · simp only [Act.put, List.setIfInBounds_toArray, List.set_cons_zero, List.set_cons_succ, i64_w, i32_w]
                rfl
              refine pure_ (i := 17) (N := some 2) (v := ?_) (a' := ?_) #[true, true, true, true, true, true, true, true, true, true, true, true, true, true, true, true, true, true] rfl rfl (by kernel_rfl) (fun _ _ _ h => h) (Or.inl ⟨by rfl, ?_⟩) ?_ ?_
              rotate_left
              · intro w'
                go_simp
                with_reducible rfl
              rotate_left
              · simp only [Act.put, List.setIfInBounds_toArray, List.set_cons_zero, List.set_cons_succ, i64_w, i32_w]
                rfl
              refine done_ (by kernel_rfl) ?_
              have HXe := Lib.hid (HX4.out.trans (HX39.out))
              clear hHeld
              go_wp2
              go_ret
              exact ⟨by show Ending.returned (Value.string _) = _; rw [HRr.out], HXe.out⟩
            · skip
              refine goes_ (N := some 54) Tryz.func109 (by kernel_rfl) rfl #[.string s0, .bool (decide (((strong x0.node : Nat) : Int) < 11))] (by rfl) rfl rfl (by simp [Act.eval]) ?_
              refine (HH0.out wc2).mono ?_
              rintro e wc3 ⟨rfl, rfl⟩
              refine ⟨_, rfl, ?_⟩
              refine hK.out _ _ (HCs.out _ (HXwc2.out)) (fun hHeld => ?_)
              clear hK K
              refine norm_ (a' := ?_) ?_ ?_
              rotate_left
              · show Act.put _ (some 54) _ = _
                simp only [Act.put, List.setIfInBounds_toArray, List.set_cons_zero, List.set_cons_succ, i64_w, i32_w]
                rfl
              refine one_ (i := 0) (N := some 39) #[true, true, true, false, false, true, true, true, true, true, true, true, true, true, true, true, false, false] rfl rfl (by kernel_rfl) (by decide) (fun K hK => ?_)
              refine value_ (w1 := wc2.alloc (.cells #[.string ⟨#[45]⟩, .string ⟨#[33]⟩, .string ⟨#[126]⟩] 9)) (v := .slice (some ⟨wc2.heap.size, 0, none⟩) 3 3) (by rfl) rfl (by go_simp) ?_
              have X39 : Ext wc2 (wc2.alloc (.cells #[.string ⟨#[45]⟩, .string ⟨#[33]⟩, .string ⟨#[126]⟩] 9)) := (Ext.refl wc2).alloc _
              have B39 := Blk.alloc wc2 9 #[.string ⟨#[45]⟩, .string ⟨#[33]⟩, .string ⟨#[126]⟩]
              have HX39 : Hid (Ext w4 (wc2.alloc (.cells #[.string ⟨#[45]⟩, .string ⟨#[33]⟩, .string ⟨#[126]⟩] 9))) := (HXwc2.out).trans X39
              refine hK.out _ _ (HCs.out _ HX39.out) (fun hHeld => ?_)
              clear hK K
              refine norm_ (a' := ?_) ?_ ?_
              rotate_left
              · show Act.put _ (some 39) _ = _
                simp only [Act.put, List.setIfInBounds_toArray, List.set_cons_zero, List.set_cons_succ, i64_w, i32_w]
                rfl
              generalize wc2.alloc (.cells #[.string ⟨#[45]⟩, .string ⟨#[33]⟩, .string ⟨#[126]⟩] 9) = w39 at X39 B39 HX39 hHeld ⊢
              have HB39 := Lib.hid B39
              have HCs2 : Hid (∀ w', Ext w39 w' → (w'.cell? ⟨w2.heap.size, 1, none⟩ = some (.int .i64 0) ∧ w'.cell? ⟨g, 0, none⟩ = some (.slice p0 q0' r0)) ∧ w'.cell? ⟨wc2.heap.size, 0, none⟩ = some (.string U)) := fun w' hX => ⟨HCs.out _ (HX39.out.trans hX), ((HB39.out.ext hX).cell 0).trans (by rw [HU.out]; rfl)⟩
              clear X39 B39 hHeld
              have hHeld := HCs2.out w39 (Ext.refl _)
              refine stronger_ (S' := fun w' => (w'.cell? ⟨w2.heap.size, 1, none⟩ = some (.int .i64 0) ∧ w'.cell? ⟨g, 0, none⟩ = some (.slice p0 q0' r0)) ∧ w'.cell? ⟨wc2.heap.size, 0, none⟩ = some (.string U)) (fun _ h => h.1) _ _ _ _ hHeld ?_
              refine pure_ (i := 3) (N := some 42) (v := ?_) (a' := ?_) #[true, true, true, true, false, true, true, true, true, true, true, true, true, true, true, true, false, false] rfl rfl (by kernel_rfl) (fun _ _ _ h => h) (Or.inl ⟨by rfl, ?_⟩) ?_ ?_
              rotate_left
              · intro w'
                go_simp
                with_reducible rfl
              rotate_left
              · simp only [Act.put, List.setIfInBounds_toArray, List.set_cons_zero, List.set_cons_succ, i64_w, i32_w]
                rfl
              refine take_ (i := 4) (N := some 43) (v := ?_) (a' := ?_) #[true, true, true, true, true, true, true, true, true, true, true, true, true, true, true, true, false, false] rfl rfl (by kernel_rfl) (fun _ _ _ h => h) (Or.inl ⟨by rfl, ?_⟩) hHeld ?_ ?_
              rotate_left
              · rintro w' ⟨⟨y0, y1⟩, y2⟩
                go_simp
                with_reducible rfl
              rotate_left
              · simp only [Act.put, List.setIfInBounds_toArray, List.set_cons_zero, List.set_cons_succ, i64_w, i32_w]
                rfl
              refine pure_ (i := 16) (N := some 55) (v := ?_) (a' := ?_) #[true, true, true, true, true, true, true, true, true, true, true, true, true, true, true, true, true, false] rfl rfl (by kernel_rfl) (fun _ _ _ h => h) (Or.inl ⟨by rfl, ?_⟩) ?_ ?_
              rotate_left
              · intro w'
                go_simp
                with_reducible rfl
              rotate_left
              · simp only [Act.put, List.setIfInBounds_toArray, List.set_cons_zero, List.set_cons_succ, i64_w, i32_w]
                rfl
              refine pure_ (i := 17) (N := some 2) (v := ?_) (a' := ?_) #[true, true, true, true, true, true, true, true, true, true, true, true, true, true, true, true, true, true] rfl rfl (by kernel_rfl) (fun _ _ _ h => h) (Or.inl ⟨by rfl, ?_⟩) ?_ ?_
              rotate_left
              · intro w'
                go_simp
                with_reducible rfl
              rotate_left
              · simp only [Act.put, List.setIfInBounds_toArray, List.set_cons_zero, List.set_cons_succ, i64_w, i32_w]
                rfl
              refine done_ (by kernel_rfl) ?_
              have HXe := Lib.hid (HX4.out.trans (HX39.out))
              clear hHeld
              go_wp2
              go_ret
              exact ⟨by show Ending.returned (Value.string _) = _; rw [HRr.out], HXe.out⟩
    · skip
      go_wp2_with fail
      have Xd : Ext w4 w4.drew := (Ext.refl w4).drew
      have HXw : Hid (Ext w4 w4.drew) := Xd
      refine start_ (n := 18) (S := fun w' => w'.cell? ⟨w2.heap.size, 1, none⟩ = some (.int .i64 1) ∧ w'.cell? ⟨g, 0, none⟩ = some (.slice p0 q0' r0)) (ds := []) #[false, false, false, false, false, false, false, false, false, false, false, false, false, false, false, false, false, false] (by kernel_rfl) rfl rfl ?hS (fun hHeld => ?_)
      case hS => exact HCs.out _ HXw.out
      refine pure_ (i := 1) (N := some 40) (v := ?_) (a' := ?_) #[false, true, false, false, false, false, false, false, false, false, false, false, false, false, false, false, false, false] rfl rfl (by kernel_rfl) (fun _ _ _ h => h) (Or.inl ⟨by rfl, ?_⟩) ?_ ?_
      rotate_left
      · intro w'
        go_simp
        with_reducible rfl
      rotate_left
      · simp only [Act.put, List.setIfInBounds_toArray, List.set_cons_zero, List.set_cons_succ, i64_w, i32_w]
        rfl
      refine take_ (i := 2) (N := some 41) (v := ?_) (a' := ?_) #[false, true, true, false, false, false, false, false, false, false, false, false, false, false, false, false, false, false] rfl rfl (by kernel_rfl) (fun _ _ _ h => h) (Or.inl ⟨by rfl, ?_⟩) hHeld ?_ ?_
      rotate_left
      · rintro w' ⟨y0, y1⟩
        go_simp
        with_reducible rfl
      rotate_left
      · simp only [Act.put, List.setIfInBounds_toArray, List.set_cons_zero, List.set_cons_succ, i64_w, i32_w]
        rfl
      refine pure_ (i := 5) (N := some 44) (v := ?_) (a' := ?_) #[false, true, true, false, false, true, false, false, false, false, false, false, false, false, false, false, false, false] rfl rfl (by kernel_rfl) (fun _ _ _ h => h) (Or.inl ⟨by rfl, ?_⟩) ?_ ?_
      rotate_left
      · intro w'
        go_simp
        with_reducible rfl
      rotate_left
      · simp only [Act.put, List.setIfInBounds_toArray, List.set_cons_zero, List.set_cons_succ, i64_w, i32_w]
        rfl
      refine pure_ (i := 6) (N := some 45) (v := ?_) (a' := ?_) #[false, true, true, false, false, true, true, false, false, false, false, false, false, false, false, false, false, false] rfl rfl (by kernel_rfl) (fun _ _ _ h => h) (Or.inl ⟨by rfl, ?_⟩) ?_ ?_
      rotate_left
      · intro w'
        go_simp
        with_reducible rfl
      rotate_left
      · simp only [Act.put, List.setIfInBounds_toArray, List.set_cons_zero, List.set_cons_succ, i64_w, i32_w]
        rfl
      refine take_ (i := 7) (N := some 46) (v := ?_) (a' := ?_) #[false, true, true, false, false, true, true, true, false, false, false, false, false, false, false, false, false, false] rfl rfl (by kernel_rfl) (fun _ _ _ h => h) (Or.inl ⟨by rfl, ?_⟩) hHeld ?_ ?_
      rotate_left
      · rintro w' ⟨y0, y1⟩
        go_simp
        with_reducible rfl
      rotate_left
      · simp only [Act.put, List.setIfInBounds_toArray, List.set_cons_zero, List.set_cons_succ, i64_w, i32_w]
        rfl
      refine pure_ (i := 9) (N := some 48) (v := ?_) (a' := ?_) #[false, true, true, false, false, true, true, true, false, true, false, false, false, false, false, false, false, false] rfl rfl (by kernel_rfl) (fun _ _ _ h => h) (Or.inl ⟨by rfl, ?_⟩) ?_ ?_
      rotate_left
      · intro w'
        go_simp
        with_reducible rfl
      rotate_left
      · simp only [Act.put, List.setIfInBounds_toArray, List.set_cons_zero, List.set_cons_succ, i64_w, i32_w]
        rfl
      refine pure_ (i := 10) (N := some 49) (v := ?_) (a' := ?_) #[false, true, true, false, false, true, true, true, false, true, true, false, false, false, false, false, false, false] rfl rfl (by kernel_rfl) (fun _ _ _ h => h) (Or.inl ⟨by rfl, ?_⟩) ?_ ?_
      rotate_left
      · intro w'
        go_simp
        with_reducible rfl
      rotate_left
      · simp only [Act.put, List.setIfInBounds_toArray, List.set_cons_zero, List.set_cons_succ, i64_w, i32_w]
        rfl
      refine take_ (i := 11) (N := some 50) (v := ?_) (a' := ?_) #[false, true, true, false, false, true, true, true, false, true, true, true, false, false, false, false, false, false] rfl rfl (by kernel_rfl) (fun _ _ _ h => h) (Or.inl ⟨by rfl, ?_⟩) hHeld ?_ ?_
      rotate_left
      · rintro w' ⟨y0, y1⟩
        go_simp
        with_reducible rfl
      rotate_left
      · simp only [Act.put, List.setIfInBounds_toArray, List.set_cons_zero, List.set_cons_succ, i64_w, i32_w]
        rfl
      generalize w4.drew = wd at Xd HXw hHeld ⊢
      clear Xd k0 q0 q1 q2
      refine two_ (i := 0) (j := 8) (Ni := some 39) (Nj := some 47) #[true, true, true, false, false, true, true, true, false, true, true, true, false, false, false, false, false, false] #[false, true, true, false, false, true, true, true, true, true, true, true, false, false, false, false, false, false] rfl rfl rfl rfl (by kernel_rfl) (by simp) (by simp) (fun K hK => ?_) (fun K hK => ?_)
      · skip
        refine value_ (w1 := wd.alloc (.cells #[.string ⟨#[45]⟩, .string ⟨#[33]⟩, .string ⟨#[126]⟩] 9)) (v := .slice (some ⟨wd.heap.size, 0, none⟩) 3 3) (by rfl) rfl (by go_simp) ?_
        have X39 : Ext wd (wd.alloc (.cells #[.string ⟨#[45]⟩, .string ⟨#[33]⟩, .string ⟨#[126]⟩] 9)) := (Ext.refl wd).alloc _
        have B39 := Blk.alloc wd 9 #[.string ⟨#[45]⟩, .string ⟨#[33]⟩, .string ⟨#[126]⟩]
        have HX39 : Hid (Ext w4 (wd.alloc (.cells #[.string ⟨#[45]⟩, .string ⟨#[33]⟩, .string ⟨#[126]⟩] 9))) := (HXw.out).trans X39
        refine hK.out _ _ (HCs.out _ HX39.out) (fun hHeld => ?_)
        clear hK K
        refine norm_ (a' := ?_) ?_ ?_
        rotate_left
        · show Act.put _ (some 39) _ = _
          simp only [Act.put, List.setIfInBounds_toArray, List.set_cons_zero, List.set_cons_succ, i64_w, i32_w]
          rfl
        generalize wd.alloc (.cells #[.string ⟨#[45]⟩, .string ⟨#[33]⟩, .string ⟨#[126]⟩] 9) = w39 at X39 B39 HX39 hHeld ⊢
        have HB39 := Lib.hid B39
        have HCs2 : Hid (∀ w', Ext w39 w' → (w'.cell? ⟨w2.heap.size, 1, none⟩ = some (.int .i64 1) ∧ w'.cell? ⟨g, 0, none⟩ = some (.slice p0 q0' r0)) ∧ w'.cell? ⟨wd.heap.size, 1, none⟩ = some (.string U)) := fun w' hX => ⟨HCs.out _ (HX39.out.trans hX), ((HB39.out.ext hX).cell 1).trans (by rw [HU.out]; rfl)⟩
        clear X39 B39 hHeld
        have hHeld := HCs2.out w39 (Ext.refl _)
        refine stronger_ (S' := fun w' => (w'.cell? ⟨w2.heap.size, 1, none⟩ = some (.int .i64 1) ∧ w'.cell? ⟨g, 0, none⟩ = some (.slice p0 q0' r0)) ∧ w'.cell? ⟨wd.heap.size, 1, none⟩ = some (.string U)) (fun _ h => h.1) _ _ _ _ hHeld ?_
        refine pure_ (i := 3) (N := some 42) (v := ?_) (a' := ?_) #[true, true, true, true, false, true, true, true, false, true, true, true, false, false, false, false, false, false] rfl rfl (by kernel_rfl) (fun _ _ _ h => h) (Or.inl ⟨by rfl, ?_⟩) ?_ ?_
        rotate_left
        · intro w'
          go_simp
          with_reducible rfl
        rotate_left
        · simp only [Act.put, List.setIfInBounds_toArray, List.set_cons_zero, List.set_cons_succ, i64_w, i32_w]
          rfl
        refine take_ (i := 4) (N := some 43) (v := ?_) (a' := ?_) #[true, true, true, true, true, true, true, true, false, true, true, true, false, false, false, false, false, false] rfl rfl (by kernel_rfl) (fun _ _ _ h => h) (Or.inl ⟨by rfl, ?_⟩) hHeld ?_ ?_
        rotate_left
        · rintro w' ⟨⟨y0, y1⟩, y2⟩
          go_simp
          with_reducible rfl
        rotate_left
        · simp only [Act.put, List.setIfInBounds_toArray, List.set_cons_zero, List.set_cons_succ, i64_w, i32_w]
          rfl
        refine one_ (i := 8) (N := some 47) #[true, true, true, true, true, true, true, true, true, true, true, true, false, false, false, false, false, false] rfl rfl (by kernel_rfl) (by decide) (fun K hK => ?_)
        refine goes_ (N := some 47) Tryz.func61 (by kernel_rfl) rfl #[.slice p0 q0' r0] (by rfl) rfl rfl (by simp [Act.eval]) ?_
        refine (HS0.out w39 HX39.out).mono ?_
        rintro e wc0 ⟨rfl, hXwc0⟩
        refine ⟨_, rfl, ?_⟩
        have HXwc0 : Hid (Ext w4 wc0) := (HX39.out).trans hXwc0
        refine hK.out _ _ (HCs2.out _ (hXwc0)) (fun hHeld => ?_)
        clear hK K
        refine norm_ (a' := ?_) ?_ ?_
        rotate_left
        · show Act.put _ (some 47) _ = _
          simp only [Act.put, List.setIfInBounds_toArray, List.set_cons_zero, List.set_cons_succ, i64_w, i32_w]
          rfl
        refine one_ (i := 12) (N := some 51) #[true, true, true, true, true, true, true, true, true, true, true, true, true, false, false, false, false, false] rfl rfl (by kernel_rfl) (by decide) (fun K hK => ?_)
        refine goes_ (N := some 51) Tryz.func107 (by kernel_rfl) rfl #[.slice p0 q0' r0] (by rfl) rfl rfl (by simp [Act.eval]) ?_
        refine (HG0.out wc0 HXwc0.out).mono ?_
        rintro e wc1 ⟨rfl, hXwc1⟩
        refine ⟨_, rfl, ?_⟩
        have HXwc1 : Hid (Ext w4 wc1) := (HXwc0.out).trans hXwc1
        refine hK.out _ _ (HCs2.out _ ((hXwc0).trans hXwc1)) (fun hHeld => ?_)
        clear hK K
        refine norm_ (a' := ?_) ?_ ?_
        rotate_left
        · show Act.put _ (some 51) _ = _
          simp only [Act.put, List.setIfInBounds_toArray, List.set_cons_zero, List.set_cons_succ, i64_w, i32_w]
          rfl
        refine one_ (i := 13) (N := some 52) #[true, true, true, true, true, true, true, true, true, true, true, true, true, true, false, false, false, false] rfl rfl (by kernel_rfl) (by decide) (fun K hK => ?_)
        refine goes_ (N := some 52) Tryz.func110 (by kernel_rfl) rfl #[.agg #[.int .i64 x0.node.kind, .int .i64 x0.node.val, .string x0.node.name]] (by rfl) rfl rfl (by simp [Act.eval]) ?_
        refine (HN0.out wc1).mono ?_
        rintro e wc2 ⟨rfl, hXwc2⟩
        refine ⟨_, rfl, ?_⟩
        have HXwc2 : Hid (Ext w4 wc2) := (HXwc1.out).trans hXwc2
        refine hK.out _ _ (HCs2.out _ (((hXwc0).trans hXwc1).trans hXwc2)) (fun hHeld => ?_)
        clear hK K
        refine norm_ (a' := ?_) ?_ ?_
        rotate_left
        · show Act.put _ (some 52) _ = _
          simp only [Act.put, List.setIfInBounds_toArray, List.set_cons_zero, List.set_cons_succ, i64_w, i32_w]
          rfl
        refine pure_ (i := 14) (N := some 53) (v := ?_) (a' := ?_) #[true, true, true, true, true, true, true, true, true, true, true, true, true, true, true, false, false, false] rfl rfl (by kernel_rfl) (fun _ _ _ h => h) (Or.inl ⟨by rfl, ?_⟩) ?_ ?_
        rotate_left
        · intro w'
          go_simp
          with_reducible rfl
        rotate_left
        · simp only [Act.put, List.setIfInBounds_toArray, List.set_cons_zero, List.set_cons_succ, i64_w, i32_w]
          rfl
        refine one_ (i := 15) (N := some 54) #[true, true, true, true, true, true, true, true, true, true, true, true, true, true, true, true, false, false] rfl rfl (by kernel_rfl) (by decide) (fun K hK => ?_)
        refine goes_ (N := some 54) Tryz.func109 (by kernel_rfl) rfl #[.string s0, .bool (decide (((strong x0.node : Nat) : Int) < 11))] (by rfl) rfl rfl (by simp [Act.eval]) ?_
        refine (HH0.out wc2).mono ?_
        rintro e wc3 ⟨rfl, rfl⟩
        refine ⟨_, rfl, ?_⟩
        refine hK.out _ _ (HCs2.out _ (((hXwc0).trans hXwc1).trans hXwc2)) (fun hHeld => ?_)
        clear hK K
        refine norm_ (a' := ?_) ?_ ?_
        rotate_left
        · show Act.put _ (some 54) _ = _
          simp only [Act.put, List.setIfInBounds_toArray, List.set_cons_zero, List.set_cons_succ, i64_w, i32_w]
          rfl
        refine pure_ (i := 16) (N := some 55) (v := ?_) (a' := ?_) #[true, true, true, true, true, true, true, true, true, true, true, true, true, true, true, true, true, false] rfl rfl (by kernel_rfl) (fun _ _ _ h => h) (Or.inl ⟨by rfl, ?_⟩) ?_ ?_
        rotate_left
        · intro w'
          go_simp
          with_reducible rfl
        rotate_left
        · simp only [Act.put, List.setIfInBounds_toArray, List.set_cons_zero, List.set_cons_succ, i64_w, i32_w]
          rfl
        refine pure_ (i := 17) (N := some 2) (v := ?_) (a' := ?_) #[true, true, true, true, true, true, true, true, true, true, true, true, true, true, true, true, true, true] rfl rfl (by kernel_rfl) (fun _ _ _ h => h) (Or.inl ⟨by rfl, ?_⟩) ?_ ?_
        rotate_left
        · intro w'
          go_simp
          with_reducible rfl
        rotate_left
        · simp only [Act.put, List.setIfInBounds_toArray, List.set_cons_zero, List.set_cons_succ, i64_w, i32_w]
          rfl
        refine done_ (by kernel_rfl) ?_
        have HXe := Lib.hid (HX4.out.trans (HXwc2.out))
        clear hHeld
        go_wp2
        go_ret
        exact ⟨by show Ending.returned (Value.string _) = _; rw [HRr.out], HXe.out⟩
      · skip
        refine goes_ (N := some 47) Tryz.func61 (by kernel_rfl) rfl #[.slice p0 q0' r0] (by rfl) rfl rfl (by simp [Act.eval]) ?_
        refine (HS0.out wd HXw.out).mono ?_
        rintro e wc0 ⟨rfl, hXwc0⟩
        refine ⟨_, rfl, ?_⟩
        have HXwc0 : Hid (Ext w4 wc0) := (HXw.out).trans hXwc0
        refine hK.out _ _ (HCs.out _ HXwc0.out) (fun hHeld => ?_)
        clear hK K
        refine norm_ (a' := ?_) ?_ ?_
        rotate_left
        · show Act.put _ (some 47) _ = _
          simp only [Act.put, List.setIfInBounds_toArray, List.set_cons_zero, List.set_cons_succ, i64_w, i32_w]
          rfl
        refine two_ (i := 0) (j := 12) (Ni := some 39) (Nj := some 51) #[true, true, true, false, false, true, true, true, true, true, true, true, false, false, false, false, false, false] #[false, true, true, false, false, true, true, true, true, true, true, true, true, false, false, false, false, false] rfl rfl rfl rfl (by kernel_rfl) (by simp) (by simp) (fun K hK => ?_) (fun K hK => ?_)
        · skip
          refine value_ (w1 := wc0.alloc (.cells #[.string ⟨#[45]⟩, .string ⟨#[33]⟩, .string ⟨#[126]⟩] 9)) (v := .slice (some ⟨wc0.heap.size, 0, none⟩) 3 3) (by rfl) rfl (by go_simp) ?_
          have X39 : Ext wc0 (wc0.alloc (.cells #[.string ⟨#[45]⟩, .string ⟨#[33]⟩, .string ⟨#[126]⟩] 9)) := (Ext.refl wc0).alloc _
          have B39 := Blk.alloc wc0 9 #[.string ⟨#[45]⟩, .string ⟨#[33]⟩, .string ⟨#[126]⟩]
          have HX39 : Hid (Ext w4 (wc0.alloc (.cells #[.string ⟨#[45]⟩, .string ⟨#[33]⟩, .string ⟨#[126]⟩] 9))) := (HXwc0.out).trans X39
          refine hK.out _ _ (HCs.out _ HX39.out) (fun hHeld => ?_)
          clear hK K
          refine norm_ (a' := ?_) ?_ ?_
          rotate_left
          · show Act.put _ (some 39) _ = _
            simp only [Act.put, List.setIfInBounds_toArray, List.set_cons_zero, List.set_cons_succ, i64_w, i32_w]
            rfl
          generalize wc0.alloc (.cells #[.string ⟨#[45]⟩, .string ⟨#[33]⟩, .string ⟨#[126]⟩] 9) = w39 at X39 B39 HX39 hHeld ⊢
          have HB39 := Lib.hid B39
          have HCs2 : Hid (∀ w', Ext w39 w' → (w'.cell? ⟨w2.heap.size, 1, none⟩ = some (.int .i64 1) ∧ w'.cell? ⟨g, 0, none⟩ = some (.slice p0 q0' r0)) ∧ w'.cell? ⟨wc0.heap.size, 1, none⟩ = some (.string U)) := fun w' hX => ⟨HCs.out _ (HX39.out.trans hX), ((HB39.out.ext hX).cell 1).trans (by rw [HU.out]; rfl)⟩
          clear X39 B39 hHeld
          have hHeld := HCs2.out w39 (Ext.refl _)
          refine stronger_ (S' := fun w' => (w'.cell? ⟨w2.heap.size, 1, none⟩ = some (.int .i64 1) ∧ w'.cell? ⟨g, 0, none⟩ = some (.slice p0 q0' r0)) ∧ w'.cell? ⟨wc0.heap.size, 1, none⟩ = some (.string U)) (fun _ h => h.1) _ _ _ _ hHeld ?_
          refine pure_ (i := 3) (N := some 42) (v := ?_) (a' := ?_) #[true, true, true, true, false, true, true, true, true, true, true, true, false, false, false, false, false, false] rfl rfl (by kernel_rfl) (fun _ _ _ h => h) (Or.inl ⟨by rfl, ?_⟩) ?_ ?_
          rotate_left
          · intro w'
            go_simp
            with_reducible rfl
          rotate_left
          · simp only [Act.put, List.setIfInBounds_toArray, List.set_cons_zero, List.set_cons_succ, i64_w, i32_w]
            rfl
          refine take_ (i := 4) (N := some 43) (v := ?_) (a' := ?_) #[true, true, true, true, true, true, true, true, true, true, true, true, false, false, false, false, false, false] rfl rfl (by kernel_rfl) (fun _ _ _ h => h) (Or.inl ⟨by rfl, ?_⟩) hHeld ?_ ?_
          rotate_left
          · rintro w' ⟨⟨y0, y1⟩, y2⟩
            go_simp
            with_reducible rfl
          rotate_left
          · simp only [Act.put, List.setIfInBounds_toArray, List.set_cons_zero, List.set_cons_succ, i64_w, i32_w]
            rfl
          refine one_ (i := 12) (N := some 51) #[true, true, true, true, true, true, true, true, true, true, true, true, true, false, false, false, false, false] rfl rfl (by kernel_rfl) (by decide) (fun K hK => ?_)
          refine goes_ (N := some 51) Tryz.func107 (by kernel_rfl) rfl #[.slice p0 q0' r0] (by rfl) rfl rfl (by simp [Act.eval]) ?_
          refine (HG0.out w39 HX39.out).mono ?_
          rintro e wc1 ⟨rfl, hXwc1⟩
          refine ⟨_, rfl, ?_⟩
          have HXwc1 : Hid (Ext w4 wc1) := (HX39.out).trans hXwc1
          refine hK.out _ _ (HCs2.out _ (hXwc1)) (fun hHeld => ?_)
          clear hK K
          refine norm_ (a' := ?_) ?_ ?_
          rotate_left
          · show Act.put _ (some 51) _ = _
            simp only [Act.put, List.setIfInBounds_toArray, List.set_cons_zero, List.set_cons_succ, i64_w, i32_w]
            rfl
          refine one_ (i := 13) (N := some 52) #[true, true, true, true, true, true, true, true, true, true, true, true, true, true, false, false, false, false] rfl rfl (by kernel_rfl) (by decide) (fun K hK => ?_)
          refine goes_ (N := some 52) Tryz.func110 (by kernel_rfl) rfl #[.agg #[.int .i64 x0.node.kind, .int .i64 x0.node.val, .string x0.node.name]] (by rfl) rfl rfl (by simp [Act.eval]) ?_
          refine (HN0.out wc1).mono ?_
          rintro e wc2 ⟨rfl, hXwc2⟩
          refine ⟨_, rfl, ?_⟩
          have HXwc2 : Hid (Ext w4 wc2) := (HXwc1.out).trans hXwc2
          refine hK.out _ _ (HCs2.out _ ((hXwc1).trans hXwc2)) (fun hHeld => ?_)
          clear hK K
          refine norm_ (a' := ?_) ?_ ?_
          rotate_left
          · show Act.put _ (some 52) _ = _
            simp only [Act.put, List.setIfInBounds_toArray, List.set_cons_zero, List.set_cons_succ, i64_w, i32_w]
            rfl
          refine pure_ (i := 14) (N := some 53) (v := ?_) (a' := ?_) #[true, true, true, true, true, true, true, true, true, true, true, true, true, true, true, false, false, false] rfl rfl (by kernel_rfl) (fun _ _ _ h => h) (Or.inl ⟨by rfl, ?_⟩) ?_ ?_
          rotate_left
          · intro w'
            go_simp
            with_reducible rfl
          rotate_left
          · simp only [Act.put, List.setIfInBounds_toArray, List.set_cons_zero, List.set_cons_succ, i64_w, i32_w]
            rfl
          refine one_ (i := 15) (N := some 54) #[true, true, true, true, true, true, true, true, true, true, true, true, true, true, true, true, false, false] rfl rfl (by kernel_rfl) (by decide) (fun K hK => ?_)
          refine goes_ (N := some 54) Tryz.func109 (by kernel_rfl) rfl #[.string s0, .bool (decide (((strong x0.node : Nat) : Int) < 11))] (by rfl) rfl rfl (by simp [Act.eval]) ?_
          refine (HH0.out wc2).mono ?_
          rintro e wc3 ⟨rfl, rfl⟩
          refine ⟨_, rfl, ?_⟩
          refine hK.out _ _ (HCs2.out _ ((hXwc1).trans hXwc2)) (fun hHeld => ?_)
          clear hK K
          refine norm_ (a' := ?_) ?_ ?_
          rotate_left
          · show Act.put _ (some 54) _ = _
            simp only [Act.put, List.setIfInBounds_toArray, List.set_cons_zero, List.set_cons_succ, i64_w, i32_w]
            rfl
          refine pure_ (i := 16) (N := some 55) (v := ?_) (a' := ?_) #[true, true, true, true, true, true, true, true, true, true, true, true, true, true, true, true, true, false] rfl rfl (by kernel_rfl) (fun _ _ _ h => h) (Or.inl ⟨by rfl, ?_⟩) ?_ ?_
          rotate_left
          · intro w'
            go_simp
            with_reducible rfl
          rotate_left
          · simp only [Act.put, List.setIfInBounds_toArray, List.set_cons_zero, List.set_cons_succ, i64_w, i32_w]
            rfl
          refine pure_ (i := 17) (N := some 2) (v := ?_) (a' := ?_) #[true, true, true, true, true, true, true, true, true, true, true, true, true, true, true, true, true, true] rfl rfl (by kernel_rfl) (fun _ _ _ h => h) (Or.inl ⟨by rfl, ?_⟩) ?_ ?_
          rotate_left
          · intro w'
            go_simp
            with_reducible rfl
          rotate_left
          · simp only [Act.put, List.setIfInBounds_toArray, List.set_cons_zero, List.set_cons_succ, i64_w, i32_w]
            rfl
          refine done_ (by kernel_rfl) ?_
          have HXe := Lib.hid (HX4.out.trans (HXwc2.out))
          clear hHeld
          go_wp2
          go_ret
          exact ⟨by show Ending.returned (Value.string _) = _; rw [HRr.out], HXe.out⟩
        · skip
          refine goes_ (N := some 51) Tryz.func107 (by kernel_rfl) rfl #[.slice p0 q0' r0] (by rfl) rfl rfl (by simp [Act.eval]) ?_
          refine (HG0.out wc0 HXwc0.out).mono ?_
          rintro e wc1 ⟨rfl, hXwc1⟩
          refine ⟨_, rfl, ?_⟩
          have HXwc1 : Hid (Ext w4 wc1) := (HXwc0.out).trans hXwc1
          refine hK.out _ _ (HCs.out _ HXwc1.out) (fun hHeld => ?_)
          clear hK K
          refine norm_ (a' := ?_) ?_ ?_
          rotate_left
          · show Act.put _ (some 51) _ = _
            simp only [Act.put, List.setIfInBounds_toArray, List.set_cons_zero, List.set_cons_succ, i64_w, i32_w]
            rfl
          refine two_ (i := 0) (j := 13) (Ni := some 39) (Nj := some 52) #[true, true, true, false, false, true, true, true, true, true, true, true, true, false, false, false, false, false] #[false, true, true, false, false, true, true, true, true, true, true, true, true, true, false, false, false, false] rfl rfl rfl rfl (by kernel_rfl) (by simp) (by simp) (fun K hK => ?_) (fun K hK => ?_)
          · skip
            refine value_ (w1 := wc1.alloc (.cells #[.string ⟨#[45]⟩, .string ⟨#[33]⟩, .string ⟨#[126]⟩] 9)) (v := .slice (some ⟨wc1.heap.size, 0, none⟩) 3 3) (by rfl) rfl (by go_simp) ?_
            have X39 : Ext wc1 (wc1.alloc (.cells #[.string ⟨#[45]⟩, .string ⟨#[33]⟩, .string ⟨#[126]⟩] 9)) := (Ext.refl wc1).alloc _
            have B39 := Blk.alloc wc1 9 #[.string ⟨#[45]⟩, .string ⟨#[33]⟩, .string ⟨#[126]⟩]
            have HX39 : Hid (Ext w4 (wc1.alloc (.cells #[.string ⟨#[45]⟩, .string ⟨#[33]⟩, .string ⟨#[126]⟩] 9))) := (HXwc1.out).trans X39
            refine hK.out _ _ (HCs.out _ HX39.out) (fun hHeld => ?_)
            clear hK K
            refine norm_ (a' := ?_) ?_ ?_
            rotate_left
            · show Act.put _ (some 39) _ = _
              simp only [Act.put, List.setIfInBounds_toArray, List.set_cons_zero, List.set_cons_succ, i64_w, i32_w]
              rfl
            generalize wc1.alloc (.cells #[.string ⟨#[45]⟩, .string ⟨#[33]⟩, .string ⟨#[126]⟩] 9) = w39 at X39 B39 HX39 hHeld ⊢
            have HB39 := Lib.hid B39
            have HCs2 : Hid (∀ w', Ext w39 w' → (w'.cell? ⟨w2.heap.size, 1, none⟩ = some (.int .i64 1) ∧ w'.cell? ⟨g, 0, none⟩ = some (.slice p0 q0' r0)) ∧ w'.cell? ⟨wc1.heap.size, 1, none⟩ = some (.string U)) := fun w' hX => ⟨HCs.out _ (HX39.out.trans hX), ((HB39.out.ext hX).cell 1).trans (by rw [HU.out]; rfl)⟩
            clear X39 B39 hHeld
            have hHeld := HCs2.out w39 (Ext.refl _)
            refine stronger_ (S' := fun w' => (w'.cell? ⟨w2.heap.size, 1, none⟩ = some (.int .i64 1) ∧ w'.cell? ⟨g, 0, none⟩ = some (.slice p0 q0' r0)) ∧ w'.cell? ⟨wc1.heap.size, 1, none⟩ = some (.string U)) (fun _ h => h.1) _ _ _ _ hHeld ?_
            refine pure_ (i := 3) (N := some 42) (v := ?_) (a' := ?_) #[true, true, true, true, false, true, true, true, true, true, true, true, true, false, false, false, false, false] rfl rfl (by kernel_rfl) (fun _ _ _ h => h) (Or.inl ⟨by rfl, ?_⟩) ?_ ?_
            rotate_left
            · intro w'
              go_simp
              with_reducible rfl
            rotate_left
            · simp only [Act.put, List.setIfInBounds_toArray, List.set_cons_zero, List.set_cons_succ, i64_w, i32_w]
              rfl
            refine take_ (i := 4) (N := some 43) (v := ?_) (a' := ?_) #[true, true, true, true, true, true, true, true, true, true, true, true, true, false, false, false, false, false] rfl rfl (by kernel_rfl) (fun _ _ _ h => h) (Or.inl ⟨by rfl, ?_⟩) hHeld ?_ ?_
            rotate_left
            · rintro w' ⟨⟨y0, y1⟩, y2⟩
              go_simp
              with_reducible rfl
            rotate_left
            · simp only [Act.put, List.setIfInBounds_toArray, List.set_cons_zero, List.set_cons_succ, i64_w, i32_w]
              rfl
            refine one_ (i := 13) (N := some 52) #[true, true, true, true, true, true, true, true, true, true, true, true, true, true, false, false, false, false] rfl rfl (by kernel_rfl) (by decide) (fun K hK => ?_)
            refine goes_ (N := some 52) Tryz.func110 (by kernel_rfl) rfl #[.agg #[.int .i64 x0.node.kind, .int .i64 x0.node.val, .string x0.node.name]] (by rfl) rfl rfl (by simp [Act.eval]) ?_
            refine (HN0.out w39).mono ?_
            rintro e wc2 ⟨rfl, hXwc2⟩
            refine ⟨_, rfl, ?_⟩
            have HXwc2 : Hid (Ext w4 wc2) := (HX39.out).trans hXwc2
            refine hK.out _ _ (HCs2.out _ (hXwc2)) (fun hHeld => ?_)
            clear hK K
            refine norm_ (a' := ?_) ?_ ?_
            rotate_left
            · show Act.put _ (some 52) _ = _
              simp only [Act.put, List.setIfInBounds_toArray, List.set_cons_zero, List.set_cons_succ, i64_w, i32_w]
              rfl
            refine pure_ (i := 14) (N := some 53) (v := ?_) (a' := ?_) #[true, true, true, true, true, true, true, true, true, true, true, true, true, true, true, false, false, false] rfl rfl (by kernel_rfl) (fun _ _ _ h => h) (Or.inl ⟨by rfl, ?_⟩) ?_ ?_
            rotate_left
            · intro w'
              go_simp
              with_reducible rfl
            rotate_left
            · simp only [Act.put, List.setIfInBounds_toArray, List.set_cons_zero, List.set_cons_succ, i64_w, i32_w]
              rfl
            refine one_ (i := 15) (N := some 54) #[true, true, true, true, true, true, true, true, true, true, true, true, true, true, true, true, false, false] rfl rfl (by kernel_rfl) (by decide) (fun K hK => ?_)
            refine goes_ (N := some 54) Tryz.func109 (by kernel_rfl) rfl #[.string s0, .bool (decide (((strong x0.node : Nat) : Int) < 11))] (by rfl) rfl rfl (by simp [Act.eval]) ?_
            refine (HH0.out wc2).mono ?_
            rintro e wc3 ⟨rfl, rfl⟩
            refine ⟨_, rfl, ?_⟩
            refine hK.out _ _ (HCs2.out _ (hXwc2)) (fun hHeld => ?_)
            clear hK K
            refine norm_ (a' := ?_) ?_ ?_
            rotate_left
            · show Act.put _ (some 54) _ = _
              simp only [Act.put, List.setIfInBounds_toArray, List.set_cons_zero, List.set_cons_succ, i64_w, i32_w]
              rfl
            refine pure_ (i := 16) (N := some 55) (v := ?_) (a' := ?_) #[true, true, true, true, true, true, true, true, true, true, true, true, true, true, true, true, true, false] rfl rfl (by kernel_rfl) (fun _ _ _ h => h) (Or.inl ⟨by rfl, ?_⟩) ?_ ?_
            rotate_left
            · intro w'
              go_simp
              with_reducible rfl
            rotate_left
            · simp only [Act.put, List.setIfInBounds_toArray, List.set_cons_zero, List.set_cons_succ, i64_w, i32_w]
              rfl
            refine pure_ (i := 17) (N := some 2) (v := ?_) (a' := ?_) #[true, true, true, true, true, true, true, true, true, true, true, true, true, true, true, true, true, true] rfl rfl (by kernel_rfl) (fun _ _ _ h => h) (Or.inl ⟨by rfl, ?_⟩) ?_ ?_
            rotate_left
            · intro w'
              go_simp
              with_reducible rfl
            rotate_left
            · simp only [Act.put, List.setIfInBounds_toArray, List.set_cons_zero, List.set_cons_succ, i64_w, i32_w]
              rfl
            refine done_ (by kernel_rfl) ?_
            have HXe := Lib.hid (HX4.out.trans (HXwc2.out))
            clear hHeld
            go_wp2
            go_ret
            exact ⟨by show Ending.returned (Value.string _) = _; rw [HRr.out], HXe.out⟩
          · skip
            refine goes_ (N := some 52) Tryz.func110 (by kernel_rfl) rfl #[.agg #[.int .i64 x0.node.kind, .int .i64 x0.node.val, .string x0.node.name]] (by rfl) rfl rfl (by simp [Act.eval]) ?_
            refine (HN0.out wc1).mono ?_
            rintro e wc2 ⟨rfl, hXwc2⟩
            refine ⟨_, rfl, ?_⟩
            have HXwc2 : Hid (Ext w4 wc2) := (HXwc1.out).trans hXwc2
            refine hK.out _ _ (HCs.out _ HXwc2.out) (fun hHeld => ?_)
            clear hK K
            refine norm_ (a' := ?_) ?_ ?_
            rotate_left
            · show Act.put _ (some 52) _ = _
              simp only [Act.put, List.setIfInBounds_toArray, List.set_cons_zero, List.set_cons_succ, i64_w, i32_w]
              rfl
            refine pure_ (i := 14) (N := some 53) (v := ?_) (a' := ?_) #[false, true, true, false, false, true, true, true, true, true, true, true, true, true, true, false, false, false] rfl rfl (by kernel_rfl) (fun _ _ _ h => h) (Or.inl ⟨by rfl, ?_⟩) ?_ ?_
            rotate_left
            · intro w'
              go_simp
              with_reducible rfl
            rotate_left
            · simp only [Act.put, List.setIfInBounds_toArray, List.set_cons_zero, List.set_cons_succ, i64_w, i32_w]
              rfl
            refine two_ (i := 0) (j := 15) (Ni := some 39) (Nj := some 54) #[true, true, true, false, false, true, true, true, true, true, true, true, true, true, true, false, false, false] #[false, true, true, false, false, true, true, true, true, true, true, true, true, true, true, true, false, false] rfl rfl rfl rfl (by kernel_rfl) (by simp) (by simp) (fun K hK => ?_) (fun K hK => ?_)
            · skip
              refine value_ (w1 := wc2.alloc (.cells #[.string ⟨#[45]⟩, .string ⟨#[33]⟩, .string ⟨#[126]⟩] 9)) (v := .slice (some ⟨wc2.heap.size, 0, none⟩) 3 3) (by rfl) rfl (by go_simp) ?_
              have X39 : Ext wc2 (wc2.alloc (.cells #[.string ⟨#[45]⟩, .string ⟨#[33]⟩, .string ⟨#[126]⟩] 9)) := (Ext.refl wc2).alloc _
              have B39 := Blk.alloc wc2 9 #[.string ⟨#[45]⟩, .string ⟨#[33]⟩, .string ⟨#[126]⟩]
              have HX39 : Hid (Ext w4 (wc2.alloc (.cells #[.string ⟨#[45]⟩, .string ⟨#[33]⟩, .string ⟨#[126]⟩] 9))) := (HXwc2.out).trans X39
              refine hK.out _ _ (HCs.out _ HX39.out) (fun hHeld => ?_)
              clear hK K
              refine norm_ (a' := ?_) ?_ ?_
              rotate_left
              · show Act.put _ (some 39) _ = _
                simp only [Act.put, List.setIfInBounds_toArray, List.set_cons_zero, List.set_cons_succ, i64_w, i32_w]
                rfl
              generalize wc2.alloc (.cells #[.string ⟨#[45]⟩, .string ⟨#[33]⟩, .string ⟨#[126]⟩] 9) = w39 at X39 B39 HX39 hHeld ⊢
              have HB39 := Lib.hid B39
              have HCs2 : Hid (∀ w', Ext w39 w' → (w'.cell? ⟨w2.heap.size, 1, none⟩ = some (.int .i64 1) ∧ w'.cell? ⟨g, 0, none⟩ = some (.slice p0 q0' r0)) ∧ w'.cell? ⟨wc2.heap.size, 1, none⟩ = some (.string U)) := fun w' hX => ⟨HCs.out _ (HX39.out.trans hX), ((HB39.out.ext hX).cell 1).trans (by rw [HU.out]; rfl)⟩
              clear X39 B39 hHeld
              have hHeld := HCs2.out w39 (Ext.refl _)
              refine stronger_ (S' := fun w' => (w'.cell? ⟨w2.heap.size, 1, none⟩ = some (.int .i64 1) ∧ w'.cell? ⟨g, 0, none⟩ = some (.slice p0 q0' r0)) ∧ w'.cell? ⟨wc2.heap.size, 1, none⟩ = some (.string U)) (fun _ h => h.1) _ _ _ _ hHeld ?_
              refine pure_ (i := 3) (N := some 42) (v := ?_) (a' := ?_) #[true, true, true, true, false, true, true, true, true, true, true, true, true, true, true, false, false, false] rfl rfl (by kernel_rfl) (fun _ _ _ h => h) (Or.inl ⟨by rfl, ?_⟩) ?_ ?_
              rotate_left
              · intro w'
                go_simp
                with_reducible rfl
              rotate_left
              · simp only [Act.put, List.setIfInBounds_toArray, List.set_cons_zero, List.set_cons_succ, i64_w, i32_w]
                rfl
              refine take_ (i := 4) (N := some 43) (v := ?_) (a' := ?_) #[true, true, true, true, true, true, true, true, true, true, true, true, true, true, true, false, false, false] rfl rfl (by kernel_rfl) (fun _ _ _ h => h) (Or.inl ⟨by rfl, ?_⟩) hHeld ?_ ?_
              rotate_left
              · rintro w' ⟨⟨y0, y1⟩, y2⟩
                go_simp
                with_reducible rfl
              rotate_left
              · simp only [Act.put, List.setIfInBounds_toArray, List.set_cons_zero, List.set_cons_succ, i64_w, i32_w]
                rfl
              refine one_ (i := 15) (N := some 54) #[true, true, true, true, true, true, true, true, true, true, true, true, true, true, true, true, false, false] rfl rfl (by kernel_rfl) (by decide) (fun K hK => ?_)
              refine goes_ (N := some 54) Tryz.func109 (by kernel_rfl) rfl #[.string s0, .bool (decide (((strong x0.node : Nat) : Int) < 11))] (by rfl) rfl rfl (by simp [Act.eval]) ?_
              refine (HH0.out w39).mono ?_
              rintro e wc3 ⟨rfl, rfl⟩
              refine ⟨_, rfl, ?_⟩
              refine hK.out _ _ (HCs2.out _ (Ext.refl _)) (fun hHeld => ?_)
              clear hK K
              refine norm_ (a' := ?_) ?_ ?_
              rotate_left
              · show Act.put _ (some 54) _ = _
                simp only [Act.put, List.setIfInBounds_toArray, List.set_cons_zero, List.set_cons_succ, i64_w, i32_w]
                rfl
              refine pure_ (i := 16) (N := some 55) (v := ?_) (a' := ?_) #[true, true, true, true, true, true, true, true, true, true, true, true, true, true, true, true, true, false] rfl rfl (by kernel_rfl) (fun _ _ _ h => h) (Or.inl ⟨by rfl, ?_⟩) ?_ ?_
              rotate_left
              · intro w'
                go_simp
                with_reducible rfl
              rotate_left
              · simp only [Act.put, List.setIfInBounds_toArray, List.set_cons_zero, List.set_cons_succ, i64_w, i32_w]
                rfl
              refine pure_ (i := 17) (N := some 2) (v := ?_) (a' := ?_) #[true, true, true, true, true, true, true, true, true, true, true, true, true, true, true, true, true, true] rfl rfl (by kernel_rfl) (fun _ _ _ h => h) (Or.inl ⟨by rfl, ?_⟩) ?_ ?_
              rotate_left
              · intro w'
                go_simp
                with_reducible rfl
              rotate_left
              · simp only [Act.put, List.setIfInBounds_toArray, List.set_cons_zero, List.set_cons_succ, i64_w, i32_w]
                rfl
              refine done_ (by kernel_rfl) ?_
              have HXe := Lib.hid (HX4.out.trans (HX39.out))
              clear hHeld
              go_wp2
              go_ret
              exact ⟨by show Ending.returned (Value.string _) = _; rw [HRr.out], HXe.out⟩
            · skip
              refine goes_ (N := some 54) Tryz.func109 (by kernel_rfl) rfl #[.string s0, .bool (decide (((strong x0.node : Nat) : Int) < 11))] (by rfl) rfl rfl (by simp [Act.eval]) ?_
              refine (HH0.out wc2).mono ?_
              rintro e wc3 ⟨rfl, rfl⟩
              refine ⟨_, rfl, ?_⟩
              refine hK.out _ _ (HCs.out _ (HXwc2.out)) (fun hHeld => ?_)
              clear hK K
              refine norm_ (a' := ?_) ?_ ?_
              rotate_left
              · show Act.put _ (some 54) _ = _
                simp only [Act.put, List.setIfInBounds_toArray, List.set_cons_zero, List.set_cons_succ, i64_w, i32_w]
                rfl
              refine one_ (i := 0) (N := some 39) #[true, true, true, false, false, true, true, true, true, true, true, true, true, true, true, true, false, false] rfl rfl (by kernel_rfl) (by decide) (fun K hK => ?_)
              refine value_ (w1 := wc2.alloc (.cells #[.string ⟨#[45]⟩, .string ⟨#[33]⟩, .string ⟨#[126]⟩] 9)) (v := .slice (some ⟨wc2.heap.size, 0, none⟩) 3 3) (by rfl) rfl (by go_simp) ?_
              have X39 : Ext wc2 (wc2.alloc (.cells #[.string ⟨#[45]⟩, .string ⟨#[33]⟩, .string ⟨#[126]⟩] 9)) := (Ext.refl wc2).alloc _
              have B39 := Blk.alloc wc2 9 #[.string ⟨#[45]⟩, .string ⟨#[33]⟩, .string ⟨#[126]⟩]
              have HX39 : Hid (Ext w4 (wc2.alloc (.cells #[.string ⟨#[45]⟩, .string ⟨#[33]⟩, .string ⟨#[126]⟩] 9))) := (HXwc2.out).trans X39
              refine hK.out _ _ (HCs.out _ HX39.out) (fun hHeld => ?_)
              clear hK K
              refine norm_ (a' := ?_) ?_ ?_
              rotate_left
              · show Act.put _ (some 39) _ = _
                simp only [Act.put, List.setIfInBounds_toArray, List.set_cons_zero, List.set_cons_succ, i64_w, i32_w]
                rfl
              generalize wc2.alloc (.cells #[.string ⟨#[45]⟩, .string ⟨#[33]⟩, .string ⟨#[126]⟩] 9) = w39 at X39 B39 HX39 hHeld ⊢
              have HB39 := Lib.hid B39
              have HCs2 : Hid (∀ w', Ext w39 w' → (w'.cell? ⟨w2.heap.size, 1, none⟩ = some (.int .i64 1) ∧ w'.cell? ⟨g, 0, none⟩ = some (.slice p0 q0' r0)) ∧ w'.cell? ⟨wc2.heap.size, 1, none⟩ = some (.string U)) := fun w' hX => ⟨HCs.out _ (HX39.out.trans hX), ((HB39.out.ext hX).cell 1).trans (by rw [HU.out]; rfl)⟩
              clear X39 B39 hHeld
              have hHeld := HCs2.out w39 (Ext.refl _)
              refine stronger_ (S' := fun w' => (w'.cell? ⟨w2.heap.size, 1, none⟩ = some (.int .i64 1) ∧ w'.cell? ⟨g, 0, none⟩ = some (.slice p0 q0' r0)) ∧ w'.cell? ⟨wc2.heap.size, 1, none⟩ = some (.string U)) (fun _ h => h.1) _ _ _ _ hHeld ?_
              refine pure_ (i := 3) (N := some 42) (v := ?_) (a' := ?_) #[true, true, true, true, false, true, true, true, true, true, true, true, true, true, true, true, false, false] rfl rfl (by kernel_rfl) (fun _ _ _ h => h) (Or.inl ⟨by rfl, ?_⟩) ?_ ?_
              rotate_left
              · intro w'
                go_simp
                with_reducible rfl
              rotate_left
              · simp only [Act.put, List.setIfInBounds_toArray, List.set_cons_zero, List.set_cons_succ, i64_w, i32_w]
                rfl
              refine take_ (i := 4) (N := some 43) (v := ?_) (a' := ?_) #[true, true, true, true, true, true, true, true, true, true, true, true, true, true, true, true, false, false] rfl rfl (by kernel_rfl) (fun _ _ _ h => h) (Or.inl ⟨by rfl, ?_⟩) hHeld ?_ ?_
              rotate_left
              · rintro w' ⟨⟨y0, y1⟩, y2⟩
                go_simp
                with_reducible rfl
              rotate_left
              · simp only [Act.put, List.setIfInBounds_toArray, List.set_cons_zero, List.set_cons_succ, i64_w, i32_w]
                rfl
              refine pure_ (i := 16) (N := some 55) (v := ?_) (a' := ?_) #[true, true, true, true, true, true, true, true, true, true, true, true, true, true, true, true, true, false] rfl rfl (by kernel_rfl) (fun _ _ _ h => h) (Or.inl ⟨by rfl, ?_⟩) ?_ ?_
              rotate_left
              · intro w'
                go_simp
                with_reducible rfl
              rotate_left
              · simp only [Act.put, List.setIfInBounds_toArray, List.set_cons_zero, List.set_cons_succ, i64_w, i32_w]
                rfl
              refine pure_ (i := 17) (N := some 2) (v := ?_) (a' := ?_) #[true, true, true, true, true, true, true, true, true, true, true, true, true, true, true, true, true, true] rfl rfl (by kernel_rfl) (fun _ _ _ h => h) (Or.inl ⟨by rfl, ?_⟩) ?_ ?_
              rotate_left
              · intro w'
                go_simp
                with_reducible rfl
              rotate_left
              · simp only [Act.put, List.setIfInBounds_toArray, List.set_cons_zero, List.set_cons_succ, i64_w, i32_w]
                rfl
              refine done_ (by kernel_rfl) ?_
              have HXe := Lib.hid (HX4.out.trans (HX39.out))
              clear hHeld
              go_wp2
              go_ret
              exact ⟨by show Ending.returned (Value.string _) = _; rw [HRr.out], HXe.out⟩
    · skip
      go_wp2_with fail
      have Xd : Ext w4 w4.drew := (Ext.refl w4).drew
      have HXw : Hid (Ext w4 w4.drew) := Xd
      refine start_ (n := 18) (S := fun w' => w'.cell? ⟨w2.heap.size, 1, none⟩ = some (.int .i64 2) ∧ w'.cell? ⟨g, 0, none⟩ = some (.slice p0 q0' r0)) (ds := []) #[false, false, false, false, false, false, false, false, false, false, false, false, false, false, false, false, false, false] (by kernel_rfl) rfl rfl ?hS (fun hHeld => ?_)
      case hS => exact HCs.out _ HXw.out
      refine pure_ (i := 1) (N := some 40) (v := ?_) (a' := ?_) #[false, true, false, false, false, false, false, false, false, false, false, false, false, false, false, false, false, false] rfl rfl (by kernel_rfl) (fun _ _ _ h => h) (Or.inl ⟨by rfl, ?_⟩) ?_ ?_
      rotate_left
      · intro w'
        go_simp
        with_reducible rfl
      rotate_left
      · simp only [Act.put, List.setIfInBounds_toArray, List.set_cons_zero, List.set_cons_succ, i64_w, i32_w]
        rfl
      refine take_ (i := 2) (N := some 41) (v := ?_) (a' := ?_) #[false, true, true, false, false, false, false, false, false, false, false, false, false, false, false, false, false, false] rfl rfl (by kernel_rfl) (fun _ _ _ h => h) (Or.inl ⟨by rfl, ?_⟩) hHeld ?_ ?_
      rotate_left
      · rintro w' ⟨y0, y1⟩
        go_simp
        with_reducible rfl
      rotate_left
      · simp only [Act.put, List.setIfInBounds_toArray, List.set_cons_zero, List.set_cons_succ, i64_w, i32_w]
        rfl
      refine pure_ (i := 5) (N := some 44) (v := ?_) (a' := ?_) #[false, true, true, false, false, true, false, false, false, false, false, false, false, false, false, false, false, false] rfl rfl (by kernel_rfl) (fun _ _ _ h => h) (Or.inl ⟨by rfl, ?_⟩) ?_ ?_
      rotate_left
      · intro w'
        go_simp
        with_reducible rfl
      rotate_left
      · simp only [Act.put, List.setIfInBounds_toArray, List.set_cons_zero, List.set_cons_succ, i64_w, i32_w]
        rfl
      refine pure_ (i := 6) (N := some 45) (v := ?_) (a' := ?_) #[false, true, true, false, false, true, true, false, false, false, false, false, false, false, false, false, false, false] rfl rfl (by kernel_rfl) (fun _ _ _ h => h) (Or.inl ⟨by rfl, ?_⟩) ?_ ?_
      rotate_left
      · intro w'
        go_simp
        with_reducible rfl
      rotate_left
      · simp only [Act.put, List.setIfInBounds_toArray, List.set_cons_zero, List.set_cons_succ, i64_w, i32_w]
        rfl
      refine take_ (i := 7) (N := some 46) (v := ?_) (a' := ?_) #[false, true, true, false, false, true, true, true, false, false, false, false, false, false, false, false, false, false] rfl rfl (by kernel_rfl) (fun _ _ _ h => h) (Or.inl ⟨by rfl, ?_⟩) hHeld ?_ ?_
      rotate_left
      · rintro w' ⟨y0, y1⟩
        go_simp
        with_reducible rfl
      rotate_left
      · simp only [Act.put, List.setIfInBounds_toArray, List.set_cons_zero, List.set_cons_succ, i64_w, i32_w]
        rfl
      refine pure_ (i := 9) (N := some 48) (v := ?_) (a' := ?_) #[false, true, true, false, false, true, true, true, false, true, false, false, false, false, false, false, false, false] rfl rfl (by kernel_rfl) (fun _ _ _ h => h) (Or.inl ⟨by rfl, ?_⟩) ?_ ?_
      rotate_left
      · intro w'
        go_simp
        with_reducible rfl
      rotate_left
      · simp only [Act.put, List.setIfInBounds_toArray, List.set_cons_zero, List.set_cons_succ, i64_w, i32_w]
        rfl
      refine pure_ (i := 10) (N := some 49) (v := ?_) (a' := ?_) #[false, true, true, false, false, true, true, true, false, true, true, false, false, false, false, false, false, false] rfl rfl (by kernel_rfl) (fun _ _ _ h => h) (Or.inl ⟨by rfl, ?_⟩) ?_ ?_
      rotate_left
      · intro w'
        go_simp
        with_reducible rfl
      rotate_left
      · simp only [Act.put, List.setIfInBounds_toArray, List.set_cons_zero, List.set_cons_succ, i64_w, i32_w]
        rfl
      refine take_ (i := 11) (N := some 50) (v := ?_) (a' := ?_) #[false, true, true, false, false, true, true, true, false, true, true, true, false, false, false, false, false, false] rfl rfl (by kernel_rfl) (fun _ _ _ h => h) (Or.inl ⟨by rfl, ?_⟩) hHeld ?_ ?_
      rotate_left
      · rintro w' ⟨y0, y1⟩
        go_simp
        with_reducible rfl
      rotate_left
      · simp only [Act.put, List.setIfInBounds_toArray, List.set_cons_zero, List.set_cons_succ, i64_w, i32_w]
        rfl
      generalize w4.drew = wd at Xd HXw hHeld ⊢
      clear Xd k0 q0 q1 q2
      refine two_ (i := 0) (j := 8) (Ni := some 39) (Nj := some 47) #[true, true, true, false, false, true, true, true, false, true, true, true, false, false, false, false, false, false] #[false, true, true, false, false, true, true, true, true, true, true, true, false, false, false, false, false, false] rfl rfl rfl rfl (by kernel_rfl) (by simp) (by simp) (fun K hK => ?_) (fun K hK => ?_)
      · skip
        refine value_ (w1 := wd.alloc (.cells #[.string ⟨#[45]⟩, .string ⟨#[33]⟩, .string ⟨#[126]⟩] 9)) (v := .slice (some ⟨wd.heap.size, 0, none⟩) 3 3) (by rfl) rfl (by go_simp) ?_
        have X39 : Ext wd (wd.alloc (.cells #[.string ⟨#[45]⟩, .string ⟨#[33]⟩, .string ⟨#[126]⟩] 9)) := (Ext.refl wd).alloc _
        have B39 := Blk.alloc wd 9 #[.string ⟨#[45]⟩, .string ⟨#[33]⟩, .string ⟨#[126]⟩]
        have HX39 : Hid (Ext w4 (wd.alloc (.cells #[.string ⟨#[45]⟩, .string ⟨#[33]⟩, .string ⟨#[126]⟩] 9))) := (HXw.out).trans X39
        refine hK.out _ _ (HCs.out _ HX39.out) (fun hHeld => ?_)
        clear hK K
        refine norm_ (a' := ?_) ?_ ?_
        rotate_left
        · show Act.put _ (some 39) _ = _
          simp only [Act.put, List.setIfInBounds_toArray, List.set_cons_zero, List.set_cons_succ, i64_w, i32_w]
          rfl
        generalize wd.alloc (.cells #[.string ⟨#[45]⟩, .string ⟨#[33]⟩, .string ⟨#[126]⟩] 9) = w39 at X39 B39 HX39 hHeld ⊢
        have HB39 := Lib.hid B39
        have HCs2 : Hid (∀ w', Ext w39 w' → (w'.cell? ⟨w2.heap.size, 1, none⟩ = some (.int .i64 2) ∧ w'.cell? ⟨g, 0, none⟩ = some (.slice p0 q0' r0)) ∧ w'.cell? ⟨wd.heap.size, 2, none⟩ = some (.string U)) := fun w' hX => ⟨HCs.out _ (HX39.out.trans hX), ((HB39.out.ext hX).cell 2).trans (by rw [HU.out]; rfl)⟩
        clear X39 B39 hHeld
        have hHeld := HCs2.out w39 (Ext.refl _)
        refine stronger_ (S' := fun w' => (w'.cell? ⟨w2.heap.size, 1, none⟩ = some (.int .i64 2) ∧ w'.cell? ⟨g, 0, none⟩ = some (.slice p0 q0' r0)) ∧ w'.cell? ⟨wd.heap.size, 2, none⟩ = some (.string U)) (fun _ h => h.1) _ _ _ _ hHeld ?_
        refine pure_ (i := 3) (N := some 42) (v := ?_) (a' := ?_) #[true, true, true, true, false, true, true, true, false, true, true, true, false, false, false, false, false, false] rfl rfl (by kernel_rfl) (fun _ _ _ h => h) (Or.inl ⟨by rfl, ?_⟩) ?_ ?_
        rotate_left
        · intro w'
          go_simp
          with_reducible rfl
        rotate_left
        · simp only [Act.put, List.setIfInBounds_toArray, List.set_cons_zero, List.set_cons_succ, i64_w, i32_w]
          rfl
        refine take_ (i := 4) (N := some 43) (v := ?_) (a' := ?_) #[true, true, true, true, true, true, true, true, false, true, true, true, false, false, false, false, false, false] rfl rfl (by kernel_rfl) (fun _ _ _ h => h) (Or.inl ⟨by rfl, ?_⟩) hHeld ?_ ?_
        rotate_left
        · rintro w' ⟨⟨y0, y1⟩, y2⟩
          go_simp
          with_reducible rfl
        rotate_left
        · simp only [Act.put, List.setIfInBounds_toArray, List.set_cons_zero, List.set_cons_succ, i64_w, i32_w]
          rfl
        refine one_ (i := 8) (N := some 47) #[true, true, true, true, true, true, true, true, true, true, true, true, false, false, false, false, false, false] rfl rfl (by kernel_rfl) (by decide) (fun K hK => ?_)
        refine goes_ (N := some 47) Tryz.func61 (by kernel_rfl) rfl #[.slice p0 q0' r0] (by rfl) rfl rfl (by simp [Act.eval]) ?_
        refine (HS0.out w39 HX39.out).mono ?_
        rintro e wc0 ⟨rfl, hXwc0⟩
        refine ⟨_, rfl, ?_⟩
        have HXwc0 : Hid (Ext w4 wc0) := (HX39.out).trans hXwc0
        refine hK.out _ _ (HCs2.out _ (hXwc0)) (fun hHeld => ?_)
        clear hK K
        refine norm_ (a' := ?_) ?_ ?_
        rotate_left
        · show Act.put _ (some 47) _ = _
          simp only [Act.put, List.setIfInBounds_toArray, List.set_cons_zero, List.set_cons_succ, i64_w, i32_w]
          rfl
        refine one_ (i := 12) (N := some 51) #[true, true, true, true, true, true, true, true, true, true, true, true, true, false, false, false, false, false] rfl rfl (by kernel_rfl) (by decide) (fun K hK => ?_)
        refine goes_ (N := some 51) Tryz.func107 (by kernel_rfl) rfl #[.slice p0 q0' r0] (by rfl) rfl rfl (by simp [Act.eval]) ?_
        refine (HG0.out wc0 HXwc0.out).mono ?_
        rintro e wc1 ⟨rfl, hXwc1⟩
        refine ⟨_, rfl, ?_⟩
        have HXwc1 : Hid (Ext w4 wc1) := (HXwc0.out).trans hXwc1
        refine hK.out _ _ (HCs2.out _ ((hXwc0).trans hXwc1)) (fun hHeld => ?_)
        clear hK K
        refine norm_ (a' := ?_) ?_ ?_
        rotate_left
        · show Act.put _ (some 51) _ = _
          simp only [Act.put, List.setIfInBounds_toArray, List.set_cons_zero, List.set_cons_succ, i64_w, i32_w]
          rfl
        refine one_ (i := 13) (N := some 52) #[true, true, true, true, true, true, true, true, true, true, true, true, true, true, false, false, false, false] rfl rfl (by kernel_rfl) (by decide) (fun K hK => ?_)
        refine goes_ (N := some 52) Tryz.func110 (by kernel_rfl) rfl #[.agg #[.int .i64 x0.node.kind, .int .i64 x0.node.val, .string x0.node.name]] (by rfl) rfl rfl (by simp [Act.eval]) ?_
        refine (HN0.out wc1).mono ?_
        rintro e wc2 ⟨rfl, hXwc2⟩
        refine ⟨_, rfl, ?_⟩
        have HXwc2 : Hid (Ext w4 wc2) := (HXwc1.out).trans hXwc2
        refine hK.out _ _ (HCs2.out _ (((hXwc0).trans hXwc1).trans hXwc2)) (fun hHeld => ?_)
        clear hK K
        refine norm_ (a' := ?_) ?_ ?_
        rotate_left
        · show Act.put _ (some 52) _ = _
          simp only [Act.put, List.setIfInBounds_toArray, List.set_cons_zero, List.set_cons_succ, i64_w, i32_w]
          rfl
        refine pure_ (i := 14) (N := some 53) (v := ?_) (a' := ?_) #[true, true, true, true, true, true, true, true, true, true, true, true, true, true, true, false, false, false] rfl rfl (by kernel_rfl) (fun _ _ _ h => h) (Or.inl ⟨by rfl, ?_⟩) ?_ ?_
        rotate_left
        · intro w'
          go_simp
          with_reducible rfl
        rotate_left
        · simp only [Act.put, List.setIfInBounds_toArray, List.set_cons_zero, List.set_cons_succ, i64_w, i32_w]
          rfl
        refine one_ (i := 15) (N := some 54) #[true, true, true, true, true, true, true, true, true, true, true, true, true, true, true, true, false, false] rfl rfl (by kernel_rfl) (by decide) (fun K hK => ?_)
        refine goes_ (N := some 54) Tryz.func109 (by kernel_rfl) rfl #[.string s0, .bool (decide (((strong x0.node : Nat) : Int) < 11))] (by rfl) rfl rfl (by simp [Act.eval]) ?_
        refine (HH0.out wc2).mono ?_
        rintro e wc3 ⟨rfl, rfl⟩
        refine ⟨_, rfl, ?_⟩
        refine hK.out _ _ (HCs2.out _ (((hXwc0).trans hXwc1).trans hXwc2)) (fun hHeld => ?_)
        clear hK K
        refine norm_ (a' := ?_) ?_ ?_
        rotate_left
        · show Act.put _ (some 54) _ = _
          simp only [Act.put, List.setIfInBounds_toArray, List.set_cons_zero, List.set_cons_succ, i64_w, i32_w]
          rfl
        refine pure_ (i := 16) (N := some 55) (v := ?_) (a' := ?_) #[true, true, true, true, true, true, true, true, true, true, true, true, true, true, true, true, true, false] rfl rfl (by kernel_rfl) (fun _ _ _ h => h) (Or.inl ⟨by rfl, ?_⟩) ?_ ?_
        rotate_left
        · intro w'
          go_simp
          with_reducible rfl
        rotate_left
        · simp only [Act.put, List.setIfInBounds_toArray, List.set_cons_zero, List.set_cons_succ, i64_w, i32_w]
          rfl
        refine pure_ (i := 17) (N := some 2) (v := ?_) (a' := ?_) #[true, true, true, true, true, true, true, true, true, true, true, true, true, true, true, true, true, true] rfl rfl (by kernel_rfl) (fun _ _ _ h => h) (Or.inl ⟨by rfl, ?_⟩) ?_ ?_
        rotate_left
        · intro w'
          go_simp
          with_reducible rfl
        rotate_left
        · simp only [Act.put, List.setIfInBounds_toArray, List.set_cons_zero, List.set_cons_succ, i64_w, i32_w]
          rfl
        refine done_ (by kernel_rfl) ?_
        have HXe := Lib.hid (HX4.out.trans (HXwc2.out))
        clear hHeld
        go_wp2
        go_ret
        exact ⟨by show Ending.returned (Value.string _) = _; rw [HRr.out], HXe.out⟩
      · skip
        refine goes_ (N := some 47) Tryz.func61 (by kernel_rfl) rfl #[.slice p0 q0' r0] (by rfl) rfl rfl (by simp [Act.eval]) ?_
        refine (HS0.out wd HXw.out).mono ?_
        rintro e wc0 ⟨rfl, hXwc0⟩
        refine ⟨_, rfl, ?_⟩
        have HXwc0 : Hid (Ext w4 wc0) := (HXw.out).trans hXwc0
        refine hK.out _ _ (HCs.out _ HXwc0.out) (fun hHeld => ?_)
        clear hK K
        refine norm_ (a' := ?_) ?_ ?_
        rotate_left
        · show Act.put _ (some 47) _ = _
          simp only [Act.put, List.setIfInBounds_toArray, List.set_cons_zero, List.set_cons_succ, i64_w, i32_w]
          rfl
        refine two_ (i := 0) (j := 12) (Ni := some 39) (Nj := some 51) #[true, true, true, false, false, true, true, true, true, true, true, true, false, false, false, false, false, false] #[false, true, true, false, false, true, true, true, true, true, true, true, true, false, false, false, false, false] rfl rfl rfl rfl (by kernel_rfl) (by simp) (by simp) (fun K hK => ?_) (fun K hK => ?_)
        · skip
          refine value_ (w1 := wc0.alloc (.cells #[.string ⟨#[45]⟩, .string ⟨#[33]⟩, .string ⟨#[126]⟩] 9)) (v := .slice (some ⟨wc0.heap.size, 0, none⟩) 3 3) (by rfl) rfl (by go_simp) ?_
          have X39 : Ext wc0 (wc0.alloc (.cells #[.string ⟨#[45]⟩, .string ⟨#[33]⟩, .string ⟨#[126]⟩] 9)) := (Ext.refl wc0).alloc _
          have B39 := Blk.alloc wc0 9 #[.string ⟨#[45]⟩, .string ⟨#[33]⟩, .string ⟨#[126]⟩]
          have HX39 : Hid (Ext w4 (wc0.alloc (.cells #[.string ⟨#[45]⟩, .string ⟨#[33]⟩, .string ⟨#[126]⟩] 9))) := (HXwc0.out).trans X39
          refine hK.out _ _ (HCs.out _ HX39.out) (fun hHeld => ?_)
          clear hK K
          refine norm_ (a' := ?_) ?_ ?_
          rotate_left
          · show Act.put _ (some 39) _ = _
            simp only [Act.put, List.setIfInBounds_toArray, List.set_cons_zero, List.set_cons_succ, i64_w, i32_w]
            rfl
          generalize wc0.alloc (.cells #[.string ⟨#[45]⟩, .string ⟨#[33]⟩, .string ⟨#[126]⟩] 9) = w39 at X39 B39 HX39 hHeld ⊢
          have HB39 := Lib.hid B39
          have HCs2 : Hid (∀ w', Ext w39 w' → (w'.cell? ⟨w2.heap.size, 1, none⟩ = some (.int .i64 2) ∧ w'.cell? ⟨g, 0, none⟩ = some (.slice p0 q0' r0)) ∧ w'.cell? ⟨wc0.heap.size, 2, none⟩ = some (.string U)) := fun w' hX => ⟨HCs.out _ (HX39.out.trans hX), ((HB39.out.ext hX).cell 2).trans (by rw [HU.out]; rfl)⟩
          clear X39 B39 hHeld
          have hHeld := HCs2.out w39 (Ext.refl _)
          refine stronger_ (S' := fun w' => (w'.cell? ⟨w2.heap.size, 1, none⟩ = some (.int .i64 2) ∧ w'.cell? ⟨g, 0, none⟩ = some (.slice p0 q0' r0)) ∧ w'.cell? ⟨wc0.heap.size, 2, none⟩ = some (.string U)) (fun _ h => h.1) _ _ _ _ hHeld ?_
          refine pure_ (i := 3) (N := some 42) (v := ?_) (a' := ?_) #[true, true, true, true, false, true, true, true, true, true, true, true, false, false, false, false, false, false] rfl rfl (by kernel_rfl) (fun _ _ _ h => h) (Or.inl ⟨by rfl, ?_⟩) ?_ ?_
          rotate_left
          · intro w'
            go_simp
            with_reducible rfl
          rotate_left
          · simp only [Act.put, List.setIfInBounds_toArray, List.set_cons_zero, List.set_cons_succ, i64_w, i32_w]
            rfl
          refine take_ (i := 4) (N := some 43) (v := ?_) (a' := ?_) #[true, true, true, true, true, true, true, true, true, true, true, true, false, false, false, false, false, false] rfl rfl (by kernel_rfl) (fun _ _ _ h => h) (Or.inl ⟨by rfl, ?_⟩) hHeld ?_ ?_
          rotate_left
          · rintro w' ⟨⟨y0, y1⟩, y2⟩
            go_simp
            with_reducible rfl
          rotate_left
          · simp only [Act.put, List.setIfInBounds_toArray, List.set_cons_zero, List.set_cons_succ, i64_w, i32_w]
            rfl
          refine one_ (i := 12) (N := some 51) #[true, true, true, true, true, true, true, true, true, true, true, true, true, false, false, false, false, false] rfl rfl (by kernel_rfl) (by decide) (fun K hK => ?_)
          refine goes_ (N := some 51) Tryz.func107 (by kernel_rfl) rfl #[.slice p0 q0' r0] (by rfl) rfl rfl (by simp [Act.eval]) ?_
          refine (HG0.out w39 HX39.out).mono ?_
          rintro e wc1 ⟨rfl, hXwc1⟩
          refine ⟨_, rfl, ?_⟩
          have HXwc1 : Hid (Ext w4 wc1) := (HX39.out).trans hXwc1
          refine hK.out _ _ (HCs2.out _ (hXwc1)) (fun hHeld => ?_)
          clear hK K
          refine norm_ (a' := ?_) ?_ ?_
          rotate_left
          · show Act.put _ (some 51) _ = _
            simp only [Act.put, List.setIfInBounds_toArray, List.set_cons_zero, List.set_cons_succ, i64_w, i32_w]
            rfl
          refine one_ (i := 13) (N := some 52) #[true, true, true, true, true, true, true, true, true, true, true, true, true, true, false, false, false, false] rfl rfl (by kernel_rfl) (by decide) (fun K hK => ?_)
          refine goes_ (N := some 52) Tryz.func110 (by kernel_rfl) rfl #[.agg #[.int .i64 x0.node.kind, .int .i64 x0.node.val, .string x0.node.name]] (by rfl) rfl rfl (by simp [Act.eval]) ?_
          refine (HN0.out wc1).mono ?_
          rintro e wc2 ⟨rfl, hXwc2⟩
          refine ⟨_, rfl, ?_⟩
          have HXwc2 : Hid (Ext w4 wc2) := (HXwc1.out).trans hXwc2
          refine hK.out _ _ (HCs2.out _ ((hXwc1).trans hXwc2)) (fun hHeld => ?_)
          clear hK K
          refine norm_ (a' := ?_) ?_ ?_
          rotate_left
          · show Act.put _ (some 52) _ = _
            simp only [Act.put, List.setIfInBounds_toArray, List.set_cons_zero, List.set_cons_succ, i64_w, i32_w]
            rfl
          refine pure_ (i := 14) (N := some 53) (v := ?_) (a' := ?_) #[true, true, true, true, true, true, true, true, true, true, true, true, true, true, true, false, false, false] rfl rfl (by kernel_rfl) (fun _ _ _ h => h) (Or.inl ⟨by rfl, ?_⟩) ?_ ?_
          rotate_left
          · intro w'
            go_simp
            with_reducible rfl
          rotate_left
          · simp only [Act.put, List.setIfInBounds_toArray, List.set_cons_zero, List.set_cons_succ, i64_w, i32_w]
            rfl
          refine one_ (i := 15) (N := some 54) #[true, true, true, true, true, true, true, true, true, true, true, true, true, true, true, true, false, false] rfl rfl (by kernel_rfl) (by decide) (fun K hK => ?_)
          refine goes_ (N := some 54) Tryz.func109 (by kernel_rfl) rfl #[.string s0, .bool (decide (((strong x0.node : Nat) : Int) < 11))] (by rfl) rfl rfl (by simp [Act.eval]) ?_
          refine (HH0.out wc2).mono ?_
          rintro e wc3 ⟨rfl, rfl⟩
          refine ⟨_, rfl, ?_⟩
          refine hK.out _ _ (HCs2.out _ ((hXwc1).trans hXwc2)) (fun hHeld => ?_)
          clear hK K
          refine norm_ (a' := ?_) ?_ ?_
          rotate_left
          · show Act.put _ (some 54) _ = _
            simp only [Act.put, List.setIfInBounds_toArray, List.set_cons_zero, List.set_cons_succ, i64_w, i32_w]
            rfl
          refine pure_ (i := 16) (N := some 55) (v := ?_) (a' := ?_) #[true, true, true, true, true, true, true, true, true, true, true, true, true, true, true, true, true, false] rfl rfl (by kernel_rfl) (fun _ _ _ h => h) (Or.inl ⟨by rfl, ?_⟩) ?_ ?_
          rotate_left
          · intro w'
            go_simp
            with_reducible rfl
          rotate_left
          · simp only [Act.put, List.setIfInBounds_toArray, List.set_cons_zero, List.set_cons_succ, i64_w, i32_w]
            rfl
          refine pure_ (i := 17) (N := some 2) (v := ?_) (a' := ?_) #[true, true, true, true, true, true, true, true, true, true, true, true, true, true, true, true, true, true] rfl rfl (by kernel_rfl) (fun _ _ _ h => h) (Or.inl ⟨by rfl, ?_⟩) ?_ ?_
          rotate_left
          · intro w'
            go_simp
            with_reducible rfl
          rotate_left
          · simp only [Act.put, List.setIfInBounds_toArray, List.set_cons_zero, List.set_cons_succ, i64_w, i32_w]
            rfl
          refine done_ (by kernel_rfl) ?_
          have HXe := Lib.hid (HX4.out.trans (HXwc2.out))
          clear hHeld
          go_wp2
          go_ret
          exact ⟨by show Ending.returned (Value.string _) = _; rw [HRr.out], HXe.out⟩
        · skip
          refine goes_ (N := some 51) Tryz.func107 (by kernel_rfl) rfl #[.slice p0 q0' r0] (by rfl) rfl rfl (by simp [Act.eval]) ?_
          refine (HG0.out wc0 HXwc0.out).mono ?_
          rintro e wc1 ⟨rfl, hXwc1⟩
          refine ⟨_, rfl, ?_⟩
          have HXwc1 : Hid (Ext w4 wc1) := (HXwc0.out).trans hXwc1
          refine hK.out _ _ (HCs.out _ HXwc1.out) (fun hHeld => ?_)
          clear hK K
          refine norm_ (a' := ?_) ?_ ?_
          rotate_left
          · show Act.put _ (some 51) _ = _
            simp only [Act.put, List.setIfInBounds_toArray, List.set_cons_zero, List.set_cons_succ, i64_w, i32_w]
            rfl
          refine two_ (i := 0) (j := 13) (Ni := some 39) (Nj := some 52) #[true, true, true, false, false, true, true, true, true, true, true, true, true, false, false, false, false, false] #[false, true, true, false, false, true, true, true, true, true, true, true, true, true, false, false, false, false] rfl rfl rfl rfl (by kernel_rfl) (by simp) (by simp) (fun K hK => ?_) (fun K hK => ?_)
          · skip
            refine value_ (w1 := wc1.alloc (.cells #[.string ⟨#[45]⟩, .string ⟨#[33]⟩, .string ⟨#[126]⟩] 9)) (v := .slice (some ⟨wc1.heap.size, 0, none⟩) 3 3) (by rfl) rfl (by go_simp) ?_
            have X39 : Ext wc1 (wc1.alloc (.cells #[.string ⟨#[45]⟩, .string ⟨#[33]⟩, .string ⟨#[126]⟩] 9)) := (Ext.refl wc1).alloc _
            have B39 := Blk.alloc wc1 9 #[.string ⟨#[45]⟩, .string ⟨#[33]⟩, .string ⟨#[126]⟩]
            have HX39 : Hid (Ext w4 (wc1.alloc (.cells #[.string ⟨#[45]⟩, .string ⟨#[33]⟩, .string ⟨#[126]⟩] 9))) := (HXwc1.out).trans X39
            refine hK.out _ _ (HCs.out _ HX39.out) (fun hHeld => ?_)
            clear hK K
            refine norm_ (a' := ?_) ?_ ?_
            rotate_left
            · show Act.put _ (some 39) _ = _
              simp only [Act.put, List.setIfInBounds_toArray, List.set_cons_zero, List.set_cons_succ, i64_w, i32_w]
              rfl
            generalize wc1.alloc (.cells #[.string ⟨#[45]⟩, .string ⟨#[33]⟩, .string ⟨#[126]⟩] 9) = w39 at X39 B39 HX39 hHeld ⊢
            have HB39 := Lib.hid B39
            have HCs2 : Hid (∀ w', Ext w39 w' → (w'.cell? ⟨w2.heap.size, 1, none⟩ = some (.int .i64 2) ∧ w'.cell? ⟨g, 0, none⟩ = some (.slice p0 q0' r0)) ∧ w'.cell? ⟨wc1.heap.size, 2, none⟩ = some (.string U)) := fun w' hX => ⟨HCs.out _ (HX39.out.trans hX), ((HB39.out.ext hX).cell 2).trans (by rw [HU.out]; rfl)⟩
            clear X39 B39 hHeld
            have hHeld := HCs2.out w39 (Ext.refl _)
            refine stronger_ (S' := fun w' => (w'.cell? ⟨w2.heap.size, 1, none⟩ = some (.int .i64 2) ∧ w'.cell? ⟨g, 0, none⟩ = some (.slice p0 q0' r0)) ∧ w'.cell? ⟨wc1.heap.size, 2, none⟩ = some (.string U)) (fun _ h => h.1) _ _ _ _ hHeld ?_
            refine pure_ (i := 3) (N := some 42) (v := ?_) (a' := ?_) #[true, true, true, true, false, true, true, true, true, true, true, true, true, false, false, false, false, false] rfl rfl (by kernel_rfl) (fun _ _ _ h => h) (Or.inl ⟨by rfl, ?_⟩) ?_ ?_
            rotate_left
            · intro w'
              go_simp
              with_reducible rfl
            rotate_left
            · simp only [Act.put, List.setIfInBounds_toArray, List.set_cons_zero, List.set_cons_succ, i64_w, i32_w]
              rfl
            refine take_ (i := 4) (N := some 43) (v := ?_) (a' := ?_) #[true, true, true, true, true, true, true, true, true, true, true, true, true, false, false, false, false, false] rfl rfl (by kernel_rfl) (fun _ _ _ h => h) (Or.inl ⟨by rfl, ?_⟩) hHeld ?_ ?_
            rotate_left
            · rintro w' ⟨⟨y0, y1⟩, y2⟩
              go_simp
              with_reducible rfl
            rotate_left
            · simp only [Act.put, List.setIfInBounds_toArray, List.set_cons_zero, List.set_cons_succ, i64_w, i32_w]
              rfl
            refine one_ (i := 13) (N := some 52) #[true, true, true, true, true, true, true, true, true, true, true, true, true, true, false, false, false, false] rfl rfl (by kernel_rfl) (by decide) (fun K hK => ?_)
            refine goes_ (N := some 52) Tryz.func110 (by kernel_rfl) rfl #[.agg #[.int .i64 x0.node.kind, .int .i64 x0.node.val, .string x0.node.name]] (by rfl) rfl rfl (by simp [Act.eval]) ?_
            refine (HN0.out w39).mono ?_
            rintro e wc2 ⟨rfl, hXwc2⟩
            refine ⟨_, rfl, ?_⟩
            have HXwc2 : Hid (Ext w4 wc2) := (HX39.out).trans hXwc2
            refine hK.out _ _ (HCs2.out _ (hXwc2)) (fun hHeld => ?_)
            clear hK K
            refine norm_ (a' := ?_) ?_ ?_
            rotate_left
            · show Act.put _ (some 52) _ = _
              simp only [Act.put, List.setIfInBounds_toArray, List.set_cons_zero, List.set_cons_succ, i64_w, i32_w]
              rfl
            refine pure_ (i := 14) (N := some 53) (v := ?_) (a' := ?_) #[true, true, true, true, true, true, true, true, true, true, true, true, true, true, true, false, false, false] rfl rfl (by kernel_rfl) (fun _ _ _ h => h) (Or.inl ⟨by rfl, ?_⟩) ?_ ?_
            rotate_left
            · intro w'
              go_simp
              with_reducible rfl
            rotate_left
            · simp only [Act.put, List.setIfInBounds_toArray, List.set_cons_zero, List.set_cons_succ, i64_w, i32_w]
              rfl
            refine one_ (i := 15) (N := some 54) #[true, true, true, true, true, true, true, true, true, true, true, true, true, true, true, true, false, false] rfl rfl (by kernel_rfl) (by decide) (fun K hK => ?_)
            refine goes_ (N := some 54) Tryz.func109 (by kernel_rfl) rfl #[.string s0, .bool (decide (((strong x0.node : Nat) : Int) < 11))] (by rfl) rfl rfl (by simp [Act.eval]) ?_
            refine (HH0.out wc2).mono ?_
            rintro e wc3 ⟨rfl, rfl⟩
            refine ⟨_, rfl, ?_⟩
            refine hK.out _ _ (HCs2.out _ (hXwc2)) (fun hHeld => ?_)
            clear hK K
            refine norm_ (a' := ?_) ?_ ?_
            rotate_left
            · show Act.put _ (some 54) _ = _
              simp only [Act.put, List.setIfInBounds_toArray, List.set_cons_zero, List.set_cons_succ, i64_w, i32_w]
              rfl
            refine pure_ (i := 16) (N := some 55) (v := ?_) (a' := ?_) #[true, true, true, true, true, true, true, true, true, true, true, true, true, true, true, true, true, false] rfl rfl (by kernel_rfl) (fun _ _ _ h => h) (Or.inl ⟨by rfl, ?_⟩) ?_ ?_
            rotate_left
            · intro w'
              go_simp
              with_reducible rfl
            rotate_left
            · simp only [Act.put, List.setIfInBounds_toArray, List.set_cons_zero, List.set_cons_succ, i64_w, i32_w]
              rfl
            refine pure_ (i := 17) (N := some 2) (v := ?_) (a' := ?_) #[true, true, true, true, true, true, true, true, true, true, true, true, true, true, true, true, true, true] rfl rfl (by kernel_rfl) (fun _ _ _ h => h) (Or.inl ⟨by rfl, ?_⟩) ?_ ?_
            rotate_left
            · intro w'
              go_simp
              with_reducible rfl
            rotate_left
            · simp only [Act.put, List.setIfInBounds_toArray, List.set_cons_zero, List.set_cons_succ, i64_w, i32_w]
              rfl
            refine done_ (by kernel_rfl) ?_
            have HXe := Lib.hid (HX4.out.trans (HXwc2.out))
            clear hHeld
            go_wp2
            go_ret
            exact ⟨by show Ending.returned (Value.string _) = _; rw [HRr.out], HXe.out⟩
          · skip
            refine goes_ (N := some 52) Tryz.func110 (by kernel_rfl) rfl #[.agg #[.int .i64 x0.node.kind, .int .i64 x0.node.val, .string x0.node.name]] (by rfl) rfl rfl (by simp [Act.eval]) ?_
            refine (HN0.out wc1).mono ?_
            rintro e wc2 ⟨rfl, hXwc2⟩
            refine ⟨_, rfl, ?_⟩
            have HXwc2 : Hid (Ext w4 wc2) := (HXwc1.out).trans hXwc2
            refine hK.out _ _ (HCs.out _ HXwc2.out) (fun hHeld => ?_)
            clear hK K
            refine norm_ (a' := ?_) ?_ ?_
            rotate_left
            · show Act.put _ (some 52) _ = _
              simp only [Act.put, List.setIfInBounds_toArray, List.set_cons_zero, List.set_cons_succ, i64_w, i32_w]
              rfl
            refine pure_ (i := 14) (N := some 53) (v := ?_) (a' := ?_) #[false, true, true, false, false, true, true, true, true, true, true, true, true, true, true, false, false, false] rfl rfl (by kernel_rfl) (fun _ _ _ h => h) (Or.inl ⟨by rfl, ?_⟩) ?_ ?_
            rotate_left
            · intro w'
              go_simp
              with_reducible rfl
            rotate_left
            · simp only [Act.put, List.setIfInBounds_toArray, List.set_cons_zero, List.set_cons_succ, i64_w, i32_w]
              rfl
            refine two_ (i := 0) (j := 15) (Ni := some 39) (Nj := some 54) #[true, true, true, false, false, true, true, true, true, true, true, true, true, true, true, false, false, false] #[false, true, true, false, false, true, true, true, true, true, true, true, true, true, true, true, false, false] rfl rfl rfl rfl (by kernel_rfl) (by simp) (by simp) (fun K hK => ?_) (fun K hK => ?_)
            · skip
              refine value_ (w1 := wc2.alloc (.cells #[.string ⟨#[45]⟩, .string ⟨#[33]⟩, .string ⟨#[126]⟩] 9)) (v := .slice (some ⟨wc2.heap.size, 0, none⟩) 3 3) (by rfl) rfl (by go_simp) ?_
              have X39 : Ext wc2 (wc2.alloc (.cells #[.string ⟨#[45]⟩, .string ⟨#[33]⟩, .string ⟨#[126]⟩] 9)) := (Ext.refl wc2).alloc _
              have B39 := Blk.alloc wc2 9 #[.string ⟨#[45]⟩, .string ⟨#[33]⟩, .string ⟨#[126]⟩]
              have HX39 : Hid (Ext w4 (wc2.alloc (.cells #[.string ⟨#[45]⟩, .string ⟨#[33]⟩, .string ⟨#[126]⟩] 9))) := (HXwc2.out).trans X39
              refine hK.out _ _ (HCs.out _ HX39.out) (fun hHeld => ?_)
              clear hK K
              refine norm_ (a' := ?_) ?_ ?_
              rotate_left
              · show Act.put _ (some 39) _ = _
                simp only [Act.put, List.setIfInBounds_toArray, List.set_cons_zero, List.set_cons_succ, i64_w, i32_w]
                rfl
              generalize wc2.alloc (.cells #[.string ⟨#[45]⟩, .string ⟨#[33]⟩, .string ⟨#[126]⟩] 9) = w39 at X39 B39 HX39 hHeld ⊢
              have HB39 := Lib.hid B39
              have HCs2 : Hid (∀ w', Ext w39 w' → (w'.cell? ⟨w2.heap.size, 1, none⟩ = some (.int .i64 2) ∧ w'.cell? ⟨g, 0, none⟩ = some (.slice p0 q0' r0)) ∧ w'.cell? ⟨wc2.heap.size, 2, none⟩ = some (.string U)) := fun w' hX => ⟨HCs.out _ (HX39.out.trans hX), ((HB39.out.ext hX).cell 2).trans (by rw [HU.out]; rfl)⟩
              clear X39 B39 hHeld
              have hHeld := HCs2.out w39 (Ext.refl _)
              refine stronger_ (S' := fun w' => (w'.cell? ⟨w2.heap.size, 1, none⟩ = some (.int .i64 2) ∧ w'.cell? ⟨g, 0, none⟩ = some (.slice p0 q0' r0)) ∧ w'.cell? ⟨wc2.heap.size, 2, none⟩ = some (.string U)) (fun _ h => h.1) _ _ _ _ hHeld ?_
              refine pure_ (i := 3) (N := some 42) (v := ?_) (a' := ?_) #[true, true, true, true, false, true, true, true, true, true, true, true, true, true, true, false, false, false] rfl rfl (by kernel_rfl) (fun _ _ _ h => h) (Or.inl ⟨by rfl, ?_⟩) ?_ ?_
              rotate_left
              · intro w'
                go_simp
                with_reducible rfl
              rotate_left
              · simp only [Act.put, List.setIfInBounds_toArray, List.set_cons_zero, List.set_cons_succ, i64_w, i32_w]
                rfl
              refine take_ (i := 4) (N := some 43) (v := ?_) (a' := ?_) #[true, true, true, true, true, true, true, true, true, true, true, true, true, true, true, false, false, false] rfl rfl (by kernel_rfl) (fun _ _ _ h => h) (Or.inl ⟨by rfl, ?_⟩) hHeld ?_ ?_
              rotate_left
              · rintro w' ⟨⟨y0, y1⟩, y2⟩
                go_simp
                with_reducible rfl
              rotate_left
              · simp only [Act.put, List.setIfInBounds_toArray, List.set_cons_zero, List.set_cons_succ, i64_w, i32_w]
                rfl
              refine one_ (i := 15) (N := some 54) #[true, true, true, true, true, true, true, true, true, true, true, true, true, true, true, true, false, false] rfl rfl (by kernel_rfl) (by decide) (fun K hK => ?_)
              refine goes_ (N := some 54) Tryz.func109 (by kernel_rfl) rfl #[.string s0, .bool (decide (((strong x0.node : Nat) : Int) < 11))] (by rfl) rfl rfl (by simp [Act.eval]) ?_
              refine (HH0.out w39).mono ?_
              rintro e wc3 ⟨rfl, rfl⟩
              refine ⟨_, rfl, ?_⟩
              refine hK.out _ _ (HCs2.out _ (Ext.refl _)) (fun hHeld => ?_)
              clear hK K
              refine norm_ (a' := ?_) ?_ ?_
              rotate_left
              · show Act.put _ (some 54) _ = _
                simp only [Act.put, List.setIfInBounds_toArray, List.set_cons_zero, List.set_cons_succ, i64_w, i32_w]
                rfl
              refine pure_ (i := 16) (N := some 55) (v := ?_) (a' := ?_) #[true, true, true, true, true, true, true, true, true, true, true, true, true, true, true, true, true, false] rfl rfl (by kernel_rfl) (fun _ _ _ h => h) (Or.inl ⟨by rfl, ?_⟩) ?_ ?_
              rotate_left
              · intro w'
                go_simp
                with_reducible rfl
              rotate_left
              · simp only [Act.put, List.setIfInBounds_toArray, List.set_cons_zero, List.set_cons_succ, i64_w, i32_w]
                rfl
              refine pure_ (i := 17) (N := some 2) (v := ?_) (a' := ?_) #[true, true, true, true, true, true, true, true, true, true, true, true, true, true, true, true, true, true] rfl rfl (by kernel_rfl) (fun _ _ _ h => h) (Or.inl ⟨by rfl, ?_⟩) ?_ ?_
              rotate_left
              · intro w'
                go_simp
                with_reducible rfl
              rotate_left
              · simp only [Act.put, List.setIfInBounds_toArray, List.set_cons_zero, List.set_cons_succ, i64_w, i32_w]
                rfl
              refine done_ (by kernel_rfl) ?_
              have HXe := Lib.hid (HX4.out.trans (HX39.out))
              clear hHeld
              go_wp2
              go_ret
              exact ⟨by show Ending.returned (Value.string _) = _; rw [HRr.out], HXe.out⟩
            · skip
              refine goes_ (N := some 54) Tryz.func109 (by kernel_rfl) rfl #[.string s0, .bool (decide (((strong x0.node : Nat) : Int) < 11))] (by rfl) rfl rfl (by simp [Act.eval]) ?_
              refine (HH0.out wc2).mono ?_
              rintro e wc3 ⟨rfl, rfl⟩
              refine ⟨_, rfl, ?_⟩
              refine hK.out _ _ (HCs.out _ (HXwc2.out)) (fun hHeld => ?_)
              clear hK K
              refine norm_ (a' := ?_) ?_ ?_
              rotate_left
              · show Act.put _ (some 54) _ = _
                simp only [Act.put, List.setIfInBounds_toArray, List.set_cons_zero, List.set_cons_succ, i64_w, i32_w]
                rfl
              refine one_ (i := 0) (N := some 39) #[true, true, true, false, false, true, true, true, true, true, true, true, true, true, true, true, false, false] rfl rfl (by kernel_rfl) (by decide) (fun K hK => ?_)
              refine value_ (w1 := wc2.alloc (.cells #[.string ⟨#[45]⟩, .string ⟨#[33]⟩, .string ⟨#[126]⟩] 9)) (v := .slice (some ⟨wc2.heap.size, 0, none⟩) 3 3) (by rfl) rfl (by go_simp) ?_
              have X39 : Ext wc2 (wc2.alloc (.cells #[.string ⟨#[45]⟩, .string ⟨#[33]⟩, .string ⟨#[126]⟩] 9)) := (Ext.refl wc2).alloc _
              have B39 := Blk.alloc wc2 9 #[.string ⟨#[45]⟩, .string ⟨#[33]⟩, .string ⟨#[126]⟩]
              have HX39 : Hid (Ext w4 (wc2.alloc (.cells #[.string ⟨#[45]⟩, .string ⟨#[33]⟩, .string ⟨#[126]⟩] 9))) := (HXwc2.out).trans X39
              refine hK.out _ _ (HCs.out _ HX39.out) (fun hHeld => ?_)
              clear hK K
              refine norm_ (a' := ?_) ?_ ?_
              rotate_left
              · show Act.put _ (some 39) _ = _
                simp only [Act.put, List.setIfInBounds_toArray, List.set_cons_zero, List.set_cons_succ, i64_w, i32_w]
                rfl
              generalize wc2.alloc (.cells #[.string ⟨#[45]⟩, .string ⟨#[33]⟩, .string ⟨#[126]⟩] 9) = w39 at X39 B39 HX39 hHeld ⊢
              have HB39 := Lib.hid B39
              have HCs2 : Hid (∀ w', Ext w39 w' → (w'.cell? ⟨w2.heap.size, 1, none⟩ = some (.int .i64 2) ∧ w'.cell? ⟨g, 0, none⟩ = some (.slice p0 q0' r0)) ∧ w'.cell? ⟨wc2.heap.size, 2, none⟩ = some (.string U)) := fun w' hX => ⟨HCs.out _ (HX39.out.trans hX), ((HB39.out.ext hX).cell 2).trans (by rw [HU.out]; rfl)⟩
              clear X39 B39 hHeld
              have hHeld := HCs2.out w39 (Ext.refl _)
              refine stronger_ (S' := fun w' => (w'.cell? ⟨w2.heap.size, 1, none⟩ = some (.int .i64 2) ∧ w'.cell? ⟨g, 0, none⟩ = some (.slice p0 q0' r0)) ∧ w'.cell? ⟨wc2.heap.size, 2, none⟩ = some (.string U)) (fun _ h => h.1) _ _ _ _ hHeld ?_
              refine pure_ (i := 3) (N := some 42) (v := ?_) (a' := ?_) #[true, true, true, true, false, true, true, true, true, true, true, true, true, true, true, true, false, false] rfl rfl (by kernel_rfl) (fun _ _ _ h => h) (Or.inl ⟨by rfl, ?_⟩) ?_ ?_
              rotate_left
              · intro w'
                go_simp
                with_reducible rfl
              rotate_left
              · simp only [Act.put, List.setIfInBounds_toArray, List.set_cons_zero, List.set_cons_succ, i64_w, i32_w]
                rfl
              refine take_ (i := 4) (N := some 43) (v := ?_) (a' := ?_) #[true, true, true, true, true, true, true, true, true, true, true, true, true, true, true, true, false, false] rfl rfl (by kernel_rfl) (fun _ _ _ h => h) (Or.inl ⟨by rfl, ?_⟩) hHeld ?_ ?_
              rotate_left
              · rintro w' ⟨⟨y0, y1⟩, y2⟩
                go_simp
                with_reducible rfl
              rotate_left
              · simp only [Act.put, List.setIfInBounds_toArray, List.set_cons_zero, List.set_cons_succ, i64_w, i32_w]
                rfl
              refine pure_ (i := 16) (N := some 55) (v := ?_) (a' := ?_) #[true, true, true, true, true, true, true, true, true, true, true, true, true, true, true, true, true, false] rfl rfl (by kernel_rfl) (fun _ _ _ h => h) (Or.inl ⟨by rfl, ?_⟩) ?_ ?_
              rotate_left
              · intro w'
                go_simp
                with_reducible rfl
              rotate_left
              · simp only [Act.put, List.setIfInBounds_toArray, List.set_cons_zero, List.set_cons_succ, i64_w, i32_w]
                rfl
              refine pure_ (i := 17) (N := some 2) (v := ?_) (a' := ?_) #[true, true, true, true, true, true, true, true, true, true, true, true, true, true, true, true, true, true] rfl rfl (by kernel_rfl) (fun _ _ _ h => h) (Or.inl ⟨by rfl, ?_⟩) ?_ ?_
              rotate_left
              · intro w'
                go_simp
                with_reducible rfl
              rotate_left
              · simp only [Act.put, List.setIfInBounds_toArray, List.set_cons_zero, List.set_cons_succ, i64_w, i32_w]
                rfl
              refine done_ (by kernel_rfl) ?_
              have HXe := Lib.hid (HX4.out.trans (HX39.out))
              clear hHeld
              go_wp2
              go_ret
              exact ⟨by show Ending.returned (Value.string _) = _; rw [HRr.out], HXe.out⟩
  have hk789 : kd = 7 ∨ kd = 8 ∨ kd = 9 := by
    have := Hari.out
    unfold arity at this
    simp only at this
    rw [if_neg (by omega)] at this
    by_cases hz : nm.size = 0
    · rw [if_pos hz, if_neg h1, if_neg h5, if_neg h6] at this
      by_cases h7 : kd = 7
      · exact .inl h7
      · rw [if_neg h7] at this
        by_cases h89 : kd = 8 ∨ kd = 9
        · exact .inr h89
        · rw [if_neg h89] at this
          cases this
    · rw [if_neg hz] at this
      cases this
  have hv7 : kd = 7 → 0 ≤ vl ∧ vl ≤ 15 := fun e => ar_bin7 Hari.out e
  have har2 : args.length = 2 := by
    have : ar ⟨kd, vl, nm⟩ = 2 := by
      unfold ar
      simp only
      rw [if_neg (by omega), if_neg h4, if_pos hk789]
    have har := Har.out
    omega
  obtain ⟨x0, x1, rfl⟩ : ∃ x0 x1, args = [x0, x1] := by
    match args, har2 with
    | [x0, x1], _ => exact ⟨x0, x1, rfl⟩
  obtain ⟨t0, ht0⟩ : ∃ t0, ts[0]? = some t0 := ⟨ts[0]'(by have := HKA.out.len; omega), List.getElem?_eq_getElem _⟩
  obtain ⟨t1, ht1⟩ : ∃ t1, ts[1]? = some t1 := ⟨ts[1]'(by have := HKA.out.len; omega), List.getElem?_eq_getElem _⟩
  have HS0 := Lib.hid (HIH.out 0 x0 t0 rfl ht0)
  have HS1 := Lib.hid (HIH.out 1 x1 t1 rfl ht1)
  have HG0 : Hid (∀ w', Ext w4 w' → Calls Tryz.prog 107 #[encS t0] w' (Gives (.agg #[.int .i64 x0.node.kind, .int .i64 x0.node.val, .string x0.node.name]) w')) := fun w' hX =>
    s_l2Root K x0.list _ x0.node w' ((HKA.out.at_ 0 t0 x0 ht0 rfl).ext hX (fun _ _ h => h.any)) (by cases x0; rw [Ex.list_mk]; simp [Ex.node])
  have HG1 : Hid (∀ w', Ext w4 w' → Calls Tryz.prog 107 #[encS t1] w' (Gives (.agg #[.int .i64 x1.node.kind, .int .i64 x1.node.val, .string x1.node.name]) w')) := fun w' hX =>
    s_l2Root K x1.list _ x1.node w' ((HKA.out.at_ 1 t1 x1 ht1 rfl).ext hX (fun _ _ h => h.any)) (by cases x1; rw [Ex.list_mk]; simp [Ex.node])
  have hx0 := ok_bin (Hoks.out x0 (by simp))
  have hx1 := ok_bin (Hoks.out x1 (by simp))
  have HN0 : Hid (∀ w', Calls Tryz.prog 110 #[.agg #[.int .i64 x0.node.kind, .int .i64 x0.node.val, .string x0.node.name]] w' (Gives (.int .i64 (strong x0.node : Nat)) w')) := fun w' => c_l2Strength x0.node w' hx0
  have HN1 : Hid (∀ w', Calls Tryz.prog 110 #[.agg #[.int .i64 x1.node.kind, .int .i64 x1.node.val, .string x1.node.name]] w' (Gives (.int .i64 (strong x1.node : Nat)) w')) := fun w' => c_l2Strength x1.node w' hx1
  have HNn : Hid (∀ w', Calls Tryz.prog 110 #[.agg #[.int .i64 kd, .int .i64 vl, .string nm]] w' (Gives (.int .i64 (strong ⟨kd, vl, nm⟩ : Nat)) w')) := fun w' => c_l2Strength ⟨kd, vl, nm⟩ w' hv7
  have HW : Hid (∀ w', Calls Tryz.prog 111 #[.agg #[.int .i64 kd, .int .i64 vl, .string nm]] w' (Gives (.string (str (opWord ⟨kd, vl, nm⟩))) w')) := fun w' => c_l2Word ⟨kd, vl, nm⟩ w' hk789 hv7
  have hl0 := showE_len x0 (Hoks.out x0 (by simp))
  have hl1 := showE_len x1 (Hoks.out x1 (by simp))
  have g0 := idx_leK (args := [x0, x1]) (i := 0) rfl
  have g1 := idx_leK (args := [x0, x1]) (i := 1) rfl
  have hll := Hl.out
  have hle := Hlen.out
  have HH0 : Hid (∀ (b : Bool) w', Calls Tryz.prog 109 #[.string (str (showE x0)), .bool b] w' (Same (.string (str (heldT (showE x0) b))) w')) := fun b w' => c_l2Held _ b w' (by omega)
  have HH1 : Hid (∀ (b : Bool) w', Calls Tryz.prog 109 #[.string (str (showE x1)), .bool b] w' (Same (.string (str (heldT (showE x1) b))) w')) := fun b w' => c_l2Held _ b w' (by omega)
  obtain ⟨g, c', e', _, _, _, _⟩ := rw_form HO.out (by omega)
  obtain ⟨rfl, rfl⟩ : aO = some ⟨g, 0, none⟩ ∧ c' = cO := by cases e'; exact ⟨rfl, rfl⟩
  have k0 := (rw_at HO.out (i := 0) (u := encS t0) (by rw [List.getElem?_map, ht0]; rfl)).1
  have k1 := (rw_at HO.out (i := 1) (u := encS t1) (by rw [List.getElem?_map, ht1]; rfl)).1
  have hn2 : nO = 2 := by simpa using hnl
  subst hn2
  have q789 : (kd == 1) = false ∧ (kd == 2) = false ∧ (kd == 5) = false ∧ (kd == 3) = false ∧ (kd == 6) = false ∧ (kd == 4) = false := by simp [h1, h2, h3, h4, h5, h6]
  obtain ⟨f1, f2, f5, f3, f6, f4⟩ := q789
  obtain ⟨s0, hs0⟩ : ∃ s0, s0 = str (showE x0) := ⟨_, rfl⟩
  obtain ⟨s1, hs1⟩ : ∃ s1, s1 = str (showE x1) := ⟨_, rfl⟩
  rw [← hs0] at HS0 HH0
  rw [← hs1] at HS1 HH1
  obtain ⟨p0, q0', r0⟩ := t0
  obtain ⟨p1, q1', r1⟩ := t1
  simp only [encS] at HS0 HS1 HG0 HG1 k0 k1
  have Xd : Ext w4 w4.drew := (Ext.refl w4).drew
  obtain ⟨A, hA⟩ : ∃ A, A = str (heldT (showE x0) (decide (((strong x0.node : Nat) : Int) < ((strong ⟨kd, vl, nm⟩ : Nat) : Int)))) := ⟨_, rfl⟩
  obtain ⟨B, hB⟩ : ∃ B, B = str (heldT (showE x1) (decide (((strong x1.node : Nat) : Int) ≤ ((strong ⟨kd, vl, nm⟩ : Nat) : Int)))) := ⟨_, rfl⟩
  obtain ⟨W, hW⟩ : ∃ W, W = str (opWord ⟨kd, vl, nm⟩) := ⟨_, rfl⟩
  rw [← hW] at HW
  have HRr : Hid (R = A ++ str [32] ++ W ++ str [32] ++ B) := by
    show _ = _
    rw [HR.out, hA, hB, hW]
    unfold showN
    simp only [List.map_cons, List.map_nil]
    rw [if_neg h1, if_neg h2, if_neg h5, if_neg h4]
    simp only [str_append, Int.ofNat_lt, Int.ofNat_le]
  have hsz : A.size + 1 + W.size + 1 + B.size ≤ 640000 := by
    have := hRs
    rw [HRr.out] at this
    simp only [ByteArray.size_append, str_size, List.length_singleton] at this
    omega
  have HA := Lib.hid hA
  have HB := Lib.hid hB
  clear hA hB hW
  clear hl0 hl1 g0 g1 hll hle hs0 hs1 har2 hnl ht0 ht1 HnO e' hx0 hx1 hv7 hk789 hRs h1 h2 h3 h4 h5 h6 HIH HKA Hoks
  go_wp2_with fail
  have HCs : Hid (∀ w', Ext w4 w' → w'.cell? ⟨w2.heap.size, 0, none⟩ = some (.int .i64 kd) ∧ w'.cell? ⟨w2.heap.size, 1, none⟩ = some (.int .i64 vl) ∧ w'.cell? ⟨w2.heap.size, 2, none⟩ = some (.string nm) ∧ w'.cell? ⟨g, 0, none⟩ = some (.slice p0 q0' r0) ∧ w'.cell? ⟨g, 1, none⟩ = some (.slice p1 q1' r1)) := fun w' hX => ⟨hX.cell q0, hX.cell q1, hX.cell q2, hX.cell k0, hX.cell k1⟩
  clear Xd q0 q1 q2 k0 k1
  have Xd : Ext w4 w4.drew := (Ext.refl w4).drew
  have HXw : Hid (Ext w4 w4.drew) := (Ext.refl w4).trans Xd
  refine start_ (n := 14) (S := fun w' => w'.cell? ⟨w2.heap.size, 0, none⟩ = some (.int .i64 kd) ∧ w'.cell? ⟨w2.heap.size, 1, none⟩ = some (.int .i64 vl) ∧ w'.cell? ⟨w2.heap.size, 2, none⟩ = some (.string nm) ∧ w'.cell? ⟨g, 0, none⟩ = some (.slice p0 q0' r0) ∧ w'.cell? ⟨g, 1, none⟩ = some (.slice p1 q1' r1)) (ds := []) #[false, false, false, false, false, false, false, false, false, false, false, false, false, false] (by kernel_rfl) rfl rfl ?hS (fun hHeld => ?_)
  case hS => exact HCs.out _ HXw.out
  refine pure_ (i := 0) (N := some 80) (v := ?_) (a' := ?_) #[true, false, false, false, false, false, false, false, false, false, false, false, false, false] rfl rfl (by kernel_rfl) (fun _ _ _ h => h) (Or.inl ⟨by rfl, ?_⟩) ?_ ?_
  rotate_left
  · intro w'
    go_simp
    with_reducible rfl
  rotate_left
  · simp only [Act.put, List.setIfInBounds_toArray, List.set_cons_zero, List.set_cons_succ, i64_w, i32_w]
    rfl
  refine pure_ (i := 1) (N := some 81) (v := ?_) (a' := ?_) #[true, true, false, false, false, false, false, false, false, false, false, false, false, false] rfl rfl (by kernel_rfl) (fun _ _ _ h => h) (Or.inl ⟨by rfl, ?_⟩) ?_ ?_
  rotate_left
  · intro w'
    go_simp
    with_reducible rfl
  rotate_left
  · simp only [Act.put, List.setIfInBounds_toArray, List.set_cons_zero, List.set_cons_succ, i64_w, i32_w]
    rfl
  refine take_ (i := 2) (N := some 82) (v := ?_) (a' := ?_) #[true, true, true, false, false, false, false, false, false, false, false, false, false, false] rfl rfl (by kernel_rfl) (fun _ _ _ h => h) (Or.inl ⟨by rfl, ?_⟩) hHeld ?_ ?_
  rotate_left
  · rintro w' ⟨y0, y1, y2, y3, y4⟩
    go_simp
    with_reducible rfl
  rotate_left
  · simp only [Act.put, List.setIfInBounds_toArray, List.set_cons_zero, List.set_cons_succ, i64_w, i32_w]
    rfl
  refine pure_ (i := 4) (N := some 84) (v := ?_) (a' := ?_) #[true, true, true, false, true, false, false, false, false, false, false, false, false, false] rfl rfl (by kernel_rfl) (fun _ _ _ h => h) (Or.inl ⟨by rfl, ?_⟩) ?_ ?_
  rotate_left
  · intro w'
    go_simp
    with_reducible rfl
  rotate_left
  · simp only [Act.put, List.setIfInBounds_toArray, List.set_cons_zero, List.set_cons_succ, i64_w, i32_w]
    rfl
  refine pure_ (i := 5) (N := some 85) (v := ?_) (a' := ?_) #[true, true, true, false, true, true, false, false, false, false, false, false, false, false] rfl rfl (by kernel_rfl) (fun _ _ _ h => h) (Or.inl ⟨by rfl, ?_⟩) ?_ ?_
  rotate_left
  · intro w'
    go_simp
    with_reducible rfl
  rotate_left
  · simp only [Act.put, List.setIfInBounds_toArray, List.set_cons_zero, List.set_cons_succ, i64_w, i32_w]
    rfl
  refine take_ (i := 6) (N := some 86) (v := ?_) (a' := ?_) #[true, true, true, false, true, true, true, false, false, false, false, false, false, false] rfl rfl (by kernel_rfl) (fun _ _ _ h => h) (Or.inl ⟨by rfl, ?_⟩) hHeld ?_ ?_
  rotate_left
  · rintro w' ⟨y0, y1, y2, y3, y4⟩
    go_simp
    with_reducible rfl
  rotate_left
  · simp only [Act.put, List.setIfInBounds_toArray, List.set_cons_zero, List.set_cons_succ, i64_w, i32_w]
    rfl
  refine take_ (i := 9) (N := some 89) (v := ?_) (a' := ?_) #[true, true, true, false, true, true, true, false, false, true, false, false, false, false] rfl rfl (by kernel_rfl) (fun _ _ _ h => h) (Or.inl ⟨by rfl, ?_⟩) hHeld ?_ ?_
  rotate_left
  · rintro w' ⟨y0, y1, y2, y3, y4⟩
    go_simp
    with_reducible rfl
  rotate_left
  · simp only [Act.put, List.setIfInBounds_toArray, List.set_cons_zero, List.set_cons_succ, i64_w, i32_w]
    rfl
  generalize w4.drew = wd at Xd HXw hHeld ⊢
  refine one_ (i := 3) (N := some 83) #[true, true, true, true, true, true, true, false, false, true, false, false, false, false] rfl rfl (by kernel_rfl) (by decide) (fun K hK => ?_)
  refine goes_ (N := some 83) Tryz.func61 (by kernel_rfl) rfl #[.slice p0 q0' r0] (by rfl) rfl rfl (by simp [Act.eval]) ?_
  refine (HS0.out wd HXw.out).mono ?_
  rintro e wa ⟨rfl, hXa⟩
  refine ⟨_, rfl, ?_⟩
  have HXa : Hid (Ext w4 wa) := HXw.out.trans hXa
  refine hK.out _ _ (HCs.out _ HXa.out) (fun hHeld => ?_)
  clear hK K
  refine norm_ (a' := ?_) ?_ ?_
  rotate_left
  · show Act.put _ (some 83) _ = _
    simp only [Act.put, List.setIfInBounds_toArray, List.set_cons_zero, List.set_cons_succ, i64_w, i32_w]
    rfl
  refine one_ (i := 7) (N := some 87) #[true, true, true, true, true, true, true, true, false, true, false, false, false, false] rfl rfl (by kernel_rfl) (by decide) (fun K hK => ?_)
  refine goes_ (N := some 87) Tryz.func107 (by kernel_rfl) rfl #[.slice p0 q0' r0] (by rfl) rfl rfl (by simp [Act.eval]) ?_
  refine (HG0.out wa HXa.out).mono ?_
  rintro e wb ⟨rfl, hXb⟩
  refine ⟨_, rfl, ?_⟩
  have HXb : Hid (Ext w4 wb) := HXa.out.trans hXb
  refine hK.out _ _ (HCs.out _ HXb.out) (fun hHeld => ?_)
  clear hK K
  refine norm_ (a' := ?_) ?_ ?_
  rotate_left
  · show Act.put _ (some 87) _ = _
    simp only [Act.put, List.setIfInBounds_toArray, List.set_cons_zero, List.set_cons_succ, i64_w, i32_w]
    rfl
  refine one_ (i := 8) (N := some 88) #[true, true, true, true, true, true, true, true, true, true, false, false, false, false] rfl rfl (by kernel_rfl) (by decide) (fun K hK => ?_)
  refine goes_ (N := some 88) Tryz.func110 (by kernel_rfl) rfl #[.agg #[.int .i64 x0.node.kind, .int .i64 x0.node.val, .string x0.node.name]] (by rfl) rfl rfl (by simp [Act.eval]) ?_
  refine (HN0.out wb).mono ?_
  rintro e wc ⟨rfl, hXc⟩
  refine ⟨_, rfl, ?_⟩
  have HXc : Hid (Ext w4 wc) := HXb.out.trans hXc
  refine hK.out _ _ (HCs.out _ HXc.out) (fun hHeld => ?_)
  clear hK K
  refine norm_ (a' := ?_) ?_ ?_
  rotate_left
  · show Act.put _ (some 88) _ = _
    simp only [Act.put, List.setIfInBounds_toArray, List.set_cons_zero, List.set_cons_succ, i64_w, i32_w]
    rfl
  refine one_ (i := 10) (N := some 90) #[true, true, true, true, true, true, true, true, true, true, true, false, false, false] rfl rfl (by kernel_rfl) (by decide) (fun K hK => ?_)
  refine goes_ (N := some 90) Tryz.func110 (by kernel_rfl) rfl #[.agg #[.int .i64 kd, .int .i64 vl, .string nm]] (by rfl) rfl rfl (by simp [Act.eval]) ?_
  refine (HNn.out wc).mono ?_
  rintro e we ⟨rfl, hXe⟩
  refine ⟨_, rfl, ?_⟩
  have HXe : Hid (Ext w4 we) := HXc.out.trans hXe
  refine hK.out _ _ (HCs.out _ HXe.out) (fun hHeld => ?_)
  clear hK K
  refine norm_ (a' := ?_) ?_ ?_
  rotate_left
  · show Act.put _ (some 90) _ = _
    simp only [Act.put, List.setIfInBounds_toArray, List.set_cons_zero, List.set_cons_succ, i64_w, i32_w]
    rfl
  refine pure_ (i := 11) (N := some 91) (v := ?_) (a' := ?_) #[true, true, true, true, true, true, true, true, true, true, true, true, false, false] rfl rfl (by kernel_rfl) (fun _ _ _ h => h) (Or.inl ⟨by rfl, ?_⟩) ?_ ?_
  rotate_left
  · intro w'
    go_simp
    with_reducible rfl
  rotate_left
  · simp only [Act.put, List.setIfInBounds_toArray, List.set_cons_zero, List.set_cons_succ, i64_w, i32_w]
    rfl
  refine one_ (i := 12) (N := some 92) #[true, true, true, true, true, true, true, true, true, true, true, true, true, false] rfl rfl (by kernel_rfl) (by decide) (fun K hK => ?_)
  refine goes_ (N := some 92) Tryz.func109 (by kernel_rfl) rfl #[.string s0, .bool (decide (((strong x0.node : Nat) : Int) < ((strong ⟨kd, vl, nm⟩ : Nat) : Int)))] (by rfl) rfl rfl (by simp [Act.eval]) ?_
  refine (HH0.out _ we).mono ?_
  rintro e wf ⟨rfl, rfl⟩
  refine ⟨_, rfl, ?_⟩
  refine hK.out _ _ (HCs.out _ HXe.out) (fun hHeld => ?_)
  clear hK K
  refine norm_ (a' := ?_) ?_ ?_
  rotate_left
  · show Act.put _ (some 92) _ = _
    simp only [Act.put, List.setIfInBounds_toArray, List.set_cons_zero, List.set_cons_succ, i64_w, i32_w]
    rfl
  refine pure_ (i := 13) (N := some 7) (v := ?_) (a' := ?_) #[true, true, true, true, true, true, true, true, true, true, true, true, true, true] rfl rfl (by kernel_rfl) (fun _ _ _ h => h) (Or.inl ⟨by rfl, ?_⟩) ?_ ?_
  rotate_left
  · intro w'
    go_simp
    with_reducible rfl
  rotate_left
  · simp only [Act.put, List.setIfInBounds_toArray, List.set_cons_zero, List.set_cons_succ, i64_w, i32_w]
    rfl
  refine done_ (by kernel_rfl) ?_
  clear hHeld Xd hXa hXb hXc hXe
  go_wp2_with fail
  have Xd : Ext we we.drew := (Ext.refl we).drew
  have HXw : Hid (Ext w4 we.drew) := HXe.out.trans Xd
  refine start_ (n := 14) (S := fun w' => w'.cell? ⟨w2.heap.size, 0, none⟩ = some (.int .i64 kd) ∧ w'.cell? ⟨w2.heap.size, 1, none⟩ = some (.int .i64 vl) ∧ w'.cell? ⟨w2.heap.size, 2, none⟩ = some (.string nm) ∧ w'.cell? ⟨g, 0, none⟩ = some (.slice p0 q0' r0) ∧ w'.cell? ⟨g, 1, none⟩ = some (.slice p1 q1' r1)) (ds := []) #[false, false, false, false, false, false, false, false, false, false, false, false, false, false] (by kernel_rfl) rfl rfl ?hS (fun hHeld => ?_)
  case hS => exact HCs.out _ HXw.out
  refine pure_ (i := 0) (N := some 93) (v := ?_) (a' := ?_) #[true, false, false, false, false, false, false, false, false, false, false, false, false, false] rfl rfl (by kernel_rfl) (fun _ _ _ h => h) (Or.inl ⟨by rfl, ?_⟩) ?_ ?_
  rotate_left
  · intro w'
    go_simp
    with_reducible rfl
  rotate_left
  · simp only [Act.put, List.setIfInBounds_toArray, List.set_cons_zero, List.set_cons_succ, i64_w, i32_w]
    rfl
  refine pure_ (i := 1) (N := some 94) (v := ?_) (a' := ?_) #[true, true, false, false, false, false, false, false, false, false, false, false, false, false] rfl rfl (by kernel_rfl) (fun _ _ _ h => h) (Or.inl ⟨by rfl, ?_⟩) ?_ ?_
  rotate_left
  · intro w'
    go_simp
    with_reducible rfl
  rotate_left
  · simp only [Act.put, List.setIfInBounds_toArray, List.set_cons_zero, List.set_cons_succ, i64_w, i32_w]
    rfl
  refine take_ (i := 2) (N := some 95) (v := ?_) (a' := ?_) #[true, true, true, false, false, false, false, false, false, false, false, false, false, false] rfl rfl (by kernel_rfl) (fun _ _ _ h => h) (Or.inl ⟨by rfl, ?_⟩) hHeld ?_ ?_
  rotate_left
  · rintro w' ⟨y0, y1, y2, y3, y4⟩
    go_simp
    with_reducible rfl
  rotate_left
  · simp only [Act.put, List.setIfInBounds_toArray, List.set_cons_zero, List.set_cons_succ, i64_w, i32_w]
    rfl
  refine pure_ (i := 4) (N := some 97) (v := ?_) (a' := ?_) #[true, true, true, false, true, false, false, false, false, false, false, false, false, false] rfl rfl (by kernel_rfl) (fun _ _ _ h => h) (Or.inl ⟨by rfl, ?_⟩) ?_ ?_
  rotate_left
  · intro w'
    go_simp
    with_reducible rfl
  rotate_left
  · simp only [Act.put, List.setIfInBounds_toArray, List.set_cons_zero, List.set_cons_succ, i64_w, i32_w]
    rfl
  refine pure_ (i := 5) (N := some 98) (v := ?_) (a' := ?_) #[true, true, true, false, true, true, false, false, false, false, false, false, false, false] rfl rfl (by kernel_rfl) (fun _ _ _ h => h) (Or.inl ⟨by rfl, ?_⟩) ?_ ?_
  rotate_left
  · intro w'
    go_simp
    with_reducible rfl
  rotate_left
  · simp only [Act.put, List.setIfInBounds_toArray, List.set_cons_zero, List.set_cons_succ, i64_w, i32_w]
    rfl
  refine take_ (i := 6) (N := some 99) (v := ?_) (a' := ?_) #[true, true, true, false, true, true, true, false, false, false, false, false, false, false] rfl rfl (by kernel_rfl) (fun _ _ _ h => h) (Or.inl ⟨by rfl, ?_⟩) hHeld ?_ ?_
  rotate_left
  · rintro w' ⟨y0, y1, y2, y3, y4⟩
    go_simp
    with_reducible rfl
  rotate_left
  · simp only [Act.put, List.setIfInBounds_toArray, List.set_cons_zero, List.set_cons_succ, i64_w, i32_w]
    rfl
  refine take_ (i := 9) (N := some 102) (v := ?_) (a' := ?_) #[true, true, true, false, true, true, true, false, false, true, false, false, false, false] rfl rfl (by kernel_rfl) (fun _ _ _ h => h) (Or.inl ⟨by rfl, ?_⟩) hHeld ?_ ?_
  rotate_left
  · rintro w' ⟨y0, y1, y2, y3, y4⟩
    go_simp
    with_reducible rfl
  rotate_left
  · simp only [Act.put, List.setIfInBounds_toArray, List.set_cons_zero, List.set_cons_succ, i64_w, i32_w]
    rfl
  generalize we.drew = wd at Xd HXw hHeld ⊢
  refine one_ (i := 3) (N := some 96) #[true, true, true, true, true, true, true, false, false, true, false, false, false, false] rfl rfl (by kernel_rfl) (by decide) (fun K hK => ?_)
  refine goes_ (N := some 96) Tryz.func61 (by kernel_rfl) rfl #[.slice p1 q1' r1] (by rfl) rfl rfl (by simp [Act.eval]) ?_
  refine (HS1.out wd HXw.out).mono ?_
  rintro e wa ⟨rfl, hXa⟩
  refine ⟨_, rfl, ?_⟩
  have HXa : Hid (Ext w4 wa) := HXw.out.trans hXa
  refine hK.out _ _ (HCs.out _ HXa.out) (fun hHeld => ?_)
  clear hK K
  refine norm_ (a' := ?_) ?_ ?_
  rotate_left
  · show Act.put _ (some 96) _ = _
    simp only [Act.put, List.setIfInBounds_toArray, List.set_cons_zero, List.set_cons_succ, i64_w, i32_w]
    rfl
  refine one_ (i := 7) (N := some 100) #[true, true, true, true, true, true, true, true, false, true, false, false, false, false] rfl rfl (by kernel_rfl) (by decide) (fun K hK => ?_)
  refine goes_ (N := some 100) Tryz.func107 (by kernel_rfl) rfl #[.slice p1 q1' r1] (by rfl) rfl rfl (by simp [Act.eval]) ?_
  refine (HG1.out wa HXa.out).mono ?_
  rintro e wb ⟨rfl, hXb⟩
  refine ⟨_, rfl, ?_⟩
  have HXb : Hid (Ext w4 wb) := HXa.out.trans hXb
  refine hK.out _ _ (HCs.out _ HXb.out) (fun hHeld => ?_)
  clear hK K
  refine norm_ (a' := ?_) ?_ ?_
  rotate_left
  · show Act.put _ (some 100) _ = _
    simp only [Act.put, List.setIfInBounds_toArray, List.set_cons_zero, List.set_cons_succ, i64_w, i32_w]
    rfl
  refine one_ (i := 8) (N := some 101) #[true, true, true, true, true, true, true, true, true, true, false, false, false, false] rfl rfl (by kernel_rfl) (by decide) (fun K hK => ?_)
  refine goes_ (N := some 101) Tryz.func110 (by kernel_rfl) rfl #[.agg #[.int .i64 x1.node.kind, .int .i64 x1.node.val, .string x1.node.name]] (by rfl) rfl rfl (by simp [Act.eval]) ?_
  refine (HN1.out wb).mono ?_
  rintro e wc ⟨rfl, hXc⟩
  refine ⟨_, rfl, ?_⟩
  have HXc : Hid (Ext w4 wc) := HXb.out.trans hXc
  refine hK.out _ _ (HCs.out _ HXc.out) (fun hHeld => ?_)
  clear hK K
  refine norm_ (a' := ?_) ?_ ?_
  rotate_left
  · show Act.put _ (some 101) _ = _
    simp only [Act.put, List.setIfInBounds_toArray, List.set_cons_zero, List.set_cons_succ, i64_w, i32_w]
    rfl
  refine one_ (i := 10) (N := some 103) #[true, true, true, true, true, true, true, true, true, true, true, false, false, false] rfl rfl (by kernel_rfl) (by decide) (fun K hK => ?_)
  refine goes_ (N := some 103) Tryz.func110 (by kernel_rfl) rfl #[.agg #[.int .i64 kd, .int .i64 vl, .string nm]] (by rfl) rfl rfl (by simp [Act.eval]) ?_
  refine (HNn.out wc).mono ?_
  rintro e we ⟨rfl, hXe⟩
  refine ⟨_, rfl, ?_⟩
  have HXe : Hid (Ext w4 we) := HXc.out.trans hXe
  refine hK.out _ _ (HCs.out _ HXe.out) (fun hHeld => ?_)
  clear hK K
  refine norm_ (a' := ?_) ?_ ?_
  rotate_left
  · show Act.put _ (some 103) _ = _
    simp only [Act.put, List.setIfInBounds_toArray, List.set_cons_zero, List.set_cons_succ, i64_w, i32_w]
    rfl
  refine pure_ (i := 11) (N := some 104) (v := ?_) (a' := ?_) #[true, true, true, true, true, true, true, true, true, true, true, true, false, false] rfl rfl (by kernel_rfl) (fun _ _ _ h => h) (Or.inl ⟨by rfl, ?_⟩) ?_ ?_
  rotate_left
  · intro w'
    go_simp
    with_reducible rfl
  rotate_left
  · simp only [Act.put, List.setIfInBounds_toArray, List.set_cons_zero, List.set_cons_succ, i64_w, i32_w]
    rfl
  refine one_ (i := 12) (N := some 105) #[true, true, true, true, true, true, true, true, true, true, true, true, true, false] rfl rfl (by kernel_rfl) (by decide) (fun K hK => ?_)
  refine goes_ (N := some 105) Tryz.func109 (by kernel_rfl) rfl #[.string s1, .bool (decide (((strong x1.node : Nat) : Int) ≤ ((strong ⟨kd, vl, nm⟩ : Nat) : Int)))] (by rfl) rfl rfl (by simp [Act.eval]) ?_
  refine (HH1.out _ we).mono ?_
  rintro e wf ⟨rfl, rfl⟩
  refine ⟨_, rfl, ?_⟩
  refine hK.out _ _ (HCs.out _ HXe.out) (fun hHeld => ?_)
  clear hK K
  refine norm_ (a' := ?_) ?_ ?_
  rotate_left
  · show Act.put _ (some 105) _ = _
    simp only [Act.put, List.setIfInBounds_toArray, List.set_cons_zero, List.set_cons_succ, i64_w, i32_w]
    rfl
  refine pure_ (i := 13) (N := some 8) (v := ?_) (a' := ?_) #[true, true, true, true, true, true, true, true, true, true, true, true, true, true] rfl rfl (by kernel_rfl) (fun _ _ _ h => h) (Or.inl ⟨by rfl, ?_⟩) ?_ ?_
  rotate_left
  · intro w'
    go_simp
    with_reducible rfl
  rotate_left
  · simp only [Act.put, List.setIfInBounds_toArray, List.set_cons_zero, List.set_cons_succ, i64_w, i32_w]
    rfl
  refine done_ (by kernel_rfl) ?_
  clear hHeld Xd hXa hXb hXc hXe
  simp only [Int.ofNat_lt, Int.ofNat_le] at HA HB ⊢
  rw [← HA.out, ← HB.out]
  have z1 : ¬ 9223372036854775807 < A.size + 1 := by omega
  have z2 : ¬ 9223372036854775807 < A.size + 1 + W.size := by omega
  have z3 : ¬ 9223372036854775807 < A.size + 1 + W.size + 1 := by omega
  have z4 : ¬ 9223372036854775807 < A.size + 1 + W.size + 1 + B.size := by omega
  obtain ⟨y0, y1, y2, y3, y4⟩ := HCs.out _ HXe.out
  go_wp2_with fail
  refine (HW.out we).mono ?_
  rintro e wg ⟨rfl, hXg⟩
  have HXz := Lib.hid (HX4.out.trans (HXe.out.trans hXg))
  clear hXg y0 y1 y2 y3 y4
  go_wp2
  go_ret
  exact ⟨by show Ending.returned (Value.string _) = _; rw [HRr.out]; rfl, HXz.out⟩
end Go.Proofs.YtolbngbedncemaaGreatDoor
