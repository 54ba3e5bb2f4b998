/- The reference's l2Digits yields the digits, exactly. -/
import Derived.Test.YtolbngbedncemaaGreatDoorMdPrint
import Derived.Test.YtolbngbedncemaaGreatDoorSpecTree
import Derived.Test.YtolbngbedncemaaGreatDoorPtr
import Derived.Test.YtolbngbedncemaaGreatDoorWLast
set_option linter.unusedVariables false
set_option linter.unusedSimpArgs false
namespace Go.Proofs.YtolbngbedncemaaGreatDoor
open Go Go.RowKit Md Go.Proofs.YtolbngbedncemaaGreatDoorW.PrintLast

def str (l : List UInt8) : ByteArray := ⟨l.toArray⟩
theorem str_append (a b : List UInt8) : str a ++ str b = str (a ++ b) := by
  unfold str
  apply ByteArray.ext
  simp
theorem num_str (k : Nat) (h : k < 256) : strOfNums [(k : Int)] = str [UInt8.ofNat k] := by
  unfold strOfNums str
  simp
theorem one_dig {x : Int} (h0 : 0 ≤ x) (h1 : x < 10) : strOfNums [48 + x] = str (digN x.toNat) := by
  obtain ⟨k, rfl⟩ : ∃ k : Nat, x = k := ⟨x.toNat, by omega⟩
  rw [show (48 : Int) + (k : Int) = ((48 + k : Nat) : Int) by omega, num_str _ (by omega), Int.toNat_natCast, digN_small (by omega)]
theorem more_dig {x : Int} (h0 : 0 ≤ x) (h1 : ¬ x < 10) : str (digN (x / 10).toNat) ++ strOfNums [IntKind.u8.wrap (wrap64 (48 + x.tmod 10))] = str (digN x.toNat) := by
  obtain ⟨k, rfl⟩ : ∃ k : Nat, x = k := ⟨x.toNat, by omega⟩
  have e1 : (k : Int).tmod 10 = ((k % 10 : Nat) : Int) := by rw [Int.tmod_eq_emod_of_nonneg h0]; rfl
  have e2 : wrap64 (48 + (k : Int).tmod 10) = ((48 + k % 10 : Nat) : Int) := by rw [e1]; unfold wrap64; omega
  have e3 : IntKind.u8.wrap (((48 + k % 10 : Nat) : Int)) = ((48 + k % 10 : Nat) : Int) := by
    have : k % 10 < 10 := Nat.mod_lt _ (by omega)
    rw [IntKind.wrap_u8]
    omega
  rw [e2, e3, num_str _ (by omega), Int.toNat_natCast, digN_big (n := k) (by omega), str_append]
  rfl
theorem conv_atP (w : World) (g : Nat) (y : Int) (h : w.cell? ⟨g, 0, none⟩ = some (.int .u8 y)) : (convert 27 9 (.slice (some ⟨g, 0, none⟩) 1 1)).run Tryz.prog w = .ok (.string (strOfNums [y])) w :=
  run_convert_bytes_arg w 27 5 Tryz.underlying27 Tryz.underlying5 g 0 1 1 [y] rfl (fun i hi => by
    obtain rfl : i = 0 := by omega
    exact h) _ Tryz.underlying9
theorem conv_newP (w : World) (y : Int) : (convert 27 9 (.slice (some ⟨w.heap.size, 0, none⟩) 1 1)).run Tryz.prog (w.alloc (.cells #[.int .u8 y] 5)) = .ok (.string (strOfNums [y])) (w.alloc (.cells #[.int .u8 y] 5)) :=
  conv_atP _ _ y (((Blk.alloc w _ _).cell 0).trans rfl)
set_option maxRecDepth 1000000 in
set_option maxHeartbeats 4000000 in
theorem s_l2DigitsN : ∀ (n : Nat) (x : Int) (w : World), 0 ≤ x → x < 10 ^ (n + 1) → n ≤ 18 → x ≤ 9223372036854775807 → Calls Tryz.prog 30 #[.int .i64 x] w (Gives (.string (str (digN x.toNat))) w) := by
  intro n
  induction n with
  | zero =>
    intro x w h0 h1 _ _
    have h1 : x < 10 := by simpa using h1
    have hcv := conv_newP
    go_enter Tryz.func30, Tryz.ntmps30
    go_wp2
    go_ret
    exact ⟨by show Ending.returned (Value.string _) = _; rw [one_dig h0 h1], (Ext.refl w).alloc _⟩
  | succ n ih =>
    intro x w h0 h1 hn hxm
    have hcv := conv_newP
    by_cases h10 : x < 10
    · go_enter Tryz.func30, Tryz.ntmps30
      go_wp2
      go_ret
      exact ⟨by show Ending.returned (Value.string _) = _; rw [one_dig h0 h10], (Ext.refl w).alloc _⟩
    · have HI : Hid (∀ w', Calls Tryz.prog 30 #[.int .i64 (x / 10)] w' (Gives (.string (str (digN (x / 10).toNat))) w')) := fun w' => ih (x / 10) w' (by omega) (by rw [Int.pow_succ] at h1; omega) (by omega) (by omega)
      clear ih
      clear h1
      go_enter Tryz.func30, Tryz.ntmps30
      go_wp2_with fail
      have Xd : Ext w w.drew := (Ext.refl w).drew
      have hq : wrap64 (x.tdiv 10) = x / 10 := by
        rw [Int.tdiv_eq_ediv_of_nonneg h0]
        unfold wrap64
        omega
      have hone : ∀ y, (strOfNums [y]).size = 1 := fun y => strOfNums_size [y]
      have hlen : (digN (x / 10).toNat).length ≤ 19 := digN_len 18 _ (by omega)
      have Hfin := Lib.hid (more_dig h0 (by omega))
      refine start_ (n := 11) (S := fun _ => True) (ds := []) #[false, false, false, false, false, false, false, false, false, false, false] (by kernel_rfl) rfl rfl ?hS (fun hHeld => ?_)
      case hS => trivial
      refine pure_ (i := 0) (N := some 16) (v := ?_) (a' := ?_) #[true, false, false, false, false, false, false, false, false, false, false] rfl rfl (by kernel_rfl) (fun _ _ _ h => h) (Or.inl ⟨by rfl, ?_⟩) ?_ ?_
      rotate_left
      · intro w'
        go_simp
        with_reducible rfl
      rotate_left
      · simp only [Act.put, List.setIfInBounds_toArray, List.set_cons_zero, List.set_cons_succ, i64_w, i32_w]
        rfl
      refine pure_ (i := 1) (N := some 17) (v := ?_) (a' := ?_) #[true, true, false, false, false, false, false, false, false, false, false] rfl rfl (by kernel_rfl) (fun _ _ _ h => h) (Or.inl ⟨by rfl, ?_⟩) ?_ ?_
      rotate_left
      · intro w'
        go_simp
        with_reducible rfl
      rotate_left
      · simp only [Act.put, List.setIfInBounds_toArray, List.set_cons_zero, List.set_cons_succ, i64_w, i32_w]
        rfl
      refine pure_ (i := 3) (N := some 19) (v := ?_) (a' := ?_) #[true, true, false, true, false, false, false, false, false, false, false] rfl rfl (by kernel_rfl) (fun _ _ _ h => h) (Or.inl ⟨by rfl, ?_⟩) ?_ ?_
      rotate_left
      · intro w'
        go_simp
        with_reducible rfl
      rotate_left
      · simp only [Act.put, List.setIfInBounds_toArray, List.set_cons_zero, List.set_cons_succ, i64_w, i32_w]
        rfl
      refine pure_ (i := 4) (N := some 20) (v := ?_) (a' := ?_) #[true, true, false, true, true, false, false, false, false, false, false] rfl rfl (by kernel_rfl) (fun _ _ _ h => h) (Or.inl ⟨by rfl, ?_⟩) ?_ ?_
      rotate_left
      · intro w'
        go_simp
        with_reducible rfl
      rotate_left
      · simp only [Act.put, List.setIfInBounds_toArray, List.set_cons_zero, List.set_cons_succ, i64_w, i32_w]
        rfl
      refine pure_ (i := 5) (N := some 21) (v := ?_) (a' := ?_) #[true, true, false, true, true, true, false, false, false, false, false] rfl rfl (by kernel_rfl) (fun _ _ _ h => h) (Or.inl ⟨by rfl, ?_⟩) ?_ ?_
      rotate_left
      · intro w'
        go_simp
        with_reducible rfl
      rotate_left
      · simp only [Act.put, List.setIfInBounds_toArray, List.set_cons_zero, List.set_cons_succ, i64_w, i32_w]
        rfl
      refine pure_ (i := 6) (N := some 22) (v := ?_) (a' := ?_) #[true, true, false, true, true, true, true, false, false, false, false] rfl rfl (by kernel_rfl) (fun _ _ _ h => h) (Or.inl ⟨by rfl, ?_⟩) ?_ ?_
      rotate_left
      · intro w'
        go_simp
        with_reducible rfl
      rotate_left
      · simp only [Act.put, List.setIfInBounds_toArray, List.set_cons_zero, List.set_cons_succ, i64_w, i32_w]
        rfl
      generalize w.drew = wd at Xd hHeld ⊢
      refine two_ (i := 2) (j := 7) (Ni := some 18) (Nj := some 23) #[true, true, true, true, true, true, true, false, false, false, false] #[true, true, false, true, true, true, true, true, false, false, false] rfl rfl rfl rfl (by kernel_rfl) (by simp) (by simp) (fun K hK => ?_) (fun K hK => ?_)
      · skip
        refine goes_ (N := some 18) Tryz.func30 (by kernel_rfl) rfl #[.int .i64 (x / 10)] (by rfl) rfl rfl (by simp [Act.eval, hq]) ?_
        refine (HI.out _).mono ?_
        rintro e w2 ⟨rfl, hX2⟩
        obtain ⟨s, hs0⟩ : ∃ s, s = str (digN (x / 10).toNat) := ⟨_, rfl⟩
        rw [← hs0] at Hfin ⊢
        have hs : s.size ≤ 19 := by rw [hs0]; simpa [str, ByteArray.size] using hlen
        clear hs0
        refine ⟨_, rfl, ?_⟩
        refine hK.out _ _ trivial (fun hHeld => ?_)
        clear hK K
        refine norm_ (a' := ?_) ?_ ?_
        rotate_left
        · show Act.put _ (some 18) _ = _
          simp only [Act.put, List.setIfInBounds_toArray, List.set_cons_zero, List.set_cons_succ, i64_w, i32_w]
          rfl
        refine one_ (i := 7) (N := some 23) #[true, true, true, true, true, true, true, true, false, false, false] rfl rfl (by kernel_rfl) (by decide) (fun K hK => ?_)
        refine value_ (w1 := ?_) (v := ?_) (by rfl) rfl ?_ ?_
        rotate_left 2
        · go_simp
          constructor
          · rfl
          · rfl
        refine hK.out _ _ trivial (fun hHeld => ?_)
        clear hK K
        refine norm_ (a' := ?_) ?_ ?_
        rotate_left
        · show Act.put _ (some 23) _ = _
          simp only [Act.put, List.setIfInBounds_toArray, List.set_cons_zero, List.set_cons_succ, i64_w, i32_w]
          rfl
        refine one_ (i := 8) (N := some 24) #[true, true, true, true, true, true, true, true, true, false, false] rfl rfl (by kernel_rfl) (by decide) (fun K hK => ?_)
        refine value_ (w1 := ?_) (v := ?_) (by rfl) rfl ?_ ?_
        rotate_left 2
        · go_simp
          constructor
          · rfl
          · rfl
        refine hK.out _ _ trivial (fun hHeld => ?_)
        clear hK K
        refine norm_ (a' := ?_) ?_ ?_
        rotate_left
        · show Act.put _ (some 24) _ = _
          simp only [Act.put, List.setIfInBounds_toArray, List.set_cons_zero, List.set_cons_succ, i64_w, i32_w]
          rfl
        have hss : ¬ 9223372036854775807 < s.size + 1 := by omega
        refine pure_ (i := 9) (N := some 25) (v := ?_) (a' := ?_) #[true, true, true, true, true, true, true, true, true, true, false] rfl rfl (by kernel_rfl) (fun _ _ _ h => h) (Or.inl ⟨by rfl, ?_⟩) ?_ ?_
        rotate_left
        · intro w'
          go_simp
          with_reducible rfl
        rotate_left
        · simp only [Act.put, List.setIfInBounds_toArray, List.set_cons_zero, List.set_cons_succ, i64_w, i32_w]
          rfl
        refine pure_ (i := 10) (N := some 2) (v := ?_) (a' := ?_) #[true, true, true, true, true, true, true, true, true, true, true] rfl rfl (by kernel_rfl) (fun _ _ _ h => h) (Or.inl ⟨by rfl, ?_⟩) ?_ ?_
        rotate_left
        · intro w'
          go_simp
          with_reducible rfl
        rotate_left
        · simp only [Act.put, List.setIfInBounds_toArray, List.set_cons_zero, List.set_cons_succ, i64_w, i32_w]
          rfl
        refine done_ (by kernel_rfl) ?_
        clear hHeld
        go_wp2
        go_ret
        exact ⟨by show Ending.returned (Value.string _) = _; rw [Hfin.out], ((Xd.trans hX2).alloc _)⟩
      · skip
        refine value_ (w1 := ?_) (v := ?_) (by rfl) rfl ?_ ?_
        rotate_left 2
        · go_simp
          constructor
          · rfl
          · rfl
        refine hK.out _ _ trivial (fun hHeld => ?_)
        clear hK K
        refine norm_ (a' := ?_) ?_ ?_
        rotate_left
        · show Act.put _ (some 23) _ = _
          simp only [Act.put, List.setIfInBounds_toArray, List.set_cons_zero, List.set_cons_succ, i64_w, i32_w]
          rfl
        refine two_ (i := 2) (j := 8) (Ni := some 18) (Nj := some 24) #[true, true, true, true, true, true, true, true, false, false, false] #[true, true, false, true, true, true, true, true, true, false, false] rfl rfl rfl rfl (by kernel_rfl) (by simp) (by simp) (fun K hK => ?_) (fun K hK => ?_)
        · skip
          have hc := ((Blk.alloc wd 5 #[.int .u8 (IntKind.u8.wrap (wrap64 (48 + x.tmod 10)))]).cell 0).trans (show _ = some (Value.int .u8 (IntKind.u8.wrap (wrap64 (48 + x.tmod 10)))) from rfl)
          refine goes_ (N := some 18) Tryz.func30 (by kernel_rfl) rfl #[.int .i64 (x / 10)] (by rfl) rfl rfl (by simp [Act.eval, hq]) ?_
          refine (HI.out _).mono ?_
          rintro e w2 ⟨rfl, hX2⟩
          obtain ⟨s, hs0⟩ : ∃ s, s = str (digN (x / 10).toNat) := ⟨_, rfl⟩
          rw [← hs0] at Hfin ⊢
          have hs : s.size ≤ 19 := by rw [hs0]; simpa [str, ByteArray.size] using hlen
          clear hs0
          refine ⟨_, rfl, ?_⟩
          refine hK.out _ _ trivial (fun hHeld => ?_)
          clear hK K
          refine norm_ (a' := ?_) ?_ ?_
          rotate_left
          · show Act.put _ (some 18) _ = _
            simp only [Act.put, List.setIfInBounds_toArray, List.set_cons_zero, List.set_cons_succ, i64_w, i32_w]
            rfl
          have hcv2 := conv_atP w2 _ _ (hX2.cell hc)
          refine one_ (i := 8) (N := some 24) #[true, true, true, true, true, true, true, true, true, false, false] rfl rfl (by kernel_rfl) (by decide) (fun K hK => ?_)
          refine value_ (w1 := ?_) (v := ?_) (by rfl) rfl ?_ ?_
          rotate_left 2
          · go_simp
            constructor
            · rfl
            · rfl
          refine hK.out _ _ trivial (fun hHeld => ?_)
          clear hK K
          refine norm_ (a' := ?_) ?_ ?_
          rotate_left
          · show Act.put _ (some 24) _ = _
            simp only [Act.put, List.setIfInBounds_toArray, List.set_cons_zero, List.set_cons_succ, i64_w, i32_w]
            rfl
          have hss : ¬ 9223372036854775807 < s.size + 1 := by omega
          refine pure_ (i := 9) (N := some 25) (v := ?_) (a' := ?_) #[true, true, true, true, true, true, true, true, true, true, false] rfl rfl (by kernel_rfl) (fun _ _ _ h => h) (Or.inl ⟨by rfl, ?_⟩) ?_ ?_
          rotate_left
          · intro w'
            go_simp
            with_reducible rfl
          rotate_left
          · simp only [Act.put, List.setIfInBounds_toArray, List.set_cons_zero, List.set_cons_succ, i64_w, i32_w]
            rfl
          refine pure_ (i := 10) (N := some 2) (v := ?_) (a' := ?_) #[true, true, true, true, true, true, true, true, true, true, true] rfl rfl (by kernel_rfl) (fun _ _ _ h => h) (Or.inl ⟨by rfl, ?_⟩) ?_ ?_
          rotate_left
          · intro w'
            go_simp
            with_reducible rfl
          rotate_left
          · simp only [Act.put, List.setIfInBounds_toArray, List.set_cons_zero, List.set_cons_succ, i64_w, i32_w]
            rfl
          refine done_ (by kernel_rfl) ?_
          clear hHeld
          go_wp2
          go_ret
          exact ⟨by show Ending.returned (Value.string _) = _; rw [Hfin.out], (Ext.trans (Xd.alloc _) hX2)⟩
        · skip
          refine value_ (w1 := ?_) (v := ?_) (by rfl) rfl ?_ ?_
          rotate_left 2
          · go_simp
            constructor
            · rfl
            · rfl
          refine hK.out _ _ trivial (fun hHeld => ?_)
          clear hK K
          refine norm_ (a' := ?_) ?_ ?_
          rotate_left
          · show Act.put _ (some 24) _ = _
            simp only [Act.put, List.setIfInBounds_toArray, List.set_cons_zero, List.set_cons_succ, i64_w, i32_w]
            rfl
          refine one_ (i := 2) (N := some 18) #[true, true, true, true, true, true, true, true, true, false, false] rfl rfl (by kernel_rfl) (by decide) (fun K hK => ?_)
          refine goes_ (N := some 18) Tryz.func30 (by kernel_rfl) rfl #[.int .i64 (x / 10)] (by rfl) rfl rfl (by simp [Act.eval, hq]) ?_
          refine (HI.out _).mono ?_
          rintro e w2 ⟨rfl, hX2⟩
          obtain ⟨s, hs0⟩ : ∃ s, s = str (digN (x / 10).toNat) := ⟨_, rfl⟩
          rw [← hs0] at Hfin ⊢
          have hs : s.size ≤ 19 := by rw [hs0]; simpa [str, ByteArray.size] using hlen
          clear hs0
          refine ⟨_, rfl, ?_⟩
          refine hK.out _ _ trivial (fun hHeld => ?_)
          clear hK K
          refine norm_ (a' := ?_) ?_ ?_
          rotate_left
          · show Act.put _ (some 18) _ = _
            simp only [Act.put, List.setIfInBounds_toArray, List.set_cons_zero, List.set_cons_succ, i64_w, i32_w]
            rfl
          have hss : ¬ 9223372036854775807 < s.size + 1 := by omega
          refine pure_ (i := 9) (N := some 25) (v := ?_) (a' := ?_) #[true, true, true, true, true, true, true, true, true, true, false] rfl rfl (by kernel_rfl) (fun _ _ _ h => h) (Or.inl ⟨by rfl, ?_⟩) ?_ ?_
          rotate_left
          · intro w'
            go_simp
            with_reducible rfl
          rotate_left
          · simp only [Act.put, List.setIfInBounds_toArray, List.set_cons_zero, List.set_cons_succ, i64_w, i32_w]
            rfl
          refine pure_ (i := 10) (N := some 2) (v := ?_) (a' := ?_) #[true, true, true, true, true, true, true, true, true, true, true] rfl rfl (by kernel_rfl) (fun _ _ _ h => h) (Or.inl ⟨by rfl, ?_⟩) ?_ ?_
          rotate_left
          · intro w'
            go_simp
            with_reducible rfl
          rotate_left
          · simp only [Act.put, List.setIfInBounds_toArray, List.set_cons_zero, List.set_cons_succ, i64_w, i32_w]
            rfl
          refine done_ (by kernel_rfl) ?_
          clear hHeld
          go_wp2
          go_ret
          exact ⟨by show Ending.returned (Value.string _) = _; rw [Hfin.out], (Ext.trans (Xd.alloc _) hX2)⟩
theorem dig_neg {x : Int} (h : x < 0) : str [45] ++ str (digN (-x).toNat) = str (dig x) := by
  rw [dig, if_pos h, str_append]
  rfl
set_option maxRecDepth 1000000 in
theorem s_l2Digits (x : Int) (w : World) (h : -1000000000000 ≤ x ∧ x ≤ 1000000000000) : Calls Tryz.prog 30 #[.int .i64 x] w (Gives (.string (str (dig x))) w) := by
  have h14 : (10 : Int) ^ (13 + 1) = 100000000000000 := by decide
  by_cases hx : x < 0
  · have HI := Lib.hid (s_l2DigitsN 13 (-x) w (by omega) (by omega) (by omega) (by omega))
    have Hfin := Lib.hid (dig_neg hx)
    have hl : (digN (-x).toNat).length ≤ 14 := digN_len 13 _ (by omega)
    obtain ⟨s, hs0⟩ : ∃ s, s = str (digN (-x).toNat) := ⟨_, rfl⟩
    rw [← hs0] at Hfin HI
    have hs : s.size ≤ 14 := by rw [hs0]; simpa [str, ByteArray.size] using hl
    have hq : wrap64 (-x) = -x := by unfold wrap64; omega
    clear hs0 hl h14
    go_enter Tryz.func30, Tryz.ntmps30
    go_wp2_with fail
    refine HI.out.mono ?_
    rintro e w2 ⟨rfl, hX⟩
    have hss : ¬ 9223372036854775807 < 1 + s.size := by omega
    have HX := Lib.hid hX
    clear hX HI
    go_wp2
    go_ret
    exact ⟨by show Ending.returned (Value.string _) = _; rw [← Hfin.out]; rfl, HX.out⟩
  · have := s_l2DigitsN 13 x w (by omega) (by omega) (by omega) (by omega)
    rw [dig, if_neg hx]
    exact this
end Go.Proofs.YtolbngbedncemaaGreatDoor
