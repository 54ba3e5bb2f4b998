/- The reference's words on names: l2First, l2Later, l2Reserved, l2Name answer as the model; no condition but a bound on the length. -/
import Derived.Test.YtolbngbedncemaaGreatDoorRep
set_option linter.unusedVariables false
set_option linter.unusedSimpArgs false
namespace Go.Proofs.YtolbngbedncemaaGreatDoor
open Go Go.RowKit Md

/-! ### Strings as lists of bytes -/
theorem toList_loop (s : ByteArray) : ∀ n i r, s.size - i = n → ByteArray.toList.loop s i r = r.reverse ++ s.data.toList.drop i := by
  intro n
  induction n with
  | zero =>
    intro i r h
    rw [ByteArray.toList.loop, if_neg (by omega), List.drop_eq_nil_of_le (by simp; change s.size ≤ i; omega), List.append_nil]
  | succ n ih =>
    intro i r h
    rw [ByteArray.toList.loop, if_pos (by omega), ih _ _ (by omega)]
    have hi : i < s.data.toList.length := by simp; change i < s.size; omega
    rw [List.drop_eq_getElem_cons hi]
    have : s.get! i = s.data.toList[i] := by
      cases s with | mk d =>
      simp [ByteArray.get!] 
      simp at hi
      rw [getElem!_pos d i hi]
    rw [this]; simp
theorem toList_eq (s : ByteArray) : s.toList = s.data.toList := by
  rw [ByteArray.toList, toList_loop s s.size 0 [] (by omega)]; simp
theorem toList_nil (s : ByteArray) : (s.toList == []) = (s.size == 0) := by
  rw [toList_eq]
  cases s with | mk d => 
  rw [Bool.eq_iff_iff, beq_iff_eq, beq_iff_eq]; simp [ByteArray.size]
theorem toList_inj {s t : ByteArray} (h : s.toList = t.toList) : s = t := by
  rw [toList_eq, toList_eq] at h
  cases s; cases t; congr 1; exact Array.toList_inj.1 h

theorem s_l2First (c : Nat) (w : World) : Calls Tryz.prog 80 #[.int .u8 c] w (Same (.bool (isLetter c)) w) := by
  go_enter Tryz.func80, Tryz.ntmps80
  by_cases h1 : 97 ≤ c <;> by_cases h2 : c ≤ 122 <;> by_cases h3 : c = 95 <;> first | omega | skip
  all_goals go_wp2
  all_goals go_ret
  all_goals exact Same.bool (by unfold isLetter; first | (simp; omega) | (simp [*]; done) | (rw [Bool.eq_iff_iff]; simp; omega))
theorem s_l2Later (c : Nat) (w : World) : Calls Tryz.prog 81 #[.int .u8 c] w (Same (.bool (isLetter c || isDigit c)) w) := by
  go_enter Tryz.func81, Tryz.ntmps81
  go_wp2_with fail
  refine (s_l2First _ _).mono ?_; rintro e w' ⟨rfl, rfl⟩
  cases hL : isLetter c
  · by_cases h1 : 48 ≤ c <;> by_cases h2 : c ≤ 57 <;> first | omega | skip
    all_goals go_wp2
    all_goals go_ret
    all_goals exact Same.bool (by unfold isDigit; simp [*] <;> omega)
  · go_wp2
    go_ret
    exact Same.bool (by simp [hL])
theorem s_l2Reserved (s : ByteArray) (w : World) : Calls Tryz.prog 101 #[.string s] w (Same (.bool (isReserved s)) w) := by
  go_enter Tryz.func101, Tryz.ntmps101
  go_wp2
  all_goals go_ret
  all_goals exact Same.bool (by first | (simp [isReserved, resL, *]; done) | (rw [Bool.eq_iff_iff]; simp [isReserved, resL, *]))

theorem isName_eq (s : ByteArray) : isName s = (decide (1 ≤ s.size) && decide (s.size ≤ 20) && isLetter (bAt s 0) && !isReserved s && (List.range s.size).all fun i => isLetter (bAt s i) || isDigit (bAt s i)) := rfl
theorem bAt_lt (s : ByteArray) (i : Nat) : bAt s i < 256 := by
  unfold bAt
  split
  · exact UInt8.toNat_lt _
  · omega
theorem bAt_get (s : ByteArray) (i : Nat) (h : i < s.size) : (s[i]'h).toNat = bAt s i := by unfold bAt; rw [dif_pos h]

theorem s_l2Name (s : ByteArray) (w : World) (hs : s.size ≤ maxLen) : Calls Tryz.prog 55 #[.string s] w (Same (.bool (isName s)) w) := by
  unfold maxLen at hs
  go_enter Tryz.func55, Tryz.ntmps55
  by_cases h1 : s.size < 1
  · go_wp2
    go_ret
    exact Same.bool (by rw [isName_eq, decide_eq_false (by omega)]; rfl)
  · by_cases h2 : 20 < s.size
    · go_wp2
      go_ret
      exact Same.bool (by rw [isName_eq, decide_eq_true (show 1 ≤ s.size by omega), decide_eq_false (show ¬ s.size ≤ 20 by omega)]; rfl)
    · go_wp2_with fail
      rw [bAt_get s 0 (by omega)]
      refine (s_l2First _ _).mono ?_; rintro e w' ⟨rfl, rfl⟩
      cases hF : isLetter (bAt s 0)
      · go_wp2
        go_ret
        exact Same.bool (by rw [isName_eq, hF, Bool.and_false]; rfl)
      · go_wp2_with fail
        refine (s_l2Reserved s _).mono ?_; rintro e w' ⟨rfl, rfl⟩
        cases hR : isReserved s
        · have hN : isName s = (List.range s.size).all fun i => isLetter (bAt s i) || isDigit (bAt s i) := by
            rw [isName_eq, hF, hR, decide_eq_true (show 1 ≤ s.size by omega), decide_eq_true (show s.size ≤ 20 by omega)]; rfl
          have HN := Lib.hid hN
          clear hN
          go_wp2
          go_loopw [3] (fun i wr => ∃ k : Nat, k ≤ s.size ∧ i = .int .i64 k ∧ Hid (∀ j, j < k → (isLetter (bAt s j) || isDigit (bAt s j)) = true) ∧ w = wr) (fun i _ => s.size - (intOf i).toNat)
          case atStart => exact ⟨0, Nat.zero_le _, rfl, fun j hj => absurd hj (by omega), rfl⟩
          case round =>
            obtain ⟨k, hk, rfl, hA, rfl⟩ := hrel
            by_cases hlt : k < s.size
            · have g0 : (0 : Int) ≤ (k : Int) := by omega
              have g1 : (k : Int) < (s.size : Int) := by omega
              go_wp2_with fail
              rw [bAt_get s k hlt]
              refine (s_l2Later _ _).mono ?_; rintro e w' ⟨rfl, rfl⟩
              cases hL : (isLetter (bAt s k) || isDigit (bAt s k))
              · go_wp2
                go_ret
                exact Same.bool (by
                  rw [HN.out]
                  exact (List.all_eq_false.2 ⟨k, List.mem_range.2 hlt, by rw [hL]; simp⟩).symm)
              · go_wp2
                go_roundw
                case rel => exact ⟨k + 1, by omega, by go_num, fun j hj => by
                  by_cases hjk : j = k
                  · rw [hjk]; exact hL
                  · exact hA.out j (by omega), trivial⟩
                case measure => simp [intOf]; omega
            · go_wp2
              go_ret
              exact Same.bool (by
                rw [HN.out]
                exact (List.all_eq_true.2 fun j hj => hA.out j (by have := List.mem_range.1 hj; omega)).symm)
        · go_wp2
          go_ret
          exact Same.bool (by rw [isName_eq, hR, Bool.not_true, Bool.and_false]; rfl)
end Go.Proofs.YtolbngbedncemaaGreatDoor
