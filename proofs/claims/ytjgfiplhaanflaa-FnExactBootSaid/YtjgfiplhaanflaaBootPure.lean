/- What the print's functions of FnExactBoot come to; plain lists and numbers, no program in sight. -/
import Derived.Test.YtjgfiplhaanflaaPFnExactBootx3
import Derived.Test.YtjgfiplhaanflaaPFnExactBootx4
import Derived.Test.YtjgfiplhaanflaaBootA
set_option linter.unusedVariables false
set_option linter.unusedSimpArgs false
namespace Go.Proofs.Ytjgfiplhaanflaa.PFnExactBoot
open Go.RowKit Go.Proofs.YtjgfiplhaanflaaW.PrintWords Go.Proofs.YtjgfiplhaanflaaW.PrintLast Go.Proofs.YtjgfiplhaanflaaW.PrintMore

theorem wrap_in {i : Int} (h0 : -1 ≤ i) (h : i < 140737488355328) : wrap64 (i + 1) = i + 1 := by unfold wrap64; omega
theorem rd_set_ne {l : List Int} {i j v : Int} (h0 : 0 ≤ j) (h : j < i) : rd (l.set i.toNat v) j = rd l j := by
  unfold rd
  rw [List.getD_eq_getElem?_getD, List.getD_eq_getElem?_getD, List.getElem?_set, if_neg (by omega)]
theorem rd_set_eq {l : List Int} {i v : Int} (h0 : 0 ≤ i) (h : i < l.length) : rd (l.set i.toNat v) i = v := by
  unfold rd
  rw [List.getD_eq_getElem?_getD, List.getElem?_set_self (by omega)]
  rfl

theorem toUint32S_loop (l : List Int) (hl : l.length ≤ 1048576) (d : Nat) : ∀ (k : Nat) (o : List Int) (i : Int), 0 ≤ i → (l.length : Int) - i = d → d < k → o.length = l.length → o.take i.toNat = l.take i.toNat →
    laws_toUint32S.l0 k l o i = some l := by
  induction d with
  | zero =>
    intro k o i h0 hd hk ho ht
    obtain ⟨k, rfl⟩ : ∃ m, k = m + 1 := ⟨k - 1, by omega⟩
    simp only [laws_toUint32S.l0]
    rw [if_neg (by omega)]
    rw [List.take_of_length_le (by omega), List.take_of_length_le (by omega)] at ht
    rw [ht]
  | succ d ih =>
    intro k o i h0 hd hk ho ht
    obtain ⟨k, rfl⟩ : ∃ m, k = m + 1 := ⟨k - 1, by omega⟩
    simp only [laws_toUint32S.l0]
    rw [if_pos (by omega), if_pos h0, if_pos (by omega), wrap_in (by omega) (by omega)]
    refine ih k _ _ (by omega) (by omega) (by omega) (by rw [List.length_set]; exact ho) ?_
    obtain ⟨n, rfl⟩ : ∃ n : Nat, i = n := ⟨i.toNat, by omega⟩
    simp only [Int.toNat_natCast] at ht ⊢
    rw [show ((n : Int) + 1).toNat = n + 1 by omega, List.take_succ_eq_append_getElem (by rw [List.length_set]; omega), List.take_succ_eq_append_getElem (show n < l.length by omega), List.getElem_set_self, List.take_set_of_le (by omega), ht]
    simp [rd, List.getD_eq_getElem?_getD, List.getElem?_eq_getElem (show n < l.length by omega)]
theorem toUint32S_ (k : Nat) (l : List Int) (hl : l.length ≤ 1048576) (hk : l.length < k) : laws_toUint32S.f k l = some l := by
  unfold laws_toUint32S.f
  rw [if_pos (by omega), if_pos (by omega)]
  exact toUint32S_loop l hl l.length k _ 0 (by omega) (by omega) hk (by simp) (by simp)

theorem toInt64S_loop (l : List Int) (hl : l.length ≤ 1048576) (d : Nat) : ∀ (k : Nat) (o : List Int) (i : Int), 0 ≤ i → (l.length : Int) - i = d → d < k → o.length = l.length → o.take i.toNat = l.take i.toNat →
    laws_toInt64S.l0 k l o i = some l := by
  induction d with
  | zero =>
    intro k o i h0 hd hk ho ht
    obtain ⟨k, rfl⟩ : ∃ m, k = m + 1 := ⟨k - 1, by omega⟩
    simp only [laws_toInt64S.l0]
    rw [if_neg (by omega)]
    rw [List.take_of_length_le (by omega), List.take_of_length_le (by omega)] at ht
    rw [ht]
  | succ d ih =>
    intro k o i h0 hd hk ho ht
    obtain ⟨k, rfl⟩ : ∃ m, k = m + 1 := ⟨k - 1, by omega⟩
    simp only [laws_toInt64S.l0]
    rw [if_pos (by omega), if_pos h0, if_pos (by omega), wrap_in (by omega) (by omega)]
    refine ih k _ _ (by omega) (by omega) (by omega) (by rw [List.length_set]; exact ho) ?_
    obtain ⟨n, rfl⟩ : ∃ n : Nat, i = n := ⟨i.toNat, by omega⟩
    simp only [Int.toNat_natCast] at ht ⊢
    rw [show ((n : Int) + 1).toNat = n + 1 by omega, List.take_succ_eq_append_getElem (by rw [List.length_set]; omega), List.take_succ_eq_append_getElem (show n < l.length by omega), List.getElem_set_self, List.take_set_of_le (by omega), ht]
    simp [rd, List.getD_eq_getElem?_getD, List.getElem?_eq_getElem (show n < l.length by omega)]
theorem toInt64S_ (k : Nat) (l : List Int) (hl : l.length ≤ 1048576) (hk : l.length < k) : laws_toInt64S.f k l = some l := by
  unfold laws_toInt64S.f
  rw [if_pos (by omega), if_pos (by omega)]
  exact toInt64S_loop l hl l.length k _ 0 (by omega) (by omega) hk (by simp) (by simp)

theorem eqUint32S_loop (l : List Int) (hl : l.length ≤ 1048576) (d : Nat) : ∀ (k : Nat) (i : Int), 0 ≤ i → (l.length : Int) - i = d → d < k → laws_eqUint32S.l0 k l l i = some true := by
  induction d with
  | zero =>
    intro k i h0 hd hk
    obtain ⟨k, rfl⟩ : ∃ m, k = m + 1 := ⟨k - 1, by omega⟩
    simp only [laws_eqUint32S.l0]
    rw [if_neg (by omega)]
  | succ d ih =>
    intro k i h0 hd hk
    obtain ⟨k, rfl⟩ : ∃ m, k = m + 1 := ⟨k - 1, by omega⟩
    simp only [laws_eqUint32S.l0]
    rw [if_pos (by omega), if_pos h0, if_pos (by omega), if_pos trivial, wrap_in (by omega) (by omega)]
    exact ih k _ (by omega) (by omega) (by omega)
theorem eqUint32S_ (k : Nat) (l : List Int) (hl : l.length ≤ 1048576) (hk : l.length < k) : laws_eqUint32S.f k l l = some true := by
  unfold laws_eqUint32S.f
  rw [if_pos rfl]
  exact eqUint32S_loop l hl l.length k 0 (by omega) (by omega) hk

theorem eqByteS_loop (l : List Int) (hl : l.length ≤ 1048576) (d : Nat) : ∀ (k : Nat) (i : Int), 0 ≤ i → (l.length : Int) - i = d → d < k → laws_eqByteS.l0 k l l i = some true := by
  induction d with
  | zero =>
    intro k i h0 hd hk
    obtain ⟨k, rfl⟩ : ∃ m, k = m + 1 := ⟨k - 1, by omega⟩
    simp only [laws_eqByteS.l0]
    rw [if_neg (by omega)]
  | succ d ih =>
    intro k i h0 hd hk
    obtain ⟨k, rfl⟩ : ∃ m, k = m + 1 := ⟨k - 1, by omega⟩
    simp only [laws_eqByteS.l0]
    rw [if_pos (by omega), if_pos h0, if_pos (by omega), if_pos trivial, wrap_in (by omega) (by omega)]
    exact ih k _ (by omega) (by omega) (by omega)
theorem eqByteS_ (k : Nat) (l : List Int) (hl : l.length ≤ 1048576) (hk : l.length < k) : laws_eqByteS.f k l l = some true := by
  unfold laws_eqByteS.f
  rw [if_pos rfl]
  exact eqByteS_loop l hl l.length k 0 (by omega) (by omega) hk

theorem eqInt64S_loop (l : List Int) (hl : l.length ≤ 1048576) (d : Nat) : ∀ (k : Nat) (i : Int), 0 ≤ i → (l.length : Int) - i = d → d < k → laws_eqInt64S.l0 k l l i = some true := by
  induction d with
  | zero =>
    intro k i h0 hd hk
    obtain ⟨k, rfl⟩ : ∃ m, k = m + 1 := ⟨k - 1, by omega⟩
    simp only [laws_eqInt64S.l0]
    rw [if_neg (by omega)]
  | succ d ih =>
    intro k i h0 hd hk
    obtain ⟨k, rfl⟩ : ∃ m, k = m + 1 := ⟨k - 1, by omega⟩
    simp only [laws_eqInt64S.l0]
    rw [if_pos (by omega), if_pos h0, if_pos (by omega), if_pos trivial, wrap_in (by omega) (by omega)]
    exact ih k _ (by omega) (by omega) (by omega)
theorem eqInt64S_ (k : Nat) (l : List Int) (hl : l.length ≤ 1048576) (hk : l.length < k) : laws_eqInt64S.f k l l = some true := by
  unfold laws_eqInt64S.f
  rw [if_pos rfl]
  exact eqInt64S_loop l hl l.length k 0 (by omega) (by omega) hk

theorem markUint32S_loop (d : Nat) : ∀ (k : Nat) (l : List Int) (a i : Int), l.length ≤ 1048576 → -1 ≤ a → a + d ≤ 137438953472 → 0 ≤ i → (l.length : Int) - i = d → d < k →
    ∃ l', laws_markUint32S.l0 k l a i = some (a + d, l') ∧ l'.length = l.length ∧ (∀ j : Int, 0 ≤ j → j < i → rd l' j = rd l j) ∧ ∀ j : Int, i ≤ j → j < l.length → rd l' j = ((fun x : Int => x % 4294967296) (a + (j - i))) := by
  induction d with
  | zero =>
    intro k l a i hl ha0 ha1 h0 hd hk
    obtain ⟨k, rfl⟩ : ∃ m, k = m + 1 := ⟨k - 1, by omega⟩
    refine ⟨l, ?_, rfl, fun _ _ _ => rfl, fun j h1 h2 => by omega⟩
    simp only [laws_markUint32S.l0]
    rw [if_neg (by omega)]
    simp
  | succ d ih =>
    intro k l a i hl ha0 ha1 h0 hd hk
    obtain ⟨k, rfl⟩ : ∃ m, k = m + 1 := ⟨k - 1, by omega⟩
    simp only [laws_markUint32S.l0]
    rw [if_pos (by omega), if_pos h0, wrap_in (i := a) (by omega) (by omega), wrap_in (by omega) (by omega)]
    obtain ⟨l', e, e1, e2, e3⟩ := ih k (l.set i.toNat ((fun x : Int => x % 4294967296) a)) (a + 1) (i + 1) (by rw [List.length_set]; exact hl) (by omega) (by omega) (by omega) (by rw [List.length_set]; omega) (by omega)
    rw [List.length_set] at e1 e3
    refine ⟨l', by rw [e]; simp; omega, e1, fun j j0 j1 => ?_, fun j j0 j1 => ?_⟩
    · rw [e2 j j0 (by omega)]
      exact rd_set_ne (by omega) (by omega)
    · by_cases hj : j = i
      · subst hj
        rw [e2 j h0 (by omega), rd_set_eq h0 (by omega)]
        simp
      · rw [e3 j (by omega) j1]
        rw [show a + 1 + (j - (i + 1)) = a + (j - i) by omega]
theorem markUint32S_ (k : Nat) (l : List Int) (a : Int) (hl : l.length ≤ 1048576) (ha0 : -1 ≤ a) (ha1 : a ≤ 68719476736) (hk : l.length < k) :
    ∃ l', laws_markUint32S.f k l a = some (a + l.length, l') ∧ l'.length = l.length ∧ ∀ j : Int, 0 ≤ j → j < l.length → rd l' j = ((fun x : Int => x % 4294967296) (a + j)) := by
  unfold laws_markUint32S.f
  obtain ⟨l', e, e1, _, e3⟩ := markUint32S_loop l.length k l a 0 hl ha0 (by omega) (by omega) (by omega) hk
  exact ⟨l', e, e1, fun j j0 j1 => by rw [e3 j j0 j1]; simp⟩

theorem markByteS_loop (d : Nat) : ∀ (k : Nat) (l : List Int) (a i : Int), l.length ≤ 1048576 → -1 ≤ a → a + d ≤ 137438953472 → 0 ≤ i → (l.length : Int) - i = d → d < k →
    ∃ l', laws_markByteS.l0 k l a i = some (a + d, l') ∧ l'.length = l.length ∧ (∀ j : Int, 0 ≤ j → j < i → rd l' j = rd l j) ∧ ∀ j : Int, i ≤ j → j < l.length → rd l' j = ((fun x : Int => x % 256) (a + (j - i))) := by
  induction d with
  | zero =>
    intro k l a i hl ha0 ha1 h0 hd hk
    obtain ⟨k, rfl⟩ : ∃ m, k = m + 1 := ⟨k - 1, by omega⟩
    refine ⟨l, ?_, rfl, fun _ _ _ => rfl, fun j h1 h2 => by omega⟩
    simp only [laws_markByteS.l0]
    rw [if_neg (by omega)]
    simp
  | succ d ih =>
    intro k l a i hl ha0 ha1 h0 hd hk
    obtain ⟨k, rfl⟩ : ∃ m, k = m + 1 := ⟨k - 1, by omega⟩
    simp only [laws_markByteS.l0]
    rw [if_pos (by omega), if_pos h0, wrap_in (i := a) (by omega) (by omega), wrap_in (by omega) (by omega)]
    obtain ⟨l', e, e1, e2, e3⟩ := ih k (l.set i.toNat ((fun x : Int => x % 256) a)) (a + 1) (i + 1) (by rw [List.length_set]; exact hl) (by omega) (by omega) (by omega) (by rw [List.length_set]; omega) (by omega)
    rw [List.length_set] at e1 e3
    refine ⟨l', by rw [e]; simp; omega, e1, fun j j0 j1 => ?_, fun j j0 j1 => ?_⟩
    · rw [e2 j j0 (by omega)]
      exact rd_set_ne (by omega) (by omega)
    · by_cases hj : j = i
      · subst hj
        rw [e2 j h0 (by omega), rd_set_eq h0 (by omega)]
        simp
      · rw [e3 j (by omega) j1]
        rw [show a + 1 + (j - (i + 1)) = a + (j - i) by omega]
theorem markByteS_ (k : Nat) (l : List Int) (a : Int) (hl : l.length ≤ 1048576) (ha0 : -1 ≤ a) (ha1 : a ≤ 68719476736) (hk : l.length < k) :
    ∃ l', laws_markByteS.f k l a = some (a + l.length, l') ∧ l'.length = l.length ∧ ∀ j : Int, 0 ≤ j → j < l.length → rd l' j = ((fun x : Int => x % 256) (a + j)) := by
  unfold laws_markByteS.f
  obtain ⟨l', e, e1, _, e3⟩ := markByteS_loop l.length k l a 0 hl ha0 (by omega) (by omega) (by omega) hk
  exact ⟨l', e, e1, fun j j0 j1 => by rw [e3 j j0 j1]; simp⟩

theorem markInt64S_loop (d : Nat) : ∀ (k : Nat) (l : List Int) (a i : Int), l.length ≤ 1048576 → -1 ≤ a → a + d ≤ 137438953472 → 0 ≤ i → (l.length : Int) - i = d → d < k →
    ∃ l', laws_markInt64S.l0 k l a i = some (a + d, l') ∧ l'.length = l.length ∧ (∀ j : Int, 0 ≤ j → j < i → rd l' j = rd l j) ∧ ∀ j : Int, i ≤ j → j < l.length → rd l' j = ((fun x : Int => x) (a + (j - i))) := by
  induction d with
  | zero =>
    intro k l a i hl ha0 ha1 h0 hd hk
    obtain ⟨k, rfl⟩ : ∃ m, k = m + 1 := ⟨k - 1, by omega⟩
    refine ⟨l, ?_, rfl, fun _ _ _ => rfl, fun j h1 h2 => by omega⟩
    simp only [laws_markInt64S.l0]
    rw [if_neg (by omega)]
    simp
  | succ d ih =>
    intro k l a i hl ha0 ha1 h0 hd hk
    obtain ⟨k, rfl⟩ : ∃ m, k = m + 1 := ⟨k - 1, by omega⟩
    simp only [laws_markInt64S.l0]
    rw [if_pos (by omega), if_pos h0, wrap_in (i := a) (by omega) (by omega), wrap_in (by omega) (by omega)]
    obtain ⟨l', e, e1, e2, e3⟩ := ih k (l.set i.toNat ((fun x : Int => x) a)) (a + 1) (i + 1) (by rw [List.length_set]; exact hl) (by omega) (by omega) (by omega) (by rw [List.length_set]; omega) (by omega)
    rw [List.length_set] at e1 e3
    refine ⟨l', by rw [e]; simp; omega, e1, fun j j0 j1 => ?_, fun j j0 j1 => ?_⟩
    · rw [e2 j j0 (by omega)]
      exact rd_set_ne (by omega) (by omega)
    · by_cases hj : j = i
      · subst hj
        rw [e2 j h0 (by omega), rd_set_eq h0 (by omega)]
        simp
      · rw [e3 j (by omega) j1]
        rw [show a + 1 + (j - (i + 1)) = a + (j - i) by omega]
theorem markInt64S_ (k : Nat) (l : List Int) (a : Int) (hl : l.length ≤ 1048576) (ha0 : -1 ≤ a) (ha1 : a ≤ 68719476736) (hk : l.length < k) :
    ∃ l', laws_markInt64S.f k l a = some (a + l.length, l') ∧ l'.length = l.length ∧ ∀ j : Int, 0 ≤ j → j < l.length → rd l' j = ((fun x : Int => x) (a + j)) := by
  unfold laws_markInt64S.f
  obtain ⟨l', e, e1, _, e3⟩ := markInt64S_loop l.length k l a 0 hl ha0 (by omega) (by omega) (by omega) hk
  exact ⟨l', e, e1, fun j j0 j1 => by rw [e3 j j0 j1]; simp⟩

theorem heldUint32S_loop (l : List Int) (hl : l.length ≤ 1048576) (d : Nat) : ∀ (k : Nat) (a i : Int), -1 ≤ a → a + d ≤ 137438953472 → 0 ≤ i → (l.length : Int) - i = d → d < k → (∀ j : Int, i ≤ j → j < l.length → rd l j = ((fun x : Int => x % 4294967296) (a + (j - i)))) →
    laws_heldUint32S.l0 k l a i = some (a + d) := by
  induction d with
  | zero =>
    intro k a i ha0 ha1 h0 hd hk _
    obtain ⟨k, rfl⟩ : ∃ m, k = m + 1 := ⟨k - 1, by omega⟩
    simp only [laws_heldUint32S.l0]
    rw [if_neg (by omega)]
    simp
  | succ d ih =>
    intro k a i ha0 ha1 h0 hd hk hr
    obtain ⟨k, rfl⟩ : ∃ m, k = m + 1 := ⟨k - 1, by omega⟩
    simp only [laws_heldUint32S.l0]
    have h1 := hr i (by omega) (by omega)
    rw [show a + (i - i) = a by omega] at h1
    rw [if_pos (by omega), if_pos h0, if_pos h1, wrap_in (i := a) (by omega) (by omega), wrap_in (by omega) (by omega)]
    rw [ih k (a + 1) (i + 1) (by omega) (by omega) (by omega) (by omega) (by omega) (fun j j0 j1 => by rw [hr j (by omega) j1, show a + 1 + (j - (i + 1)) = a + (j - i) by omega])]
    congr 1
    push_cast
    omega
theorem heldUint32S_ (k : Nat) (l : List Int) (a : Int) (hl : l.length ≤ 1048576) (ha0 : -1 ≤ a) (ha1 : a ≤ 68719476736) (hk : l.length < k) (hr : ∀ j : Int, 0 ≤ j → j < l.length → rd l j = ((fun x : Int => x % 4294967296) (a + j))) : laws_heldUint32S.f k l a = some (a + l.length) := by
  unfold laws_heldUint32S.f
  exact heldUint32S_loop l hl l.length k a 0 ha0 (by omega) (by omega) (by omega) hk (fun j j0 j1 => by rw [hr j j0 j1]; simp)

theorem heldByteS_loop (l : List Int) (hl : l.length ≤ 1048576) (d : Nat) : ∀ (k : Nat) (a i : Int), -1 ≤ a → a + d ≤ 137438953472 → 0 ≤ i → (l.length : Int) - i = d → d < k → (∀ j : Int, i ≤ j → j < l.length → rd l j = ((fun x : Int => x % 256) (a + (j - i)))) →
    laws_heldByteS.l0 k l a i = some (a + d) := by
  induction d with
  | zero =>
    intro k a i ha0 ha1 h0 hd hk _
    obtain ⟨k, rfl⟩ : ∃ m, k = m + 1 := ⟨k - 1, by omega⟩
    simp only [laws_heldByteS.l0]
    rw [if_neg (by omega)]
    simp
  | succ d ih =>
    intro k a i ha0 ha1 h0 hd hk hr
    obtain ⟨k, rfl⟩ : ∃ m, k = m + 1 := ⟨k - 1, by omega⟩
    simp only [laws_heldByteS.l0]
    have h1 := hr i (by omega) (by omega)
    rw [show a + (i - i) = a by omega] at h1
    rw [if_pos (by omega), if_pos h0, if_pos h1, wrap_in (i := a) (by omega) (by omega), wrap_in (by omega) (by omega)]
    rw [ih k (a + 1) (i + 1) (by omega) (by omega) (by omega) (by omega) (by omega) (fun j j0 j1 => by rw [hr j (by omega) j1, show a + 1 + (j - (i + 1)) = a + (j - i) by omega])]
    congr 1
    push_cast
    omega
theorem heldByteS_ (k : Nat) (l : List Int) (a : Int) (hl : l.length ≤ 1048576) (ha0 : -1 ≤ a) (ha1 : a ≤ 68719476736) (hk : l.length < k) (hr : ∀ j : Int, 0 ≤ j → j < l.length → rd l j = ((fun x : Int => x % 256) (a + j))) : laws_heldByteS.f k l a = some (a + l.length) := by
  unfold laws_heldByteS.f
  exact heldByteS_loop l hl l.length k a 0 ha0 (by omega) (by omega) (by omega) hk (fun j j0 j1 => by rw [hr j j0 j1]; simp)

theorem heldInt64S_loop (l : List Int) (hl : l.length ≤ 1048576) (d : Nat) : ∀ (k : Nat) (a i : Int), -1 ≤ a → a + d ≤ 137438953472 → 0 ≤ i → (l.length : Int) - i = d → d < k → (∀ j : Int, i ≤ j → j < l.length → rd l j = ((fun x : Int => x) (a + (j - i)))) →
    laws_heldInt64S.l0 k l a i = some (a + d) := by
  induction d with
  | zero =>
    intro k a i ha0 ha1 h0 hd hk _
    obtain ⟨k, rfl⟩ : ∃ m, k = m + 1 := ⟨k - 1, by omega⟩
    simp only [laws_heldInt64S.l0]
    rw [if_neg (by omega)]
    simp
  | succ d ih =>
    intro k a i ha0 ha1 h0 hd hk hr
    obtain ⟨k, rfl⟩ : ∃ m, k = m + 1 := ⟨k - 1, by omega⟩
    simp only [laws_heldInt64S.l0]
    have h1 := hr i (by omega) (by omega)
    rw [show a + (i - i) = a by omega] at h1
    rw [if_pos (by omega), if_pos h0, if_pos h1, wrap_in (i := a) (by omega) (by omega), wrap_in (by omega) (by omega)]
    rw [ih k (a + 1) (i + 1) (by omega) (by omega) (by omega) (by omega) (by omega) (fun j j0 j1 => by rw [hr j (by omega) j1, show a + 1 + (j - (i + 1)) = a + (j - i) by omega])]
    congr 1
    push_cast
    omega
theorem heldInt64S_ (k : Nat) (l : List Int) (a : Int) (hl : l.length ≤ 1048576) (ha0 : -1 ≤ a) (ha1 : a ≤ 68719476736) (hk : l.length < k) (hr : ∀ j : Int, 0 ≤ j → j < l.length → rd l j = ((fun x : Int => x) (a + j))) : laws_heldInt64S.f k l a = some (a + l.length) := by
  unfold laws_heldInt64S.f
  exact heldInt64S_loop l hl l.length k a 0 ha0 (by omega) (by omega) (by omega) hk (fun j j0 j1 => by rw [hr j j0 j1]; simp)

theorem valid_same (l : List Int) (a b : Int) : ∃ r, spec_ValidImage.f l a b = some r ∧ impl_ValidImage.f l a b = some r := by
  unfold spec_ValidImage.f impl_ValidImage.f spec_l1In.f
  repeat' split
  all_goals simp_all
  all_goals (intros; omega)
theorem wrap32_64 (x : Int) : wrap64 (wrap32 x) = wrap32 x := by unfold wrap64 wrap32; omega
theorem l1Words_loop (l : List Int) (hl : l.length ≤ 1048576) (d : Nat) : ∀ (k : Nat) (i : Int), 0 ≤ i → (l.length : Int) - i = d → d < k → spec_l1Words.l0 k l i = some ((l.drop i.toNat).all Md.isWord) := by
  induction d with
  | zero =>
    intro k i h0 hd hk
    obtain ⟨k, rfl⟩ : ∃ m, k = m + 1 := ⟨k - 1, by omega⟩
    simp only [spec_l1Words.l0]
    rw [if_neg (by omega), List.drop_eq_nil_of_le (by omega)]
    rfl
  | succ d ih =>
    intro k i h0 hd hk
    obtain ⟨k, rfl⟩ : ∃ m, k = m + 1 := ⟨k - 1, by omega⟩
    simp only [spec_l1Words.l0, spec_l1Wrap.f]
    rw [if_pos (by omega), if_pos h0, Option.bind_some, wrap32_64]
    obtain ⟨n, rfl⟩ : ∃ n : Nat, i = n := ⟨i.toNat, by omega⟩
    have hn : n < l.length := by omega
    have e : rd l (n : Int) = l[n] := by simp [rd, List.getD_eq_getElem?_getD, List.getElem?_eq_getElem hn]
    rw [e, Int.toNat_natCast, List.drop_eq_getElem_cons hn, List.all_cons]
    by_cases hw : Md.isWord l[n] = true
    · rw [if_pos (by unfold Md.isWord at hw; simp at hw; unfold wrap32; omega), hw, wrap_in (by omega) (by omega), ih k _ (by omega) (by omega) (by omega)]
      simp
    · rw [if_neg (by unfold Md.isWord at hw; simp at hw; unfold wrap32; omega)]
      simp [hw]
theorem l1Words_ (k : Nat) (l : List Int) (hl : l.length ≤ 1048576) (hk : l.length < k) : spec_l1Words.f k l = some (l.all Md.isWord) := by
  unfold spec_l1Words.f
  rw [l1Words_loop l hl l.length k 0 (by omega) (by omega) hk]
  rfl
/-- What Boot gives: whether it boots, and then the lists. -/
def boots (l : List Int) (n d : Int) (s : List Int) : Bool := (impl_ValidImage.f l n d == some true) && decide (s.length ≤ 1000) && s.all Md.isWord
def bRegs (b : Bool) : List Int := if b then (List.replicate 32 0).set 2 1073741824 else []
def bData (b : Bool) (n : Int) : List Int := if b then List.replicate n.toNat 0 else []
def bIn (b : Bool) (s : List Int) : List Int := if b then s else []
def bPc (b : Bool) : Int := if b then 4096 else 0
def bLow (b : Bool) : Int := if b then 1073741824 else 0
theorem boot_loop (l : List Int) (n d : Int) (s : List Int) (hn : 0 ≤ n) (hn1 : n ≤ 1048576) (hd : 0 ≤ d) (hd1 : d ≤ 1048576) (m : Nat) : ∀ (k : Nat) (o : List Int) (i : Int), 0 ≤ i → (32 : Int) - i = m → m < k → o = List.replicate i.toNat 0 →
    spec_Boot.l0 k i l n d o 4096 s 1073741824 0 = some ((List.replicate 32 0).set 2 1073741824, 4096, List.replicate n.toNat 0, List.replicate d.toNat 0, s, [], 1073741824, 0) := by
  induction m with
  | zero =>
    intro k o i h0 hm hk ho
    obtain ⟨k, rfl⟩ : ∃ m, k = m + 1 := ⟨k - 1, by omega⟩
    obtain rfl : i = 32 := by omega
    subst ho
    simp only [spec_Boot.l0]
    rw [if_neg (by omega), if_pos (by simp), if_pos hn, if_pos (by simp; omega), if_pos hd, if_pos (by simp; omega)]
    simp
  | succ m ih =>
    intro k o i h0 hm hk ho
    obtain ⟨k, rfl⟩ : ∃ m, k = m + 1 := ⟨k - 1, by omega⟩
    simp only [spec_Boot.l0]
    rw [if_pos (by omega), if_pos (by rw [ho, List.length_replicate]; omega), wrap_in (by omega) (by omega)]
    refine ih k _ _ (by omega) (by omega) (by omega) ?_
    rw [ho, show (i + 1).toNat = i.toNat + 1 by omega, List.replicate_succ']
theorem boot_ (k : Nat) (l : List Int) (n d : Int) (s : List Int) (hs : s.length ≤ 1048576) (hk : s.length + 40 < k) :
    spec_Boot.f k l n d s = some (bRegs (boots l n d s), bPc (boots l n d s), bData (boots l n d s) n, bData (boots l n d s) d, bIn (boots l n d s) s, [], bLow (boots l n d s), 0) := by
  obtain ⟨r, e4, e5⟩ := valid_same l n d
  obtain ⟨k, rfl⟩ : ∃ m, k = m + 1 := ⟨k - 1, by omega⟩
  unfold spec_Boot.f
  rw [e4, Option.bind_some]
  cases r with
  | false =>
    have hb : boots l n d s = false := by unfold boots; rw [e5]; rfl
    rw [hb]
    simp [spec_Boot.j0, bRegs, bPc, bData, bIn, bLow]
  | true =>
    simp only [if_true]
    by_cases hl : s.length ≤ 1000
    · rw [if_neg (by omega), l1Words_ _ _ hs (by omega), Option.bind_some]
      cases hw : s.all Md.isWord with
      | false =>
        have hb : boots l n d s = false := by unfold boots; rw [hw]; simp
        rw [hb]
        simp [spec_Boot.j0, bRegs, bPc, bData, bIn, bLow]
      | true =>
        have hb : boots l n d s = true := by unfold boots; rw [hw, e5]; simp [hl]
        rw [hb]
        have hv : 0 ≤ n ∧ n ≤ 1048576 ∧ 0 ≤ d ∧ d ≤ 1048576 := by
          revert e5
          unfold impl_ValidImage.f
          repeat' split
          all_goals simp
          all_goals (intros; omega)
        obtain ⟨k, rfl⟩ : ∃ m, k = m + 1 := ⟨k - 1, by omega⟩
        simp only [spec_Boot.j0, Bool.not_true, Bool.false_eq_true, if_false, Option.bind_some]
        rw [if_pos (by simp; omega), List.nil_append, boot_loop l n d s hv.1 hv.2.1 hv.2.2.1 hv.2.2.2 32 _ _ 0 (by omega) (by omega) (by omega) (by simp)]
        rfl
    · have hb : boots l n d s = false := by unfold boots; simp [hl]
      rw [if_pos (by omega), hb]
      simp [spec_Boot.j0, bRegs, bPc, bData, bIn, bLow]
theorem sz_no (l : List Int) (a b : Int) (h : 1048576 < l.length) (h2 : l.length ≤ 9223372036854775807) : laws_szImage.f l a b 1048576 = some (-1) := by
  unfold laws_szImage.f laws_szUint32S.f
  have e : wrap64 (1048576 - (l.length : Int)) = 1048576 - (l.length : Int) := by unfold wrap64; omega
  rw [e, if_pos (by omega)]
  rfl
theorem sz_yes (l : List Int) (a b : Int) (h : l.length ≤ 1048576) : laws_szImage.f l a b 1048576 = some (1048576 - (l.length : Int)) := by
  unfold laws_szImage.f laws_szUint32S.f
  have e : wrap64 (1048576 - (l.length : Int)) = 1048576 - (l.length : Int) := by unfold wrap64; omega
  rw [e, if_neg (by omega)]
  simp only [Option.bind_some]
  rw [if_neg (by omega)]
theorem toImage_ (k : Nat) (l : List Int) (a b : Int) (h : l.length ≤ 1048576) (hk : l.length < k) : laws_toImage.f k l a b = some (l, a, b) := by
  unfold laws_toImage.f
  rw [toUint32S_ _ l h (by omega)]
  rfl
theorem eqImage_ (k : Nat) (l : List Int) (a b : Int) (h : l.length ≤ 1048576) (hk : l.length < k) : laws_eqImage.f k l a b l a b = some true := by
  unfold laws_eqImage.f
  rw [eqUint32S_ _ l h (by omega)]
  simp
theorem eqCpu_ (k : Nat) (r1 : List Int) (p : Int) (r3 r4 r5 r6 : List Int) (q s : Int) (h1 : r1.length ≤ 1048576) (h3 : r3.length ≤ 1048576) (h4 : r4.length ≤ 1048576) (h5 : r5.length ≤ 1048576) (h6 : r6.length ≤ 1048576) (hk : 1048576 < k) :
    laws_eqCpu.f k r1 p r3 r4 r5 r6 q s r1 p r3 r4 r5 r6 q s = some true := by
  unfold laws_eqCpu.f
  rw [eqUint32S_ _ r1 h1 (by omega), eqByteS_ _ r3 h3 (by omega), eqByteS_ _ r4 h4 (by omega), eqInt64S_ _ r5 h5 (by omega), eqInt64S_ _ r6 h6 (by omega)]
  simp
theorem markImage_ (k : Nat) (l : List Int) (n d a : Int) (hl : l.length ≤ 1048576) (ha0 : -1 ≤ a) (ha1 : a ≤ 68719476736) (hk : 1048576 < k) : ∃ l', laws_markImage.f k l n d a = some (a + l.length, l') := by
  obtain ⟨l', e, _⟩ := markUint32S_ k l a hl ha0 ha1 (by omega)
  refine ⟨l', ?_⟩
  unfold laws_markImage.f
  rw [e]
  rfl
theorem markCpu_ (k : Nat) (r1 : List Int) (p : Int) (r3 r4 r5 r6 : List Int) (q s : Int) (h1 : r1.length ≤ 1048576) (h3 : r3.length ≤ 1048576) (h4 : r4.length ≤ 1048576) (h5 : r5.length ≤ 1048576) (h6 : r6.length ≤ 1048576) (hk : 1048576 < k) :
    ∃ m, 0 ≤ m ∧ ∃ s1 s3 s4 s5 s6, laws_markCpu.f k r1 p r3 r4 r5 r6 q s 1 = some (m, s1, s3, s4, s5, s6) ∧ laws_heldCpu.f k s1 p s3 s4 s5 s6 q s 1 = some m ∧ s1.length = r1.length ∧ s3.length = r3.length ∧ s4.length = r4.length ∧ s5.length = r5.length ∧ s6.length = r6.length := by
  obtain ⟨s1, a1, b1, c1⟩ := markUint32S_ k r1 1 h1 (by omega) (by omega) (by omega)
  obtain ⟨s3, a3, b3, c3⟩ := markByteS_ k r3 (1 + r1.length) h3 (by omega) (by omega) (by omega)
  obtain ⟨s4, a4, b4, c4⟩ := markByteS_ k r4 (1 + r1.length + r3.length) h4 (by omega) (by omega) (by omega)
  obtain ⟨s5, a5, b5, c5⟩ := markInt64S_ k r5 (1 + r1.length + r3.length + r4.length) h5 (by omega) (by omega) (by omega)
  obtain ⟨s6, a6, b6, c6⟩ := markInt64S_ k r6 (1 + r1.length + r3.length + r4.length + r5.length) h6 (by omega) (by omega) (by omega)
  refine ⟨_, ?_, s1, s3, s4, s5, s6, by unfold laws_markCpu.f; rw [a1]; simp only [Option.bind_some]; rw [a3]; simp only [Option.bind_some]; rw [a4]; simp only [Option.bind_some]; rw [a5]; simp only [Option.bind_some]; rw [a6]; rfl, ?_, b1, b3, b4, b5, b6⟩
  · omega
  · unfold laws_heldCpu.f
    rw [heldUint32S_ k s1 1 (by omega) (by omega) (by omega) (by omega) (by rw [b1]; exact c1), b1]
    simp only [Option.bind_some]
    rw [if_neg (by omega), heldByteS_ k s3 _ (by omega) (by omega) (by omega) (by omega) (by rw [b3]; exact c3), b3]
    simp only [Option.bind_some]
    rw [if_neg (by omega), heldByteS_ k s4 _ (by omega) (by omega) (by omega) (by omega) (by rw [b4]; exact c4), b4]
    simp only [Option.bind_some]
    rw [if_neg (by omega), heldInt64S_ k s5 _ (by omega) (by omega) (by omega) (by omega) (by rw [b5]; exact c5), b5]
    simp only [Option.bind_some]
    rw [if_neg (by omega), heldInt64S_ k s6 _ (by omega) (by omega) (by omega) (by omega) (by rw [b6]; exact c6), b6]
    simp only [Option.bind_some]
    rw [if_neg (by omega)]
theorem b_lens (b : Bool) (l : List Int) (n d : Int) (s : List Int) (hb : boots l n d s = b) (hs : s.length ≤ 1048576) : (bRegs b).length ≤ 1048576 ∧ (bData b n).length ≤ 1048576 ∧ (bData b d).length ≤ 1048576 ∧ (bIn b s).length ≤ 1048576 := by
  subst hb
  cases hb : boots l n d s with
  | false => simp [bRegs, bData, bIn]
  | true =>
    have hv : 0 ≤ n ∧ n ≤ 1048576 ∧ 0 ≤ d ∧ d ≤ 1048576 := by
      unfold boots at hb
      simp only [Bool.and_eq_true, beq_iff_eq] at hb
      revert hb
      unfold impl_ValidImage.f
      repeat' split
      all_goals simp
      all_goals (intros; omega)
    simp [bRegs, bData, bIn]
    omega
end Go.Proofs.Ytjgfiplhaanflaa.PFnExactBoot
