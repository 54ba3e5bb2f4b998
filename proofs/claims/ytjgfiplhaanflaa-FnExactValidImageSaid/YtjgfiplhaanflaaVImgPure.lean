/- What the print's functions of FnExactValidImage come to; plain lists and numbers, no program in sight. -/
import Derived.Test.YtjgfiplhaanflaaPFnExactValidImagex2
set_option linter.unusedVariables false
set_option linter.unusedSimpArgs false
namespace Go.Proofs.Ytjgfiplhaanflaa.PFnExactValidImage
open Go.RowKit Go.Proofs.YtjgfiplhaanflaaW.PrintWords Go.Proofs.YtjgfiplhaanflaaW.PrintLast Go.Proofs.YtjgfiplhaanflaaW.PrintMore

theorem wrap_in {i : Int} (h0 : -1 ≤ i) (h : i < 140737488355328) : wrap64 (i + 1) = i + 1 := by unfold wrap64; omega

theorem toU_loop (l : List Int) (hl : l.length ≤ 1048576) (d : Nat) : ∀ (k : Nat) (o : List Int) (i : Int), 0 ≤ i → (l.length : Int) - i = d → d < k → o.length = l.length → o.take i.toNat = l.take i.toNat →
    laws_toUint32S.l0 k l o i = some l := by
  induction d with
  | zero =>
    intro k o i h0 hd hk ho ht
    obtain ⟨k, rfl⟩ : ∃ m, k = m + 1 := ⟨k - 1, by omega⟩
    simp only [laws_toUint32S.l0]
    rw [if_neg (by omega)]
    rw [List.take_of_length_le (by omega), List.take_of_length_le (by omega)] at ht
    rw [ht]
  | succ d ih =>
    intro k o i h0 hd hk ho ht
    obtain ⟨k, rfl⟩ : ∃ m, k = m + 1 := ⟨k - 1, by omega⟩
    simp only [laws_toUint32S.l0]
    rw [if_pos (by omega), if_pos h0, if_pos (by omega), wrap_in (by omega) (by omega)]
    refine ih k _ _ (by omega) (by omega) (by omega) (by rw [List.length_set]; exact ho) ?_
    obtain ⟨n, rfl⟩ : ∃ n : Nat, i = n := ⟨i.toNat, by omega⟩
    simp only [Int.toNat_natCast] at ht ⊢
    rw [show ((n : Int) + 1).toNat = n + 1 by omega, List.take_succ_eq_append_getElem (by rw [List.length_set]; omega), List.take_succ_eq_append_getElem (show n < l.length by omega), List.getElem_set_self, List.take_set_of_le (by omega), ht]
    simp [rd, List.getD_eq_getElem?_getD, List.getElem?_eq_getElem (show n < l.length by omega)]
theorem toU (k : Nat) (l : List Int) (hl : l.length ≤ 1048576) (hk : l.length < k) : laws_toUint32S.f k l = some l := by
  unfold laws_toUint32S.f
  rw [if_pos (by omega), if_pos (by omega)]
  exact toU_loop l hl l.length k _ 0 (by omega) (by omega) hk (by simp) (by simp)
theorem eqU_loop (l : List Int) (hl : l.length ≤ 1048576) (d : Nat) : ∀ (k : Nat) (i : Int), 0 ≤ i → (l.length : Int) - i = d → d < k → laws_eqUint32S.l0 k l l i = some true := by
  induction d with
  | zero =>
    intro k i h0 hd hk
    obtain ⟨k, rfl⟩ : ∃ m, k = m + 1 := ⟨k - 1, by omega⟩
    simp only [laws_eqUint32S.l0]
    rw [if_neg (by omega)]
  | succ d ih =>
    intro k i h0 hd hk
    obtain ⟨k, rfl⟩ : ∃ m, k = m + 1 := ⟨k - 1, by omega⟩
    simp only [laws_eqUint32S.l0]
    rw [if_pos (by omega), if_pos h0, if_pos (by omega), if_pos trivial, wrap_in (by omega) (by omega)]
    exact ih k _ (by omega) (by omega) (by omega)
theorem eqU (k : Nat) (l : List Int) (hl : l.length ≤ 1048576) (hk : l.length < k) : laws_eqUint32S.f k l l = some true := by
  unfold laws_eqUint32S.f
  rw [if_pos rfl]
  exact eqU_loop l hl l.length k 0 (by omega) (by omega) hk
theorem valid_same (l : List Int) (a b : Int) : ∃ r, spec_ValidImage.f l a b = some r ∧ impl_ValidImage.f l a b = some r := by
  unfold spec_ValidImage.f impl_ValidImage.f spec_l1In.f
  repeat' split
  all_goals simp_all
  all_goals (intros; omega)
theorem true_ (l : List Int) (a b : Int) (hl : l.length ≤ 9223372036854775807) : ∃ k, laws_FnExactValidImage.f k l a b = some true := by
  by_cases h : l.length ≤ 1048576
  · refine ⟨l.length + 1, ?_⟩
    have e1 : laws_szImage.f l a b 1048576 = some (1048576 - (l.length : Int)) := by
      unfold laws_szImage.f laws_szUint32S.f
      have e : wrap64 (1048576 - (l.length : Int)) = 1048576 - (l.length : Int) := by unfold wrap64; omega
      rw [e, if_neg (by omega)]
      simp only [Option.bind_some]
      rw [if_neg (by omega)]
    have e2 : laws_toImage.f (l.length + 1) l a b = some (l, a, b) := by
      unfold laws_toImage.f
      rw [toU _ l h (by omega)]
      rfl
    have e3 : laws_eqImage.f (l.length + 1) l a b l a b = some true := by
      unfold laws_eqImage.f
      rw [eqU _ l h (by omega)]
      simp
    obtain ⟨r, e4, e5⟩ := valid_same l a b
    unfold laws_FnExactValidImage.f
    rw [e1]
    simp only [Option.bind_some]
    rw [if_neg (by omega), e2]
    simp only [Option.bind_some]
    rw [e4]
    simp only [Option.bind_some]
    rw [e5]
    simp only [Option.bind_some]
    rw [e3]
    simp
  · refine ⟨0, ?_⟩
    have e1 : laws_szImage.f l a b 1048576 = some (-1) := by
      unfold laws_szImage.f laws_szUint32S.f
      have e : wrap64 (1048576 - (l.length : Int)) = 1048576 - (l.length : Int) := by unfold wrap64; omega
      rw [e, if_pos (by omega)]
      rfl
    unfold laws_FnExactValidImage.f
    rw [e1]
    rfl
end Go.Proofs.Ytjgfiplhaanflaa.PFnExactValidImage
