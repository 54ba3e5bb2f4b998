/- The walks of spec.Apply and impl.Apply: both return the model's answer; no condition but that impl.binRv holds its table. -/
import Derived.Test.YtjgfiplhaanflaaDoorBase
import Derived.Test.YtjgfiplhaanflaaDoorRows
set_option linter.unusedVariables false
set_option linter.unusedSimpArgs false
namespace Go.Proofs.YtjgfiplhaanflaaDoor
open Go Go.RowKit

/-! ### The model -/
def w32 (x : Int) : Int := wrap32 x
theorem w32_range (x : Int) : -2147483648 ≤ w32 x ∧ w32 x ≤ 2147483647 := by unfold w32 wrap32; omega
theorem w32_id {x : Int} (h : -2147483648 ≤ x ∧ x ≤ 2147483647) : w32 x = x := by unfold w32 wrap32; omega
theorem w32_w64 (x : Int) : w32 (wrap64 x) = w32 x := by unfold w32 wrap32 wrap64; omega
theorem w64_id {x : Int} (h : -9223372036854775808 ≤ x ∧ x ≤ 9223372036854775807) : wrap64 x = x := by unfold wrap64; omega
theorem u64_small (n : Nat) (h : n < 4294967296) : IntKind.u64.wrap (n : Int) = n := by simp [IntKind.wrap, IntKind.bits, IntKind.signed]; omega
def b01 (b : Bool) : Int := if b then 1 else 0
theorem b01_of {c : Prop} [Decidable c] (h : c) : b01 (decide c) = 1 := by simp [b01, h]
theorem b01_of_not {c : Prop} [Decidable c] (h : ¬ c) : b01 (decide c) = 0 := by simp [b01, h]
def shN (b : Int) : Nat := (b % 32).toNat
def andI (a b : Int) : Int := (BitVec.ofInt 32 a &&& BitVec.ofInt 32 b).toInt
def xorI (a b : Int) : Int := (BitVec.ofInt 32 a ^^^ BitVec.ofInt 32 b).toInt
def orI (a b : Int) : Int := (BitVec.ofInt 32 a ||| BitVec.ofInt 32 b).toInt
/-- The operator on words. -/
def apW (op a b : Int) : Int :=
  if op = 0 then w32 (a * b) else if op = 1 then if b = 0 then -1 else w32 (a.tdiv b) else if op = 2 then if b = 0 then a else a.tmod b
  else if op = 3 then w32 (a + b) else if op = 4 then w32 (a - b) else if op = 5 then w32 (a * 2 ^ shN b) else if op = 6 then a / 2 ^ shN b
  else if op = 7 then b01 (decide (a < b)) else if op = 8 then b01 (decide (a ≤ b)) else if op = 9 then b01 (decide (b < a)) else if op = 10 then b01 (decide (b ≤ a))
  else if op = 11 then b01 (decide (a = b)) else if op = 12 then b01 (decide (¬ a = b)) else if op = 13 then andI a b else if op = 14 then xorI a b else if op = 15 then orI a b else 0
/-- The operator on whatever numbers: they are made words first. -/
def apM (op x y : Int) : Int := apW op (w32 x) (w32 y)

theorem ofInt64 {a : Int} (h : -2147483648 ≤ a ∧ a ≤ 2147483647) : BitVec.ofInt 64 a = (BitVec.ofInt 32 a).signExtend 64 := by
  apply BitVec.eq_of_toInt_eq
  rw [BitVec.toInt_signExtend_of_le (by omega), BitVec.toInt_ofInt, BitVec.toInt_ofInt]
  simp only [Int.bmod]
  omega
theorem back64 (r : BitVec 64) : IntKind.i64.wrap (r.toNat : Int) = r.toInt := by
  rw [IntKind.wrap_i64, BitVec.toInt_eq_toNat_bmod]
  simp only [Int.bmod]
  have := r.isLt
  omega
theorem back32 (r : BitVec 32) : wrap32 (r.toNat : Int) = r.toInt := by
  unfold wrap32
  rw [BitVec.toInt_eq_toNat_bmod]
  simp only [Int.bmod]
  have := r.isLt
  omega
theorem and64 {a b : Int} (ha : -2147483648 ≤ a ∧ a ≤ 2147483647) (hb : -2147483648 ≤ b ∧ b ≤ 2147483647) :
    bits .and .i64 a b = andI a b := by
  show IntKind.i64.wrap ((BitVec.ofInt 64 a &&& BitVec.ofInt 64 b).toNat : Int) = _
  rw [back64, ofInt64 ha, ofInt64 hb, ← BitVec.signExtend_and, BitVec.toInt_signExtend_of_le (by omega)]; rfl
theorem xor64 {a b : Int} (ha : -2147483648 ≤ a ∧ a ≤ 2147483647) (hb : -2147483648 ≤ b ∧ b ≤ 2147483647) :
    bits .xor .i64 a b = xorI a b := by
  show IntKind.i64.wrap ((BitVec.ofInt 64 a ^^^ BitVec.ofInt 64 b).toNat : Int) = _
  rw [back64, ofInt64 ha, ofInt64 hb, ← BitVec.signExtend_xor, BitVec.toInt_signExtend_of_le (by omega)]; rfl
theorem or64 {a b : Int} (ha : -2147483648 ≤ a ∧ a ≤ 2147483647) (hb : -2147483648 ≤ b ∧ b ≤ 2147483647) :
    bits .or .i64 a b = orI a b := by
  show IntKind.i64.wrap ((BitVec.ofInt 64 a ||| BitVec.ofInt 64 b).toNat : Int) = _
  rw [back64, ofInt64 ha, ofInt64 hb, ← BitVec.signExtend_or, BitVec.toInt_signExtend_of_le (by omega)]; rfl

/-! ### The reference -/
theorem s_l1Wrap (x : Int) (w : World) : Calls Tryd.prog 79 #[.int .i64 x] w (Same (.int .i64 (w32 x)) w) := by
  go_enter Tryd.func79, Tryd.ntmps79
  go_wp2
  go_ret
  have := w32_range x
  exact Same.int (by exact w64_id ⟨by unfold w32 at this; omega, by unfold w32 at this; omega⟩)
theorem s_l4Bool (x : Bool) (w : World) : Calls Tryd.prog 98 #[.bool x] w (Same (.int .i64 (b01 x)) w) := by
  go_enter Tryd.func98, Tryd.ntmps98
  cases x <;> go_wp2 <;> go_ret <;> exact Same.int rfl
theorem s_Apply (op x y : Int) (w : World) : Calls Tryd.prog 73 #[.int .i64 op, .int .i64 x, .int .i64 y] w (Same (.int .i64 (apM op x y)) w) := by
  go_enter Tryd.func73, Tryd.ntmps73
  unfold apM
  have ra := w32_range x
  have rb := w32_range y
  go_wp2_with fail
  refine (s_l1Wrap _ _).mono ?_; rintro e w' ⟨rfl, rfl⟩
  go_wp2_with fail
  refine (s_l1Wrap _ _).mono ?_; rintro e w' ⟨rfl, rfl⟩
  generalize w32 x = a at *
  generalize w32 y = b at *
  obtain ⟨ra1, ra2⟩ := ra
  obtain ⟨rb1, rb2⟩ := rb
  obtain ⟨n, hb⟩ : ∃ n : Nat, b % 32 = (n : Int) := ⟨(b % 32).toNat, by omega⟩
  have hs : shN b = n := by unfold shN; omega
  have hn : IntKind.u64.wrap ((wrap64 (b.tmod 32 + 32)).tmod 32) = (n : Int) := by
    have e1 : (wrap64 (b.tmod 32 + 32)).tmod 32 = b % 32 := by
      unfold wrap64
      rcases Int.lt_or_le b 0 with h | h
      · have : b.tmod 32 = -((-b) % 32) := by rw [← Int.tmod_eq_emod_of_nonneg (show 0 ≤ -b by omega), Int.neg_tmod, Int.neg_neg]
        rw [this, Int.tmod_eq_emod_of_nonneg (by omega)]
        omega
      · rw [Int.tmod_eq_emod_of_nonneg (a := b) h, Int.tmod_eq_emod_of_nonneg (by omega)]
        omega
    rw [e1, hb]
    exact u64_small n (by omega)
  have hn32 : n < 32 := by omega
  have Hs := Lib.hid hs
  clear hb hs
  by_cases h : 0 ≤ op ∧ op ≤ 15
  · obtain ⟨o0, o1⟩ := h
    obtain ⟨k, rfl⟩ := Int.eq_ofNat_of_zero_le o0
    have : k ≤ 15 := by omega
    clear o0 o1
    match k, this with
    | 0, _ | 3, _ | 4, _ | 5, _| 6, _| 7, _| 8, _| 9, _| 10, _| 11, _| 12, _ =>
      go_wp2_with (first | (go_at_call 79; refine (s_l1Wrap _ _).mono ?_; rintro e w' ⟨rfl, rfl⟩) | (go_at_call 98; refine (s_l4Bool _ _).mono ?_; rintro e w' ⟨rfl, rfl⟩))
      all_goals go_ret
      all_goals refine Same.int ?_
      all_goals simp [apW, w32_w64, Hs.out, b01, *]
    | 13, _ | 14, _ | 15, _ =>
      go_wp2
      go_ret
      refine Same.int ?_
      simp [apW, and64 ⟨ra1, ra2⟩ ⟨rb1, rb2⟩, or64 ⟨ra1, ra2⟩ ⟨rb1, rb2⟩, xor64 ⟨ra1, ra2⟩ ⟨rb1, rb2⟩]
    | 1, _ | 2, _ =>
      by_cases hz : b = 0 <;> go_wp2_with (first | (go_at_call 79; refine (s_l1Wrap _ _).mono ?_; rintro e w' ⟨rfl, rfl⟩) | (go_at_call 98; refine (s_l4Bool _ _).mono ?_; rintro e w' ⟨rfl, rfl⟩))
      all_goals go_ret
      all_goals refine Same.int ?_
      all_goals simp [apW, w32_w64, Hs.out, b01, hz, *]
    | k + 16, h => omega
  · have : ∀ k : Nat, k ≤ 15 → op ≠ k := by omega
    have t0 := this 0 (by omega); have t1 := this 1 (by omega); have t2 := this 2 (by omega); have t3 := this 3 (by omega); have t4 := this 4 (by omega); have t5 := this 5 (by omega); have t6 := this 6 (by omega); have t7 := this 7 (by omega)
    have t8 := this 8 (by omega); have t9 := this 9 (by omega); have t10 := this 10 (by omega); have t11 := this 11 (by omega); have t12 := this 12 (by omega); have t13 := this 13 (by omega); have t14 := this 14 (by omega); have t15 := this 15 (by omega)
    clear this
    go_wp2
    go_ret
    refine Same.int ?_
    simp at t0 t1 t2 t3 t4 t5 t6 t7 t8 t9 t10 t11 t12 t13 t14 t15
    simp [apW, *]
end Go.Proofs.YtjgfiplhaanflaaDoor
