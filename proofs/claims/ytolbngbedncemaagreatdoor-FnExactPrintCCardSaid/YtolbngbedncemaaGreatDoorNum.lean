/- Words of 32-bit numbers; spec.l1Wrap. -/
import Derived.Test.YtolbngbedncemaaGreatDoorBase
import Derived.Test.YtolbngbedncemaaGreatDoorRows
set_option linter.unusedVariables false
set_option linter.unusedSimpArgs false
namespace Go.Proofs.YtolbngbedncemaaGreatDoor
open Go Go.RowKit

/-! ### The model -/
def w32 (x : Int) : Int := wrap32 x
theorem w32_range (x : Int) : -2147483648 ≤ w32 x ∧ w32 x ≤ 2147483647 := by unfold w32 wrap32; omega
theorem w32_id {x : Int} (h : -2147483648 ≤ x ∧ x ≤ 2147483647) : w32 x = x := by unfold w32 wrap32; omega
theorem w32_w64 (x : Int) : w32 (wrap64 x) = w32 x := by unfold w32 wrap32 wrap64; omega
theorem w64_id {x : Int} (h : -9223372036854775808 ≤ x ∧ x ≤ 9223372036854775807) : wrap64 x = x := by unfold wrap64; omega
theorem u64_small (n : Nat) (h : n < 4294967296) : IntKind.u64.wrap (n : Int) = n := by simp [IntKind.wrap, IntKind.bits, IntKind.signed]; omega
def b01 (b : Bool) : Int := if b then 1 else 0
theorem b01_of {c : Prop} [Decidable c] (h : c) : b01 (decide c) = 1 := by simp [b01, h]
theorem b01_of_not {c : Prop} [Decidable c] (h : ¬ c) : b01 (decide c) = 0 := by simp [b01, h]
def shN (b : Int) : Nat := (b % 32).toNat
def andI (a b : Int) : Int := (BitVec.ofInt 32 a &&& BitVec.ofInt 32 b).toInt
def xorI (a b : Int) : Int := (BitVec.ofInt 32 a ^^^ BitVec.ofInt 32 b).toInt
def orI (a b : Int) : Int := (BitVec.ofInt 32 a ||| BitVec.ofInt 32 b).toInt
/-- The operator on words. -/
def apW (op a b : Int) : Int :=
  if op = 0 then w32 (a * b) else if op = 1 then if b = 0 then -1 else w32 (a.tdiv b) else if op = 2 then if b = 0 then a else a.tmod b
  else if op = 3 then w32 (a + b) else if op = 4 then w32 (a - b) else if op = 5 then w32 (a * 2 ^ shN b) else if op = 6 then a / 2 ^ shN b
  else if op = 7 then b01 (decide (a < b)) else if op = 8 then b01 (decide (a ≤ b)) else if op = 9 then b01 (decide (b < a)) else if op = 10 then b01 (decide (b ≤ a))
  else if op = 11 then b01 (decide (a = b)) else if op = 12 then b01 (decide (¬ a = b)) else if op = 13 then andI a b else if op = 14 then xorI a b else if op = 15 then orI a b else 0
/-- The operator on whatever numbers: they are made words first. -/
def apM (op x y : Int) : Int := apW op (w32 x) (w32 y)

theorem ofInt64 {a : Int} (h : -2147483648 ≤ a ∧ a ≤ 2147483647) : BitVec.ofInt 64 a = (BitVec.ofInt 32 a).signExtend 64 := by
  apply BitVec.eq_of_toInt_eq
  rw [BitVec.toInt_signExtend_of_le (by omega), BitVec.toInt_ofInt, BitVec.toInt_ofInt]
  simp only [Int.bmod]
  omega
theorem back64 (r : BitVec 64) : IntKind.i64.wrap (r.toNat : Int) = r.toInt := by
  rw [IntKind.wrap_i64, BitVec.toInt_eq_toNat_bmod]
  simp only [Int.bmod]
  have := r.isLt
  omega
theorem back32 (r : BitVec 32) : wrap32 (r.toNat : Int) = r.toInt := by
  unfold wrap32
  rw [BitVec.toInt_eq_toNat_bmod]
  simp only [Int.bmod]
  have := r.isLt
  omega
theorem and64 {a b : Int} (ha : -2147483648 ≤ a ∧ a ≤ 2147483647) (hb : -2147483648 ≤ b ∧ b ≤ 2147483647) :
    bits .and .i64 a b = andI a b := by
  show IntKind.i64.wrap ((BitVec.ofInt 64 a &&& BitVec.ofInt 64 b).toNat : Int) = _
  rw [back64, ofInt64 ha, ofInt64 hb, ← BitVec.signExtend_and, BitVec.toInt_signExtend_of_le (by omega)]; rfl
theorem xor64 {a b : Int} (ha : -2147483648 ≤ a ∧ a ≤ 2147483647) (hb : -2147483648 ≤ b ∧ b ≤ 2147483647) :
    bits .xor .i64 a b = xorI a b := by
  show IntKind.i64.wrap ((BitVec.ofInt 64 a ^^^ BitVec.ofInt 64 b).toNat : Int) = _
  rw [back64, ofInt64 ha, ofInt64 hb, ← BitVec.signExtend_xor, BitVec.toInt_signExtend_of_le (by omega)]; rfl
theorem or64 {a b : Int} (ha : -2147483648 ≤ a ∧ a ≤ 2147483647) (hb : -2147483648 ≤ b ∧ b ≤ 2147483647) :
    bits .or .i64 a b = orI a b := by
  show IntKind.i64.wrap ((BitVec.ofInt 64 a ||| BitVec.ofInt 64 b).toNat : Int) = _
  rw [back64, ofInt64 ha, ofInt64 hb, ← BitVec.signExtend_or, BitVec.toInt_signExtend_of_le (by omega)]; rfl

/-! ### The reference -/
theorem s_l1Wrap (x : Int) (w : World) : Calls Tryz.prog 212 #[.int .i64 x] w (Same (.int .i64 (w32 x)) w) := by
  go_enter Tryz.func212, Tryz.ntmps212
  go_wp2
  go_ret
  have := w32_range x
  exact Same.int (by exact w64_id ⟨by unfold w32 at this; omega, by unfold w32 at this; omega⟩)
end Go.Proofs.YtolbngbedncemaaGreatDoor
