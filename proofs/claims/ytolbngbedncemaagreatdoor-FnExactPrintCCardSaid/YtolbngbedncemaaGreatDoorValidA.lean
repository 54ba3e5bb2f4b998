/- The program's test of a statement's own fields answers as the model. -/
import Derived.Test.YtolbngbedncemaaGreatDoorGrow
set_option linter.unusedVariables false
set_option linter.unusedSimpArgs false
namespace Go.Proofs.YtolbngbedncemaaGreatDoor
open Go Go.RowKit Md

def cN4 (k : Int) (n : ByteArray) : Bool := if named k then isName n else n.size == 0
def cF5 (k : Int) (f : List PNode) : Bool := if k = 3 then (grow f).isSome else f.length == 0
section
variable {k t u : Int} {n : ByteArray} {e f : List PNode}
theorem stOk_c1 (h : ¬ (1 ≤ k ∧ k ≤ 8)) : stOk ⟨k, n, e, f, t, u⟩ = false := by
  by_cases h1 : 1 ≤ k
  · simp [stOk, show ¬ k ≤ 8 by omega]
  · simp [stOk, h1]
theorem stOk_c3 (h : grow e = none) : stOk ⟨k, n, e, f, t, u⟩ = false := by simp [stOk, h]
theorem stOk_c4 (h : cN4 k n = false) : stOk ⟨k, n, e, f, t, u⟩ = false := by unfold cN4 at h; simp only [stOk, h, Bool.and_false, Bool.false_and]
theorem stOk_c5 (h : cF5 k f = false) : stOk ⟨k, n, e, f, t, u⟩ = false := by unfold cF5 at h; simp only [stOk, h, Bool.and_false, Bool.false_and]
theorem stOk_c6 (h : ¬ (0 ≤ t ∧ 0 ≤ u)) : stOk ⟨k, n, e, f, t, u⟩ = false := by
  by_cases h1 : 0 ≤ t
  · simp [stOk, show ¬ 0 ≤ u by omega]
  · simp [stOk, h1]
theorem stOk_c8 (h1 : t ≠ 0) (h2 : k ≠ 4) (h3 : k ≠ 5) : stOk ⟨k, n, e, f, t, u⟩ = false := by simp [stOk, h1, h2, h3]
theorem stOk_c9 (h1 : u ≠ 0) (h2 : k ≠ 4) : stOk ⟨k, n, e, f, t, u⟩ = false := by simp [stOk, h1, h2]
theorem stOk_c10 {x : Ex} (hk : k = 8) (hx : grow e = some x) (h : (x.node.kind == 4) = false) : stOk ⟨k, n, e, f, t, u⟩ = false := by simp [stOk, hk, hx, h]
theorem stOk_true {x : Ex} (hx : grow e = some x) (h4 : cN4 k n = true) (h5 : cF5 k f = true) (h1 : 1 ≤ k ∧ k ≤ 8) 
    (h6 : 0 ≤ t ∧ 0 ≤ u) (h8 : t = 0 ∨ k = 4 ∨ k = 5) (h9 : u = 0 ∨ k = 4) (h10 : k = 8 → (x.node.kind == 4) = true) : stOk ⟨k, n, e, f, t, u⟩ = true := by
  unfold cN4 at h4
  unfold cF5 at h5
  have e8 : (t == 0 || k == 4 || k == 5) = true := by simp; omega
  have e9 : (u == 0 || k == 4) = true := by simp; omega
  have e10 : (k != 8 || (match grow e with | some x => x.node.kind == 4 | none => false)) = true := by
    rw [hx]
    by_cases h : k = 8
    · simp only [h10 h, Bool.or_true]
    · simp [h]
  simp only [hx] at e10
  simp only [stOk, h4, h5, e8, e9, decide_eq_true h1.1, decide_eq_true h1.2, decide_eq_true h6.1, decide_eq_true h6.2, hx, Option.isSome_some, Bool.and_self, Bool.true_and]
  exact e10
end
theorem cN4_named {k : Int} {n : ByteArray} (h : k = 1 ∨ k = 2 ∨ k = 3) : cN4 k n = isName n := by unfold cN4 named; rcases h with rfl | rfl | rfl <;> rfl
theorem cN4_plain {k : Int} {n : ByteArray} (h : ¬ (k = 1 ∨ k = 2 ∨ k = 3)) : cN4 k n = (n.toList == []) := by
  have : named k = false := by unfold named; simp; omega
  unfold cN4
  rw [this, toList_nil]; rfl
theorem cF5_3 {f : List PNode} : cF5 3 f = (grow f).isSome := rfl
theorem cF5_no {k : Int} {f : List PNode} {n : Nat} (h : k ≠ 3) (hf : f.length = n) : cF5 k f = decide (n = 0) := by
  unfold cF5
  rw [if_neg h, hf]
  by_cases h0 : n = 0 <;> simp [h0]
theorem Drew.bool {x y : Bool} {w : World} (h : x = y) (n : Nat) : Drew (.bool y) w (.returned (.bool x)) (w.drewN n) := ⟨by rw [h], n, rfl⟩
end Go.Proofs.YtolbngbedncemaaGreatDoor
