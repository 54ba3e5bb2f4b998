/- Whether a statement's own fields are in order, by the reference. Conditions: bounds of lengths. PRINTED by gen_stmt.py of this repo. -/
import Derived.Test.YtcfggjmdcaoecaaGreatDoorSpecExpr
set_option linter.unusedVariables false
set_option linter.unusedSimpArgs false
namespace Go.Proofs.YtcfggjmdcaoecaaGreatDoor
open Go Go.RowKit Md

theorem grow_last {e : List PNode} {x : Ex} (h : grow e = some x) : e.getLast? = some x.node := by
  have := grow_list h
  cases x with | mk n args =>
  rw [Ex.list_mk] at this
  rw [← this]
  simp [Ex.node]
/-- Whether an expression's last node is a call. -/
def root4 (e : List PNode) : Bool := match e.getLast? with | some x => x.kind == 4 | none => false
theorem root4_of {e : List PNode} {r : PNode} (h : e.getLast? = some r) : root4 e = (r.kind == 4) := by rw [root4, h]
theorem stOk_eq0 (s : PStmt) : stOk s = (decide (1 ≤ s.kind) && decide (s.kind ≤ 8) && goodExpr s.e && (if named s.kind then isName s.name else s.name.toList == []) &&
    (if s.kind = 3 then goodExpr s.f else !decide (0 < (s.f.length : Int))) && !decide (s.thn < 0) && !decide (s.els < 0) &&
    (!decide (0 < s.thn) || s.kind == 4 || s.kind == 5) && (!decide (0 < s.els) || s.kind == 4) && (s.kind != 8 || root4 s.e)) := by
  rw [stOk, goodExpr_grow, goodExpr_grow, toList_nil]
  have e1 : decide (0 ≤ s.thn) = !decide (s.thn < 0) := by rw [Bool.eq_iff_iff]; simp
  have e2 : decide (0 ≤ s.els) = !decide (s.els < 0) := by rw [Bool.eq_iff_iff]; simp
  have e3 : (s.f.length == 0) = !decide (0 < (s.f.length : Int)) := by rw [Bool.eq_iff_iff]; simp
  have e4 : (!decide (s.thn < 0) && (s.thn == 0 || s.kind == 4 || s.kind == 5)) = (!decide (s.thn < 0) && (!decide (0 < s.thn) || s.kind == 4 || s.kind == 5)) := by
    by_cases h : s.thn < 0
    · simp [h]
    · have : (s.thn == 0) = !decide (0 < s.thn) := by rw [Bool.eq_iff_iff]; simp; omega
      rw [this]
  have e5 : (!decide (s.els < 0) && (s.els == 0 || s.kind == 4)) = (!decide (s.els < 0) && (!decide (0 < s.els) || s.kind == 4)) := by
    by_cases h : s.els < 0
    · simp [h]
    · have : (s.els == 0) = !decide (0 < s.els) := by rw [Bool.eq_iff_iff]; simp; omega
      rw [this]
  cases h : grow s.e with
  | none => simp
  | some x =>
    rw [root4_of (grow_last h), e1, e2, e3]
    revert e4 e5
    generalize (s.thn == 0) = a1
    generalize (s.els == 0) = a2
    generalize decide (s.thn < 0) = a7
    generalize decide (s.els < 0) = a8
    generalize decide (0 < s.thn) = a9
    generalize decide (0 < s.els) = b1
    generalize (s.kind == 4) = b2
    generalize (s.kind == 5) = b3
    generalize (s.kind != 8) = b4
    cases a7 <;> cases a8 <;> cases a1 <;> cases a2 <;> cases a9 <;> cases b1 <;> cases b2 <;> cases b3 <;> cases b4 <;> simp
theorem stOk_eq (kind : Int) (name : ByteArray) (e f : List PNode) (thn els : Int) : stOk ⟨kind, name, e, f, thn, els⟩ = (decide (1 ≤ kind) && decide (kind ≤ 8) && goodExpr e && (if named kind then isName name else name.toList == []) &&
    (if kind = 3 then goodExpr f else !decide (0 < (f.length : Int))) && !decide (thn < 0) && !decide (els < 0) &&
    (!decide (0 < thn) || kind == 4 || kind == 5) && (!decide (0 < els) || kind == 4) && (kind != 8 || root4 e)) := stOk_eq0 _

theorem isName_ne {s : ByteArray} (h : isName s = true) : (s.toList == []) = false := by
  rw [toList_nil]
  rw [isName_eq] at h
  simp only [Bool.and_eq_true, decide_eq_true_eq] at h
  exact beq_eq_false_iff_ne.2 (by omega)

end Go.Proofs.YtcfggjmdcaoecaaGreatDoor
