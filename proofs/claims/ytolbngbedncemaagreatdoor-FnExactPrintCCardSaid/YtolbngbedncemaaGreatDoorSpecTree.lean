/- The reference's tests of nodes and expressions answer as the model; conditions: bounds of lengths. -/
import Derived.Test.YtolbngbedncemaaGreatDoorName
import Derived.Test.YtolbngbedncemaaGreatDoorNum
set_option linter.unusedVariables false
set_option linter.unusedSimpArgs false
namespace Go.Proofs.YtolbngbedncemaaGreatDoor
open Go Go.RowKit Md

theorem s_l1In (x a b : Int) (w : World) : Calls Tryz.prog 56 #[.int .i64 x, .int .i64 a, .int .i64 b] w (Same (.bool (decide (a ≤ x) && decide (x ≤ b))) w) := by
  go_enter Tryz.func56, Tryz.ntmps56
  by_cases h : a ≤ x
  · go_wp2
    go_ret
    exact Same.bool (by simp <;> omega)
  · go_wp2
    go_ret
    exact Same.bool (by simp <;> omega)

theorem s_l2Arity (x : PNode) (w : World) : Calls Tryz.prog 150 #[.agg #[.int .i64 x.kind, .int .i64 x.val, .string x.name]] w (Gives (.int .i64 (ar x)) w) := by
  go_enter Tryz.func150, Tryz.ntmps150
  go_wp2
  all_goals go_ret
  all_goals exact Gives.int (by unfold ar; simp_all) ((Ext.refl _).alloc _)

theorem Same.quiet {P : Program} {f : FuncId} {args : Array Value} {w : World} {n : Nat} {v : Value} (h : Calls P f args (w.drewN n) (Same v (w.drewN n))) :
    Calls P f args (w.drewN n) fun e w'' => e = .returned v ∧ ∃ m, w'' = w.drewN m := h.mono fun _ _ ⟨he, hm⟩ => ⟨he, n, hm.symm⟩
theorem Ext.allocN (w : World) (o : Obj) (n : Nat) : Ext w ((w.alloc o).drewN n) := ((Ext.refl w).alloc o).trans (drewN_ext _ n)

theorem ar_num (v : Int) (m : ByteArray) : (arity ⟨1, v, m⟩).isSome = ((v == w32 v) && (m.toList == [])) := by
  have e : (v == w32 v) = isWord v := by
    rw [Bool.eq_iff_iff]
    simp only [beq_iff_eq, isWord, Bool.and_eq_true, decide_eq_true_eq]
    unfold w32 wrap32
    omega
  rw [e, toList_nil]
  cases h : isWord v <;> by_cases h0 : m.size = 0 <;> simp [arity, h, h0]
theorem ar_named (k v : Int) (m : ByteArray) (hk : k = 2 ∨ k = 3) : (arity ⟨k, v, m⟩).isSome = ((v == 0) && isName m) := by
  rcases hk with rfl | rfl <;> cases h : isName m <;> by_cases h1 : v = 0 <;> simp [arity, h, h1]
theorem ar_call (v : Int) (m : ByteArray) : (arity ⟨4, v, m⟩).isSome = (decide (0 ≤ v) && decide (v ≤ 6) && isName m) := by
  cases h : isName m <;> by_cases h1 : 0 ≤ v <;> by_cases h2 : v ≤ 6 <;> simp [arity, h, h1, h2]
theorem ar_un (v : Int) (m : ByteArray) : (arity ⟨6, v, m⟩).isSome = (decide (0 ≤ v) && decide (v ≤ 2) && (m.toList == [])) := by
  rw [toList_nil]
  by_cases h : m.size = 0 <;> by_cases h1 : 0 ≤ v <;> by_cases h2 : v ≤ 2 <;> simp [arity, h, h1, h2]
theorem ar_bin (v : Int) (m : ByteArray) : (arity ⟨7, v, m⟩).isSome = (decide (0 ≤ v) && decide (v ≤ 15) && (m.toList == [])) := by
  rw [toList_nil]
  by_cases h : m.size = 0 <;> by_cases h1 : 0 ≤ v <;> by_cases h2 : v ≤ 15 <;> simp [arity, h, h1, h2]
theorem ar_plain (k v : Int) (m : ByteArray) (hk : k = 5 ∨ k = 8 ∨ k = 9) : (arity ⟨k, v, m⟩).isSome = ((v == 0) && (m.toList == [])) := by
  rw [toList_nil]
  rcases hk with rfl | rfl | rfl <;> by_cases h : m.size = 0 <;> by_cases h1 : v = 0 <;> simp [arity, h, h1]
theorem ar_none (k v : Int) (m : ByteArray) (h1 : k ≠ 1) (h2 : k ≠ 2) (h3 : k ≠ 3) (h4 : k ≠ 4) (h5 : k ≠ 5) (h6 : k ≠ 6) (h7 : k ≠ 7) (h8 : k ≠ 8) (h9 : k ≠ 9) : (arity ⟨k, v, m⟩).isSome = false := by
  simp [arity, h1, h2, h3, h4, h5, h6, h7, h8, h9]

theorem s_l2GoodNode (x : PNode) (w : World) (hs : x.name.size ≤ maxLen) : Calls Tryz.prog 187 #[.agg #[.int .i64 x.kind, .int .i64 x.val, .string x.name]] w (Gives (.bool (arity x).isSome) w) := by
  obtain ⟨kind, val, name⟩ := x
  simp only at *
  go_enter Tryz.func187, Tryz.ntmps187
  by_cases h1 : kind = 1
  · subst h1
    rw [ar_num]
    cases hd : (val == w32 val) <;> cases hn : (name.toList == []) <;> (
      go_wp2_with fail
      go_quiet (exact Same.quiet (s_l1Wrap _ _))
      go_wp2
      go_ret
      exact Gives.bool rfl (Ext.allocN _ _ _))
  by_cases h23 : kind = 2 ∨ kind = 3
  · rw [ar_named _ _ _ h23]
    rcases h23 with rfl | rfl <;> cases hd : (val == 0) <;> (
      go_wp2_with fail
      first
        | (refine (s_l2Name name _ hs).mono ?_; rintro e w' ⟨rfl, rfl⟩; go_wp2)
        | skip
      go_ret
      exact Gives.bool (by first | (rw [hd]; simp; done) | simp) ((Ext.refl _).alloc _))
  by_cases h4 : kind = 4
  · subst h4
    rw [ar_call]
    go_wp2_with fail
    refine (s_l1In _ _ _ _).mono ?_; rintro e w' ⟨rfl, rfl⟩
    cases hd : (decide (0 ≤ val) && decide (val ≤ 6)) <;> (
      go_wp2_with fail
      first
        | (refine (s_l2Name name _ hs).mono ?_; rintro e w' ⟨rfl, rfl⟩; go_wp2)
        | skip
      go_ret
      exact Gives.bool (by first | (rw [hd]; simp; done) | simp) ((Ext.refl _).alloc _))
  by_cases h6 : kind = 6
  · subst h6
    rw [ar_un]
    go_wp2_with fail
    refine (s_l1In _ _ _ _).mono ?_; rintro e w' ⟨rfl, rfl⟩
    cases hd : (decide (0 ≤ val) && decide (val ≤ 2)) <;> (
      go_wp2
      go_ret
      exact Gives.bool (by first | (rw [hd]; simp; done) | simp) ((Ext.refl _).alloc _))
  by_cases h7 : kind = 7
  · subst h7
    rw [ar_bin]
    go_wp2_with fail
    refine (s_l1In _ _ _ _).mono ?_; rintro e w' ⟨rfl, rfl⟩
    cases hd : (decide (0 ≤ val) && decide (val ≤ 15)) <;> (
      go_wp2
      go_ret
      exact Gives.bool (by first | (rw [hd]; simp; done) | simp) ((Ext.refl _).alloc _))
  by_cases h589 : kind = 5 ∨ kind = 8 ∨ kind = 9
  · rw [ar_plain _ _ _ h589]
    rcases h589 with rfl | rfl | rfl <;> cases hd : (val == 0) <;> (
      go_wp2
      go_ret
      exact Gives.bool (by first | (rw [hd]; simp; done) | simp) ((Ext.refl _).alloc _))
  · rw [ar_none _ _ _ h1 (by omega) (by omega) h4 (by omega) h6 h7 (by omega) (by omega)]
    have f1 : (kind == 1) = false := by simp; omega
    have f2 : (kind == 2) = false := by simp; omega
    have f3 : (kind == 3) = false := by simp; omega
    have f4 : (kind == 4) = false := by simp; omega
    have f5 : (kind == 5) = false := by simp; omega
    have f6 : (kind == 6) = false := by simp; omega
    have f7 : (kind == 7) = false := by simp; omega
    have f8 : (kind == 8) = false := by simp; omega
    have f9 : (kind == 9) = false := by simp; omega
    go_wp2
    go_ret
    exact Gives.bool rfl ((Ext.refl _).alloc _)
end Go.Proofs.YtolbngbedncemaaGreatDoor
