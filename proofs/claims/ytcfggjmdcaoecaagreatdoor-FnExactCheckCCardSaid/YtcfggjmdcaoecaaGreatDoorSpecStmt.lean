/- The reference's test of a statement: whether its own fields are in order. Conditions: bounds of lengths. PRINTED by gen_stmt.py of this repo. -/
import Derived.Test.YtcfggjmdcaoecaaGreatDoorStmtB
import Derived.Test.YtcfggjmdcaoecaaGreatDoorStmtC
import Derived.Test.YtcfggjmdcaoecaaGreatDoorStmtD
import Derived.Test.YtcfggjmdcaoecaaGreatDoorStmtE
set_option linter.unusedVariables false
set_option linter.unusedSimpArgs false
namespace Go.Proofs.YtcfggjmdcaoecaaGreatDoor
open Go Go.RowKit Md

theorem s_l2GoodStmt (K : Foot) (x : PStmt) (vE vF : Value) (w : World) (hE : SlNode K w vE x.e) (hF : SlNode K w vF x.f) (hs : x.name.size ≤ maxLen) (le : x.e.length ≤ 2000) (lf : x.f.length ≤ 2000) :
    Calls Tryz.prog 107 #[.agg #[.int .i64 x.kind, .string x.name, vE, vF, .int .i64 x.thn, .int .i64 x.els]] w (Gives (.bool (stOk x)) w) := by
  obtain ⟨kind, name, e, f, thn, els⟩ := x
  simp only at *
  have le' : decide (e.length ≤ 2000) = true := decide_eq_true le
  have lf' : decide (f.length ≤ 2000) = true := decide_eq_true lf
  by_cases hk1 : kind = 1
  · subst hk1
    exact s_l2GoodStmt1 K name e f thn els vE vF w hE hF hs le' lf'
  by_cases hk2 : kind = 2
  · subst hk2
    exact s_l2GoodStmt2 K name e f thn els vE vF w hE hF hs le' lf'
  by_cases hk3 : kind = 3
  · subst hk3
    exact s_l2GoodStmt3 K name e f thn els vE vF w hE hF hs le' lf'
  by_cases hk4 : kind = 4
  · subst hk4
    exact s_l2GoodStmt4 K name e f thn els vE vF w hE hF hs le' lf'
  by_cases hk5 : kind = 5
  · subst hk5
    exact s_l2GoodStmt5 K name e f thn els vE vF w hE hF hs le' lf'
  by_cases hk6 : kind = 6
  · subst hk6
    exact s_l2GoodStmt6 K name e f thn els vE vF w hE hF hs le' lf'
  by_cases hk7 : kind = 7
  · subst hk7
    exact s_l2GoodStmt7 K name e f thn els vE vF w hE hF hs le' lf'
  by_cases hk8 : kind = 8
  · subst hk8
    exact s_l2GoodStmt8 K name e f thn els vE vF w hE hF hs le' lf'
  have hr : (decide (1 ≤ kind) && decide (kind ≤ 8)) = false := by
    rw [Bool.eq_false_iff]
    intro h
    simp at h
    omega
  have hN : named kind = false := by simp [named]; omega
  have h1 : (kind == 1) = false := by simp; omega
  have h2 : (kind == 2) = false := by simp; omega
  have h3 : (kind == 3) = false := by simp; omega
  rw [stOk_eq, hr]
  obtain ⟨aE, nE, zE, rfl⟩ := hE.shape
  obtain ⟨aF, nF, zF, rfl⟩ := hF.shape
  clear hE hF
  go_enter Tryz.func107, Tryz.ntmps107
  go_wp2_with fail
  refine (s_l1In _ _ _ _).mono ?_; rintro _ _ ⟨rfl, rfl⟩
  go_wp2
  all_goals (go_ret; exact Gives.bool (by ((try rw [hg]); (try rw [hn]); (try rw [ht]); (try rw [d5.out]); (try rw [hgf]); (try rw [d1.out]); (try rw [d2.out]); (try rw [d3.out]); (try rw [d4.out]); first | rfl | (simp; done))) ((Ext.refl _).alloc _))
end Go.Proofs.YtcfggjmdcaoecaaGreatDoor
