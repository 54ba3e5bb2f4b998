/- The reference's test of a statement, by kinds. PRINTED by gen_stmt.py of this repo. -/
import Derived.Test.YtcfggjmdcaoecaaGreatDoorStmtA
set_option linter.unusedVariables false
set_option linter.unusedSimpArgs false
namespace Go.Proofs.YtcfggjmdcaoecaaGreatDoor
open Go Go.RowKit Md

set_option maxHeartbeats 2000000 in
set_option maxRecDepth 1000000 in
theorem s_l2GoodStmt1 (K : Foot) (name : ByteArray) (e f : List PNode) (thn els : Int) (vE vF : Value) (w : World) (hE : SlNode K w vE e) (hF : SlNode K w vF f) (hs : name.size ≤ maxLen) (le : decide (e.length ≤ 2000) = true) (lf : decide (f.length ≤ 2000) = true) :
    Calls Tryz.prog 107 #[.agg #[.int .i64 1, .string name, vE, vF, .int .i64 thn, .int .i64 els]] w (Gives (.bool (stOk ⟨1, name, e, f, thn, els⟩)) w) := by
  obtain ⟨aE, nE, zE, rfl⟩ := hE.shape
  obtain ⟨aF, nF, zF, rfl, Hlen, hlc, hcm, _⟩ := hF.op
  rw [stOk_eq, Hlen.out]
  rw [show named 1 = true from rfl, if_pos rfl]
  rw [if_neg (show ¬ ((1 : Int) = 3) by omega)]
  have HE := Lib.hid hE
  have HF := Lib.hid hF
  clear hE hF
  have hX := Blk.alloc w 102 #[.int .i64 1, .string name, .slice aE nE zE, .slice aF nF zF, .int .i64 thn, .int .i64 els]
  have hEx : Ext w (w.alloc (.cells #[.int .i64 1, .string name, .slice aE nE zE, .slice aF nF zF, .int .i64 thn, .int .i64 els] 102)) := (Ext.refl _).alloc _
  go_enter Tryz.func107, Tryz.ntmps107
  go_wp2_with fail
  refine (s_l1In _ _ _ _).mono ?_; rintro _ _ ⟨rfl, rfl⟩
  go_wp2_with fail
  refine (s_l2GoodExpr K e _ _ (HE.out.ext hEx (fun _ _ h => h.any))).mono ?_
  rintro _ w1 ⟨rfl, hX1⟩
  rw [le, Bool.true_and]
  have hB := hX.ext hX1
  have c0 : w1.cell? ⟨w.heap.size, 0, none⟩ = some (.int .i64 1) := hB.cell 0
  have c1 : w1.cell? ⟨w.heap.size, 1, none⟩ = some (.string name) := hB.cell 1
  have c2 : w1.cell? ⟨w.heap.size, 2, none⟩ = some (.slice aE nE zE) := hB.cell 2
  have c3 : w1.cell? ⟨w.heap.size, 3, none⟩ = some (.slice aF nF zF) := hB.cell 3
  have c4 : w1.cell? ⟨w.heap.size, 4, none⟩ = some (.int .i64 thn) := hB.cell 4
  have c5 : w1.cell? ⟨w.heap.size, 5, none⟩ = some (.int .i64 els) := hB.cell 5
  have hE1 := hEx.trans hX1
  cases hg : goodExpr e
  · go_wp2
    all_goals (go_ret; exact Gives.bool (by ((try rw [hg]); (try rw [hn]); (try rw [ht]); (try rw [d5.out]); (try rw [hgf]); (try rw [d1.out]); (try rw [d2.out]); (try rw [d3.out]); (try rw [d4.out]); first | rfl | (simp; done))) hE1)
  · go_wp2_with fail
    refine (s_l2Name name _ hs).mono ?_; rintro _ _ ⟨rfl, rfl⟩
    cases hn : isName name
    · go_wp2
      all_goals (go_ret; exact Gives.bool (by ((try rw [hg]); (try rw [hn]); (try rw [ht]); (try rw [d5.out]); (try rw [hgf]); (try rw [d1.out]); (try rw [d2.out]); (try rw [d3.out]); (try rw [d4.out]); first | rfl | (simp; done))) hE1)
    · by_cases h5 : 0 < (nF : Int)
      · have d5 := Lib.hid (decide_eq_true h5)
        go_wp2
        go_ret
        exact Gives.bool (by ((try rw [hg]); (try rw [hn]); (try rw [ht]); (try rw [d5.out]); (try rw [hgf]); (try rw [d1.out]); (try rw [d2.out]); (try rw [d3.out]); (try rw [d4.out]); first | rfl | (simp; done))) hE1
      · have d5 := Lib.hid (decide_eq_false h5)
        by_cases h1 : thn < 0
        · have d1 := Lib.hid (decide_eq_true h1)
          go_wp2
          go_ret
          exact Gives.bool (by ((try rw [hg]); (try rw [hn]); (try rw [ht]); (try rw [d5.out]); (try rw [hgf]); (try rw [d1.out]); (try rw [d2.out]); (try rw [d3.out]); (try rw [d4.out]); first | rfl | (simp; done))) hE1
        have d1 := Lib.hid (decide_eq_false h1)
        by_cases h2 : els < 0
        · have d2 := Lib.hid (decide_eq_true h2)
          go_wp2
          go_ret
          exact Gives.bool (by ((try rw [hg]); (try rw [hn]); (try rw [ht]); (try rw [d5.out]); (try rw [hgf]); (try rw [d1.out]); (try rw [d2.out]); (try rw [d3.out]); (try rw [d4.out]); first | rfl | (simp; done))) hE1
        have d2 := Lib.hid (decide_eq_false h2)
        by_cases h3 : 0 < thn
        · have d3 := Lib.hid (decide_eq_true h3)
          go_wp2
          go_ret
          exact Gives.bool (by ((try rw [hg]); (try rw [hn]); (try rw [ht]); (try rw [d5.out]); (try rw [hgf]); (try rw [d1.out]); (try rw [d2.out]); (try rw [d3.out]); (try rw [d4.out]); first | rfl | (simp; done))) hE1
        · have d3 := Lib.hid (decide_eq_false h3)
          by_cases h4 : 0 < els
          · have d4 := Lib.hid (decide_eq_true h4)
            go_wp2
            go_ret
            exact Gives.bool (by ((try rw [hg]); (try rw [hn]); (try rw [ht]); (try rw [d5.out]); (try rw [hgf]); (try rw [d1.out]); (try rw [d2.out]); (try rw [d3.out]); (try rw [d4.out]); first | rfl | (simp; done))) hE1
          · have d4 := Lib.hid (decide_eq_false h4)
            go_wp2
            go_ret
            exact Gives.bool (by ((try rw [hg]); (try rw [hn]); (try rw [ht]); (try rw [d5.out]); (try rw [hgf]); (try rw [d1.out]); (try rw [d2.out]); (try rw [d3.out]); (try rw [d4.out]); first | rfl | (simp; done))) hE1

set_option maxHeartbeats 2000000 in
set_option maxRecDepth 1000000 in
theorem s_l2GoodStmt2 (K : Foot) (name : ByteArray) (e f : List PNode) (thn els : Int) (vE vF : Value) (w : World) (hE : SlNode K w vE e) (hF : SlNode K w vF f) (hs : name.size ≤ maxLen) (le : decide (e.length ≤ 2000) = true) (lf : decide (f.length ≤ 2000) = true) :
    Calls Tryz.prog 107 #[.agg #[.int .i64 2, .string name, vE, vF, .int .i64 thn, .int .i64 els]] w (Gives (.bool (stOk ⟨2, name, e, f, thn, els⟩)) w) := by
  obtain ⟨aE, nE, zE, rfl⟩ := hE.shape
  obtain ⟨aF, nF, zF, rfl, Hlen, hlc, hcm, _⟩ := hF.op
  rw [stOk_eq, Hlen.out]
  rw [show named 2 = true from rfl, if_pos rfl]
  rw [if_neg (show ¬ ((2 : Int) = 3) by omega)]
  have HE := Lib.hid hE
  have HF := Lib.hid hF
  clear hE hF
  have hX := Blk.alloc w 102 #[.int .i64 2, .string name, .slice aE nE zE, .slice aF nF zF, .int .i64 thn, .int .i64 els]
  have hEx : Ext w (w.alloc (.cells #[.int .i64 2, .string name, .slice aE nE zE, .slice aF nF zF, .int .i64 thn, .int .i64 els] 102)) := (Ext.refl _).alloc _
  go_enter Tryz.func107, Tryz.ntmps107
  go_wp2_with fail
  refine (s_l1In _ _ _ _).mono ?_; rintro _ _ ⟨rfl, rfl⟩
  go_wp2_with fail
  refine (s_l2GoodExpr K e _ _ (HE.out.ext hEx (fun _ _ h => h.any))).mono ?_
  rintro _ w1 ⟨rfl, hX1⟩
  rw [le, Bool.true_and]
  have hB := hX.ext hX1
  have c0 : w1.cell? ⟨w.heap.size, 0, none⟩ = some (.int .i64 2) := hB.cell 0
  have c1 : w1.cell? ⟨w.heap.size, 1, none⟩ = some (.string name) := hB.cell 1
  have c2 : w1.cell? ⟨w.heap.size, 2, none⟩ = some (.slice aE nE zE) := hB.cell 2
  have c3 : w1.cell? ⟨w.heap.size, 3, none⟩ = some (.slice aF nF zF) := hB.cell 3
  have c4 : w1.cell? ⟨w.heap.size, 4, none⟩ = some (.int .i64 thn) := hB.cell 4
  have c5 : w1.cell? ⟨w.heap.size, 5, none⟩ = some (.int .i64 els) := hB.cell 5
  have hE1 := hEx.trans hX1
  cases hg : goodExpr e
  · go_wp2
    all_goals (go_ret; exact Gives.bool (by ((try rw [hg]); (try rw [hn]); (try rw [ht]); (try rw [d5.out]); (try rw [hgf]); (try rw [d1.out]); (try rw [d2.out]); (try rw [d3.out]); (try rw [d4.out]); first | rfl | (simp; done))) hE1)
  · go_wp2_with fail
    refine (s_l2Name name _ hs).mono ?_; rintro _ _ ⟨rfl, rfl⟩
    cases hn : isName name
    · go_wp2
      all_goals (go_ret; exact Gives.bool (by ((try rw [hg]); (try rw [hn]); (try rw [ht]); (try rw [d5.out]); (try rw [hgf]); (try rw [d1.out]); (try rw [d2.out]); (try rw [d3.out]); (try rw [d4.out]); first | rfl | (simp; done))) hE1)
    · by_cases h5 : 0 < (nF : Int)
      · have d5 := Lib.hid (decide_eq_true h5)
        go_wp2
        go_ret
        exact Gives.bool (by ((try rw [hg]); (try rw [hn]); (try rw [ht]); (try rw [d5.out]); (try rw [hgf]); (try rw [d1.out]); (try rw [d2.out]); (try rw [d3.out]); (try rw [d4.out]); first | rfl | (simp; done))) hE1
      · have d5 := Lib.hid (decide_eq_false h5)
        by_cases h1 : thn < 0
        · have d1 := Lib.hid (decide_eq_true h1)
          go_wp2
          go_ret
          exact Gives.bool (by ((try rw [hg]); (try rw [hn]); (try rw [ht]); (try rw [d5.out]); (try rw [hgf]); (try rw [d1.out]); (try rw [d2.out]); (try rw [d3.out]); (try rw [d4.out]); first | rfl | (simp; done))) hE1
        have d1 := Lib.hid (decide_eq_false h1)
        by_cases h2 : els < 0
        · have d2 := Lib.hid (decide_eq_true h2)
          go_wp2
          go_ret
          exact Gives.bool (by ((try rw [hg]); (try rw [hn]); (try rw [ht]); (try rw [d5.out]); (try rw [hgf]); (try rw [d1.out]); (try rw [d2.out]); (try rw [d3.out]); (try rw [d4.out]); first | rfl | (simp; done))) hE1
        have d2 := Lib.hid (decide_eq_false h2)
        by_cases h3 : 0 < thn
        · have d3 := Lib.hid (decide_eq_true h3)
          go_wp2
          go_ret
          exact Gives.bool (by ((try rw [hg]); (try rw [hn]); (try rw [ht]); (try rw [d5.out]); (try rw [hgf]); (try rw [d1.out]); (try rw [d2.out]); (try rw [d3.out]); (try rw [d4.out]); first | rfl | (simp; done))) hE1
        · have d3 := Lib.hid (decide_eq_false h3)
          by_cases h4 : 0 < els
          · have d4 := Lib.hid (decide_eq_true h4)
            go_wp2
            go_ret
            exact Gives.bool (by ((try rw [hg]); (try rw [hn]); (try rw [ht]); (try rw [d5.out]); (try rw [hgf]); (try rw [d1.out]); (try rw [d2.out]); (try rw [d3.out]); (try rw [d4.out]); first | rfl | (simp; done))) hE1
          · have d4 := Lib.hid (decide_eq_false h4)
            go_wp2
            go_ret
            exact Gives.bool (by ((try rw [hg]); (try rw [hn]); (try rw [ht]); (try rw [d5.out]); (try rw [hgf]); (try rw [d1.out]); (try rw [d2.out]); (try rw [d3.out]); (try rw [d4.out]); first | rfl | (simp; done))) hE1
end Go.Proofs.YtcfggjmdcaoecaaGreatDoor
