/- Whether a statement's own fields are in order, by the reference. Conditions: bounds of lengths. PRINTED by gen_stmt.py of this repo. -/
import Derived.Test.YtolbngbedncemaaGreatDoorSpecExpr
set_option linter.unusedVariables false
set_option linter.unusedSimpArgs false
namespace Go.Proofs.YtolbngbedncemaaGreatDoor
open Go Go.RowKit Md

theorem grow_last {e : List PNode} {x : Ex} (h : grow e = some x) : e.getLast? = some x.node := by
  have := grow_list h
  cases x with | mk n args =>
  rw [Ex.list_mk] at this
  rw [← this]
  simp [Ex.node]
/-- Whether an expression's last node is a call. -/
def root4 (e : List PNode) : Bool := match e.getLast? with | some x => x.kind == 4 | none => false
theorem root4_of {e : List PNode} {r : PNode} (h : e.getLast? = some r) : root4 e = (r.kind == 4) := by rw [root4, h]
theorem stOk_eq0 (s : PStmt) : stOk s = (decide (1 ≤ s.kind) && decide (s.kind ≤ 8) && goodExpr s.e && (if named s.kind then isName s.name else s.name.toList == []) &&
    (if s.kind = 3 then goodExpr s.f else !decide (0 < (s.f.length : Int))) && !decide (s.thn < 0) && !decide (s.els < 0) &&
    (!decide (0 < s.thn) || s.kind == 4 || s.kind == 5) && (!decide (0 < s.els) || s.kind == 4) && (s.kind != 8 || root4 s.e)) := by
  rw [stOk, goodExpr_grow, goodExpr_grow, toList_nil]
  have e1 : decide (0 ≤ s.thn) = !decide (s.thn < 0) := by rw [Bool.eq_iff_iff]; simp
  have e2 : decide (0 ≤ s.els) = !decide (s.els < 0) := by rw [Bool.eq_iff_iff]; simp
  have e3 : (s.f.length == 0) = !decide (0 < (s.f.length : Int)) := by rw [Bool.eq_iff_iff]; simp
  have e4 : (!decide (s.thn < 0) && (s.thn == 0 || s.kind == 4 || s.kind == 5)) = (!decide (s.thn < 0) && (!decide (0 < s.thn) || s.kind == 4 || s.kind == 5)) := by
    by_cases h : s.thn < 0
    · simp [h]
    · have : (s.thn == 0) = !decide (0 < s.thn) := by rw [Bool.eq_iff_iff]; simp; omega
      rw [this]
  have e5 : (!decide (s.els < 0) && (s.els == 0 || s.kind == 4)) = (!decide (s.els < 0) && (!decide (0 < s.els) || s.kind == 4)) := by
    by_cases h : s.els < 0
    · simp [h]
    · have : (s.els == 0) = !decide (0 < s.els) := by rw [Bool.eq_iff_iff]; simp; omega
      rw [this]
  cases h : grow s.e with
  | none => simp
  | some x =>
    rw [root4_of (grow_last h), e1, e2, e3]
    revert e4 e5
    generalize (s.thn == 0) = a1
    generalize (s.els == 0) = a2
    generalize decide (s.thn < 0) = a7
    generalize decide (s.els < 0) = a8
    generalize decide (0 < s.thn) = a9
    generalize decide (0 < s.els) = b1
    generalize (s.kind == 4) = b2
    generalize (s.kind == 5) = b3
    generalize (s.kind != 8) = b4
    cases a7 <;> cases a8 <;> cases a1 <;> cases a2 <;> cases a9 <;> cases b1 <;> cases b2 <;> cases b3 <;> cases b4 <;> simp
theorem stOk_eq (kind : Int) (name : ByteArray) (e f : List PNode) (thn els : Int) : stOk ⟨kind, name, e, f, thn, els⟩ = (decide (1 ≤ kind) && decide (kind ≤ 8) && goodExpr e && (if named kind then isName name else name.toList == []) &&
    (if kind = 3 then goodExpr f else !decide (0 < (f.length : Int))) && !decide (thn < 0) && !decide (els < 0) &&
    (!decide (0 < thn) || kind == 4 || kind == 5) && (!decide (0 < els) || kind == 4) && (kind != 8 || root4 e)) := stOk_eq0 _

theorem isName_ne {s : ByteArray} (h : isName s = true) : (s.toList == []) = false := by
  rw [toList_nil]
  rw [isName_eq] at h
  simp only [Bool.and_eq_true, decide_eq_true_eq] at h
  exact beq_eq_false_iff_ne.2 (by omega)

end Go.Proofs.YtolbngbedncemaaGreatDoor

/- The reference's test of a statement, by kinds. PRINTED by gen_stmt.py of this repo. -/
set_option linter.unusedVariables false
set_option linter.unusedSimpArgs false
namespace Go.Proofs.YtolbngbedncemaaGreatDoor
open Go Go.RowKit Md

set_option maxHeartbeats 2000000 in
set_option maxRecDepth 1000000 in
theorem s_l2GoodStmt1 (K : Foot) (name : ByteArray) (e f : List PNode) (thn els : Int) (vE vF : Value) (w : World) (hE : SlNode K w vE e) (hF : SlNode K w vF f) (hs : name.size ≤ maxLen) (le : decide (e.length ≤ 2000) = true) (lf : decide (f.length ≤ 2000) = true) :
    Calls Tryz.prog 102 #[.agg #[.int .i64 1, .string name, vE, vF, .int .i64 thn, .int .i64 els]] w (Gives (.bool (stOk ⟨1, name, e, f, thn, els⟩)) w) := by
  obtain ⟨aE, nE, zE, rfl⟩ := hE.shape
  obtain ⟨aF, nF, zF, rfl, Hlen, hlc, hcm, _⟩ := hF.op
  rw [stOk_eq, Hlen.out]
  rw [show named 1 = true from rfl, if_pos rfl]
  rw [if_neg (show ¬ ((1 : Int) = 3) by omega)]
  have HE := Lib.hid hE
  have HF := Lib.hid hF
  clear hE hF
  have hX := Blk.alloc w 54 #[.int .i64 1, .string name, .slice aE nE zE, .slice aF nF zF, .int .i64 thn, .int .i64 els]
  have hEx : Ext w (w.alloc (.cells #[.int .i64 1, .string name, .slice aE nE zE, .slice aF nF zF, .int .i64 thn, .int .i64 els] 54)) := (Ext.refl _).alloc _
  go_enter Tryz.func102, Tryz.ntmps102
  go_wp2_with fail
  refine (s_l1In _ _ _ _).mono ?_; rintro _ _ ⟨rfl, rfl⟩
  go_wp2_with fail
  refine (s_l2GoodExpr K e _ _ (HE.out.ext hEx (fun _ _ h => h.any))).mono ?_
  rintro _ w1 ⟨rfl, hX1⟩
  rw [le, Bool.true_and]
  have hB := hX.ext hX1
  have c0 : w1.cell? ⟨w.heap.size, 0, none⟩ = some (.int .i64 1) := hB.cell 0
  have c1 : w1.cell? ⟨w.heap.size, 1, none⟩ = some (.string name) := hB.cell 1
  have c2 : w1.cell? ⟨w.heap.size, 2, none⟩ = some (.slice aE nE zE) := hB.cell 2
  have c3 : w1.cell? ⟨w.heap.size, 3, none⟩ = some (.slice aF nF zF) := hB.cell 3
  have c4 : w1.cell? ⟨w.heap.size, 4, none⟩ = some (.int .i64 thn) := hB.cell 4
  have c5 : w1.cell? ⟨w.heap.size, 5, none⟩ = some (.int .i64 els) := hB.cell 5
  have hE1 := hEx.trans hX1
  cases hg : goodExpr e
  · go_wp2
    all_goals (go_ret; exact Gives.bool (by ((try rw [hg]); (try rw [hn]); (try rw [ht]); (try rw [d5.out]); (try rw [hgf]); (try rw [d1.out]); (try rw [d2.out]); (try rw [d3.out]); (try rw [d4.out]); first | rfl | (simp; done))) hE1)
  · go_wp2_with fail
    refine (s_l2Name name _ hs).mono ?_; rintro _ _ ⟨rfl, rfl⟩
    cases hn : isName name
    · go_wp2
      all_goals (go_ret; exact Gives.bool (by ((try rw [hg]); (try rw [hn]); (try rw [ht]); (try rw [d5.out]); (try rw [hgf]); (try rw [d1.out]); (try rw [d2.out]); (try rw [d3.out]); (try rw [d4.out]); first | rfl | (simp; done))) hE1)
    · by_cases h5 : 0 < (nF : Int)
      · have d5 := Lib.hid (decide_eq_true h5)
        go_wp2
        go_ret
        exact Gives.bool (by ((try rw [hg]); (try rw [hn]); (try rw [ht]); (try rw [d5.out]); (try rw [hgf]); (try rw [d1.out]); (try rw [d2.out]); (try rw [d3.out]); (try rw [d4.out]); first | rfl | (simp; done))) hE1
      · have d5 := Lib.hid (decide_eq_false h5)
        by_cases h1 : thn < 0
        · have d1 := Lib.hid (decide_eq_true h1)
          go_wp2
          go_ret
          exact Gives.bool (by ((try rw [hg]); (try rw [hn]); (try rw [ht]); (try rw [d5.out]); (try rw [hgf]); (try rw [d1.out]); (try rw [d2.out]); (try rw [d3.out]); (try rw [d4.out]); first | rfl | (simp; done))) hE1
        have d1 := Lib.hid (decide_eq_false h1)
        by_cases h2 : els < 0
        · have d2 := Lib.hid (decide_eq_true h2)
          go_wp2
          go_ret
          exact Gives.bool (by ((try rw [hg]); (try rw [hn]); (try rw [ht]); (try rw [d5.out]); (try rw [hgf]); (try rw [d1.out]); (try rw [d2.out]); (try rw [d3.out]); (try rw [d4.out]); first | rfl | (simp; done))) hE1
        have d2 := Lib.hid (decide_eq_false h2)
        by_cases h3 : 0 < thn
        · have d3 := Lib.hid (decide_eq_true h3)
          go_wp2
          go_ret
          exact Gives.bool (by ((try rw [hg]); (try rw [hn]); (try rw [ht]); (try rw [d5.out]); (try rw [hgf]); (try rw [d1.out]); (try rw [d2.out]); (try rw [d3.out]); (try rw [d4.out]); first | rfl | (simp; done))) hE1
        · have d3 := Lib.hid (decide_eq_false h3)
          by_cases h4 : 0 < els
          · have d4 := Lib.hid (decide_eq_true h4)
            go_wp2
            go_ret
            exact Gives.bool (by ((try rw [hg]); (try rw [hn]); (try rw [ht]); (try rw [d5.out]); (try rw [hgf]); (try rw [d1.out]); (try rw [d2.out]); (try rw [d3.out]); (try rw [d4.out]); first | rfl | (simp; done))) hE1
          · have d4 := Lib.hid (decide_eq_false h4)
            go_wp2
            go_ret
            exact Gives.bool (by ((try rw [hg]); (try rw [hn]); (try rw [ht]); (try rw [d5.out]); (try rw [hgf]); (try rw [d1.out]); (try rw [d2.out]); (try rw [d3.out]); (try rw [d4.out]); first | rfl | (simp; done))) hE1

set_option maxHeartbeats 2000000 in
set_option maxRecDepth 1000000 in
theorem s_l2GoodStmt2 (K : Foot) (name : ByteArray) (e f : List PNode) (thn els : Int) (vE vF : Value) (w : World) (hE : SlNode K w vE e) (hF : SlNode K w vF f) (hs : name.size ≤ maxLen) (le : decide (e.length ≤ 2000) = true) (lf : decide (f.length ≤ 2000) = true) :
    Calls Tryz.prog 102 #[.agg #[.int .i64 2, .string name, vE, vF, .int .i64 thn, .int .i64 els]] w (Gives (.bool (stOk ⟨2, name, e, f, thn, els⟩)) w) := by
  obtain ⟨aE, nE, zE, rfl⟩ := hE.shape
  obtain ⟨aF, nF, zF, rfl, Hlen, hlc, hcm, _⟩ := hF.op
  rw [stOk_eq, Hlen.out]
  rw [show named 2 = true from rfl, if_pos rfl]
  rw [if_neg (show ¬ ((2 : Int) = 3) by omega)]
  have HE := Lib.hid hE
  have HF := Lib.hid hF
  clear hE hF
  have hX := Blk.alloc w 54 #[.int .i64 2, .string name, .slice aE nE zE, .slice aF nF zF, .int .i64 thn, .int .i64 els]
  have hEx : Ext w (w.alloc (.cells #[.int .i64 2, .string name, .slice aE nE zE, .slice aF nF zF, .int .i64 thn, .int .i64 els] 54)) := (Ext.refl _).alloc _
  go_enter Tryz.func102, Tryz.ntmps102
  go_wp2_with fail
  refine (s_l1In _ _ _ _).mono ?_; rintro _ _ ⟨rfl, rfl⟩
  go_wp2_with fail
  refine (s_l2GoodExpr K e _ _ (HE.out.ext hEx (fun _ _ h => h.any))).mono ?_
  rintro _ w1 ⟨rfl, hX1⟩
  rw [le, Bool.true_and]
  have hB := hX.ext hX1
  have c0 : w1.cell? ⟨w.heap.size, 0, none⟩ = some (.int .i64 2) := hB.cell 0
  have c1 : w1.cell? ⟨w.heap.size, 1, none⟩ = some (.string name) := hB.cell 1
  have c2 : w1.cell? ⟨w.heap.size, 2, none⟩ = some (.slice aE nE zE) := hB.cell 2
  have c3 : w1.cell? ⟨w.heap.size, 3, none⟩ = some (.slice aF nF zF) := hB.cell 3
  have c4 : w1.cell? ⟨w.heap.size, 4, none⟩ = some (.int .i64 thn) := hB.cell 4
  have c5 : w1.cell? ⟨w.heap.size, 5, none⟩ = some (.int .i64 els) := hB.cell 5
  have hE1 := hEx.trans hX1
  cases hg : goodExpr e
  · go_wp2
    all_goals (go_ret; exact Gives.bool (by ((try rw [hg]); (try rw [hn]); (try rw [ht]); (try rw [d5.out]); (try rw [hgf]); (try rw [d1.out]); (try rw [d2.out]); (try rw [d3.out]); (try rw [d4.out]); first | rfl | (simp; done))) hE1)
  · go_wp2_with fail
    refine (s_l2Name name _ hs).mono ?_; rintro _ _ ⟨rfl, rfl⟩
    cases hn : isName name
    · go_wp2
      all_goals (go_ret; exact Gives.bool (by ((try rw [hg]); (try rw [hn]); (try rw [ht]); (try rw [d5.out]); (try rw [hgf]); (try rw [d1.out]); (try rw [d2.out]); (try rw [d3.out]); (try rw [d4.out]); first | rfl | (simp; done))) hE1)
    · by_cases h5 : 0 < (nF : Int)
      · have d5 := Lib.hid (decide_eq_true h5)
        go_wp2
        go_ret
        exact Gives.bool (by ((try rw [hg]); (try rw [hn]); (try rw [ht]); (try rw [d5.out]); (try rw [hgf]); (try rw [d1.out]); (try rw [d2.out]); (try rw [d3.out]); (try rw [d4.out]); first | rfl | (simp; done))) hE1
      · have d5 := Lib.hid (decide_eq_false h5)
        by_cases h1 : thn < 0
        · have d1 := Lib.hid (decide_eq_true h1)
          go_wp2
          go_ret
          exact Gives.bool (by ((try rw [hg]); (try rw [hn]); (try rw [ht]); (try rw [d5.out]); (try rw [hgf]); (try rw [d1.out]); (try rw [d2.out]); (try rw [d3.out]); (try rw [d4.out]); first | rfl | (simp; done))) hE1
        have d1 := Lib.hid (decide_eq_false h1)
        by_cases h2 : els < 0
        · have d2 := Lib.hid (decide_eq_true h2)
          go_wp2
          go_ret
          exact Gives.bool (by ((try rw [hg]); (try rw [hn]); (try rw [ht]); (try rw [d5.out]); (try rw [hgf]); (try rw [d1.out]); (try rw [d2.out]); (try rw [d3.out]); (try rw [d4.out]); first | rfl | (simp; done))) hE1
        have d2 := Lib.hid (decide_eq_false h2)
        by_cases h3 : 0 < thn
        · have d3 := Lib.hid (decide_eq_true h3)
          go_wp2
          go_ret
          exact Gives.bool (by ((try rw [hg]); (try rw [hn]); (try rw [ht]); (try rw [d5.out]); (try rw [hgf]); (try rw [d1.out]); (try rw [d2.out]); (try rw [d3.out]); (try rw [d4.out]); first | rfl | (simp; done))) hE1
        · have d3 := Lib.hid (decide_eq_false h3)
          by_cases h4 : 0 < els
          · have d4 := Lib.hid (decide_eq_true h4)
            go_wp2
            go_ret
            exact Gives.bool (by ((try rw [hg]); (try rw [hn]); (try rw [ht]); (try rw [d5.out]); (try rw [hgf]); (try rw [d1.out]); (try rw [d2.out]); (try rw [d3.out]); (try rw [d4.out]); first | rfl | (simp; done))) hE1
          · have d4 := Lib.hid (decide_eq_false h4)
            go_wp2
            go_ret
            exact Gives.bool (by ((try rw [hg]); (try rw [hn]); (try rw [ht]); (try rw [d5.out]); (try rw [hgf]); (try rw [d1.out]); (try rw [d2.out]); (try rw [d3.out]); (try rw [d4.out]); first | rfl | (simp; done))) hE1
end Go.Proofs.YtolbngbedncemaaGreatDoor

/- The reference's test of a statement, by kinds. PRINTED by gen_stmt.py of this repo. -/
set_option linter.unusedVariables false
set_option linter.unusedSimpArgs false
namespace Go.Proofs.YtolbngbedncemaaGreatDoor
open Go Go.RowKit Md

set_option maxHeartbeats 2000000 in
set_option maxRecDepth 1000000 in
theorem s_l2GoodStmt3 (K : Foot) (name : ByteArray) (e f : List PNode) (thn els : Int) (vE vF : Value) (w : World) (hE : SlNode K w vE e) (hF : SlNode K w vF f) (hs : name.size ≤ maxLen) (le : decide (e.length ≤ 2000) = true) (lf : decide (f.length ≤ 2000) = true) :
    Calls Tryz.prog 102 #[.agg #[.int .i64 3, .string name, vE, vF, .int .i64 thn, .int .i64 els]] w (Gives (.bool (stOk ⟨3, name, e, f, thn, els⟩)) w) := by
  obtain ⟨aE, nE, zE, rfl⟩ := hE.shape
  obtain ⟨aF, nF, zF, rfl, Hlen, hlc, hcm, _⟩ := hF.op
  rw [stOk_eq, Hlen.out]
  rw [show named 3 = true from rfl, if_pos rfl]
  rw [if_pos (show ((3 : Int) = 3) by omega)]
  have HE := Lib.hid hE
  have HF := Lib.hid hF
  clear hE hF
  have hX := Blk.alloc w 54 #[.int .i64 3, .string name, .slice aE nE zE, .slice aF nF zF, .int .i64 thn, .int .i64 els]
  have hEx : Ext w (w.alloc (.cells #[.int .i64 3, .string name, .slice aE nE zE, .slice aF nF zF, .int .i64 thn, .int .i64 els] 54)) := (Ext.refl _).alloc _
  go_enter Tryz.func102, Tryz.ntmps102
  go_wp2_with fail
  refine (s_l1In _ _ _ _).mono ?_; rintro _ _ ⟨rfl, rfl⟩
  go_wp2_with fail
  refine (s_l2GoodExpr K e _ _ (HE.out.ext hEx (fun _ _ h => h.any))).mono ?_
  rintro _ w1 ⟨rfl, hX1⟩
  rw [le, Bool.true_and]
  have hB := hX.ext hX1
  have c0 : w1.cell? ⟨w.heap.size, 0, none⟩ = some (.int .i64 3) := hB.cell 0
  have c1 : w1.cell? ⟨w.heap.size, 1, none⟩ = some (.string name) := hB.cell 1
  have c2 : w1.cell? ⟨w.heap.size, 2, none⟩ = some (.slice aE nE zE) := hB.cell 2
  have c3 : w1.cell? ⟨w.heap.size, 3, none⟩ = some (.slice aF nF zF) := hB.cell 3
  have c4 : w1.cell? ⟨w.heap.size, 4, none⟩ = some (.int .i64 thn) := hB.cell 4
  have c5 : w1.cell? ⟨w.heap.size, 5, none⟩ = some (.int .i64 els) := hB.cell 5
  have hE1 := hEx.trans hX1
  cases hg : goodExpr e
  · go_wp2
    all_goals (go_ret; exact Gives.bool (by ((try rw [hg]); (try rw [hn]); (try rw [ht]); (try rw [d5.out]); (try rw [hgf]); (try rw [d1.out]); (try rw [d2.out]); (try rw [d3.out]); (try rw [d4.out]); first | rfl | (simp; done))) hE1)
  · go_wp2_with fail
    refine (s_l2Name name _ hs).mono ?_; rintro _ _ ⟨rfl, rfl⟩
    cases hn : isName name
    · go_wp2
      all_goals (go_ret; exact Gives.bool (by ((try rw [hg]); (try rw [hn]); (try rw [ht]); (try rw [d5.out]); (try rw [hgf]); (try rw [d1.out]); (try rw [d2.out]); (try rw [d3.out]); (try rw [d4.out]); first | rfl | (simp; done))) hE1)
    · by_cases h5 : 0 < (nF : Int)
      · have d5 := Lib.hid (decide_eq_true h5)
        go_wp2_with fail
        refine (s_l2GoodExpr K f _ _ (HF.out.ext hE1 (fun _ _ h => h.any))).mono ?_
        rintro _ w2 ⟨rfl, hX2⟩
        rw [lf, Bool.true_and]
        have hB2 := hB.ext hX2
        clear c0 c1 c2 c3 c4 c5
        have c0 : w2.cell? ⟨w.heap.size, 0, none⟩ = some (.int .i64 3) := hB2.cell 0
        have c1 : w2.cell? ⟨w.heap.size, 1, none⟩ = some (.string name) := hB2.cell 1
        have c2 : w2.cell? ⟨w.heap.size, 2, none⟩ = some (.slice aE nE zE) := hB2.cell 2
        have c3 : w2.cell? ⟨w.heap.size, 3, none⟩ = some (.slice aF nF zF) := hB2.cell 3
        have c4 : w2.cell? ⟨w.heap.size, 4, none⟩ = some (.int .i64 thn) := hB2.cell 4
        have c5 : w2.cell? ⟨w.heap.size, 5, none⟩ = some (.int .i64 els) := hB2.cell 5
        have hE2 := hE1.trans hX2
        cases hgf : goodExpr f
        · go_wp2
          all_goals (go_ret; exact Gives.bool (by ((try rw [hg]); (try rw [hn]); (try rw [ht]); (try rw [d5.out]); (try rw [hgf]); (try rw [d1.out]); (try rw [d2.out]); (try rw [d3.out]); (try rw [d4.out]); first | rfl | (simp; done))) hE2)
        · by_cases h1 : thn < 0
          · have d1 := Lib.hid (decide_eq_true h1)
            go_wp2
            go_ret
            exact Gives.bool (by ((try rw [hg]); (try rw [hn]); (try rw [ht]); (try rw [d5.out]); (try rw [hgf]); (try rw [d1.out]); (try rw [d2.out]); (try rw [d3.out]); (try rw [d4.out]); first | rfl | (simp; done))) hE2
          have d1 := Lib.hid (decide_eq_false h1)
          by_cases h2 : els < 0
          · have d2 := Lib.hid (decide_eq_true h2)
            go_wp2
            go_ret
            exact Gives.bool (by ((try rw [hg]); (try rw [hn]); (try rw [ht]); (try rw [d5.out]); (try rw [hgf]); (try rw [d1.out]); (try rw [d2.out]); (try rw [d3.out]); (try rw [d4.out]); first | rfl | (simp; done))) hE2
          have d2 := Lib.hid (decide_eq_false h2)
          by_cases h3 : 0 < thn
          · have d3 := Lib.hid (decide_eq_true h3)
            go_wp2
            go_ret
            exact Gives.bool (by ((try rw [hg]); (try rw [hn]); (try rw [ht]); (try rw [d5.out]); (try rw [hgf]); (try rw [d1.out]); (try rw [d2.out]); (try rw [d3.out]); (try rw [d4.out]); first | rfl | (simp; done))) hE2
          · have d3 := Lib.hid (decide_eq_false h3)
            by_cases h4 : 0 < els
            · have d4 := Lib.hid (decide_eq_true h4)
              go_wp2
              go_ret
              exact Gives.bool (by ((try rw [hg]); (try rw [hn]); (try rw [ht]); (try rw [d5.out]); (try rw [hgf]); (try rw [d1.out]); (try rw [d2.out]); (try rw [d3.out]); (try rw [d4.out]); first | rfl | (simp; done))) hE2
            · have d4 := Lib.hid (decide_eq_false h4)
              go_wp2
              go_ret
              exact Gives.bool (by ((try rw [hg]); (try rw [hn]); (try rw [ht]); (try rw [d5.out]); (try rw [hgf]); (try rw [d1.out]); (try rw [d2.out]); (try rw [d3.out]); (try rw [d4.out]); first | rfl | (simp; done))) hE2
      · have d5 := Lib.hid (decide_eq_false h5)
        have hgf : goodExpr f = false := by
          have h1 := Hlen.out
          have : f = [] := List.eq_nil_of_length_eq_zero (by omega)
          rw [this]; rfl
        go_wp2
        go_ret
        exact Gives.bool (by ((try rw [hg]); (try rw [hn]); (try rw [ht]); (try rw [d5.out]); (try rw [hgf]); (try rw [d1.out]); (try rw [d2.out]); (try rw [d3.out]); (try rw [d4.out]); first | rfl | (simp; done))) hE1

set_option maxHeartbeats 2000000 in
set_option maxRecDepth 1000000 in
theorem s_l2GoodStmt4 (K : Foot) (name : ByteArray) (e f : List PNode) (thn els : Int) (vE vF : Value) (w : World) (hE : SlNode K w vE e) (hF : SlNode K w vF f) (hs : name.size ≤ maxLen) (le : decide (e.length ≤ 2000) = true) (lf : decide (f.length ≤ 2000) = true) :
    Calls Tryz.prog 102 #[.agg #[.int .i64 4, .string name, vE, vF, .int .i64 thn, .int .i64 els]] w (Gives (.bool (stOk ⟨4, name, e, f, thn, els⟩)) w) := by
  obtain ⟨aE, nE, zE, rfl⟩ := hE.shape
  obtain ⟨aF, nF, zF, rfl, Hlen, hlc, hcm, _⟩ := hF.op
  rw [stOk_eq, Hlen.out]
  rw [show named 4 = false from rfl, if_neg (show ¬ false = true by simp)]
  rw [if_neg (show ¬ ((4 : Int) = 3) by omega)]
  have HE := Lib.hid hE
  have HF := Lib.hid hF
  clear hE hF
  have hX := Blk.alloc w 54 #[.int .i64 4, .string name, .slice aE nE zE, .slice aF nF zF, .int .i64 thn, .int .i64 els]
  have hEx : Ext w (w.alloc (.cells #[.int .i64 4, .string name, .slice aE nE zE, .slice aF nF zF, .int .i64 thn, .int .i64 els] 54)) := (Ext.refl _).alloc _
  go_enter Tryz.func102, Tryz.ntmps102
  go_wp2_with fail
  refine (s_l1In _ _ _ _).mono ?_; rintro _ _ ⟨rfl, rfl⟩
  go_wp2_with fail
  refine (s_l2GoodExpr K e _ _ (HE.out.ext hEx (fun _ _ h => h.any))).mono ?_
  rintro _ w1 ⟨rfl, hX1⟩
  rw [le, Bool.true_and]
  have hB := hX.ext hX1
  have c0 : w1.cell? ⟨w.heap.size, 0, none⟩ = some (.int .i64 4) := hB.cell 0
  have c1 : w1.cell? ⟨w.heap.size, 1, none⟩ = some (.string name) := hB.cell 1
  have c2 : w1.cell? ⟨w.heap.size, 2, none⟩ = some (.slice aE nE zE) := hB.cell 2
  have c3 : w1.cell? ⟨w.heap.size, 3, none⟩ = some (.slice aF nF zF) := hB.cell 3
  have c4 : w1.cell? ⟨w.heap.size, 4, none⟩ = some (.int .i64 thn) := hB.cell 4
  have c5 : w1.cell? ⟨w.heap.size, 5, none⟩ = some (.int .i64 els) := hB.cell 5
  have hE1 := hEx.trans hX1
  cases hg : goodExpr e
  · go_wp2
    all_goals (go_ret; exact Gives.bool (by ((try rw [hg]); (try rw [hn]); (try rw [ht]); (try rw [d5.out]); (try rw [hgf]); (try rw [d1.out]); (try rw [d2.out]); (try rw [d3.out]); (try rw [d4.out]); first | rfl | (simp; done))) hE1)
  · go_wp2_with fail
    refine (s_l2Name name _ hs).mono ?_; rintro _ _ ⟨rfl, rfl⟩
    cases hn : isName name
    · cases ht : (name.toList == [])
      · go_wp2
        go_ret
        exact Gives.bool (by ((try rw [hg]); (try rw [hn]); (try rw [ht]); (try rw [d5.out]); (try rw [hgf]); (try rw [d1.out]); (try rw [d2.out]); (try rw [d3.out]); (try rw [d4.out]); first | rfl | (simp; done))) hE1
      · by_cases h5 : 0 < (nF : Int)
        · have d5 := Lib.hid (decide_eq_true h5)
          go_wp2
          go_ret
          exact Gives.bool (by ((try rw [hg]); (try rw [hn]); (try rw [ht]); (try rw [d5.out]); (try rw [hgf]); (try rw [d1.out]); (try rw [d2.out]); (try rw [d3.out]); (try rw [d4.out]); first | rfl | (simp; done))) hE1
        · have d5 := Lib.hid (decide_eq_false h5)
          by_cases h1 : thn < 0
          · have d1 := Lib.hid (decide_eq_true h1)
            go_wp2
            go_ret
            exact Gives.bool (by ((try rw [hg]); (try rw [hn]); (try rw [ht]); (try rw [d5.out]); (try rw [hgf]); (try rw [d1.out]); (try rw [d2.out]); (try rw [d3.out]); (try rw [d4.out]); first | rfl | (simp; done))) hE1
          have d1 := Lib.hid (decide_eq_false h1)
          by_cases h2 : els < 0
          · have d2 := Lib.hid (decide_eq_true h2)
            go_wp2
            go_ret
            exact Gives.bool (by ((try rw [hg]); (try rw [hn]); (try rw [ht]); (try rw [d5.out]); (try rw [hgf]); (try rw [d1.out]); (try rw [d2.out]); (try rw [d3.out]); (try rw [d4.out]); first | rfl | (simp; done))) hE1
          have d2 := Lib.hid (decide_eq_false h2)
          by_cases h3 : 0 < thn
          · have d3 := Lib.hid (decide_eq_true h3)
            by_cases h4 : 0 < els
            · have d4 := Lib.hid (decide_eq_true h4)
              go_wp2
              go_ret
              exact Gives.bool (by ((try rw [hg]); (try rw [hn]); (try rw [ht]); (try rw [d5.out]); (try rw [hgf]); (try rw [d1.out]); (try rw [d2.out]); (try rw [d3.out]); (try rw [d4.out]); first | rfl | (simp; done))) hE1
            · have d4 := Lib.hid (decide_eq_false h4)
              go_wp2
              go_ret
              exact Gives.bool (by ((try rw [hg]); (try rw [hn]); (try rw [ht]); (try rw [d5.out]); (try rw [hgf]); (try rw [d1.out]); (try rw [d2.out]); (try rw [d3.out]); (try rw [d4.out]); first | rfl | (simp; done))) hE1
          · have d3 := Lib.hid (decide_eq_false h3)
            by_cases h4 : 0 < els
            · have d4 := Lib.hid (decide_eq_true h4)
              go_wp2
              go_ret
              exact Gives.bool (by ((try rw [hg]); (try rw [hn]); (try rw [ht]); (try rw [d5.out]); (try rw [hgf]); (try rw [d1.out]); (try rw [d2.out]); (try rw [d3.out]); (try rw [d4.out]); first | rfl | (simp; done))) hE1
            · have d4 := Lib.hid (decide_eq_false h4)
              go_wp2
              go_ret
              exact Gives.bool (by ((try rw [hg]); (try rw [hn]); (try rw [ht]); (try rw [d5.out]); (try rw [hgf]); (try rw [d1.out]); (try rw [d2.out]); (try rw [d3.out]); (try rw [d4.out]); first | rfl | (simp; done))) hE1
    · have ht := isName_ne hn
      go_wp2
      all_goals (go_ret; exact Gives.bool (by ((try rw [hg]); (try rw [hn]); (try rw [ht]); (try rw [d5.out]); (try rw [hgf]); (try rw [d1.out]); (try rw [d2.out]); (try rw [d3.out]); (try rw [d4.out]); first | rfl | (simp; done))) hE1)
end Go.Proofs.YtolbngbedncemaaGreatDoor

/- The reference's test of a statement, by kinds. PRINTED by gen_stmt.py of this repo. -/
set_option linter.unusedVariables false
set_option linter.unusedSimpArgs false
namespace Go.Proofs.YtolbngbedncemaaGreatDoor
open Go Go.RowKit Md

set_option maxHeartbeats 2000000 in
set_option maxRecDepth 1000000 in
theorem s_l2GoodStmt5 (K : Foot) (name : ByteArray) (e f : List PNode) (thn els : Int) (vE vF : Value) (w : World) (hE : SlNode K w vE e) (hF : SlNode K w vF f) (hs : name.size ≤ maxLen) (le : decide (e.length ≤ 2000) = true) (lf : decide (f.length ≤ 2000) = true) :
    Calls Tryz.prog 102 #[.agg #[.int .i64 5, .string name, vE, vF, .int .i64 thn, .int .i64 els]] w (Gives (.bool (stOk ⟨5, name, e, f, thn, els⟩)) w) := by
  obtain ⟨aE, nE, zE, rfl⟩ := hE.shape
  obtain ⟨aF, nF, zF, rfl, Hlen, hlc, hcm, _⟩ := hF.op
  rw [stOk_eq, Hlen.out]
  rw [show named 5 = false from rfl, if_neg (show ¬ false = true by simp)]
  rw [if_neg (show ¬ ((5 : Int) = 3) by omega)]
  have HE := Lib.hid hE
  have HF := Lib.hid hF
  clear hE hF
  have hX := Blk.alloc w 54 #[.int .i64 5, .string name, .slice aE nE zE, .slice aF nF zF, .int .i64 thn, .int .i64 els]
  have hEx : Ext w (w.alloc (.cells #[.int .i64 5, .string name, .slice aE nE zE, .slice aF nF zF, .int .i64 thn, .int .i64 els] 54)) := (Ext.refl _).alloc _
  go_enter Tryz.func102, Tryz.ntmps102
  go_wp2_with fail
  refine (s_l1In _ _ _ _).mono ?_; rintro _ _ ⟨rfl, rfl⟩
  go_wp2_with fail
  refine (s_l2GoodExpr K e _ _ (HE.out.ext hEx (fun _ _ h => h.any))).mono ?_
  rintro _ w1 ⟨rfl, hX1⟩
  rw [le, Bool.true_and]
  have hB := hX.ext hX1
  have c0 : w1.cell? ⟨w.heap.size, 0, none⟩ = some (.int .i64 5) := hB.cell 0
  have c1 : w1.cell? ⟨w.heap.size, 1, none⟩ = some (.string name) := hB.cell 1
  have c2 : w1.cell? ⟨w.heap.size, 2, none⟩ = some (.slice aE nE zE) := hB.cell 2
  have c3 : w1.cell? ⟨w.heap.size, 3, none⟩ = some (.slice aF nF zF) := hB.cell 3
  have c4 : w1.cell? ⟨w.heap.size, 4, none⟩ = some (.int .i64 thn) := hB.cell 4
  have c5 : w1.cell? ⟨w.heap.size, 5, none⟩ = some (.int .i64 els) := hB.cell 5
  have hE1 := hEx.trans hX1
  cases hg : goodExpr e
  · go_wp2
    all_goals (go_ret; exact Gives.bool (by ((try rw [hg]); (try rw [hn]); (try rw [ht]); (try rw [d5.out]); (try rw [hgf]); (try rw [d1.out]); (try rw [d2.out]); (try rw [d3.out]); (try rw [d4.out]); first | rfl | (simp; done))) hE1)
  · go_wp2_with fail
    refine (s_l2Name name _ hs).mono ?_; rintro _ _ ⟨rfl, rfl⟩
    cases hn : isName name
    · cases ht : (name.toList == [])
      · go_wp2
        go_ret
        exact Gives.bool (by ((try rw [hg]); (try rw [hn]); (try rw [ht]); (try rw [d5.out]); (try rw [hgf]); (try rw [d1.out]); (try rw [d2.out]); (try rw [d3.out]); (try rw [d4.out]); first | rfl | (simp; done))) hE1
      · by_cases h5 : 0 < (nF : Int)
        · have d5 := Lib.hid (decide_eq_true h5)
          go_wp2
          go_ret
          exact Gives.bool (by ((try rw [hg]); (try rw [hn]); (try rw [ht]); (try rw [d5.out]); (try rw [hgf]); (try rw [d1.out]); (try rw [d2.out]); (try rw [d3.out]); (try rw [d4.out]); first | rfl | (simp; done))) hE1
        · have d5 := Lib.hid (decide_eq_false h5)
          by_cases h1 : thn < 0
          · have d1 := Lib.hid (decide_eq_true h1)
            go_wp2
            go_ret
            exact Gives.bool (by ((try rw [hg]); (try rw [hn]); (try rw [ht]); (try rw [d5.out]); (try rw [hgf]); (try rw [d1.out]); (try rw [d2.out]); (try rw [d3.out]); (try rw [d4.out]); first | rfl | (simp; done))) hE1
          have d1 := Lib.hid (decide_eq_false h1)
          by_cases h2 : els < 0
          · have d2 := Lib.hid (decide_eq_true h2)
            go_wp2
            go_ret
            exact Gives.bool (by ((try rw [hg]); (try rw [hn]); (try rw [ht]); (try rw [d5.out]); (try rw [hgf]); (try rw [d1.out]); (try rw [d2.out]); (try rw [d3.out]); (try rw [d4.out]); first | rfl | (simp; done))) hE1
          have d2 := Lib.hid (decide_eq_false h2)
          by_cases h3 : 0 < thn
          · have d3 := Lib.hid (decide_eq_true h3)
            by_cases h4 : 0 < els
            · have d4 := Lib.hid (decide_eq_true h4)
              go_wp2
              go_ret
              exact Gives.bool (by ((try rw [hg]); (try rw [hn]); (try rw [ht]); (try rw [d5.out]); (try rw [hgf]); (try rw [d1.out]); (try rw [d2.out]); (try rw [d3.out]); (try rw [d4.out]); first | rfl | (simp; done))) hE1
            · have d4 := Lib.hid (decide_eq_false h4)
              go_wp2
              go_ret
              exact Gives.bool (by ((try rw [hg]); (try rw [hn]); (try rw [ht]); (try rw [d5.out]); (try rw [hgf]); (try rw [d1.out]); (try rw [d2.out]); (try rw [d3.out]); (try rw [d4.out]); first | rfl | (simp; done))) hE1
          · have d3 := Lib.hid (decide_eq_false h3)
            by_cases h4 : 0 < els
            · have d4 := Lib.hid (decide_eq_true h4)
              go_wp2
              go_ret
              exact Gives.bool (by ((try rw [hg]); (try rw [hn]); (try rw [ht]); (try rw [d5.out]); (try rw [hgf]); (try rw [d1.out]); (try rw [d2.out]); (try rw [d3.out]); (try rw [d4.out]); first | rfl | (simp; done))) hE1
            · have d4 := Lib.hid (decide_eq_false h4)
              go_wp2
              go_ret
              exact Gives.bool (by ((try rw [hg]); (try rw [hn]); (try rw [ht]); (try rw [d5.out]); (try rw [hgf]); (try rw [d1.out]); (try rw [d2.out]); (try rw [d3.out]); (try rw [d4.out]); first | rfl | (simp; done))) hE1
    · have ht := isName_ne hn
      go_wp2
      all_goals (go_ret; exact Gives.bool (by ((try rw [hg]); (try rw [hn]); (try rw [ht]); (try rw [d5.out]); (try rw [hgf]); (try rw [d1.out]); (try rw [d2.out]); (try rw [d3.out]); (try rw [d4.out]); first | rfl | (simp; done))) hE1)

set_option maxHeartbeats 2000000 in
set_option maxRecDepth 1000000 in
theorem s_l2GoodStmt6 (K : Foot) (name : ByteArray) (e f : List PNode) (thn els : Int) (vE vF : Value) (w : World) (hE : SlNode K w vE e) (hF : SlNode K w vF f) (hs : name.size ≤ maxLen) (le : decide (e.length ≤ 2000) = true) (lf : decide (f.length ≤ 2000) = true) :
    Calls Tryz.prog 102 #[.agg #[.int .i64 6, .string name, vE, vF, .int .i64 thn, .int .i64 els]] w (Gives (.bool (stOk ⟨6, name, e, f, thn, els⟩)) w) := by
  obtain ⟨aE, nE, zE, rfl⟩ := hE.shape
  obtain ⟨aF, nF, zF, rfl, Hlen, hlc, hcm, _⟩ := hF.op
  rw [stOk_eq, Hlen.out]
  rw [show named 6 = false from rfl, if_neg (show ¬ false = true by simp)]
  rw [if_neg (show ¬ ((6 : Int) = 3) by omega)]
  have HE := Lib.hid hE
  have HF := Lib.hid hF
  clear hE hF
  have hX := Blk.alloc w 54 #[.int .i64 6, .string name, .slice aE nE zE, .slice aF nF zF, .int .i64 thn, .int .i64 els]
  have hEx : Ext w (w.alloc (.cells #[.int .i64 6, .string name, .slice aE nE zE, .slice aF nF zF, .int .i64 thn, .int .i64 els] 54)) := (Ext.refl _).alloc _
  go_enter Tryz.func102, Tryz.ntmps102
  go_wp2_with fail
  refine (s_l1In _ _ _ _).mono ?_; rintro _ _ ⟨rfl, rfl⟩
  go_wp2_with fail
  refine (s_l2GoodExpr K e _ _ (HE.out.ext hEx (fun _ _ h => h.any))).mono ?_
  rintro _ w1 ⟨rfl, hX1⟩
  rw [le, Bool.true_and]
  have hB := hX.ext hX1
  have c0 : w1.cell? ⟨w.heap.size, 0, none⟩ = some (.int .i64 6) := hB.cell 0
  have c1 : w1.cell? ⟨w.heap.size, 1, none⟩ = some (.string name) := hB.cell 1
  have c2 : w1.cell? ⟨w.heap.size, 2, none⟩ = some (.slice aE nE zE) := hB.cell 2
  have c3 : w1.cell? ⟨w.heap.size, 3, none⟩ = some (.slice aF nF zF) := hB.cell 3
  have c4 : w1.cell? ⟨w.heap.size, 4, none⟩ = some (.int .i64 thn) := hB.cell 4
  have c5 : w1.cell? ⟨w.heap.size, 5, none⟩ = some (.int .i64 els) := hB.cell 5
  have hE1 := hEx.trans hX1
  cases hg : goodExpr e
  · go_wp2
    all_goals (go_ret; exact Gives.bool (by ((try rw [hg]); (try rw [hn]); (try rw [ht]); (try rw [d5.out]); (try rw [hgf]); (try rw [d1.out]); (try rw [d2.out]); (try rw [d3.out]); (try rw [d4.out]); first | rfl | (simp; done))) hE1)
  · go_wp2_with fail
    refine (s_l2Name name _ hs).mono ?_; rintro _ _ ⟨rfl, rfl⟩
    cases hn : isName name
    · cases ht : (name.toList == [])
      · go_wp2
        go_ret
        exact Gives.bool (by ((try rw [hg]); (try rw [hn]); (try rw [ht]); (try rw [d5.out]); (try rw [hgf]); (try rw [d1.out]); (try rw [d2.out]); (try rw [d3.out]); (try rw [d4.out]); first | rfl | (simp; done))) hE1
      · by_cases h5 : 0 < (nF : Int)
        · have d5 := Lib.hid (decide_eq_true h5)
          go_wp2
          go_ret
          exact Gives.bool (by ((try rw [hg]); (try rw [hn]); (try rw [ht]); (try rw [d5.out]); (try rw [hgf]); (try rw [d1.out]); (try rw [d2.out]); (try rw [d3.out]); (try rw [d4.out]); first | rfl | (simp; done))) hE1
        · have d5 := Lib.hid (decide_eq_false h5)
          by_cases h1 : thn < 0
          · have d1 := Lib.hid (decide_eq_true h1)
            go_wp2
            go_ret
            exact Gives.bool (by ((try rw [hg]); (try rw [hn]); (try rw [ht]); (try rw [d5.out]); (try rw [hgf]); (try rw [d1.out]); (try rw [d2.out]); (try rw [d3.out]); (try rw [d4.out]); first | rfl | (simp; done))) hE1
          have d1 := Lib.hid (decide_eq_false h1)
          by_cases h2 : els < 0
          · have d2 := Lib.hid (decide_eq_true h2)
            go_wp2
            go_ret
            exact Gives.bool (by ((try rw [hg]); (try rw [hn]); (try rw [ht]); (try rw [d5.out]); (try rw [hgf]); (try rw [d1.out]); (try rw [d2.out]); (try rw [d3.out]); (try rw [d4.out]); first | rfl | (simp; done))) hE1
          have d2 := Lib.hid (decide_eq_false h2)
          by_cases h3 : 0 < thn
          · have d3 := Lib.hid (decide_eq_true h3)
            go_wp2
            go_ret
            exact Gives.bool (by ((try rw [hg]); (try rw [hn]); (try rw [ht]); (try rw [d5.out]); (try rw [hgf]); (try rw [d1.out]); (try rw [d2.out]); (try rw [d3.out]); (try rw [d4.out]); first | rfl | (simp; done))) hE1
          · have d3 := Lib.hid (decide_eq_false h3)
            by_cases h4 : 0 < els
            · have d4 := Lib.hid (decide_eq_true h4)
              go_wp2
              go_ret
              exact Gives.bool (by ((try rw [hg]); (try rw [hn]); (try rw [ht]); (try rw [d5.out]); (try rw [hgf]); (try rw [d1.out]); (try rw [d2.out]); (try rw [d3.out]); (try rw [d4.out]); first | rfl | (simp; done))) hE1
            · have d4 := Lib.hid (decide_eq_false h4)
              go_wp2
              go_ret
              exact Gives.bool (by ((try rw [hg]); (try rw [hn]); (try rw [ht]); (try rw [d5.out]); (try rw [hgf]); (try rw [d1.out]); (try rw [d2.out]); (try rw [d3.out]); (try rw [d4.out]); first | rfl | (simp; done))) hE1
    · have ht := isName_ne hn
      go_wp2
      all_goals (go_ret; exact Gives.bool (by ((try rw [hg]); (try rw [hn]); (try rw [ht]); (try rw [d5.out]); (try rw [hgf]); (try rw [d1.out]); (try rw [d2.out]); (try rw [d3.out]); (try rw [d4.out]); first | rfl | (simp; done))) hE1)
end Go.Proofs.YtolbngbedncemaaGreatDoor

/- The reference's test of a statement, by kinds. PRINTED by gen_stmt.py of this repo. -/
set_option linter.unusedVariables false
set_option linter.unusedSimpArgs false
namespace Go.Proofs.YtolbngbedncemaaGreatDoor
open Go Go.RowKit Md

set_option maxHeartbeats 2000000 in
set_option maxRecDepth 1000000 in
theorem s_l2GoodStmt7 (K : Foot) (name : ByteArray) (e f : List PNode) (thn els : Int) (vE vF : Value) (w : World) (hE : SlNode K w vE e) (hF : SlNode K w vF f) (hs : name.size ≤ maxLen) (le : decide (e.length ≤ 2000) = true) (lf : decide (f.length ≤ 2000) = true) :
    Calls Tryz.prog 102 #[.agg #[.int .i64 7, .string name, vE, vF, .int .i64 thn, .int .i64 els]] w (Gives (.bool (stOk ⟨7, name, e, f, thn, els⟩)) w) := by
  obtain ⟨aE, nE, zE, rfl⟩ := hE.shape
  obtain ⟨aF, nF, zF, rfl, Hlen, hlc, hcm, _⟩ := hF.op
  rw [stOk_eq, Hlen.out]
  rw [show named 7 = false from rfl, if_neg (show ¬ false = true by simp)]
  rw [if_neg (show ¬ ((7 : Int) = 3) by omega)]
  have HE := Lib.hid hE
  have HF := Lib.hid hF
  clear hE hF
  have hX := Blk.alloc w 54 #[.int .i64 7, .string name, .slice aE nE zE, .slice aF nF zF, .int .i64 thn, .int .i64 els]
  have hEx : Ext w (w.alloc (.cells #[.int .i64 7, .string name, .slice aE nE zE, .slice aF nF zF, .int .i64 thn, .int .i64 els] 54)) := (Ext.refl _).alloc _
  go_enter Tryz.func102, Tryz.ntmps102
  go_wp2_with fail
  refine (s_l1In _ _ _ _).mono ?_; rintro _ _ ⟨rfl, rfl⟩
  go_wp2_with fail
  refine (s_l2GoodExpr K e _ _ (HE.out.ext hEx (fun _ _ h => h.any))).mono ?_
  rintro _ w1 ⟨rfl, hX1⟩
  rw [le, Bool.true_and]
  have hB := hX.ext hX1
  have c0 : w1.cell? ⟨w.heap.size, 0, none⟩ = some (.int .i64 7) := hB.cell 0
  have c1 : w1.cell? ⟨w.heap.size, 1, none⟩ = some (.string name) := hB.cell 1
  have c2 : w1.cell? ⟨w.heap.size, 2, none⟩ = some (.slice aE nE zE) := hB.cell 2
  have c3 : w1.cell? ⟨w.heap.size, 3, none⟩ = some (.slice aF nF zF) := hB.cell 3
  have c4 : w1.cell? ⟨w.heap.size, 4, none⟩ = some (.int .i64 thn) := hB.cell 4
  have c5 : w1.cell? ⟨w.heap.size, 5, none⟩ = some (.int .i64 els) := hB.cell 5
  have hE1 := hEx.trans hX1
  cases hg : goodExpr e
  · go_wp2
    all_goals (go_ret; exact Gives.bool (by ((try rw [hg]); (try rw [hn]); (try rw [ht]); (try rw [d5.out]); (try rw [hgf]); (try rw [d1.out]); (try rw [d2.out]); (try rw [d3.out]); (try rw [d4.out]); first | rfl | (simp; done))) hE1)
  · go_wp2_with fail
    refine (s_l2Name name _ hs).mono ?_; rintro _ _ ⟨rfl, rfl⟩
    cases hn : isName name
    · cases ht : (name.toList == [])
      · go_wp2
        go_ret
        exact Gives.bool (by ((try rw [hg]); (try rw [hn]); (try rw [ht]); (try rw [d5.out]); (try rw [hgf]); (try rw [d1.out]); (try rw [d2.out]); (try rw [d3.out]); (try rw [d4.out]); first | rfl | (simp; done))) hE1
      · by_cases h5 : 0 < (nF : Int)
        · have d5 := Lib.hid (decide_eq_true h5)
          go_wp2
          go_ret
          exact Gives.bool (by ((try rw [hg]); (try rw [hn]); (try rw [ht]); (try rw [d5.out]); (try rw [hgf]); (try rw [d1.out]); (try rw [d2.out]); (try rw [d3.out]); (try rw [d4.out]); first | rfl | (simp; done))) hE1
        · have d5 := Lib.hid (decide_eq_false h5)
          by_cases h1 : thn < 0
          · have d1 := Lib.hid (decide_eq_true h1)
            go_wp2
            go_ret
            exact Gives.bool (by ((try rw [hg]); (try rw [hn]); (try rw [ht]); (try rw [d5.out]); (try rw [hgf]); (try rw [d1.out]); (try rw [d2.out]); (try rw [d3.out]); (try rw [d4.out]); first | rfl | (simp; done))) hE1
          have d1 := Lib.hid (decide_eq_false h1)
          by_cases h2 : els < 0
          · have d2 := Lib.hid (decide_eq_true h2)
            go_wp2
            go_ret
            exact Gives.bool (by ((try rw [hg]); (try rw [hn]); (try rw [ht]); (try rw [d5.out]); (try rw [hgf]); (try rw [d1.out]); (try rw [d2.out]); (try rw [d3.out]); (try rw [d4.out]); first | rfl | (simp; done))) hE1
          have d2 := Lib.hid (decide_eq_false h2)
          by_cases h3 : 0 < thn
          · have d3 := Lib.hid (decide_eq_true h3)
            go_wp2
            go_ret
            exact Gives.bool (by ((try rw [hg]); (try rw [hn]); (try rw [ht]); (try rw [d5.out]); (try rw [hgf]); (try rw [d1.out]); (try rw [d2.out]); (try rw [d3.out]); (try rw [d4.out]); first | rfl | (simp; done))) hE1
          · have d3 := Lib.hid (decide_eq_false h3)
            by_cases h4 : 0 < els
            · have d4 := Lib.hid (decide_eq_true h4)
              go_wp2
              go_ret
              exact Gives.bool (by ((try rw [hg]); (try rw [hn]); (try rw [ht]); (try rw [d5.out]); (try rw [hgf]); (try rw [d1.out]); (try rw [d2.out]); (try rw [d3.out]); (try rw [d4.out]); first | rfl | (simp; done))) hE1
            · have d4 := Lib.hid (decide_eq_false h4)
              go_wp2
              go_ret
              exact Gives.bool (by ((try rw [hg]); (try rw [hn]); (try rw [ht]); (try rw [d5.out]); (try rw [hgf]); (try rw [d1.out]); (try rw [d2.out]); (try rw [d3.out]); (try rw [d4.out]); first | rfl | (simp; done))) hE1
    · have ht := isName_ne hn
      go_wp2
      all_goals (go_ret; exact Gives.bool (by ((try rw [hg]); (try rw [hn]); (try rw [ht]); (try rw [d5.out]); (try rw [hgf]); (try rw [d1.out]); (try rw [d2.out]); (try rw [d3.out]); (try rw [d4.out]); first | rfl | (simp; done))) hE1)

set_option maxHeartbeats 2000000 in
set_option maxRecDepth 1000000 in
theorem s_l2GoodStmt8 (K : Foot) (name : ByteArray) (e f : List PNode) (thn els : Int) (vE vF : Value) (w : World) (hE : SlNode K w vE e) (hF : SlNode K w vF f) (hs : name.size ≤ maxLen) (le : decide (e.length ≤ 2000) = true) (lf : decide (f.length ≤ 2000) = true) :
    Calls Tryz.prog 102 #[.agg #[.int .i64 8, .string name, vE, vF, .int .i64 thn, .int .i64 els]] w (Gives (.bool (stOk ⟨8, name, e, f, thn, els⟩)) w) := by
  obtain ⟨aE, nE, zE, rfl⟩ := hE.shape
  obtain ⟨aF, nF, zF, rfl, Hlen, hlc, hcm, _⟩ := hF.op
  rw [stOk_eq, Hlen.out]
  rw [show named 8 = false from rfl, if_neg (show ¬ false = true by simp)]
  rw [if_neg (show ¬ ((8 : Int) = 3) by omega)]
  have HE := Lib.hid hE
  have HF := Lib.hid hF
  clear hE hF
  have hX := Blk.alloc w 54 #[.int .i64 8, .string name, .slice aE nE zE, .slice aF nF zF, .int .i64 thn, .int .i64 els]
  have hEx : Ext w (w.alloc (.cells #[.int .i64 8, .string name, .slice aE nE zE, .slice aF nF zF, .int .i64 thn, .int .i64 els] 54)) := (Ext.refl _).alloc _
  go_enter Tryz.func102, Tryz.ntmps102
  go_wp2_with fail
  refine (s_l1In _ _ _ _).mono ?_; rintro _ _ ⟨rfl, rfl⟩
  go_wp2_with fail
  refine (s_l2GoodExpr K e _ _ (HE.out.ext hEx (fun _ _ h => h.any))).mono ?_
  rintro _ w1 ⟨rfl, hX1⟩
  rw [le, Bool.true_and]
  have hB := hX.ext hX1
  have c0 : w1.cell? ⟨w.heap.size, 0, none⟩ = some (.int .i64 8) := hB.cell 0
  have c1 : w1.cell? ⟨w.heap.size, 1, none⟩ = some (.string name) := hB.cell 1
  have c2 : w1.cell? ⟨w.heap.size, 2, none⟩ = some (.slice aE nE zE) := hB.cell 2
  have c3 : w1.cell? ⟨w.heap.size, 3, none⟩ = some (.slice aF nF zF) := hB.cell 3
  have c4 : w1.cell? ⟨w.heap.size, 4, none⟩ = some (.int .i64 thn) := hB.cell 4
  have c5 : w1.cell? ⟨w.heap.size, 5, none⟩ = some (.int .i64 els) := hB.cell 5
  have hE1 := hEx.trans hX1
  cases hg : goodExpr e
  · go_wp2
    all_goals (go_ret; exact Gives.bool (by ((try rw [hg]); (try rw [hn]); (try rw [ht]); (try rw [d5.out]); (try rw [hgf]); (try rw [d1.out]); (try rw [d2.out]); (try rw [d3.out]); (try rw [d4.out]); first | rfl | (simp; done))) hE1)
  · go_wp2_with fail
    refine (s_l2Name name _ hs).mono ?_; rintro _ _ ⟨rfl, rfl⟩
    cases hn : isName name
    · cases ht : (name.toList == [])
      · go_wp2
        go_ret
        exact Gives.bool (by ((try rw [hg]); (try rw [hn]); (try rw [ht]); (try rw [d5.out]); (try rw [hgf]); (try rw [d1.out]); (try rw [d2.out]); (try rw [d3.out]); (try rw [d4.out]); first | rfl | (simp; done))) hE1
      · by_cases h5 : 0 < (nF : Int)
        · have d5 := Lib.hid (decide_eq_true h5)
          go_wp2
          go_ret
          exact Gives.bool (by ((try rw [hg]); (try rw [hn]); (try rw [ht]); (try rw [d5.out]); (try rw [hgf]); (try rw [d1.out]); (try rw [d2.out]); (try rw [d3.out]); (try rw [d4.out]); first | rfl | (simp; done))) hE1
        · have d5 := Lib.hid (decide_eq_false h5)
          by_cases h1 : thn < 0
          · have d1 := Lib.hid (decide_eq_true h1)
            go_wp2
            go_ret
            exact Gives.bool (by ((try rw [hg]); (try rw [hn]); (try rw [ht]); (try rw [d5.out]); (try rw [hgf]); (try rw [d1.out]); (try rw [d2.out]); (try rw [d3.out]); (try rw [d4.out]); first | rfl | (simp; done))) hE1
          have d1 := Lib.hid (decide_eq_false h1)
          by_cases h2 : els < 0
          · have d2 := Lib.hid (decide_eq_true h2)
            go_wp2
            go_ret
            exact Gives.bool (by ((try rw [hg]); (try rw [hn]); (try rw [ht]); (try rw [d5.out]); (try rw [hgf]); (try rw [d1.out]); (try rw [d2.out]); (try rw [d3.out]); (try rw [d4.out]); first | rfl | (simp; done))) hE1
          have d2 := Lib.hid (decide_eq_false h2)
          by_cases h3 : 0 < thn
          · have d3 := Lib.hid (decide_eq_true h3)
            go_wp2
            go_ret
            exact Gives.bool (by ((try rw [hg]); (try rw [hn]); (try rw [ht]); (try rw [d5.out]); (try rw [hgf]); (try rw [d1.out]); (try rw [d2.out]); (try rw [d3.out]); (try rw [d4.out]); first | rfl | (simp; done))) hE1
          · have d3 := Lib.hid (decide_eq_false h3)
            by_cases h4 : 0 < els
            · have d4 := Lib.hid (decide_eq_true h4)
              go_wp2
              go_ret
              exact Gives.bool (by ((try rw [hg]); (try rw [hn]); (try rw [ht]); (try rw [d5.out]); (try rw [hgf]); (try rw [d1.out]); (try rw [d2.out]); (try rw [d3.out]); (try rw [d4.out]); first | rfl | (simp; done))) hE1
            · have d4 := Lib.hid (decide_eq_false h4)
              obtain ⟨r, hr⟩ : ∃ r, e.getLast? = some r := by
                cases e with
                | nil => simp [goodExpr] at hg
                | cons y e => exact ⟨_, List.getLast?_eq_some_getLast (by simp)⟩
              have hR := Lib.hid (root4_of hr)
              go_wp2_with fail
              refine (s_l2Root K e _ r _ (HE.out.ext hE1 (fun _ _ h => h.any)) hr).mono ?_
              rintro _ w2 ⟨rfl, hX2⟩
              have hfd : ∀ w : World, (Instr.field 56 (.agg #[.int .i64 r.kind, .int .i64 r.val, .string r.name]) 0).run Tryz.prog w = .ok (.int .i64 r.kind) w := fun _ => by kernel_rfl
              cases hq : (r.kind == 4) <;> (
                go_wp2
                go_ret
                exact Gives.bool (by rw [hR.out, hq]; ((try rw [hg]); (try rw [hn]); (try rw [ht]); (try rw [d5.out]); (try rw [hgf]); (try rw [d1.out]); (try rw [d2.out]); (try rw [d3.out]); (try rw [d4.out]); first | rfl | (simp; done))) (hE1.trans hX2))
    · have ht := isName_ne hn
      go_wp2
      all_goals (go_ret; exact Gives.bool (by ((try rw [hg]); (try rw [hn]); (try rw [ht]); (try rw [d5.out]); (try rw [hgf]); (try rw [d1.out]); (try rw [d2.out]); (try rw [d3.out]); (try rw [d4.out]); first | rfl | (simp; done))) hE1)
end Go.Proofs.YtolbngbedncemaaGreatDoor

/- The reference's test of a statement: whether its own fields are in order. Conditions: bounds of lengths. PRINTED by gen_stmt.py of this repo. -/
set_option linter.unusedVariables false
set_option linter.unusedSimpArgs false
namespace Go.Proofs.YtolbngbedncemaaGreatDoor
open Go Go.RowKit Md

theorem s_l2GoodStmt (K : Foot) (x : PStmt) (vE vF : Value) (w : World) (hE : SlNode K w vE x.e) (hF : SlNode K w vF x.f) (hs : x.name.size ≤ maxLen) (le : x.e.length ≤ 2000) (lf : x.f.length ≤ 2000) :
    Calls Tryz.prog 102 #[.agg #[.int .i64 x.kind, .string x.name, vE, vF, .int .i64 x.thn, .int .i64 x.els]] w (Gives (.bool (stOk x)) w) := by
  obtain ⟨kind, name, e, f, thn, els⟩ := x
  simp only at *
  have le' : decide (e.length ≤ 2000) = true := decide_eq_true le
  have lf' : decide (f.length ≤ 2000) = true := decide_eq_true lf
  by_cases hk1 : kind = 1
  · subst hk1
    exact s_l2GoodStmt1 K name e f thn els vE vF w hE hF hs le' lf'
  by_cases hk2 : kind = 2
  · subst hk2
    exact s_l2GoodStmt2 K name e f thn els vE vF w hE hF hs le' lf'
  by_cases hk3 : kind = 3
  · subst hk3
    exact s_l2GoodStmt3 K name e f thn els vE vF w hE hF hs le' lf'
  by_cases hk4 : kind = 4
  · subst hk4
    exact s_l2GoodStmt4 K name e f thn els vE vF w hE hF hs le' lf'
  by_cases hk5 : kind = 5
  · subst hk5
    exact s_l2GoodStmt5 K name e f thn els vE vF w hE hF hs le' lf'
  by_cases hk6 : kind = 6
  · subst hk6
    exact s_l2GoodStmt6 K name e f thn els vE vF w hE hF hs le' lf'
  by_cases hk7 : kind = 7
  · subst hk7
    exact s_l2GoodStmt7 K name e f thn els vE vF w hE hF hs le' lf'
  by_cases hk8 : kind = 8
  · subst hk8
    exact s_l2GoodStmt8 K name e f thn els vE vF w hE hF hs le' lf'
  have hr : (decide (1 ≤ kind) && decide (kind ≤ 8)) = false := by
    rw [Bool.eq_false_iff]
    intro h
    simp at h
    omega
  have hN : named kind = false := by simp [named]; omega
  have h1 : (kind == 1) = false := by simp; omega
  have h2 : (kind == 2) = false := by simp; omega
  have h3 : (kind == 3) = false := by simp; omega
  rw [stOk_eq, hr]
  obtain ⟨aE, nE, zE, rfl⟩ := hE.shape
  obtain ⟨aF, nF, zF, rfl⟩ := hF.shape
  clear hE hF
  go_enter Tryz.func102, Tryz.ntmps102
  go_wp2_with fail
  refine (s_l1In _ _ _ _).mono ?_; rintro _ _ ⟨rfl, rfl⟩
  go_wp2
  all_goals (go_ret; exact Gives.bool (by ((try rw [hg]); (try rw [hn]); (try rw [ht]); (try rw [d5.out]); (try rw [hgf]); (try rw [d1.out]); (try rw [d2.out]); (try rw [d3.out]); (try rw [d4.out]); first | rfl | (simp; done))) ((Ext.refl _).alloc _))
end Go.Proofs.YtolbngbedncemaaGreatDoor
