/- The program's printer in the plain model: its table of operators and strengths say what the reference's do; how long a block's text is. No program in sight. -/
import Derived.Test.YtolbngbedncemaaGreatDoorMdPrintL
set_option linter.unusedVariables false
namespace Go.Proofs.YtolbngbedncemaaGreatDoor.Md

structure Op3 where
  sign : List UInt8
  str : Nat
  kind : Int
  val : Int
  deriving Inhabited
def opTab : List Op3 := [⟨[124, 124], 1, 9, 0⟩, ⟨[38, 38], 2, 8, 0⟩, ⟨[124], 3, 7, 15⟩, ⟨[94], 4, 7, 14⟩, ⟨[38], 5, 7, 13⟩, ⟨[61, 61], 6, 7, 11⟩, ⟨[33, 61], 6, 7, 12⟩, ⟨[60], 7, 7, 7⟩, ⟨[60, 61], 7, 7, 8⟩,
  ⟨[62], 7, 7, 9⟩, ⟨[62, 61], 7, 7, 10⟩, ⟨[60, 60], 8, 7, 5⟩, ⟨[62, 62], 8, 7, 6⟩, ⟨[43], 9, 7, 3⟩, ⟨[45], 9, 7, 4⟩, ⟨[42], 10, 7, 0⟩, ⟨[47], 10, 7, 1⟩, ⟨[37], 10, 7, 2⟩]
/-- The operator's node is n. -/
def opIs (n : PNode) (o : Op3) : Bool := o.kind == n.kind && o.val == n.val && n.name.size == 0
/-- The place of n's operator in the table (the table's length where there is none). -/
def opPlace (n : PNode) : Nat := opTab.findIdx (opIs n)
theorem arity_two {n : PNode} {k : Nat} (h : arity n = some k) (hk : n.kind = 7 ∨ n.kind = 8 ∨ n.kind = 9) :
    n.name.size = 0 ∧ ((n.kind = 7 ∧ 0 ≤ n.val ∧ n.val ≤ 15) ∨ ((n.kind = 8 ∨ n.kind = 9) ∧ n.val = 0)) := by
  unfold arity at h
  rw [if_neg (by omega)] at h
  by_cases hz : n.name.size = 0
  · refine ⟨hz, ?_⟩
    rw [if_pos hz, if_neg (by omega), if_neg (by omega), if_neg (by omega)] at h
    by_cases h7 : n.kind = 7
    · rw [if_pos h7] at h
      by_cases hv : 0 ≤ n.val ∧ n.val ≤ 15
      · exact .inl ⟨h7, hv⟩
      · rw [if_neg hv] at h; cases h
    · rw [if_neg h7, if_pos (by omega)] at h
      by_cases hv : n.val = 0
      · exact .inr ⟨by omega, hv⟩
      · rw [if_neg hv] at h; cases h
  · rw [if_neg hz] at h; cases h
theorem opPlace_two {n : PNode} {k : Nat} (h : arity n = some k) (hk : n.kind = 7 ∨ n.kind = 8 ∨ n.kind = 9) :
    ∃ o, opTab[opPlace n]? = some o ∧ o.str = strong n ∧ o.sign = opWord n := by
  obtain ⟨hz, hc⟩ := arity_two h hk
  obtain ⟨kd, vl, nm⟩ := n
  simp only at hz hc
  have hb : ∀ o : Op3, opIs ⟨kd, vl, nm⟩ o = (o.kind == kd && o.val == vl) := fun o => by unfold opIs; simp [hz]
  unfold opPlace
  rw [show opIs ⟨kd, vl, nm⟩ = fun o => (o.kind == kd && o.val == vl) from funext hb]
  rcases hc with ⟨rfl, h0, h1⟩ | ⟨rfl | rfl, rfl⟩
  · have hv : vl = 0 ∨ vl = 1 ∨ vl = 2 ∨ vl = 3 ∨ vl = 4 ∨ vl = 5 ∨ vl = 6 ∨ vl = 7 ∨ vl = 8 ∨ vl = 9 ∨ vl = 10 ∨ vl = 11 ∨ vl = 12 ∨ vl = 13 ∨ vl = 14 ∨ vl = 15 := by omega
    rcases hv with rfl | rfl | rfl | rfl | rfl | rfl | rfl | rfl | rfl | rfl | rfl | rfl | rfl | rfl | rfl | rfl <;> exact ⟨_, rfl, rfl, rfl⟩
  · exact ⟨_, rfl, rfl, rfl⟩
  · exact ⟨_, rfl, rfl, rfl⟩
theorem opPlace_none {n : PNode} (hk : ¬ (n.kind = 7 ∨ n.kind = 8 ∨ n.kind = 9)) : opPlace n = opTab.length := by
  unfold opPlace
  rw [List.findIdx_eq_length]
  intro o ho
  have h1 : o.kind = 7 ∨ o.kind = 8 ∨ o.kind = 9 := by
    have hall : ∀ o ∈ opTab, o.kind = 7 ∨ o.kind = 8 ∨ o.kind = 9 := by
      intro o ho
      simp only [opTab, List.mem_cons, List.not_mem_nil, or_false] at ho
      rcases ho with rfl | rfl | rfl | rfl | rfl | rfl | rfl | rfl | rfl | rfl | rfl | rfl | rfl | rfl | rfl | rfl | rfl | rfl <;> simp
    exact hall o ho
  unfold opIs
  have : (o.kind == n.kind) = false := by
    rw [beq_eq_false_iff_ne]
    intro e
    rw [e] at h1
    exact hk h1
  rw [this]
  rfl
/-- How strong the program takes an expression to be. -/
def strongI (n : PNode) : Nat := if n.kind = 7 ∨ n.kind = 8 ∨ n.kind = 9 then strong n else if n.kind = 6 then 11 else 12
theorem strongI_lt {n : PNode} {k m : Nat} (h : arity n = some k) (hm : m ≤ 11) : decide (strongI n < m) = decide (strong n < m) := by
  unfold strongI
  by_cases hk : n.kind = 7 ∨ n.kind = 8 ∨ n.kind = 9
  · rw [if_pos hk]
  · rw [if_neg hk]
    have hs : strong n = 11 := by
      unfold strong
      rw [if_neg (by omega), if_neg (by omega), if_neg (by omega)]
    rw [hs]
    split
    · rfl
    · rw [decide_eq_false (by omega), decide_eq_false (by omega)]
theorem strong_le {n : PNode} {k : Nat} (h : arity n = some k) (hk : n.kind = 7 ∨ n.kind = 8 ∨ n.kind = 9) : 1 ≤ strong n ∧ strong n ≤ 10 := by
  obtain ⟨o, ho, h1, _⟩ := opPlace_two h hk
  have hall : ∀ o ∈ opTab, 1 ≤ o.str ∧ o.str ≤ 10 := by
    intro o ho
    simp only [opTab, List.mem_cons, List.not_mem_nil, or_false] at ho
    rcases ho with rfl | rfl | rfl | rfl | rfl | rfl | rfl | rfl | rfl | rfl | rfl | rfl | rfl | rfl | rfl | rfl | rfl | rfl <;> simp
  have := hall o (List.mem_of_getElem? ho)
  omega
/-- What the program's printer writes where operators of strength m at least need no parentheses. -/
def prE (x : Ex) (m : Nat) : List UInt8 := heldT (showE x) (decide (strongI x.node < m))
theorem prE_zero (x : Ex) : prE x 0 = showE x := by unfold prE heldT; simp
theorem prE_ok {a : Ex} (ha : a.ok) {m : Nat} (hm : m ≤ 11) : prE a m = heldT (showE a) (decide (strong a.node < m)) := by
  unfold prE
  cases a with
  | mk na as => rw [show (Ex.mk na as).node = na from rfl, strongI_lt ((Ex.ok_mk na as).1 ha).1 hm]
theorem prE_one {n : PNode} {a : Ex} (h : (Ex.mk n [a]).ok) (hk : n.kind = 6) : showE (.mk n [a]) = unWord n ++ prE a 11 := by
  have hok := (Ex.ok_mk n [a]).1 h
  rw [showE_mk, prE_ok (hok.2 a (by simp)) (by omega)]
  unfold showN
  rw [if_neg (by omega), if_neg (by omega), if_neg (by omega), if_neg (by omega)]
  simp only [List.map_cons, List.map_nil]
  rw [if_neg (by omega)]
theorem prE_two {n : PNode} {a b : Ex} (h : (Ex.mk n [a, b]).ok) (hk : n.kind = 7 ∨ n.kind = 8 ∨ n.kind = 9) :
    showE (.mk n [a, b]) = prE a (strong n) ++ ([32] ++ opWord n ++ [32]) ++ prE b (strong n + 1) := by
  have hok := (Ex.ok_mk n [a, b]).1 h
  have hs := strong_le hok.1 hk
  rw [showE_mk, prE_ok (hok.2 a (by simp)) (by omega), prE_ok (hok.2 b (by simp)) (by omega)]
  unfold showN
  rw [if_neg (by omega), if_neg (by omega), if_neg (by omega), if_neg (by omega)]
  simp only [List.map_cons, List.map_nil]
  have e : decide (strong b.node ≤ strong n) = decide (strong b.node < strong n + 1) := by
    rw [Bool.eq_iff_iff]
    simp
    omega
  rw [e]
  simp only [List.append_assoc]
/-! ### How long the text of a block is -/
def costS (s : PStmt) : Nat := 64 * (s.e.length + s.f.length) + 100
def cost (l : List PStmt) : Nat := (l.map costS).sum
theorem cost_append (a b : List PStmt) : cost (a ++ b) = cost a + cost b := by unfold cost; rw [List.map_append, List.sum_append]
theorem cost_cons (s : PStmt) (l : List PStmt) : cost (s :: l) = costS s + cost l := by unfold cost; rw [List.map_cons, List.sum_cons]
theorem cost_cut (rest : List PStmt) (i j : Nat) : cost rest = cost (rest.take i) + cost ((rest.drop i).take j) + cost (rest.drop (i + j)) := by
  have h1 : rest = rest.take i ++ ((rest.drop i).take j ++ rest.drop (i + j)) := by
    conv => lhs; rw [← List.take_append_drop i rest, ← List.take_append_drop j (rest.drop i), List.drop_drop]
  conv => lhs; rw [h1, cost_append, cost_append]
  omega
theorem cost_nodes (l : List PStmt) : cost l = 64 * nodes l + 100 * l.length := by
  unfold cost nodes
  induction l with
  | nil => rfl
  | cons s l ih =>
    simp only [List.map_cons, List.sum_cons, List.length_cons]
    rw [ih]
    unfold costS
    omega
theorem stOk_name {s : PStmt} (h : stOk s = true) : s.name.size ≤ 20 := by
  simp only [stOk, Bool.and_eq_true] at h
  have := h.1.1.1.1.1.1.2
  split at this
  · exact name_len this
  · rw [beq_iff_eq] at this; omega
theorem showS_len {s : PStmt} (h : stOk s = true) {x : Ex} (hx : grow s.e = some x) (t u : List UInt8) : (showS s x (grow s.f) t u).length ≤ costS s + t.length + u.length := by
  have hn := stOk_name h
  have hx1 := showE_len x (grow_ok hx)
  rw [grow_list hx] at hx1
  have hn2 : s.name.data.toList.length ≤ 20 := hn
  have hf : ((grow s.f).map showE).getD [] = [] ∨ (((grow s.f).map showE).getD []).length ≤ 64 * s.f.length := by
    cases hg : grow s.f with
    | none => exact .inl rfl
    | some y =>
      have := showE_len y (grow_ok hg)
      rw [grow_list hg] at this
      exact .inr this
  have hf2 : (((grow s.f).map showE).getD []).length ≤ 64 * s.f.length := by
    rcases hf with hf | hf
    · rw [hf]; simp
    · exact hf
  unfold showS costS intW
  simp only
  repeat' split
  all_goals (simp only [List.length_append, List.length_cons, List.length_nil])
  all_goals omega
theorem showBlk_len (n : Nat) : ∀ (l : List PStmt) (base : Nat) (bs : List St), l.length ≤ n → blocks l base = some bs → (showBlk bs).length ≤ cost l := by
  induction n with
  | zero =>
    intro l base bs h hb
    obtain rfl : l = [] := List.eq_nil_of_length_eq_zero (by omega)
    rw [blocks] at hb
    cases hb
    rw [showBlk]; simp
  | succ n ih =>
    intro l base bs h hb
    match l, h with
    | [], _ =>
      rw [blocks] at hb
      cases hb
      rw [showBlk]; simp
    | s :: rest, h =>
      simp only [List.length_cons] at h
      rw [blocks] at hb
      split at hb
      · rename_i hs
        split at hb
        · rename_i e t u r h1 h2 h3 h4
          cases hb
          have i1 := ih _ _ _ (by simp; omega) h2
          have i2 := ih _ _ _ (by simp; omega) h3
          have i3 := ih _ _ _ (by simp; omega) h4
          have i4 := showS_len hs.1 h1 (showBlk t) (showBlk u)
          rw [showBlk, showSt, cost_cons, cost_cut rest s.thn.toNat s.els.toNat, List.length_append]
          omega
        · cases hb
      · cases hb
end Go.Proofs.YtolbngbedncemaaGreatDoor.Md
