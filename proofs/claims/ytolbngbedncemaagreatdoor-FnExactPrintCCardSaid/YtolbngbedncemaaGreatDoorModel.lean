/- The plain model of nodes, expressions, statements and trees; what a valid tree is. No program in sight. -/
set_option linter.unusedVariables false
namespace Go.Proofs.YtolbngbedncemaaGreatDoor.Md

structure PNode where
  kind : Int
  val : Int
  name : ByteArray
  deriving DecidableEq

structure PStmt where
  kind : Int
  name : ByteArray
  e : List PNode
  f : List PNode
  thn : Int
  els : Int
  deriving DecidableEq

structure PFunc where
  name : ByteArray
  params : List ByteArray
  body : List PStmt
  deriving DecidableEq

structure PGlob where
  name : ByteArray
  size : Int
  deriving DecidableEq

structure PTree where
  globals : List PGlob
  funcs : List PFunc
  deriving DecidableEq

/-! ### Names -/
def bAt (s : ByteArray) (i : Nat) : Nat := if h : i < s.size then (s[i]'h).toNat else 0
def isLetter (c : Nat) : Bool := (decide (97 ≤ c) && decide (c ≤ 122)) || c == 95
def isDigit (c : Nat) : Bool := decide (48 ≤ c) && decide (c ≤ 57)
def resL : List (List UInt8) := [[105, 110, 116], [105, 102], [101, 108, 115, 101], [119, 104, 105, 108, 101], [114, 101, 116, 117, 114, 110], [105, 110], [111, 117, 116]]
def isReserved (s : ByteArray) : Bool := resL.contains s.toList
def isName (s : ByteArray) : Bool :=
  decide (1 ≤ s.size) && decide (s.size ≤ 20) && isLetter (bAt s 0) && !isReserved s && (List.range s.size).all fun i => isLetter (bAt s i) || isDigit (bAt s i)

/-! ### Expressions -/
def isWord (v : Int) : Bool := decide (-2147483648 ≤ v) && decide (v < 2147483648)
/-- The number of a node's operands, if it is in order. -/
def arity (n : PNode) : Option Nat :=
  if n.kind = 2 ∨ n.kind = 3 ∨ n.kind = 4 then
    if isName n.name then
      if n.kind = 2 then if n.val = 0 then some 0 else none
      else if n.kind = 3 then if n.val = 0 then some 1 else none
      else if 0 ≤ n.val ∧ n.val ≤ 6 then some n.val.toNat else none
    else none
  else if n.name.size = 0 then
    if n.kind = 1 then if isWord n.val then some 0 else none
    else if n.kind = 5 then if n.val = 0 then some 0 else none
    else if n.kind = 6 then if 0 ≤ n.val ∧ n.val ≤ 2 then some 1 else none
    else if n.kind = 7 then if 0 ≤ n.val ∧ n.val ≤ 15 then some 2 else none
    else if n.kind = 8 ∨ n.kind = 9 then if n.val = 0 then some 2 else none
    else none
  else none
/-- The number of operands that the reference reckons. -/
def ar (n : PNode) : Int :=
  if n.kind = 3 ∨ n.kind = 6 then 1 else if n.kind = 4 then n.val else if n.kind = 7 ∨ n.kind = 8 ∨ n.kind = 9 then 2 else 0
theorem ar_of_arity {n : PNode} {k : Nat} (h : arity n = some k) : ar n = k := by
  unfold arity at h
  unfold ar
  repeat' split at h
  all_goals first | (cases h; done) | skip
  all_goals (simp only [Option.some.injEq] at h; subst h)
  all_goals (repeat' split) <;> first | omega | simp_all

inductive Ex where
  | mk (n : PNode) (args : List Ex)
namespace Ex
def node : Ex → PNode | mk n _ => n
def args : Ex → List Ex | mk _ a => a
theorem eta : ∀ x : Ex, mk x.node x.args = x | mk _ _ => rfl
def list : Ex → List PNode
  | mk n args => args.flatMap list ++ [n]
theorem ind {P : Ex → Prop} (h : ∀ n args, (∀ x ∈ args, P x) → P (mk n args)) : ∀ x, P x
  | mk n args => h n args fun x _ => ind h x
theorem list_mk (n : PNode) (args : List Ex) : (mk n args).list = args.flatMap list ++ [n] := by rw [list]
theorem list_pos (x : Ex) : 0 < x.list.length := by cases x; rw [list_mk]; simp
/-- Every node has as many operands as it wants. -/
def ok : Ex → Prop
  | mk n args => arity n = some args.length ∧ ∀ x ∈ args, ok x
theorem ok_mk (n : PNode) (args : List Ex) : (mk n args).ok ↔ arity n = some args.length ∧ ∀ x ∈ args, x.ok := by rw [ok]
end Ex

/-! ### From lists to trees -/
/-- One node more on the stack (the bottom first). -/
def push (n : PNode) (st : List Ex) : Option (List Ex) :=
  match arity n with
  | none => none
  | some k => if k ≤ st.length then some (st.take (st.length - k) ++ [.mk n (st.drop (st.length - k))]) else none
def grows : List PNode → List Ex → Option (List Ex)
  | [], st => some st
  | n :: e, st => (push n st).bind (grows e)
/-- The tree of a list in postfix order. -/
def grow (e : List PNode) : Option Ex :=
  match grows e [] with
  | some [x] => some x
  | _ => none

theorem grows_append (a b : List PNode) (st : List Ex) : grows (a ++ b) st = (grows a st).bind (grows b) := by
  induction a generalizing st with
  | nil => rfl
  | cons n a ih =>
    simp only [List.cons_append, grows]
    cases push n st with
    | none => rfl
    | some st' => simpa using ih st'

theorem push_list {n : PNode} {st st' : List Ex} (h : push n st = some st') : st'.flatMap Ex.list = st.flatMap Ex.list ++ [n] := by
  unfold push at h
  split at h
  · cases h
  · split at h
    · cases h
      rw [List.flatMap_append, List.flatMap_cons, List.flatMap_nil, List.append_nil, Ex.list_mk, ← List.append_assoc, ← List.flatMap_append, List.take_append_drop]
    · cases h
theorem push_ok {n : PNode} {st st' : List Ex} (h : push n st = some st') (ho : ∀ x ∈ st, x.ok) : ∀ x ∈ st', x.ok := by
  unfold push at h
  split at h
  · cases h
  · rename_i k hk
    split at h
    · rename_i hle
      cases h
      intro x hx
      rcases List.mem_append.1 hx with hx | hx
      · exact ho x (List.mem_of_mem_take hx)
      · simp only [List.mem_singleton] at hx
        subst hx
        rw [Ex.ok_mk]
        exact ⟨by rw [hk, List.length_drop]; congr 1; omega, fun y hy => ho y (List.mem_of_mem_drop hy)⟩
    · cases h
theorem grows_list {e : List PNode} : ∀ {st st' : List Ex}, grows e st = some st' → st'.flatMap Ex.list = st.flatMap Ex.list ++ e := by
  induction e with
  | nil => intro st st' h; cases h; simp
  | cons n e ih =>
    intro st st' h
    simp only [grows, Option.bind_eq_some_iff] at h
    obtain ⟨s1, h1, h2⟩ := h
    rw [ih h2, push_list h1]
    simp
theorem grows_ok {e : List PNode} : ∀ {st st' : List Ex}, grows e st = some st' → (∀ x ∈ st, x.ok) → ∀ x ∈ st', x.ok := by
  induction e with
  | nil => intro st st' h ho; cases h; exact ho
  | cons n e ih =>
    intro st st' h ho
    simp only [grows, Option.bind_eq_some_iff] at h
    obtain ⟨s1, h1, h2⟩ := h
    exact ih h2 (push_ok h1 ho)
theorem grow_list {e : List PNode} {x : Ex} (h : grow e = some x) : x.list = e := by
  unfold grow at h
  split at h
  · rename_i y hy
    cases h
    have := grows_list hy
    simpa using this
  · cases h
theorem grow_ok {e : List PNode} {x : Ex} (h : grow e = some x) : x.ok := by
  unfold grow at h
  split at h
  · rename_i y hy
    cases h
    exact grows_ok hy (by simp) x (by simp)
  · cases h

/-- A list of whole trees is pushed tree by tree. -/
theorem grows_trees : ∀ (x : Ex), x.ok → ∀ st, grows x.list st = some (st ++ [x]) := by
  intro x
  induction x using Ex.ind with
  | h n args ih =>
    intro ho st
    rw [Ex.ok_mk] at ho
    have key : ∀ (l : List Ex), (∀ x ∈ l, x ∈ args) → ∀ st, grows (l.flatMap Ex.list) st = some (st ++ l) := by
      intro l
      induction l with
      | nil => intro _ st; simp [grows]
      | cons y l ih2 =>
        intro hm st
        rw [List.flatMap_cons, grows_append, ih y (hm y (by simp)) (ho.2 y (hm y (by simp)))]
        simp only [Option.bind_some]
        rw [ih2 (fun z hz => hm z (by simp [hz]))]
        simp
    rw [Ex.list_mk, grows_append, key args (fun _ h => h)]
    simp only [Option.bind_some, grows]
    unfold push
    rw [ho.1]
    simp
theorem grow_of_ok {x : Ex} (h : x.ok) : grow x.list = some x := by
  unfold grow
  rw [grows_trees x h []]
  rfl

/-! ### The reference's test: how far the last expression of a list reaches -/
/-- Backwards from i with 'need' operands wanted: where the expression begins, or -1. -/
def fromL (e : List PNode) : (i : Nat) → (need : Int) → Int
  | i, need => if need ≤ 0 then i else match i with
    | 0 => -1
    | i + 1 => fromL e i (need - 1 + (match e[i]? with | some n => ar n | none => 0))
def goodExpr (e : List PNode) : Bool := (e.all fun n => (arity n).isSome) && decide (0 < e.length) && fromL e e.length 1 == 0

def W (l : List PNode) : Int := (l.map fun n => 1 - ar n).sum
theorem W_append (a b : List PNode) : W (a ++ b) = W a + W b := by unfold W; rw [List.map_append, List.sum_append]
theorem W_one (n : PNode) : W [n] = 1 - ar n := by simp [W]

theorem fromL_zero {e : List PNode} : ∀ {i : Nat} {need : Int}, i ≤ e.length → 1 ≤ need → fromL e i need = 0 →
    (∀ j, 0 < j → j ≤ i → W ((e.take i).drop j) ≤ need - 1) ∧ need ≤ W (e.take i) := by
  intro i
  induction i with
  | zero =>
    intro need _ hn h
    unfold fromL at h
    rw [if_neg (by omega)] at h
    simp at h
  | succ i ih =>
    intro need hi hn h
    unfold fromL at h
    rw [if_neg (by omega)] at h
    have hg : e[i]? = some e[i] := List.getElem?_eq_getElem (by omega)
    simp only [hg] at h
    have ht : e.take (i + 1) = e.take i ++ [e[i]] := List.take_succ_eq_append_getElem (by omega)
    by_cases hm : need - 1 + ar e[i] ≤ 0
    · unfold fromL at h
      rw [if_pos hm] at h
      have hi0 : i = 0 := by omega
      subst hi0
      refine ⟨fun j h0 h1 => ?_, ?_⟩
      · have : (e.take (0 + 1)).drop j = [] := List.drop_eq_nil_of_le (by simp; omega)
        rw [this]
        simp [W]
        omega
      · rw [ht, W_append, W_one]
        simp [W]
        omega
    · obtain ⟨h1, h2⟩ := ih (by omega) (by omega) h
      refine ⟨fun j h0 hj => ?_, ?_⟩
      · by_cases hji : j = i + 1
        · have : (e.take (i + 1)).drop j = [] := List.drop_eq_nil_of_le (by simp; omega)
          rw [this]
          simp [W]
          omega
        · rw [ht, List.drop_append_of_le_length (by simp; omega), W_append, W_one]
          have := h1 j h0 (by omega)
          omega
      · rw [ht, W_append, W_one]
        omega

theorem push_W {n : PNode} {st st' : List Ex} (h : push n st = some st') : (st'.length : Int) = st.length + (1 - ar n) := by
  unfold push at h
  split at h
  · cases h
  · rename_i k hk
    split at h
    · cases h
      rw [ar_of_arity hk]
      simp
      omega
    · cases h
theorem grows_W {e : List PNode} : ∀ {st st' : List Ex}, grows e st = some st' → (st'.length : Int) = st.length + W e := by
  induction e with
  | nil => intro st st' h; cases h; simp [W]
  | cons n e ih =>
    intro st st' h
    simp only [grows, Option.bind_eq_some_iff] at h
    obtain ⟨s1, h1, h2⟩ := h
    rw [ih h2, push_W h1, show n :: e = [n] ++ e from rfl, W_append, W_one]
    omega

/-- Over a whole tree the reference's walk wants one operand less. -/
theorem fromL_tree : ∀ x : Ex, x.ok → ∀ (a b : List PNode) (need : Int), 1 ≤ need →
    fromL (a ++ x.list ++ b) (a.length + x.list.length) need = fromL (a ++ x.list ++ b) a.length (need - 1) := by
  intro x
  induction x using Ex.ind with
  | h n args ih =>
    intro ho a b need hn
    rw [Ex.ok_mk] at ho
    have key : ∀ (l : List Ex), (∀ x ∈ l, x ∈ args) → ∀ (a b : List PNode) (need : Int), 0 ≤ need →
        fromL (a ++ l.flatMap Ex.list ++ b) (a.length + (l.flatMap Ex.list).length) (need + l.length) = fromL (a ++ l.flatMap Ex.list ++ b) a.length need := by
      intro l
      induction l with
      | nil => intro _ a b need _; simp
      | cons y l ih2 =>
        intro hm a b need h0
        have e1 := ih2 (fun z hz => hm z (by simp [hz])) (a ++ y.list) b (need + 1) (by omega)
        have e2 := ih y (hm y (by simp)) (ho.2 y (hm y (by simp))) a (l.flatMap Ex.list ++ b) (need + 1) (by omega)
        simp only [List.flatMap_cons, List.length_append, List.length_cons, List.append_assoc, Nat.add_assoc] at *
        rw [show need + ((l.length + 1 : Nat) : Int) = need + 1 + (l.length : Int) by omega, e1, e2]
        congr 1
        omega
    rw [Ex.list_mk]
    have hl : (a ++ (args.flatMap Ex.list ++ [n]) ++ b)[a.length + (args.flatMap Ex.list).length]? = some n := by
      rw [List.append_assoc, List.getElem?_append_right (by omega), List.append_assoc, List.getElem?_append_right (by omega)]
      simp
    have e0 : a.length + (args.flatMap Ex.list ++ [n]).length = a.length + (args.flatMap Ex.list).length + 1 := by simp; omega
    rw [e0]
    conv => lhs; unfold fromL
    rw [if_neg (by omega)]
    simp only [hl]
    rw [ar_of_arity ho.1]
    have := key args (fun _ h => h) a ([n] ++ b) (need - 1) (by omega)
    simp only [List.append_assoc] at this ⊢
    exact this

theorem goodExpr_grow (e : List PNode) : goodExpr e = (grow e).isSome := by
  rw [Bool.eq_iff_iff]
  constructor
  · intro h
    simp only [goodExpr, Bool.and_eq_true, List.all_eq_true, decide_eq_true_eq, beq_iff_eq] at h
    obtain ⟨⟨hall, hpos⟩, hf⟩ := h
    cases hg : grows e [] with
    | some st =>
      have hl := grows_list hg
      have ho := grows_ok hg (by simp)
      simp only [List.flatMap_nil, List.nil_append] at hl
      unfold grow
      rw [hg]
      match st, hl, ho with
      | [], hl, _ => simp at hl; subst hl; simp at hpos
      | [x], _, _ => rfl
      | x :: y :: r, hl, ho =>
        exfalso
        obtain ⟨init, z, hz⟩ : ∃ init z, x :: y :: r = init ++ [z] := ⟨(x :: y :: r).dropLast, (x :: y :: r).getLast (by simp), (List.dropLast_concat_getLast (by simp)).symm⟩
        rw [hz, List.flatMap_append] at hl
        simp only [List.flatMap_cons, List.flatMap_nil, List.append_nil] at hl
        have hzo : z.ok := ho z (by rw [hz]; simp)
        have := fromL_tree z hzo (init.flatMap Ex.list) [] 1 (by omega)
        rw [List.append_nil, ← List.length_append, hl, hf] at this
        unfold fromL at this
        rw [if_pos (by omega)] at this
        have hpi : 0 < (init.flatMap Ex.list).length := by
          cases init with
          | nil => have := congrArg List.length hz; simp at this
          | cons q init => have := q.list_pos; simp; omega
        omega
    | none =>
      exfalso
      have split : ∀ (e : List PNode) (st : List Ex), grows e st = none → ∃ p n r st', e = p ++ n :: r ∧ grows p st = some st' ∧ push n st' = none := by
        intro e
        induction e with
        | nil => intro st h; cases h
        | cons n e ih =>
          intro st h
          cases hp : push n st with
          | none => exact ⟨[], n, e, st, rfl, rfl, hp⟩
          | some st1 =>
            simp only [grows, hp, Option.bind_some] at h
            obtain ⟨p, m, r, st', h1, h2, h3⟩ := ih st1 h
            exact ⟨n :: p, m, r, st', by rw [h1]; rfl, by simp [grows, hp, h2], h3⟩
      obtain ⟨p, n, r, st, he, hp, hn⟩ := split e [] hg
      have hk := hall n (by rw [he]; simp)
      obtain ⟨k, hk⟩ := Option.isSome_iff_exists.1 hk
      have hW := grows_W hp
      simp only [push, hk] at hn
      split at hn
      · cases hn
      · rename_i hlt
        obtain ⟨h1, h2⟩ := fromL_zero (Nat.le_refl _) (by omega) hf
        rw [List.take_length] at h1 h2
        have h3 := h1 (p.length + 1) (by omega) (by rw [he]; simp)
        have e1 : e.drop (p.length + 1) = r := by rw [he]; simp
        rw [e1] at h3
        rw [he, show p ++ n :: r = p ++ [n] ++ r by simp, W_append, W_append, W_one, ar_of_arity hk] at h2
        simp only [List.length_nil] at hW
        omega
  · intro h
    obtain ⟨x, hx⟩ := Option.isSome_iff_exists.1 h
    have hl := grow_list hx
    have ho := grow_ok hx
    simp only [goodExpr, Bool.and_eq_true, List.all_eq_true, decide_eq_true_eq, beq_iff_eq]
    refine ⟨⟨?_, by rw [← hl]; exact x.list_pos⟩, ?_⟩
    · subst hl
      clear hx h
      revert ho
      induction x using Ex.ind with
      | h n args ih =>
        intro ho m hm
        rw [Ex.ok_mk] at ho
        rw [Ex.list_mk] at hm
        rcases List.mem_append.1 hm with hm | hm
        · obtain ⟨y, hy, hm⟩ := List.mem_flatMap.1 hm
          exact ih y hy (ho.2 y hy) m hm
        · simp only [List.mem_singleton] at hm
          subst hm
          rw [ho.1]
          rfl
    · have := fromL_tree x ho [] [] 1 (by omega)
      simp only [List.nil_append, List.append_nil, List.length_nil, Nat.zero_add, hl] at this
      rw [this]
      unfold fromL
      rw [if_pos (by omega)]
      rfl

end Go.Proofs.YtolbngbedncemaaGreatDoor.Md

namespace Go.Proofs.YtolbngbedncemaaGreatDoor.Md
/-! ### Statements -/
inductive St where
  | mk (s : PStmt) (at_ : Nat) (e : Ex) (f : Option Ex) (thn els : List St)
namespace St
def s : St → PStmt | mk s _ _ _ _ _ => s
def at_ : St → Nat | mk _ a _ _ _ _ => a
def e : St → Ex | mk _ _ e _ _ _ => e
def f : St → Option Ex | mk _ _ _ f _ _ => f
def thn : St → List St | mk _ _ _ _ t _ => t
def els : St → List St | mk _ _ _ _ _ u => u
end St

def named (k : Int) : Bool := k == 1 || k == 2 || k == 3
/-- A statement's own fields are in order, its blocks aside. -/
def stOk (s : PStmt) : Bool :=
  decide (1 ≤ s.kind) && decide (s.kind ≤ 8) && (grow s.e).isSome && (if named s.kind then isName s.name else s.name.size == 0) &&
  (if s.kind = 3 then (grow s.f).isSome else s.f.length == 0) && decide (0 ≤ s.thn) && decide (0 ≤ s.els) &&
  (s.thn == 0 || s.kind == 4 || s.kind == 5) && (s.els == 0 || s.kind == 4) && (s.kind != 8 || (match grow s.e with | some x => x.node.kind == 4 | none => false))
/-- The blocks lie within one another. -/
def shaped : List PStmt → Bool
  | [] => true
  | s :: rest =>
    if s.thn ≤ rest.length ∧ s.els ≤ rest.length - s.thn then
      shaped (rest.take s.thn.toNat) && shaped ((rest.drop s.thn.toNat).take s.els.toNat) && shaped (rest.drop (s.thn.toNat + s.els.toNat))
    else false
termination_by l => l.length
decreasing_by all_goals (simp only [List.length_cons, List.length_take, List.length_drop]; omega)
/-- The statements of a list, each with its blocks. -/
def blocks : List PStmt → Nat → Option (List St)
  | [], _ => some []
  | s :: rest, base =>
    if stOk s ∧ s.thn ≤ rest.length ∧ s.els ≤ rest.length - s.thn then
      match grow s.e, blocks (rest.take s.thn.toNat) (base + 1), blocks ((rest.drop s.thn.toNat).take s.els.toNat) (base + 1 + s.thn.toNat),
          blocks (rest.drop (s.thn.toNat + s.els.toNat)) (base + 1 + s.thn.toNat + s.els.toNat) with
      | some e, some t, some u, some r => some (.mk s base e (grow s.f) t u :: r)
      | _, _, _, _ => none
    else none
termination_by l => l.length
decreasing_by all_goals (simp only [List.length_cons, List.length_take, List.length_drop]; omega)

theorem stOk_grow {s : PStmt} (h : stOk s = true) : (grow s.e).isSome = true := by
  simp only [stOk, Bool.and_eq_true] at h
  exact h.1.1.1.1.1.1.1.2

theorem blocks_some (n : Nat) : ∀ (l : List PStmt) (base : Nat), l.length ≤ n → (blocks l base).isSome = (l.all stOk && shaped l) := by
  induction n with
  | zero =>
    intro l base h
    obtain rfl : l = [] := List.eq_nil_of_length_eq_zero (by omega)
    simp [blocks, shaped]
  | succ n ih =>
    intro l base h
    match l, h with
    | [], _ => simp [blocks, shaped]
    | s :: rest, h =>
      simp only [List.length_cons] at h
      rw [blocks, shaped, List.all_cons]
      have i1 := ih (rest.take s.thn.toNat) (base + 1) (by simp; omega)
      have i2 := ih ((rest.drop s.thn.toNat).take s.els.toNat) (base + 1 + s.thn.toNat) (by simp; omega)
      have i3 := ih (rest.drop (s.thn.toNat + s.els.toNat)) (base + 1 + s.thn.toNat + s.els.toNat) (by simp; omega)
      by_cases hs : stOk s = true
      · by_cases hl : s.thn ≤ rest.length ∧ s.els ≤ rest.length - s.thn
        · rw [if_pos ⟨hs, hl⟩, if_pos hl, hs]
          obtain ⟨x, hx⟩ := Option.isSome_iff_exists.1 (stOk_grow hs)
          rw [hx]
          have hall : rest.all stOk = ((rest.take s.thn.toNat).all stOk && ((rest.drop s.thn.toNat).take s.els.toNat).all stOk && (rest.drop (s.thn.toNat + s.els.toNat)).all stOk) := by
            conv => lhs; rw [← List.take_append_drop s.thn.toNat rest, List.all_append, ← List.take_append_drop s.els.toNat (rest.drop s.thn.toNat), List.all_append, List.drop_drop]
            rw [Bool.and_assoc]
          rw [hall, Bool.true_and]
          cases h1 : blocks (rest.take s.thn.toNat) (base + 1) <;> cases h2 : blocks ((rest.drop s.thn.toNat).take s.els.toNat) (base + 1 + s.thn.toNat) <;>
            cases h3 : blocks (rest.drop (s.thn.toNat + s.els.toNat)) (base + 1 + s.thn.toNat + s.els.toNat) <;>
            rw [h1] at i1 <;> rw [h2] at i2 <;> rw [h3] at i3 <;> simp only [Option.isSome_some, Option.isSome_none] at i1 i2 i3 ⊢
          all_goals
            revert i1 i2 i3
            generalize (rest.take s.thn.toNat).all stOk = a1
            generalize shaped (rest.take s.thn.toNat) = a2
            generalize ((rest.drop s.thn.toNat).take s.els.toNat).all stOk = a3
            generalize shaped ((rest.drop s.thn.toNat).take s.els.toNat) = a4
            generalize (rest.drop (s.thn.toNat + s.els.toNat)).all stOk = a5
            generalize shaped (rest.drop (s.thn.toNat + s.els.toNat)) = a6
            cases a1 <;> cases a2 <;> cases a3 <;> cases a4 <;> cases a5 <;> cases a6 <;> simp
        · rw [if_neg (fun h => hl h.2), if_neg hl]
          simp
      · rw [if_neg (fun h => hs h.1)]
        simp [hs]

/-! ### Functions, trees -/
def nodes (b : List PStmt) : Nat := (b.map fun s => s.e.length + s.f.length).sum
def okFunc (f : PFunc) : Bool :=
  isName f.name && decide (f.params.length ≤ 6) && f.params.all isName && decide (f.body.length ≤ 500) && decide (nodes f.body ≤ 2000) && (blocks f.body 0).isSome
def okGlob (g : PGlob) : Bool := isName g.name && decide (0 ≤ g.size) && decide (g.size ≤ 4000)
def valid (t : PTree) : Bool := decide (t.globals.length ≤ 50) && decide (t.funcs.length ≤ 50) && t.globals.all okGlob && t.funcs.all okFunc

end Go.Proofs.YtolbngbedncemaaGreatDoor.Md
