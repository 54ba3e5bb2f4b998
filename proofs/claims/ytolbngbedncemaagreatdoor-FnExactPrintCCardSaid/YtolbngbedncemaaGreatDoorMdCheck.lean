/- The plain model of chapter 3: names, uses, no recursion; no program in sight. -/
import Derived.Test.YtolbngbedncemaaGreatDoorModel
import Derived.MapKept
set_option linter.unusedVariables false
set_option linter.unusedSimpArgs false
namespace Go.Proofs.YtolbngbedncemaaGreatDoor.Md
open Go

instance lawfulBytes : LawfulBEq ByteArray where
  eq_of_beq h := (MapKept.bytes_beq _ _).1 h
  rfl := (MapKept.bytes_beq _ _).2 rfl

/-! ### Names -/
/-- The number of the first function of a name, counted from i; -1 if there is none. -/
def findFrom : List PFunc → ByteArray → Nat → Int
  | [], _, _ => -1
  | f :: r, s, i => if f.name = s then (i : Int) else findFrom r s (i + 1)
def findF (t : PTree) (s : ByteArray) : Int := findFrom t.funcs s 0
/-- The size of the first global of a name, -1 if there is none. -/
def gsizeL : List PGlob → ByteArray → Int
  | [], _ => -1
  | g :: r, s => if g.name = s then g.size else gsizeL r s
def gsize (t : PTree) (s : ByteArray) : Int := gsizeL t.globals s
theorem findFrom_range (l : List PFunc) (s : ByteArray) : ∀ i : Nat, findFrom l s i = -1 ∨ ((i : Int) ≤ findFrom l s i ∧ findFrom l s i < (i + l.length : Nat) ∧ ∃ f, l[(findFrom l s i).toNat - i]? = some f ∧ f.name = s) := by
  induction l with
  | nil => intro i; exact .inl rfl
  | cons f r ih =>
    intro i
    unfold findFrom
    by_cases h : f.name = s
    · rw [if_pos h]
      exact .inr ⟨Int.le_refl _, by simp; omega, f, by simp, h⟩
    · rw [if_neg h]
      rcases ih (i + 1) with h1 | ⟨h1, h2, g, h3, h4⟩
      · exact .inl h1
      · refine .inr ⟨by omega, by simp at h2 ⊢; omega, g, ?_, h4⟩
        rw [show (findFrom r s (i + 1)).toNat - i = ((findFrom r s (i + 1)).toNat - (i + 1)) + 1 by omega]
        simpa using h3
theorem findF_range (t : PTree) (s : ByteArray) : findF t s = -1 ∨ (0 ≤ findF t s ∧ findF t s < t.funcs.length ∧ ∃ f, t.funcs[(findF t s).toNat]? = some f ∧ f.name = s) := by
  unfold findF
  rcases findFrom_range t.funcs s 0 with h | ⟨h1, h2, h3⟩
  · exact .inl h
  · exact .inr ⟨by simpa using h1, by simpa using h2, by simpa using h3⟩

/-! ### Uses -/
def useE (t : PTree) (sc : List ByteArray) (s : ByteArray) (arr : Bool) : Int :=
  let size := if s ∈ sc then 0 else gsize t s
  if size < 0 then 4 else if decide (0 < size) = arr then 0 else 5
/-- The number of parameters of a function. -/
def arityF (t : PTree) (f : Int) : Int := match t.funcs[f.toNat]? with | some g => g.params.length | none => 0
def nodeE (t : PTree) (sc : List ByteArray) (n : PNode) : Int :=
  if n.kind = 2 then useE t sc n.name false
  else if n.kind = 3 then useE t sc n.name true
  else if n.kind = 4 then (if findF t n.name < 0 then 4 else if arityF t (findF t n.name) = n.val then 0 else 6)
  else 0
def exprE (t : PTree) (sc : List ByteArray) : List PNode → Int
  | [] => 0
  | n :: r => if nodeE t sc n = 0 then exprE t sc r else nodeE t sc n
theorem exprE_append (t : PTree) (sc : List ByteArray) (a b : List PNode) : exprE t sc (a ++ b) = if exprE t sc a = 0 then exprE t sc b else exprE t sc a := by
  induction a with
  | nil => simp [exprE]
  | cons n r ih =>
    rw [List.cons_append, exprE, exprE, ih]
    by_cases h : nodeE t sc n = 0
    · rw [if_pos h, if_pos h]
    · rw [if_neg h, if_neg h, if_neg h]
/-- What is wrong with a statement by itself. -/
def stE (t : PTree) (sc tk : List ByteArray) (s : PStmt) : Int :=
  if exprE t sc s.e = 0 then
    if exprE t sc s.f = 0 then
      if s.kind = 1 then (if s.name ∈ tk ∨ 0 ≤ gsize t s.name then 2 else 0)
      else if s.kind = 2 then useE t sc s.name false
      else if s.kind = 3 then useE t sc s.name true
      else 0
    else exprE t sc s.f
  else exprE t sc s.e

/-! ### Blocks: an error with its place, or the names that are taken behind it -/
inductive Ck where
  | bad (err at_ : Int)
  | ok (tk : List ByteArray)
mutual
def ckSt (t : PTree) (sc tk : List ByteArray) : St → Ck
  | .mk s p _ _ thn els =>
    if stE t sc tk s = 0 then
      let sc1 := if s.kind = 1 then sc ++ [s.name] else sc
      let tk1 := if s.kind = 1 then tk ++ [s.name] else tk
      match ckBlk t sc1 tk1 thn with
      | .bad e a => .bad e a
      | .ok tk2 => ckBlk t sc1 tk2 els
    else .bad (stE t sc tk s) p
def ckBlk (t : PTree) (sc tk : List ByteArray) : List St → Ck
  | [] => .ok tk
  | x :: r =>
    match ckSt t sc tk x with
    | .bad e a => .bad e a
    | .ok tk1 => ckBlk t (if x.s.kind = 1 then sc ++ [x.s.name] else sc) tk1 r
end
/-- What follows a statement that is in order by itself. -/
def ckTail (t : PTree) (sc tk : List ByteArray) (T U R : List St) : Ck :=
  match ckBlk t sc tk T with
  | .bad e a => .bad e a
  | .ok tk2 =>
    match ckBlk t sc tk2 U with
    | .bad e a => .bad e a
    | .ok tk3 => ckBlk t sc tk3 R
def sc1 (s : PStmt) (sc : List ByteArray) : List ByteArray := if s.kind = 1 then sc ++ [s.name] else sc
theorem ck_cons (t : PTree) (sc tk : List ByteArray) (s : PStmt) (p : Nat) (x : Ex) (y : Option Ex) (T U R : List St) :
    ckBlk t sc tk (.mk s p x y T U :: R) = if stE t sc tk s = 0 then ckTail t (sc1 s sc) (sc1 s tk) T U R else .bad (stE t sc tk s) p := by
  rw [ckBlk, ckSt]
  by_cases h : stE t sc tk s = 0
  · rw [if_pos h, if_pos h]
    show (match (match ckBlk t (sc1 s sc) (sc1 s tk) T with | .bad e a => Ck.bad e a | .ok tk2 => ckBlk t (sc1 s sc) tk2 U) with | .bad e a => Ck.bad e a | .ok tk1 => ckBlk t (sc1 s sc) tk1 R) = _
    unfold ckTail
    cases ckBlk t (sc1 s sc) (sc1 s tk) T with
    | bad e a => rfl
    | ok tk2 => rfl
  · rw [if_neg h, if_neg h]
theorem ck_nil (t : PTree) (sc tk : List ByteArray) : ckBlk t sc tk [] = .ok tk := by rw [ckBlk]
theorem blocks_inv {s : PStmt} {rest : List PStmt} {base : Nat} {sts : List St} (h : blocks (s :: rest) base = some sts) :
    ∃ e T U R, grow s.e = some e ∧ stOk s = true ∧ 0 ≤ s.thn ∧ 0 ≤ s.els ∧ s.thn.toNat + s.els.toNat ≤ rest.length ∧ blocks (rest.take s.thn.toNat) (base + 1) = some T ∧
      blocks ((rest.drop s.thn.toNat).take s.els.toNat) (base + 1 + s.thn.toNat) = some U ∧ blocks (rest.drop (s.thn.toNat + s.els.toNat)) (base + 1 + s.thn.toNat + s.els.toNat) = some R ∧ sts = .mk s base e (grow s.f) T U :: R := by
  rw [blocks] at h
  by_cases hc : stOk s ∧ s.thn ≤ rest.length ∧ s.els ≤ rest.length - s.thn
  · rw [if_pos hc] at h
    obtain ⟨h1, h2, h3⟩ := hc
    have hn : 0 ≤ s.thn ∧ 0 ≤ s.els := by
      simp only [stOk, Bool.and_eq_true, decide_eq_true_eq] at h1
      exact ⟨h1.1.1.1.1.2, h1.1.1.1.2⟩
    cases e1 : grow s.e with
    | none => rw [e1] at h; simp at h
    | some e =>
      cases e2 : blocks (rest.take s.thn.toNat) (base + 1) with
      | none => rw [e1, e2] at h; simp at h
      | some T =>
        cases e3 : blocks ((rest.drop s.thn.toNat).take s.els.toNat) (base + 1 + s.thn.toNat) with
        | none => rw [e1, e2, e3] at h; simp at h
        | some U =>
          cases e4 : blocks (rest.drop (s.thn.toNat + s.els.toNat)) (base + 1 + s.thn.toNat + s.els.toNat) with
          | none => rw [e1, e2, e3, e4] at h; simp at h
          | some R =>
            rw [e1, e2, e3, e4] at h
            exact ⟨e, T, U, R, rfl, h1, hn.1, hn.2, by omega, rfl, rfl, rfl, (Option.some.inj h).symm⟩
  · rw [if_neg hc] at h
    cases h
theorem stOk_range {s : PStmt} (h : stOk s = true) : 1 ≤ s.kind ∧ s.kind ≤ 8 := by
  simp only [stOk, Bool.and_eq_true, decide_eq_true_eq] at h
  exact ⟨h.1.1.1.1.1.1.1.1.1, h.1.1.1.1.1.1.1.1.2⟩
theorem sc1_len (s : PStmt) (sc : List ByteArray) : (sc1 s sc).length ≤ sc.length + 1 := by
  unfold sc1
  split <;> simp
theorem ck_len (t : PTree) (n : Nat) : ∀ (l : List PStmt) (p : Nat) (sts : List St) (sc tk tk' : List ByteArray), l.length ≤ n → blocks l p = some sts → ckBlk t sc tk sts = .ok tk' → tk'.length ≤ tk.length + l.length := by
  induction n with
  | zero =>
    intro l p sts sc tk tk' hl hb hc
    obtain rfl : l = [] := List.eq_nil_of_length_eq_zero (by omega)
    rw [blocks] at hb
    cases hb
    rw [ck_nil] at hc
    cases hc
    simp
  | succ n ih =>
    intro l p sts sc tk tk' hl hb hc
    match l, hl with
    | [], _ =>
      rw [blocks] at hb
      cases hb
      rw [ck_nil] at hc
      cases hc
      simp
    | x :: rest, hl =>
      simp only [List.length_cons] at hl
      obtain ⟨e, T, U, R, _, _, _, _, hle, h1, h2, h3, rfl⟩ := blocks_inv hb
      rw [ck_cons] at hc
      by_cases he : stE t sc tk x = 0
      · rw [if_pos he] at hc
        unfold ckTail at hc
        have hs := sc1_len x tk
        cases c1 : ckBlk t (sc1 x sc) (sc1 x tk) T with
        | bad e a => rw [c1] at hc; cases hc
        | ok tk2 =>
          rw [c1] at hc
          simp only at hc
          have b1 := ih _ _ _ _ _ _ (by simp; omega) h1 c1
          cases c2 : ckBlk t (sc1 x sc) tk2 U with
          | bad e a => rw [c2] at hc; cases hc
          | ok tk3 =>
            rw [c2] at hc
            simp only at hc
            have b2 := ih _ _ _ _ _ _ (by simp; omega) h2 c2
            have b3 := ih _ _ _ _ _ _ (by simp; omega) h3 hc
            simp at b1 b2 b3 ⊢
            omega
      · rw [if_neg he] at hc
        cases hc
end Go.Proofs.YtolbngbedncemaaGreatDoor.Md
