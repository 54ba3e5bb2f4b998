/- The plain model of PrintC: the text of an expression, of statements, of a tree. No program in sight. -/
import Derived.Test.YtolbngbedncemaaGreatDoorModel
set_option linter.unusedVariables false
namespace Go.Proofs.YtolbngbedncemaaGreatDoor.Md

/-! ### Numbers -/
def digN (n : Nat) : List UInt8 := if n < 10 then [UInt8.ofNat (48 + n)] else digN (n / 10) ++ [UInt8.ofNat (48 + n % 10)]
termination_by n
decreasing_by omega
def dig (x : Int) : List UInt8 := if x < 0 then 45 :: digN (-x).toNat else digN x.toNat
theorem digN_small {n : Nat} (h : n < 10) : digN n = [UInt8.ofNat (48 + n)] := by rw [digN, if_pos h]
theorem digN_big {n : Nat} (h : ¬ n < 10) : digN n = digN (n / 10) ++ [UInt8.ofNat (48 + n % 10)] := by rw [digN, if_neg h]
theorem digN_len : ∀ (k n : Nat), n < 10 ^ (k + 1) → (digN n).length ≤ k + 1
  | 0, n, h => by rw [digN_small (by omega)]; simp
  | k + 1, n, h => by
    by_cases hn : n < 10
    · rw [digN_small hn]; simp
    · rw [digN_big hn, List.length_append]
      have := digN_len k (n / 10) (by rw [Nat.pow_succ] at h; omega)
      simp
      omega

/-! ### Operators -/
def wordL : List (List UInt8) := [[42], [47], [37], [43], [45], [60, 60], [62, 62], [60], [60, 61], [62], [62, 61], [61, 61], [33, 61], [38], [94], [124]]
def strongL : List Nat := [10, 10, 10, 9, 9, 8, 8, 7, 7, 7, 7, 6, 6, 5, 4, 3]
def strong (n : PNode) : Nat := if n.kind = 9 then 1 else if n.kind = 8 then 2 else if n.kind = 7 then strongL.getD n.val.toNat 0 else 11
def opWord (n : PNode) : List UInt8 := if n.kind = 9 then [124, 124] else if n.kind = 8 then [38, 38] else wordL.getD n.val.toNat []
def unWord (n : PNode) : List UInt8 := [[45], [33], [126]].getD n.val.toNat []
def heldT (s : List UInt8) (yes : Bool) : List UInt8 := if yes then 40 :: s ++ [41] else s
/-- The texts of the operands with ', ' between. -/
def commas : List (List UInt8) → List UInt8
  | [] => []
  | [s] => s
  | s :: r => s ++ [44, 32] ++ commas r
/-- The text of a node from its operands' strengths and texts. -/
def showN (n : PNode) (ks : List (Nat × List UInt8)) : List UInt8 :=
  if n.kind = 1 then dig n.val
  else if n.kind = 2 then n.name.data.toList
  else if n.kind = 5 then [105, 110, 40, 41]
  else if n.kind = 4 then n.name.data.toList ++ [40] ++ commas (ks.map Prod.snd) ++ [41]
  else match ks with
    | [a] => if n.kind = 3 then n.name.data.toList ++ [91] ++ a.2 ++ [93] else unWord n ++ heldT a.2 (decide (a.1 < 11))
    | [a, b] => heldT a.2 (decide (a.1 < strong n)) ++ [32] ++ opWord n ++ [32] ++ heldT b.2 (decide (b.1 ≤ strong n))
    | _ => []
def showE : Ex → List UInt8
  | .mk n args => showN n (args.map fun a => (strong a.node, showE a))
theorem showE_mk (n : PNode) (args : List Ex) : showE (.mk n args) = showN n (args.map fun a => (strong a.node, showE a)) := by rw [showE]

/-! ### Statements -/
def intW : List UInt8 := [105, 110, 116, 32]
/-- The text of a statement from the texts of its blocks. -/
def showS (s : PStmt) (e : Ex) (f : Option Ex) (thn els : List UInt8) : List UInt8 :=
  let t := showE e
  if s.kind = 1 then intW ++ s.name.data.toList ++ [32, 61, 32] ++ t ++ [59, 10]
  else if s.kind = 2 then s.name.data.toList ++ [32, 61, 32] ++ t ++ [59, 10]
  else if s.kind = 3 then s.name.data.toList ++ [91] ++ t ++ [93, 32, 61, 32] ++ (f.map showE).getD [] ++ [59, 10]
  else if s.kind = 6 then [114, 101, 116, 117, 114, 110, 32] ++ t ++ [59, 10]
  else if s.kind = 7 then [111, 117, 116, 40] ++ t ++ [41, 59, 10]
  else if s.kind = 8 then t ++ [59, 10]
  else if s.kind = 4 then [105, 102, 32, 40] ++ t ++ [41, 32, 123, 10] ++ thn ++ (if s.els = 0 then [] else [125, 32, 101, 108, 115, 101, 32, 123, 10] ++ els) ++ [125, 10]
  else if s.kind = 5 then [119, 104, 105, 108, 101, 32, 40] ++ t ++ [41, 32, 123, 10] ++ thn ++ [125, 10]
  else []
mutual
def showSt : St → List UInt8
  | .mk s _ e f thn els => showS s e f (showBlk thn) (showBlk els)
def showBlk : List St → List UInt8
  | [] => []
  | x :: r => showSt x ++ showBlk r
end
theorem showBlk_append (a b : List St) : showBlk (a ++ b) = showBlk a ++ showBlk b := by
  induction a with
  | nil => rw [List.nil_append, showBlk, List.nil_append]
  | cons x r ih => rw [List.cons_append, showBlk, showBlk, ih, List.append_assoc]

/-! ### Trees -/
def showG (g : PGlob) : List UInt8 := intW ++ g.name.data.toList ++ (if g.size = 0 then [] else [91] ++ dig g.size ++ [93]) ++ [59, 10]
def showF (f : PFunc) (body : List St) : List UInt8 := intW ++ f.name.data.toList ++ [40] ++ commas (f.params.map fun p => intW ++ p.data.toList) ++ [41, 32, 123, 10] ++ showBlk body ++ [125, 10]
/-- The text of a tree whose bodies' blocks are fs. -/
def showT (t : PTree) (fs : List (PFunc × List St)) : List UInt8 := t.globals.flatMap showG ++ fs.flatMap fun p => showF p.1 p.2
end Go.Proofs.YtolbngbedncemaaGreatDoor.Md
