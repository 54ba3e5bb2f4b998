/- The plain model of calls: which functions a function calls, ascending, each once; no program in sight. -/
import Derived.Test.YtolbngbedncemaaGreatDoorMdCheck
import Derived.Lib.SlicesCompact
set_option linter.unusedVariables false
set_option linter.unusedSimpArgs false
namespace Go.Proofs.YtolbngbedncemaaGreatDoor.Md
open Go

/-- Two strictly ascending lists with the same members are one. -/
theorem asc_ext : ∀ {a b : List Int}, a.Pairwise (· < ·) → b.Pairwise (· < ·) → (∀ x, x ∈ a ↔ x ∈ b) → a = b
  | [], [], _, _, _ => rfl
  | [], y :: b, _, _, h => absurd ((h y).2 (List.mem_cons_self ..)) (by simp)
  | x :: a, [], _, _, h => absurd ((h x).1 (List.mem_cons_self ..)) (by simp)
  | x :: a, y :: b, ha, hb, h => by
    have ha' := List.pairwise_cons.1 ha
    have hb' := List.pairwise_cons.1 hb
    have hxy : x = y := by
      rcases List.mem_cons.1 ((h x).1 (List.mem_cons_self ..)) with e | e
      · exact e
      · have h1 := hb'.1 x e
        rcases List.mem_cons.1 ((h y).2 (List.mem_cons_self ..)) with e2 | e2
        · exact e2.symm
        · have h2 := ha'.1 y e2; omega
    subst hxy
    congr 1
    refine asc_ext ha'.2 hb'.2 (fun z => ⟨fun hz => ?_, fun hz => ?_⟩)
    · rcases List.mem_cons.1 ((h z).1 (List.mem_cons_of_mem _ hz)) with e | e
      · have := ha'.1 z hz; omega
      · exact e
    · rcases List.mem_cons.1 ((h z).2 (List.mem_cons_of_mem _ hz)) with e | e
      · have := hb'.1 z hz; omega
      · exact e
theorem get_le {zs : List Int} (h : zs.Pairwise (· ≤ ·)) {i j : Nat} (hij : i ≤ j) (hj : j < zs.length) : zs.toArray[i]! ≤ zs.toArray[j]! := by
  have hi : i < zs.length := by omega
  rw [getElem!_pos _ _ (by simpa using hi), getElem!_pos _ _ (by simpa using hj)]
  rcases Nat.lt_or_eq_of_le hij with h1 | rfl
  · simpa using List.pairwise_iff_getElem.1 h i j hi hj h1
  · exact Int.le_refl _
theorem compact_asc {zs : List Int} (h : zs.Pairwise (· ≤ ·)) : (Lib.compact zs).Pairwise (· < ·) := by
  unfold Lib.compact Lib.compactUpTo
  rw [List.pairwise_map]
  refine List.Pairwise.imp_of_mem (R := fun i j => i < j) (fun {i j} hi hj hij => ?_) (List.Pairwise.filter _ List.pairwise_lt_range)
  have hj1 := List.mem_filter.1 hj
  have hjl := List.mem_range.1 hj1.1
  have hk := hj1.2
  unfold Lib.keeps at hk
  simp only [decide_eq_true_eq] at hk
  rcases hk with hk | hk
  · omega
  · have h1 := get_le h (show i ≤ j - 1 by omega) (by omega)
    have h2 := get_le h (show j - 1 ≤ j by omega) hjl
    omega
theorem mem_compact {zs : List Int} (x : Int) : x ∈ Lib.compact zs ↔ x ∈ zs := by
  unfold Lib.compact Lib.compactUpTo
  constructor
  · intro h
    obtain ⟨i, hi, rfl⟩ := List.mem_map.1 h
    have hl := List.mem_range.1 (List.mem_filter.1 hi).1
    rw [getElem!_pos _ _ (by simpa using hl)]
    simp
  · intro h
    have hex : ∃ i, i < zs.length ∧ zs.toArray[i]! = x := by
      obtain ⟨i, hi, rfl⟩ := List.getElem_of_mem h
      exact ⟨i, hi, by rw [getElem!_pos _ _ (by simpa using hi)]; simp⟩
    have hmin : ∀ n i, i ≤ n → i < zs.length → zs.toArray[i]! = x → ∃ j, j < zs.length ∧ zs.toArray[j]! = x ∧ Lib.keeps zs.toArray j = true := by
      intro n
      induction n with
      | zero =>
        intro i h1 h2 h3
        obtain rfl : i = 0 := by omega
        exact ⟨0, h2, h3, by simp [Lib.keeps]⟩
      | succ n ih =>
        intro i h1 h2 h3
        by_cases hk : Lib.keeps zs.toArray i = true
        · exact ⟨i, h2, h3, hk⟩
        · unfold Lib.keeps at hk
          simp only [decide_eq_true_eq, not_or, Decidable.not_not] at hk
          exact ih (i - 1) (by omega) (by omega) (by rw [← hk.2]; exact h3)
    obtain ⟨i, hi, hx⟩ := hex
    obtain ⟨j, hj, hjx, hk⟩ := hmin i i (Nat.le_refl _) hi hx
    exact List.mem_map.2 ⟨j, List.mem_filter.2 ⟨List.mem_range.2 hj, hk⟩, hjx⟩

/-! ### Calls -/
/-- What a node calls. -/
def callN (t : PTree) (n : PNode) : Option Int := if n.kind = 4 ∧ 0 ≤ findF t n.name then some (findF t n.name) else none
def outS (t : PTree) (s : PStmt) : List Int := (s.e ++ s.f).filterMap (callN t)
def outL (t : PTree) (l : List PStmt) : List Int := l.flatMap (outS t)
/-- The functions that the statements call, ascending, each once. -/
def callsL (t : PTree) (l : List PStmt) : List Int := ((List.range t.funcs.length).filter fun g : Nat => decide ((g : Int) ∈ outL t l)).map fun g : Nat => (g : Int)
theorem outL_range (t : PTree) (l : List PStmt) : ∀ x ∈ outL t l, 0 ≤ x ∧ x < t.funcs.length := by
  intro x hx
  obtain ⟨s, _, hs⟩ := List.mem_flatMap.1 hx
  obtain ⟨n, _, hn⟩ := List.mem_filterMap.1 hs
  unfold callN at hn
  split at hn
  · rename_i hc
    cases hn
    rcases findF_range t n.name with h | ⟨h1, h2, _⟩
    · omega
    · exact ⟨h1, h2⟩
  · cases hn
theorem callsL_asc (t : PTree) (l : List PStmt) : (callsL t l).Pairwise (· < ·) := by
  unfold callsL
  rw [List.pairwise_map]
  exact List.Pairwise.imp (fun {a b} h => by omega) (List.Pairwise.filter _ List.pairwise_lt_range)
theorem mem_callsL (t : PTree) (l : List PStmt) (x : Int) : x ∈ callsL t l ↔ x ∈ outL t l := by
  unfold callsL
  constructor
  · intro h
    obtain ⟨g, hg, rfl⟩ := List.mem_map.1 h
    exact of_decide_eq_true (List.mem_filter.1 hg).2
  · intro h
    obtain ⟨h0, h1⟩ := outL_range t l x h
    exact List.mem_map.2 ⟨x.toNat, List.mem_filter.2 ⟨List.mem_range.2 (by omega), decide_eq_true (by rw [Int.toNat_of_nonneg h0]; exact h)⟩, Int.toNat_of_nonneg h0⟩
theorem sorted_le (l : List Int) : (l.mergeSort fun x y => decide (x ≤ y)).Pairwise (· ≤ ·) := by
  have := List.pairwise_mergeSort (le := fun x y : Int => decide (x ≤ y)) (fun a b c h1 h2 => by simp at h1 h2 ⊢; omega) (fun a b => by simp; omega) l
  exact this.imp (fun {a b} h => by simpa using h)
theorem calls_eq (t : PTree) (l : List PStmt) : Lib.compact ((outL t l).mergeSort fun x y => decide (x ≤ y)) = callsL t l :=
  asc_ext (compact_asc (sorted_le _)) (callsL_asc t l) (fun x => by rw [mem_compact, mem_callsL, List.mem_mergeSort])
end Go.Proofs.YtolbngbedncemaaGreatDoor.Md
