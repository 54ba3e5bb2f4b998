/- Rows of a call's own: made empty, one element appended, one element stored; the list of who is called as a row of bools. No statement about the program's functions. -/
import Derived.Test.YtolbngbedncemaaGreatDoorRows3
import Derived.Test.YtolbngbedncemaaGreatDoorMdCalls
set_option linter.unusedVariables false
set_option linter.unusedSimpArgs false
namespace Go.Proofs.YtolbngbedncemaaGreatDoor
open Go Go.RowKit Md

/-- An empty row, just made. -/
theorem rw_new0 (w : World) (base E sz : Nat) (hb : base ≤ w.heap.size) : (w.alloc (.cells #[] E)).ownsRow base E sz (.slice (some ⟨w.heap.size, 0, none⟩) 0 0) 0 [] := by
  refine ⟨by simp, .inr ⟨w.heap.size, 0, #[], rfl, hb, heap_alloc_new w _, Nat.le_refl _, by simp [maxLen], by simp, by simp⟩⟩
/-- A store into a row. -/
theorem rw_set {w : World} {base E n g c : Nat} {xs : List Value} (h : w.ownsRow base E 1 (.slice (some ⟨g, 0, none⟩) n c) n xs) {i : Nat} (hi : i < n) (u : Value) : (w.setCell ⟨g, i, none⟩ u).ownsRow base E 1 (.slice (some ⟨g, 0, none⟩) n c) n (xs.set i u) := by
  obtain ⟨h1, h2⟩ := h
  refine ⟨by rw [List.length_set]; exact h1, ?_⟩
  rcases h2 with ⟨e, _⟩ | ⟨g', cap, cur, e, hb, hh, h3, h4, h5, h6⟩
  · cases e
  · cases e
    refine .inr ⟨g, c, cur.setIfInBounds i u, rfl, hb, heap_setCell_same w g i cur E u hh, h3, h4, by rw [Array.size_setIfInBounds]; exact h5, ?_⟩
    rw [Array.toList_setIfInBounds, List.take_set, h6]
theorem rw_at {w : World} {base E n g c : Nat} {xs : List Value} (h : w.ownsRow base E 1 (.slice (some ⟨g, 0, none⟩) n c) n xs) {i : Nat} {u : Value} (hi : xs[i]? = some u) : w.cell? ⟨g, i, none⟩ = some u ∧ w.frozen? ⟨g, i, none⟩ = false := by
  have hc := h.cells (g := g) rfl i u hi
  rw [show (⟨g, 0, none⟩ : Addr).add i = ⟨g, i, none⟩ by unfold Addr.add; split <;> simp_all] at hc
  refine ⟨hc, ?_⟩
  rcases h.2 with ⟨e, _⟩ | ⟨g', cap, cur, e, hb, hh, _⟩
  · cases e
  · cases e
    exact frozen_of_row w g i cur E hh
theorem rw_form {w : World} {base E sz n : Nat} {v : Value} {xs : List Value} (h : w.ownsRow base E sz v n xs) (hp : 0 < n) : ∃ g c, v = .slice (some ⟨g, 0, none⟩) n c ∧ base ≤ g ∧ g < w.heap.size ∧ n ≤ c ∧ c ≤ 9223372036854775807 := by
  rcases h.2 with ⟨_, e⟩ | ⟨g, cap, cur, e, hb, hh, h1, h2, _⟩
  · omega
  · exact ⟨g, cap, e, hb, (Array.getElem?_eq_some_iff.1 hh).1, h1, by unfold maxLen at h2; omega⟩
theorem rw_form0 {w : World} {base E sz n : Nat} {v : Value} {xs : List Value} (h : w.ownsRow base E sz v n xs) : ∃ a c, v = .slice a n c := by
  rcases h.2 with ⟨e, e2⟩ | ⟨g, cap, cur, e, _⟩
  · subst e2; exact ⟨_, _, e⟩
  · exact ⟨_, _, e⟩
theorem rw_ext {w w' : World} {base e sz n : Nat} {v : Value} {xs : List Value} (h : w.ownsRow base e sz v n xs) (k : Ext w w') : w'.ownsRow base e sz v n xs := by
  obtain ⟨h1, h2⟩ := h
  refine ⟨h1, ?_⟩
  rcases h2 with h2 | ⟨g, cap, cur, rfl, hg, hh, r⟩
  · exact .inl h2
  · exact .inr ⟨g, cap, cur, rfl, hg, (k.block g (Array.getElem?_eq_some_iff.1 hh).1).trans hh, r⟩
theorem rw_ge {w : World} {base E sz n : Nat} {v : Value} {xs : List Value} (h : w.ownsRow base E sz v n xs) : ∀ k, v.ownBlock = some k → base ≤ k := by
  intro k hk
  rcases h.2 with ⟨rfl, _⟩ | ⟨g, cap, cur, rfl, hg, _⟩
  · cases hk
  · cases hk; exact hg
theorem sl_len {α : Type} {K : Foot} {w : World} {sz : Nat} {C : World → List Value → α → Prop} {a : Option Addr} {n c : Nat} {xs : List α} (h : Sl K w sz C (.slice a n c) xs) : xs.length = n := by
  obtain ⟨_, _, e, _⟩ := h
  cases e
  rfl
theorem rw_base {w : World} {base base' E sz n : Nat} {v : Value} {xs : List Value} (h : w.ownsRow base E sz v n xs) (hb : base' ≤ base) : w.ownsRow base' E sz v n xs := by
  refine ⟨h.1, ?_⟩
  rcases h.2 with e | ⟨g, cap, cur, e, hg, r⟩
  · exact .inl e
  · exact .inr ⟨g, cap, cur, e, Nat.le_trans hb hg, r⟩
theorem rw_other {w : World} {base E sz n : Nat} {v : Value} {xs : List Value} (h : w.ownsRow base E sz v n xs) {a : Addr} (ha : v.ownBlock ≠ some a.block) (u : Value) : (w.setCell a u).ownsRow base E sz v n xs := by
  refine ⟨h.1, ?_⟩
  rcases h.2 with e | ⟨g, cap, cur, rfl, hg, hh, r⟩
  · exact .inl e
  · exact .inr ⟨g, cap, cur, rfl, hg, (Below.heap_setCell _ _ _ _ (fun e => ha (by rw [← e]; rfl))).trans hh, r⟩
/-- append(own row, []T{x}...) where the list of one has just been made. -/
theorem app_one {α : Type} {P : Program} {T E by_ : Nat} {z : Value} {i0 : TypeInfo} (enc : α → Value) (h1 : ∀ x, (enc x).oneCell' = true) (hT : P.underlying T = some (.slice E)) (hi : P.info? E = some i0) (hz : i0.zero = some z) (hs : i0.size = 1) (hb : i0.bytes = by_) (hzs : z.cells.size = 1) (ty : TypeId)
    {w0 wr : World} (hX : Ext w0 wr) {v : Value} {n : Nat} {xs : List α} (ho : wr.ownsRow w0.heap.size E 1 v n (xs.map enc)) (x : α) (hB : (n + 1) * by_ ≤ 140737488355328) (hB1 : n + 1 ≤ 140737488355328) :
    ∃ v' w', (Builtin.append_ #[T, T] ty #[v, .slice (some ⟨wr.heap.size, 0, none⟩) 1 1]).run P (wr.alloc (.cells #[enc x] E)) = .ok v' w' ∧ w'.ownsRow w0.heap.size E 1 v' (n + 1) ((xs ++ [x]).map enc) ∧ Ext w0 w' := by
  have hn : xs.length = n := by have := ho.1; simpa using this
  have hX4 : Ext wr (wr.alloc (.cells #[enc x] E)) := (Ext.refl wr).alloc _
  have ho4 : (wr.alloc (.cells #[enc x] E)).ownsRow w0.heap.size E 1 v n (xs.map enc) := ho.alloc _
  have hsl : Sl AnyB (wr.alloc (.cells #[enc x] E)) 1 (fun _ cs (y : α) => cs = [enc y]) (.slice (some ⟨wr.heap.size, 0, none⟩) 1 1) [x] :=
    ⟨some ⟨wr.heap.size, 0, none⟩, 1, rfl, Nat.le_refl _, by simp [maxLen], fun _ => ⟨wr.heap.size, 0, rfl, trivial, fun i hi => by
      have h0 : i = 0 := by simp at hi; omega
      subst h0
      exact ⟨[enc x], rfl, rfl, fun p u hu => by
        have hp0 : p = 0 := by
          have := (List.getElem?_eq_some_iff.1 hu).1
          simp at this
          omega
        subst hp0
        simp at hu
        subst hu
        exact ((Blk.alloc wr E #[enc x]).cell 0).trans rfl⟩⟩⟩
  subst hn
  obtain ⟨v', w', r1, r2, r3, r4⟩ := run_app (P := P) enc _ (fun _ _ _ h => h) h1 AnyB (wr.alloc (.cells #[enc x] E)) w0.heap.size hT hi hz hs hb hzs v (xs.map enc) (by simpa using ho4) _ [x] hsl (by simpa using hB) (by simpa using hB1) (Nat.le_trans hX.size hX4.size) ty
  refine ⟨v', w', r1, by rw [List.map_append]; simpa using r2, Below.grown (hX.trans hX4) r3 (Nat.le_trans hX.size hX4.size) (fun k hk => ?_)⟩
  rcases ho.2 with ⟨rfl, _⟩ | ⟨g, cap, cur, rfl, hg, _⟩
  · cases hk
  · cases hk; exact hg

/-! ### Who is called, as a row of bools -/
def thereB (t : PTree) (xs : List Int) : List Bool := (List.range t.funcs.length).map fun g : Nat => decide ((g : Int) ∈ xs)
theorem thereB_len (t : PTree) (xs : List Int) : (thereB t xs).length = t.funcs.length := by simp [thereB]
theorem thereB_nil (t : PTree) : thereB t [] = List.replicate t.funcs.length false := by
  refine List.ext_getElem (by simp [thereB]) (fun i h1 h2 => by simp [thereB])
theorem thereB_set (t : PTree) (xs : List Int) (u : Int) (h0 : 0 ≤ u) : (thereB t xs).set u.toNat true = thereB t (xs ++ [u]) := by
  refine List.ext_getElem (by simp [thereB]) (fun i h1 h2 => ?_)
  rw [List.getElem_set]
  simp only [thereB, List.getElem_map, List.getElem_range, List.mem_append, List.mem_singleton]
  by_cases hi : u.toNat = i
  · rw [if_pos hi, decide_eq_true (.inr (by omega))]
  · rw [if_neg hi]
    have : ¬ (i : Int) = u := by omega
    simp [this]
theorem thereB_at {t : PTree} {xs : List Int} {i : Nat} (hi : i < t.funcs.length) : (thereB t xs)[i]? = some (decide ((i : Int) ∈ xs)) := by
  simp [thereB, List.getElem?_map, hi]
/-- The first k. -/
def upTo (xs : List Int) (k : Nat) : List Int := ((List.range k).filter fun g : Nat => decide ((g : Int) ∈ xs)).map fun g : Nat => (g : Int)
theorem upTo_in {xs : List Int} {k : Nat} (h : (k : Int) ∈ xs) : upTo xs (k + 1) = upTo xs k ++ [(k : Int)] := by
  simp [upTo, List.range_succ, List.filter_append, h]
theorem upTo_out {xs : List Int} {k : Nat} (h : ¬ (k : Int) ∈ xs) : upTo xs (k + 1) = upTo xs k := by
  simp [upTo, List.range_succ, List.filter_append, h]
theorem upTo_len (xs : List Int) (k : Nat) : (upTo xs k).length ≤ k := by
  unfold upTo
  rw [List.length_map]
  exact Nat.le_trans (List.length_filter_le _ _) (by simp)
end Go.Proofs.YtolbngbedncemaaGreatDoor
