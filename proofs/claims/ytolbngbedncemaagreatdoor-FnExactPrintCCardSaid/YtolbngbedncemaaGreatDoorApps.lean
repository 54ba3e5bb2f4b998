/- Appends of one-cell elements onto a row of the call's own, by the run; no statement about the program. -/
import Derived.Test.YtolbngbedncemaaGreatDoorPtr
import Derived.Maps.AppendAt
import Derived.Laws.OwnMore
set_option linter.unusedVariables false
set_option linter.unusedSimpArgs false
namespace Go.Proofs.YtolbngbedncemaaGreatDoor
open Go Go.RowKit

section
variable {α : Type} {P : Program} {T E by_ : Nat} {z : Value} {i0 : TypeInfo}
theorem run_append_none0 (w : World) (base : Nat) (t ty e : TypeId) (i : TypeInfo) (size : Nat) (ht : P.underlying t = some (.slice e)) (hi : P.info? e = some i)
    (v : Value) (n c : Nat) (xs : List Value) (hown : w.ownsRow base e size v n xs) :
    (Builtin.append_ #[t, t] ty #[v, .slice none 0 c]).run P w = .ok v w := by
  rcases hown.2 with ⟨rfl, rfl⟩ | ⟨g, cap, cur, rfl, _, _, hnc, _⟩
  · simp [Builtin.append_, run_underlying ht, sizeOf, typeInfo, hi, Builtin.lenOf, Builtin.firstCells]
  · simp [Builtin.append_, run_underlying ht, sizeOf, typeInfo, hi, Builtin.lenOf, Builtin.firstCells, hnc, storeCells]
/-- append(own row, slice that is read ..). -/
theorem run_app (enc : α → Value) (C : World → List Value → α → Prop) (hC : ∀ w cs x, C w cs x → cs = [enc x]) (h1 : ∀ x, (enc x).oneCell' = true) (K : Foot) (w : World) (base : Nat) (hT : P.underlying T = some (.slice E)) (hi : P.info? E = some i0) (hz : i0.zero = some z) (hs : i0.size = 1) (hb : i0.bytes = by_) (hzs : z.cells.size = 1)
    (v : Value) (xs : List Value) (hown : w.ownsRow base E 1 v xs.length xs) (v2 : Value) (ys : List α) (hr : Sl K w 1 C v2 ys) (hB : (xs.length + ys.length) * by_ ≤ 140737488355328) (hB1 : xs.length + ys.length ≤ 140737488355328) (hbase : base ≤ w.heap.size) (ty : TypeId) :
    ∃ v' w', (Builtin.append_ #[T, T] ty #[v, v2]).run P w = .ok v' w' ∧ w'.ownsRow base E 1 v' (xs ++ ys.map enc).length (xs ++ ys.map enc) ∧ w.grownBy w' v.ownBlock ∧ (v'.ownBlock = v.ownBlock ∨ v'.ownBlock = some w.heap.size) := by
  obtain ⟨a, cap, rfl, h2, h3, h4⟩ := hr
  have hlen : (xs ++ ys.map enc).length = xs.length + ys.length := by simp
  cases a with
  | none =>
    have h0 : ys.length = 0 := by
      rcases Nat.eq_zero_or_pos ys.length with h | h
      · exact h
      · obtain ⟨b, o, e, _⟩ := h4 h
        cases e
    obtain rfl : ys = [] := List.eq_nil_of_length_eq_zero h0
    refine ⟨v, w, run_append_none0 w base T ty E i0 1 hT hi v _ cap xs hown, by simpa using hown, ⟨rfl, rfl, rfl, Nat.le_refl _, fun _ _ _ => rfl⟩, .inl rfl⟩
  | some ad =>
    have hc : ∀ j u, (ys.map enc)[j]? = some u → w.cell? (ad.add j) = some u := by
      intro j u hj
      rw [List.getElem?_map] at hj
      obtain ⟨y, hy, rfl⟩ := Option.map_eq_some_iff.1 hj
      obtain ⟨hjl, e⟩ := List.getElem?_eq_some_iff.1 hy
      obtain ⟨b, o, e1, _, e3⟩ := h4 (by omega)
      cases e1
      obtain ⟨cs, c1, c2, c3⟩ := e3 j hjl
      rw [e] at c2
      have := c3 0 _ (by rw [hC _ _ _ c2]; rfl)
      unfold Addr.add
      split
      · rename_i hj0; subst hj0; simpa using this
      · simpa using this
    obtain ⟨v', w', hrun, ho, hg, _, hat⟩ := run_append_own_at (P := P) (w := w) base T ty E i0 z 1 by_ hT hi hz hs hb hzs (by decide) v xs.length xs hown ad ys.length cap (ys.map enc) (by simp) hc (fun u hu => by
      obtain ⟨x, _, rfl⟩ := List.mem_map.1 hu
      exact h1 x) (by unfold maxLen; omega) hB hbase
    exact ⟨v', w', hrun, by rw [hlen]; exact ho, hg, hat⟩
/-- A row of the call's own, as a slice. -/
theorem sl_own (enc : α → Value) (C : World → List Value → α → Prop) (hC : ∀ x w, C w [enc x] x ∨ True) {w : World} {base n : Nat} {v : Value} {xs : List α} {K : Foot} (h : w.ownsRow base E 1 v n (xs.map enc)) (hK : ∀ g, base ≤ g → K g) (hc : ∀ x ∈ xs, C w [enc x] x) : Sl K w 1 C v xs := by
  have hl : (xs.map enc).length = n := by have := h.1; simpa using this
  rw [List.length_map] at hl
  rcases h.2 with ⟨rfl, h1⟩ | ⟨g, cap, cur, rfl, hg, hh, h1, h2, h3, h4⟩
  · obtain rfl : xs = [] := List.eq_nil_of_length_eq_zero (by omega)
    exact Sl.nil _ _ _ _
  · refine ⟨some ⟨g, 0, none⟩, cap, by rw [hl], by omega, h2, fun hp => ⟨g, 0, rfl, hK g hg, fun i hi => ⟨[enc xs[i]], rfl, hc _ (List.getElem_mem hi), fun q u hu => ?_⟩⟩⟩
    have hq : q = 0 := by
      have := (List.getElem?_eq_some_iff.1 hu).1
      simp at this
      omega
    subst hq
    simp at hu
    subst hu
    have := h.cells (g := g) rfl i (enc xs[i]) (by simp [hi])
    unfold Addr.add at this
    split at this
    · rename_i h0; subst h0; simpa using this
    · simpa using this
end
end Go.Proofs.YtolbngbedncemaaGreatDoor
