/- Rows whose elements have several cells: appended to a row of the call's own, read back; no statement about the program. -/
import Derived.Test.YtolbngbedncemaaGreatDoorApps
import Derived.Test.YtolbngbedncemaaGreatDoorRep
set_option linter.unusedVariables false
set_option linter.unusedSimpArgs false
namespace Go.Proofs.YtolbngbedncemaaGreatDoor
open Go Go.RowKit Md

section
variable {α : Type} (sz : Nat) (enc : α → List Value)
theorem flat_len (h : ∀ x, (enc x).length = sz) (xs : List α) : (xs.flatMap enc).length = xs.length * sz := by
  induction xs with
  | nil => simp
  | cons x r ih => rw [List.flatMap_cons, List.length_append, h, ih, List.length_cons, Nat.succ_mul, Nat.add_comm]
theorem flat_at (h : ∀ x, (enc x).length = sz) : ∀ (xs : List α) (i q : Nat) (x : α), xs[i]? = some x → q < sz → (xs.flatMap enc)[i * sz + q]? = (enc x)[q]? := by
  intro xs
  induction xs with
  | nil => intro i q x hx; simp at hx
  | cons y r ih =>
    intro i q x hx hq
    rw [List.flatMap_cons]
    cases i with
    | zero =>
      simp at hx
      subst hx
      rw [Nat.zero_mul, Nat.zero_add, List.getElem?_append_left (by rw [h]; exact hq)]
    | succ i =>
      simp at hx
      rw [List.getElem?_append_right (by rw [h, Nat.succ_mul]; omega), h, show (i + 1) * sz + q - sz = i * sz + q by rw [Nat.succ_mul]; omega]
      exact ih i q x hx hq
theorem flat_inv (h : ∀ x, (enc x).length = sz) (hs : 0 < sz) (xs : List α) (j : Nat) (u : Value) (hj : (xs.flatMap enc)[j]? = some u) : ∃ i q x, j = i * sz + q ∧ q < sz ∧ xs[i]? = some x ∧ (enc x)[q]? = some u := by
  have hlt := (List.getElem?_eq_some_iff.1 hj).1
  rw [flat_len sz enc h] at hlt
  have hi : j / sz < xs.length := (Nat.div_lt_iff_lt_mul hs).2 hlt
  have hq := Nat.mod_lt j hs
  have e : j = j / sz * sz + j % sz := by rw [Nat.mul_comm]; exact (Nat.div_add_mod j sz).symm
  refine ⟨j / sz, j % sz, xs[j / sz], e, hq, List.getElem?_eq_getElem hi, ?_⟩
  rw [← flat_at sz enc h xs (j / sz) (j % sz) _ (List.getElem?_eq_getElem hi) hq, ← e]
  exact hj
variable {sz enc}
/-- The cells of a slice that is read, as one row. -/
theorem Sl.flat {K : Foot} {w : World} {C : World → List Value → α → Prop} {a : Option Addr} {n c : Nat} {xs : List α} (h : Sl K w sz C (.slice a n c) xs) (hl : ∀ x, (enc x).length = sz) (hs : 0 < sz) (hC : ∀ w cs x, C w cs x → cs = enc x) :
    ∀ ad, a = some ad → ∀ j u, (xs.flatMap enc)[j]? = some u → w.cell? (ad.add j) = some u := by
  intro ad ha j u hj
  obtain ⟨i, q, x, rfl, hq, hx, hu⟩ := flat_inv sz enc hl hs xs j u hj
  obtain ⟨a', cap, e, h1, h2, h3⟩ := h
  cases e
  obtain ⟨hi, e⟩ := List.getElem?_eq_some_iff.1 hx
  obtain ⟨b, o, e1, _, e3⟩ := h3 (by omega)
  rw [ha] at e1
  cases e1
  obtain ⟨cs, c1, c2, c3⟩ := e3 i hi
  rw [e] at c2
  rw [hC _ _ _ c2] at c3
  have := c3 q u hu
  have e2 : (⟨b, o, none⟩ : Addr).add (i * sz + q) = ⟨b, o + (i * sz + q), none⟩ := by unfold Addr.add; split <;> simp_all
  rw [e2, ← Nat.add_assoc]
  exact this
/-- A row of the call's own, as a slice. -/
theorem sl_ownN {w : World} {base n E : Nat} {v : Value} {xs : List α} {K : Foot} {C : World → List Value → α → Prop} (hl : ∀ x, (enc x).length = sz) (hs : 0 < sz) (h : w.ownsRow base E sz v n (xs.flatMap enc)) (hK : ∀ g, base ≤ g → K g) (hc : ∀ x ∈ xs, C w (enc x) x) : Sl K w sz C v xs := by
  have hn : xs.length = n := by
    have := h.1
    rw [flat_len sz enc hl] at this
    exact Nat.eq_of_mul_eq_mul_right hs this
  rcases h.2 with ⟨rfl, h1⟩ | ⟨g, cap, cur, rfl, hg, hh, h1, h2, h3, h4⟩
  · obtain rfl : xs = [] := List.eq_nil_of_length_eq_zero (by omega)
    exact Sl.nil _ _ _ _
  · refine ⟨some ⟨g, 0, none⟩, cap, by rw [hn], by omega, h2, fun hp => ⟨g, 0, rfl, hK g hg, fun i hi => ⟨enc xs[i], hl _, hc _ (List.getElem_mem hi), fun q u hu => ?_⟩⟩⟩
    have hq : q < sz := by
      have := (List.getElem?_eq_some_iff.1 hu).1
      rw [hl] at this
      exact this
    have := h.cells (g := g) rfl (i * sz + q) u (by rw [flat_at sz enc hl xs i q _ (List.getElem?_eq_getElem hi) hq]; exact hu)
    have e2 : (⟨g, 0, none⟩ : Addr).add (i * sz + q) = ⟨g, 0 + (i * sz + q), none⟩ := by unfold Addr.add; split <;> simp_all
    rw [e2] at this
    rw [Nat.add_assoc]
    exact this
/-- append(own row, slice that is read ..). -/
theorem run_appN {P : Program} {T E by_ : Nat} {z : Value} {i0 : TypeInfo} (C : World → List Value → α → Prop) (hC : ∀ w cs x, C w cs x → cs = enc x) (hl : ∀ x, (enc x).length = sz) (hs : 0 < sz) (h1 : ∀ x, ∀ u ∈ enc x, u.oneCell' = true) (K : Foot) (w : World) (base : Nat) (hT : P.underlying T = some (.slice E)) (hi : P.info? E = some i0) (hz : i0.zero = some z) (hsz : i0.size = sz) (hb : i0.bytes = by_) (hzs : z.cells.size = sz)
    (v : Value) (n : Nat) (xs : List α) (hown : w.ownsRow base E sz v n (xs.flatMap enc)) (v2 : Value) (ys : List α) (hr : Sl K w sz C v2 ys) (hB : (n + ys.length) * by_ ≤ 140737488355328) (hB1 : n + ys.length ≤ 140737488355328) (hbase : base ≤ w.heap.size) (ty : TypeId) :
    ∃ v' w', (Builtin.append_ #[T, T] ty #[v, v2]).run P w = .ok v' w' ∧ w'.ownsRow base E sz v' (n + ys.length) ((xs ++ ys).flatMap enc) ∧ w.grownBy w' v.ownBlock ∧ (v'.ownBlock = v.ownBlock ∨ v'.ownBlock = some w.heap.size) := by
  have hflat := fun a c (e : v2 = .slice a ys.length c) => Sl.flat (e ▸ hr) hl hs hC
  obtain ⟨a, cap, rfl, h2, h3, h4⟩ := hr
  cases a with
  | none =>
    have h0 : ys.length = 0 := by
      rcases Nat.eq_zero_or_pos ys.length with h | h
      · exact h
      · obtain ⟨b, o, e, _⟩ := h4 h
        cases e
    obtain rfl : ys = [] := List.eq_nil_of_length_eq_zero h0
    refine ⟨v, w, run_append_none0 w base T ty E i0 sz hT hi v n cap _ hown, by simpa using hown, ⟨rfl, rfl, rfl, Nat.le_refl _, fun _ _ _ => rfl⟩, .inl rfl⟩
  | some ad =>
    obtain ⟨v', w', hrun, ho, hg, _, hat⟩ := run_append_own_at (P := P) (w := w) base T ty E i0 z sz by_ hT hi hz hsz hb hzs hs v n (xs.flatMap enc) hown ad ys.length cap (ys.flatMap enc) (flat_len sz enc hl ys) (hflat _ _ rfl ad rfl) (fun u hu => by
      obtain ⟨x, _, hx⟩ := List.mem_flatMap.1 hu
      exact h1 x u hx) (by unfold maxLen; omega) hB hbase
    exact ⟨v', w', hrun, by rw [List.flatMap_append]; exact ho, hg, hat⟩
end
/-- A node's cells. -/
def encNode (n : PNode) : List Value := [.int .i64 n.kind, .int .i64 n.val, .string n.name]
theorem encNode_len (n : PNode) : (encNode n).length = 3 := rfl
theorem encNode_one (n : PNode) : ∀ u ∈ encNode n, u.oneCell' = true := by
  intro u hu
  simp only [encNode, List.mem_cons, List.not_mem_nil, or_false] at hu
  rcases hu with rfl | rfl | rfl <;> rfl
theorem Sl.mem {α : Type} {K : Foot} {w : World} {sz : Nat} {C : World → List Value → α → Prop} {v : Value} {l : List α} (h : Sl K w sz C v l) : ∀ x ∈ l, ∃ cs, C w cs x := by
  obtain ⟨a, cap, e, h1, h2, h3⟩ := h
  intro x hx
  obtain ⟨i, hi, rfl⟩ := List.getElem_of_mem hx
  obtain ⟨b, o, _, _, he⟩ := h3 (by omega)
  obtain ⟨cs, _, hC, _⟩ := he i hi
  exact ⟨cs, hC⟩
end Go.Proofs.YtolbngbedncemaaGreatDoor
