/- Makers of a region that draws its order, none of which waits for another: each is walked once, what follows is shown once. No statement about the program. -/
import Derived.Test.YtjgfiplhaanflaaWLast
import Derived.Test.YtjgfiplhaanflaaBase
set_option linter.unusedVariables false
namespace Go.Proofs.Ytjgfiplhaanflaa
open Go Go.RowKit Go.Proofs.YtjgfiplhaanflaaW.PrintLast

abbrev Vals := Nat → Option Value
def upd (o : Vals) (i : Nat) (v : Value) : Vals := fun j => if j = i then some v else o j
theorem upd_same (o : Vals) (i : Nat) (v : Value) : upd o i v i = some v := if_pos rfl
theorem upd_ne (o : Vals) {i j : Nat} (h : j ≠ i) (v : Value) : upd o i v j = o j := if_neg h
def undone (ms : List Nat) (o : Vals) : List Nat := ms.filter fun i => (o i).isNone
theorem undone_mem {ms : List Nat} {o : Vals} {i : Nat} : i ∈ undone ms o ↔ i ∈ ms ∧ o i = none := by
  unfold undone
  rw [List.mem_filter, Option.isNone_iff_eq_none]
theorem undone_out {o : Vals} {i : Nat} {v : Value} : ∀ {ms : List Nat}, i ∉ ms → undone ms (upd o i v) = undone ms o
  | [], _ => rfl
  | x :: r, h => by
    have hx : x ≠ i := fun e => h (e ▸ List.mem_cons_self ..)
    have ih := undone_out (o := o) (v := v) (ms := r) (fun m => h (List.mem_cons_of_mem _ m))
    unfold undone at ih ⊢
    rw [List.filter_cons, List.filter_cons, upd_ne o hx, ih]
theorem undone_upd {o : Vals} {i : Nat} (ho : o i = none) (v : Value) : ∀ {ms : List Nat}, ms.Nodup → i ∈ ms → (undone ms (upd o i v)).length + 1 = (undone ms o).length
  | [], _, h => by cases h
  | x :: r, hn, h => by
    obtain ⟨hx, hr⟩ := List.nodup_cons.1 hn
    by_cases e : x = i
    · subst e
      have := undone_out (o := o) (v := v) hx
      unfold undone at this ⊢
      rw [List.filter_cons, List.filter_cons, upd_same, ho, this]
      simp
    · have hm : i ∈ r := by
        rcases List.mem_cons.1 h with h | h
        · exact absurd h.symm e
        · exact h
      have ih := undone_upd ho v hr hm
      unfold undone at ih ⊢
      rw [List.filter_cons, List.filter_cons, upd_ne o e]
      cases hx : (o x).isNone
      · simpa using ih
      · simpa using ih

section
variable {P : Program} {ops : Array Oper} {Q : Exit → Act → World → Prop} {md : Region.Mode} {S : World → Prop} {ds : List Nat}
/-- ms: the makers; ms0: those that must have come up before anything else may (the walk goes on by hfin as soon as these have). -/
theorem par_ (ms ms0 : List Nat) (A : Vals → Act) (L : Vals → Array Bool) (Inv : Vals → World → Prop) (fuel : Nat) (hms : ms.Nodup) (hsub : ∀ i ∈ ms0, i ∈ ms) (hds : ∀ i ∈ ms, i ∉ ds)
    (hready : ∀ o, undone ms0 o ≠ [] → Region.ready md ops (L o) = undone ms o) (hL : ∀ o i v, i ∈ ms → (L o).setIfInBounds i true = L (upd o i v))
    (hput : ∀ i ∈ ms, ∀ oi, ops[i]? = some oi → ∀ o v, (A o).put oi.dst v = A (upd o i v))
    (hstep : ∀ i ∈ ms, ∃ oi, ops[i]? = some oi ∧ ∀ o w, o i = none → Inv o w → S w → ∀ K : Act → World → Prop, (∀ v w', S w' → Inv (upd o i v) w' → K ((A o).put oi.dst v) w') →
      if Region.wanted oi (yielded ops (A o).tmps) = true then Oper.wp P oi (A o) w K Q else K ((A o).put oi.dst undef) w)
    (hfin : ∀ o w, (∀ i ∈ ms0, o i ≠ none) → Inv o w → S w → wpAnyLast P md ops Q S ds (fuel + (undone ms o).length) (L o) (A o) w) :
    ∀ (m : Nat) o w, (undone ms o).length = m → Inv o w → S w → wpAnyLast P md ops Q S ds (fuel + m) (L o) (A o) w := by
  intro m
  induction m with
  | zero =>
    intro o w hm hI hS
    have h0 : undone ms o = [] := List.eq_nil_of_length_eq_zero hm
    have := hfin o w (fun i hi hn => by have := undone_mem.2 ⟨hsub i hi, hn⟩; rw [h0] at this; cases this) hI hS
    rwa [hm] at this
  | succ m ih =>
    intro o w hm hI hS
    by_cases h0 : undone ms0 o = []
    · have := hfin o w (fun i hi hn => by have := undone_mem.2 ⟨hi, hn⟩; rw [h0] at this; cases this) hI hS
      rwa [hm] at this
    have hne : undone ms o ≠ [] := fun h => by rw [h] at hm; cases hm
    refine wpAnyLast_all (hready o h0) hne (fun i hi => ?_)
    obtain ⟨hi1, hi2⟩ := undone_mem.1 hi
    obtain ⟨oi, ho, h⟩ := hstep i hi1
    refine wpOp_step ho (fun K' hK => h o w hi2 hI hS K' (fun v w' hS' hI' => hK _ _ ⟨fun _ _ => hS', ?_⟩))
    rw [hL o i v hi1, hput i hi1 oi ho o v]
    exact ih _ _ (by have := undone_upd hi2 v hms hi1; omega) hI' hS'
end

/-! ### The invariant: what is made is good and lies apart -/
def blkOf : Value → Option Nat
  | .slice (some a) _ _ => some a.block
  | .pointer (some a) => some a.block
  | _ => none
structure MInv (Good : Nat → World → Value → Prop) (w0 : World) (o : Vals) (w : World) : Prop where
  ext : Ext w0 w
  good : ∀ i v, o i = some v → Good i w v
  lt : ∀ i v b, o i = some v → blkOf v = some b → w0.heap.size ≤ b ∧ b < w.heap.size
  ne : ∀ i j v v' b b', i ≠ j → o i = some v → o j = some v' → blkOf v = some b → blkOf v' = some b' → b ≠ b'
theorem MInv.start (Good : Nat → World → Value → Prop) (w0 : World) : MInv Good w0 (fun _ => none) w0 :=
  ⟨Ext.refl _, (fun _ _ h => by cases h), (fun _ _ _ h => by cases h), (fun _ _ _ _ _ _ _ h => by cases h)⟩
theorem MInv.step {Good : Nat → World → Value → Prop} {w0 w w' : World} {o : Vals} {i : Nat} {v : Value} (h : MInv Good w0 o w) (hE : Ext w w') (hmono : ∀ i v, Good i w v → Good i w' v)
    (hg : Good i w' v) (hb : ∀ b, blkOf v = some b → w.heap.size ≤ b ∧ b < w'.heap.size) : MInv Good w0 (upd o i v) w' := by
  have hs0 := h.ext.size
  have hs1 := hE.size
  refine ⟨h.ext.trans hE, fun j u hj => ?_, fun j u b hj hu => ?_, fun j k u u' b b' hjk hj hk hu hu' => ?_⟩
  · by_cases e : j = i
    · subst e
      rw [upd_same] at hj
      cases hj
      exact hg
    · rw [upd_ne o e] at hj
      exact hmono _ _ (h.good j u hj)
  · by_cases e : j = i
    · subst e
      rw [upd_same] at hj
      cases hj
      have := hb b hu
      omega
    · rw [upd_ne o e] at hj
      have := h.lt j u b hj hu
      omega
  · by_cases e : j = i
    · subst e
      rw [upd_same] at hj
      cases hj
      rw [upd_ne o (Ne.symm hjk)] at hk
      have := hb b hu
      have := h.lt k u' b' hk hu'
      omega
    · rw [upd_ne o e] at hj
      by_cases e2 : k = i
      · subst e2
        rw [upd_same] at hk
        cases hk
        have := hb b' hu'
        have := h.lt j u b hj hu
        omega
      · rw [upd_ne o e2] at hk
        exact h.ne j k u u' b b' hjk hj hk hu hu'
end Go.Proofs.Ytjgfiplhaanflaa
