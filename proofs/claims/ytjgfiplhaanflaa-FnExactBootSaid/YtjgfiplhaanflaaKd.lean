/- What the print's words say of a slice, said in this claim's words, and back; no statement about the program. -/
import Derived.Test.YtjgfiplhaanflaaBase
import Derived.Test.YtjgfiplhaanflaaWWords
set_option linter.unusedVariables false
set_option linter.unusedSimpArgs false
namespace Go.Proofs.Ytjgfiplhaanflaa
open Go Go.RowKit Go.Proofs.YtjgfiplhaanflaaW.PrintWords

theorem add_none (b o j : Nat) : (⟨b, o, none⟩ : Addr).add j = ⟨b, o + j, none⟩ := by unfold Addr.add; split <;> simp_all
/-- A slice of ours, as the print reads one. -/
theorem Sl.toC {α : Type} {K : Foot} {w : World} {sz : Nat} {C : World → List Value → α → Prop} {v : Value} {xs : List α} (h : Sl K w sz C v xs) (d : Kd α) (hsz : d.sz = sz) (hC : ∀ cs x, x ∈ xs → C w cs x → d.K w x cs) :
    ∃ A c, v = .slice A xs.length c ∧ xs.length ≤ c ∧ d.C w A xs.length xs := by
  obtain ⟨a, cap, e, h1, h2, h3⟩ := h
  refine ⟨a, cap, e, h1, rfl, by unfold maxLen at h2; omega, fun hp => ?_⟩
  obtain ⟨b, o, e1, _, e3⟩ := h3 hp
  refine ⟨⟨b, o, none⟩, e1, fun j p hj => ?_⟩
  obtain ⟨hl, e⟩ := List.getElem?_eq_some_iff.1 hj
  obtain ⟨cs, c1, c2, c3⟩ := e3 j hl
  rw [e] at c2
  refine ⟨cs, by rw [hsz]; exact c1, hC _ _ (List.mem_of_getElem? hj) c2, fun i u hu => ?_⟩
  rw [add_none, hsz, ← Nat.add_assoc]
  exact c3 i u hu
/-- A whole number's slice. -/
theorem cells_of_add {w : World} {ad : Addr} {sz j : Nat} {cs : List Value} (hs : ad.spot = none) (h : ∀ i u, cs[i]? = some u → w.cell? (ad.add (j * sz + i)) = some u) : Cells w ad.block (ad.off + j * sz) cs := by
  intro i v hv
  have := h i v hv
  obtain ⟨b, o, s⟩ := ad
  simp only at hs
  subst hs
  rw [add_none] at this
  rw [Nat.add_assoc]
  exact this
/-- A row of the call's own, as a slice of ours. -/
theorem Kd.R_sl {α : Type} {d : Kd α} {e : Nat} {w : World} {base : Nat} {ok : Nat → Prop} {v : Value} {xs : List α} {K : Foot} {C : World → List Value → α → Prop} (h : d.R e w base ok v xs)
    (hC : ∀ cs x, x ∈ xs → d.M w base (fun k => ok k ∧ some k ≠ v.ownBlock) x cs → C w cs x) (hK : ∀ k, v.ownBlock = some k → K k) : Sl K w d.sz C v xs := by
  obtain ⟨h0, inner, ho, hr⟩ := h
  rcases ho.2 with ⟨rfl, h1⟩ | ⟨g, cap, cur, rfl, hg, hh, h1, h2, h3⟩
  · refine ⟨none, 0, by rw [h1], by omega, by unfold maxLen; omega, fun hp => ?_⟩
    rw [h1] at hp
    exact absurd hp (by omega)
  · refine ⟨some ⟨g, 0, none⟩, cap, rfl, h1, h2, fun hp => ⟨g, 0, rfl, hK g (by simp [Value.ownBlock]), fun i hi => ?_⟩⟩
    have hj := hr.2 i _ (List.getElem?_eq_getElem hi)
    have hM := hC _ _ (List.getElem_mem hi) hj
    have hlen := d.K_len (d.K_of_M hj)
    refine ⟨_, hlen, hM, fun q u hu => ?_⟩
    rw [List.getElem?_take] at hu
    split at hu
    · rw [List.getElem?_drop] at hu
      have := ho.cells (g := g) rfl (i * d.sz + q) u hu
      rw [add_none] at this
      rw [Nat.add_assoc]
      exact this
    · cases hu
end Go.Proofs.Ytjgfiplhaanflaa
