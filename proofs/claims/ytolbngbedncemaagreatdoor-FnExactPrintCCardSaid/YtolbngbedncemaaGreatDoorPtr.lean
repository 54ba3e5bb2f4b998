/- How the program's trees of pointers lie in memory: expressions, statements, functions, units; no statement about the program. -/
import Derived.Test.YtolbngbedncemaaGreatDoorRep
set_option linter.unusedVariables false
set_option linter.unusedSimpArgs false
namespace Go.Proofs.YtolbngbedncemaaGreatDoor
open Go Go.RowKit Md

def CVal (w : World) (cs : List Value) (v : Value) : Prop := cs = [v]
theorem CVal.any {w w' : World} {cs : List Value} {v : Value} (h : CVal w cs v) : CVal w' cs v := by unfold CVal at *; exact h
/-- A slice of pointers, as values. -/
abbrev SlV (K : Foot) (w : World) (v : Value) (vs : List Value) : Prop := Sl K w 1 CVal v vs
theorem SlV.ext {K : Foot} {w w' : World} {v : Value} {vs : List Value} (h : SlV K w v vs) (k : Ext w w') : SlV K w' v vs := Sl.ext h k (fun _ _ h => h.any)
/-- Each value stands for its tree. -/
def All2 {α : Type} (R : Value → α → Prop) (vs : List Value) (xs : List α) : Prop := vs.length = xs.length ∧ ∀ (i : Nat) v x, vs[i]? = some v → xs[i]? = some x → R v x
theorem All2.nil {α : Type} (R : Value → α → Prop) : All2 R [] [] := ⟨rfl, fun i v x h => by simp at h⟩
theorem All2.mono {α : Type} {R R' : Value → α → Prop} {vs : List Value} {xs : List α} (h : All2 R vs xs) (hR : ∀ v x, x ∈ xs → R v x → R' v x) : All2 R' vs xs :=
  ⟨h.1, fun i v x h1 h2 => hR v x (List.mem_of_getElem? h2) (h.2 i v x h1 h2)⟩
theorem All2.take {α : Type} {R : Value → α → Prop} {vs : List Value} {xs : List α} (h : All2 R vs xs) (n : Nat) : All2 R (vs.take n) (xs.take n) := by
  refine ⟨by rw [List.length_take, List.length_take, h.1], fun i v x h1 h2 => ?_⟩
  rw [List.getElem?_take] at h1 h2
  split at h1
  · rename_i hi
    rw [if_pos hi] at h2
    exact h.2 i v x h1 h2
  · cases h1
theorem All2.drop {α : Type} {R : Value → α → Prop} {vs : List Value} {xs : List α} (h : All2 R vs xs) (n : Nat) : All2 R (vs.drop n) (xs.drop n) := by
  refine ⟨by rw [List.length_drop, List.length_drop, h.1], fun i v x h1 h2 => ?_⟩
  rw [List.getElem?_drop] at h1 h2
  exact h.2 _ v x h1 h2
theorem All2.snoc {α : Type} {R : Value → α → Prop} {vs : List Value} {xs : List α} {v : Value} {x : α} (h : All2 R vs xs) (hx : R v x) : All2 R (vs ++ [v]) (xs ++ [x]) := by
  refine ⟨by simp [h.1], fun i u y h1 h2 => ?_⟩
  have hl := h.1
  by_cases hi : i < vs.length
  · rw [List.getElem?_append_left hi] at h1
    rw [List.getElem?_append_left (by omega)] at h2
    exact h.2 i u y h1 h2
  · rw [List.getElem?_append_right (by omega)] at h1
    rw [List.getElem?_append_right (by omega)] at h2
    have e1 : i - vs.length = 0 := by
      have := (List.getElem?_eq_some_iff.1 h1).1
      simp at this; omega
    have e2 : i - xs.length = 0 := by omega
    rw [e1] at h1
    rw [e2] at h2
    simp at h1 h2
    subst h1
    subst h2
    exact hx
theorem All2.get {α : Type} {R : Value → α → Prop} {vs : List Value} {xs : List α} (h : All2 R vs xs) {i : Nat} {x : α} (hx : xs[i]? = some x) : ∃ v, vs[i]? = some v ∧ R v x := by
  have hi := (List.getElem?_eq_some_iff.1 hx).1
  have hl := h.1
  exact ⟨vs[i], List.getElem?_eq_getElem (by omega), h.2 i _ x (List.getElem?_eq_getElem (by omega)) hx⟩

/-- A pointer to an expression: its node, its operands behind a slice of pointers; all of it lies in blocks of K. -/
inductive ExAt (K : Foot) (w : World) : Value → Ex → Prop where
  | mk (b : Nat) (n : PNode) (va : Value) (vs : List Value) (xs : List Ex) (hK : K b) (hc : Cells w b 0 [.int .i64 n.kind, .int .i64 n.val, .string n.name, va]) (hk : I64 n.kind) (hv : I64 n.val) (hn : n.name.size ≤ maxLen)
      (hs : SlV K w va vs) (hl : vs.length = xs.length) (hx : ∀ (i : Nat) v x, vs[i]? = some v → xs[i]? = some x → ExAt K w v x) : ExAt K w (.pointer (some ⟨b, 0, none⟩)) (.mk n xs)
theorem SlV.keep {K K' : Foot} {w w' : World} {v : Value} {vs : List Value} (h : SlV K w v vs) (k : Keep K w w') (hK : ∀ b, K b → K' b) : SlV K' w' v vs := Sl.keep h k (fun _ _ _ h => h.any) hK
theorem ExAt.keep {K K' : Foot} {w w' : World} {v : Value} {x : Ex} (h : ExAt K w v x) (k : Keep K w w') (hK : ∀ b, K b → K' b) : ExAt K' w' v x := by
  induction h with
  | mk b n va vs xs hb hc hk hv hn hs hl hx ih => exact .mk b n va vs xs (hK b hb) (hc.keep k hb) hk hv hn (hs.keep k hK) hl ih
theorem ExAt.ext {K : Foot} {w w' : World} {v : Value} {x : Ex} (h : ExAt K w v x) (k : Ext w w') : ExAt K w' v x := h.keep (k.keep K) (fun _ h => h)
theorem ExAt.mono {K K' : Foot} {w : World} {v : Value} {x : Ex} (h : ExAt K w v x) (hK : ∀ b, K b → K' b) : ExAt K' w v x := h.keep (Keep.refl K w) hK
theorem ExAt.op {K : Foot} {w : World} {v : Value} {x : Ex} (h : ExAt K w v x) : ∃ b va vs, v = .pointer (some ⟨b, 0, none⟩) ∧ Cells w b 0 [.int .i64 x.node.kind, .int .i64 x.node.val, .string x.node.name, va] ∧ I64 x.node.kind ∧ I64 x.node.val ∧ x.node.name.size ≤ maxLen ∧
    SlV K w va vs ∧ All2 (ExAt K w) vs x.args := by
  cases h with
  | mk b n va vs xs hb hc hk hv hn hs hl hx => exact ⟨b, va, vs, rfl, hc, hk, hv, hn, hs, hl, hx⟩
theorem All2.exKeep {K K' : Foot} {w w' : World} {vs : List Value} {xs : List Ex} (h : All2 (ExAt K w) vs xs) (k : Keep K w w') (hK : ∀ b, K b → K' b) : All2 (ExAt K' w') vs xs := h.mono fun _ _ _ h => h.keep k hK
theorem All2.exExt {K : Foot} {w w' : World} {vs : List Value} {xs : List Ex} (h : All2 (ExAt K w) vs xs) (k : Ext w w') : All2 (ExAt K w') vs xs := h.mono fun _ _ _ h => h.ext k
/-- Perhaps a pointer to an expression. -/
def ExOpt (K : Foot) (w : World) (v : Value) : Option Ex → Prop
  | some x => ExAt K w v x
  | none => v = .pointer none
theorem ExOpt.keep {K K' : Foot} {w w' : World} {v : Value} {x : Option Ex} (h : ExOpt K w v x) (k : Keep K w w') (hK : ∀ b, K b → K' b) : ExOpt K' w' v x := by
  cases x with
  | none => exact h
  | some x => exact ExAt.keep h k hK
theorem ExOpt.ext {K : Foot} {w w' : World} {v : Value} {x : Option Ex} (h : ExOpt K w v x) (k : Ext w w') : ExOpt K w' v x := h.keep (k.keep K) (fun _ h => h)

/-- A pointer to a statement. -/
inductive StAt (K : Foot) (w : World) : Value → St → Prop where
  | mk (b : Nat) (s : PStmt) (p : Nat) (x : Ex) (y : Option Ex) (vE vF ve vf vt vu : Value) (ts us : List Value) (thn els : List St) (hK : K b)
      (hc : Cells w b 0 [.int .i64 s.kind, .string s.name, vE, vF, .int .i64 s.thn, .int .i64 s.els, .int .i64 p, ve, vf, vt, vu]) (hE : SlNode K w vE s.e) (hF : SlNode K w vF s.f)
      (h1 : I64 s.kind) (h2 : I64 s.thn) (h3 : I64 s.els) (h4 : s.name.size ≤ maxLen) (he : ExAt K w ve x) (hf : ExOpt K w vf y) (ht : SlV K w vt ts) (hu : SlV K w vu us) (lt : ts.length = thn.length) (lu : us.length = els.length)
      (ht2 : ∀ (i : Nat) v z, ts[i]? = some v → thn[i]? = some z → StAt K w v z) (hu2 : ∀ (i : Nat) v z, us[i]? = some v → els[i]? = some z → StAt K w v z) : StAt K w (.pointer (some ⟨b, 0, none⟩)) (.mk s p x y thn els)
theorem StAt.keep {K K' : Foot} {w w' : World} {v : Value} {x : St} (h : StAt K w v x) (k : Keep K w w') (hK : ∀ b, K b → K' b) : StAt K' w' v x := by
  induction h with
  | mk b s p x y vE vF ve vf vt vu ts us thn els hb hc hE hF h1 h2 h3 h4 he hf ht hu lt lu _ _ ih1 ih2 =>
    exact .mk b s p x y vE vF ve vf vt vu ts us thn els (hK b hb) (hc.keep k hb) (Sl.keep hE k (fun _ _ _ h => h.any) hK) (Sl.keep hF k (fun _ _ _ h => h.any) hK) h1 h2 h3 h4 (he.keep k hK) (hf.keep k hK) (ht.keep k hK) (hu.keep k hK) lt lu ih1 ih2
theorem StAt.ext {K : Foot} {w w' : World} {v : Value} {x : St} (h : StAt K w v x) (k : Ext w w') : StAt K w' v x := h.keep (k.keep K) (fun _ h => h)
theorem StAt.op {K : Foot} {w : World} {v : Value} {x : St} (h : StAt K w v x) : ∃ b vE vF ve vf vt vu ts us, v = .pointer (some ⟨b, 0, none⟩) ∧
    Cells w b 0 [.int .i64 x.s.kind, .string x.s.name, vE, vF, .int .i64 x.s.thn, .int .i64 x.s.els, .int .i64 (x.at_ : Nat), ve, vf, vt, vu] ∧ SlNode K w vE x.s.e ∧ SlNode K w vF x.s.f ∧
    I64 x.s.kind ∧ I64 x.s.thn ∧ I64 x.s.els ∧ x.s.name.size ≤ maxLen ∧ ExAt K w ve x.e ∧ ExOpt K w vf x.f ∧ SlV K w vt ts ∧ SlV K w vu us ∧ All2 (StAt K w) ts x.thn ∧ All2 (StAt K w) us x.els := by
  cases h with
  | mk b s p x y vE vF ve vf vt vu ts us thn els hb hc hE hF h1 h2 h3 h4 he hf ht hu lt lu ht2 hu2 =>
    exact ⟨b, vE, vF, ve, vf, vt, vu, ts, us, rfl, hc, hE, hF, h1, h2, h3, h4, he, hf, ht, hu, ⟨lt, ht2⟩, ⟨lu, hu2⟩⟩
theorem All2.stKeep {K K' : Foot} {w w' : World} {vs : List Value} {xs : List St} (h : All2 (StAt K w) vs xs) (k : Keep K w w') (hK : ∀ b, K b → K' b) : All2 (StAt K' w') vs xs := h.mono fun _ _ _ h => h.keep k hK
theorem All2.stExt {K : Foot} {w w' : World} {vs : List Value} {xs : List St} (h : All2 (StAt K w) vs xs) (k : Ext w w') : All2 (StAt K w') vs xs := h.mono fun _ _ _ h => h.ext k

/-! ### A row of the call's own, as a slice of values -/
theorem sl_of_own {w : World} {base : Nat} {e : TypeId} {v : Value} {n : Nat} {vs : List Value} {K : Foot} (h : w.ownsRow base e 1 v n vs) (hK : ∀ g, base ≤ g → K g) : SlV K w v vs := by
  have hl : vs.length = n := by have := h.1; simpa using this
  rcases h.2 with ⟨rfl, h1⟩ | ⟨g, cap, cur, rfl, hg, hh, h1, h2, h3, h4⟩
  · obtain rfl : vs = [] := List.eq_nil_of_length_eq_zero (by omega)
    exact Sl.nil _ _ _ _
  · refine ⟨some ⟨g, 0, none⟩, cap, by rw [hl], by omega, h2, fun hp => ⟨g, 0, rfl, hK g hg, fun i hi => ⟨[vs[i]], rfl, rfl, fun q u hu => ?_⟩⟩⟩
    have hq : q = 0 := by
      have := (List.getElem?_eq_some_iff.1 hu).1
      simp at this; omega
    subst hq
    simp at hu
    subst hu
    have := h.cells (g := g) rfl i _ (List.getElem?_eq_getElem hi)
    have e : ((⟨g, 0, none⟩ : Addr).add i) = ⟨g, 0 + i * 1 + 0, none⟩ := by
      unfold Addr.add
      split
      · simp
      · simp
    rw [e] at this
    exact this
theorem ext_of_grown {w w' : World} (h : w.grownBy w' none) : Ext w w' := ⟨h.os, h.tape, h.output, h.size, fun k hk => h.block k hk (by simp)⟩
/-- The cells of a slice of values, as one row. -/
theorem SlV.cells {K : Foot} {w : World} {a : Option Addr} {n c : Nat} {vs : List Value} (h : SlV K w (.slice a n c) vs) : ∀ ad, a = some ad → ∀ j u, vs[j]? = some u → w.cell? (ad.add j) = some u := by
  intro ad ha j u hu
  obtain ⟨a', cap, e, h1, h2, h3⟩ := h
  simp only [Value.slice.injEq] at e
  obtain ⟨rfl, rfl, rfl⟩ := e
  have hj := (List.getElem?_eq_some_iff.1 hu).1
  obtain ⟨b, o, e1, _, e3⟩ := h3 (by omega)
  rw [ha] at e1
  cases e1
  obtain ⟨cs, c1, c2, c3⟩ := e3 j hj
  have hcs : cs = [vs[j]] := c2
  subst hcs
  have := c3 0 _ rfl
  have e : ((⟨b, o, none⟩ : Addr).add j) = ⟨b, o + j * 1 + 0, none⟩ := by
    unfold Addr.add
    split
    · simp
    · simp
  rw [e, this]
  rw [← hu, List.getElem?_eq_getElem hj]
theorem SlV.at_ {K : Foot} {w : World} {a : Option Addr} {n c : Nat} {vs : List Value} (h : SlV K w (.slice a n c) vs) (hp : 0 < n) : ∃ b o, a = some ⟨b, o, none⟩ ∧ K b ∧ ∀ (i : Nat) v, vs[i]? = some v → w.cell? ⟨b, o + i, none⟩ = some v := by
  have hc := SlV.cells h
  obtain ⟨a', cap, e, h1, h2, h3⟩ := h
  simp only [Value.slice.injEq] at e
  obtain ⟨rfl, rfl, rfl⟩ := e
  obtain ⟨b, o, e1, hK, _⟩ := h3 hp
  refine ⟨b, o, e1, hK, fun i v hv => ?_⟩
  have := hc _ e1 i v hv
  have e : ((⟨b, o, none⟩ : Addr).add i) = ⟨b, o + i, none⟩ := by
    unfold Addr.add
    split
    · simp_all
    · simp
  rw [e] at this
  exact this
theorem SlV.len {K : Foot} {w : World} {a : Option Addr} {n c : Nat} {vs : List Value} (h : SlV K w (.slice a n c) vs) : vs.length = n ∧ n ≤ c ∧ c ≤ 9223372036854775807 := by
  obtain ⟨a', cap, e, h1, h2, h3⟩ := h
  simp only [Value.slice.injEq] at e
  obtain ⟨rfl, rfl, rfl⟩ := e
  unfold maxLen at h2
  exact ⟨rfl, h1, by omega⟩
end Go.Proofs.YtolbngbedncemaaGreatDoor
