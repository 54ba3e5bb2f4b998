/- How a unit lies in memory; no statement about the program. -/
import Derived.Test.YtolbngbedncemaaGreatDoorBlocksA
set_option linter.unusedVariables false
set_option linter.unusedSimpArgs false
namespace Go.Proofs.YtolbngbedncemaaGreatDoor
open Go Go.RowKit Md

theorem own_ne_blk {w : World} {base e sz n U t : Nat} {v : Value} {xs : List Value} {arr : Array Value} (h : w.ownsRow base e sz v n xs) (hb : Blk w U t arr) (ht : e ≠ t) : some U ≠ v.ownBlock := by
  rcases h.2 with ⟨rfl, _⟩ | ⟨g, cap, cur, rfl, hg, hh, _⟩
  · simp [Value.ownBlock]
  · simp only [Value.ownBlock]
    intro e2
    cases e2
    unfold Blk at hb
    rw [hh] at hb
    simp only [Option.some.injEq, Obj.cells.injEq] at hb
    exact ht hb.2.1
theorem own_set {w : World} {base e sz n B j : Nat} {v u : Value} {xs : List Value} (h : w.ownsRow base e sz v n xs) (hne : some B ≠ v.ownBlock) : (w.setCell ⟨B, j, none⟩ u).ownsRow base e sz v n xs := by
  obtain ⟨h1, h2⟩ := h
  refine ⟨h1, ?_⟩
  rcases h2 with h2 | ⟨g, cap, cur, rfl, hg, hh, r⟩
  · exact .inl h2
  · refine .inr ⟨g, cap, cur, rfl, hg, ?_, r⟩
    rw [Below.heap_setCell _ _ _ _ (by intro e; apply hne; simp [Value.ownBlock, e])]
    exact hh
theorem blk_grownBy {w w' : World} {g t : Nat} {arr : Array Value} {row : Option Nat} (h : Blk w g t arr) (hg : w.grownBy w' row) (hne : some g ≠ row) : Blk w' g t arr := by
  have hl := h.lt
  unfold Blk at *
  rw [hg.block g hl hne]; exact h
abbrev Fn := PFunc × List St
def FnAt (K : Foot) (w : World) (v : Value) (x : Fn) : Prop :=
  ∃ b vP vB vt ts, v = .pointer (some ⟨b, 0, none⟩) ∧ K b ∧ Cells w b 0 [.string x.1.name, vP, vB, vt] ∧ SlStr K w vP x.1.params ∧ SlStmt K w vB x.1.body ∧ x.1.name.size ≤ maxLen ∧ SlV K w vt ts ∧ All2 (StAt K w) ts x.2
theorem FnAt.keep {K K' : Foot} {w w' : World} {v : Value} {x : Fn} (h : FnAt K w v x) (k : Keep K w w') (hK : ∀ b, K b → K' b) : FnAt K' w' v x := by
  obtain ⟨b, vP, vB, vt, ts, e, hb, hc, h1, h2, h3, h4, h5⟩ := h
  exact ⟨b, vP, vB, vt, ts, e, hK b hb, hc.keep k hb, Sl.keep h1 k (fun _ _ _ h => h.any) hK, Sl.keep h2 k (fun _ _ _ h => h.keep k hK) hK, h3, h4.keep k hK, h5.stKeep k hK⟩
theorem FnAt.ext {K : Foot} {w w' : World} {v : Value} {x : Fn} (h : FnAt K w v x) (k : Ext w w') : FnAt K w' v x := h.keep (k.keep K) (fun _ h => h)
theorem FnAt.mono {K K' : Foot} {w : World} {v : Value} {x : Fn} (h : FnAt K w v x) (hK : ∀ b, K b → K' b) : FnAt K' w v x := h.keep (Keep.refl K w) hK
theorem CStmt.bound {K : Foot} {w : World} {cs : List Value} {s : PStmt} (h : CStmt K w cs s) : CStmt (fun b => K b ∧ b < w.heap.size) w cs s := by
  obtain ⟨vE, vF, e, h1, h2, h3⟩ := h
  exact ⟨vE, vF, e, Sl.bound h1 (by decide), Sl.bound h2 (by decide), h3⟩
theorem SlStmt.bound {K : Foot} {w : World} {v : Value} {l : List PStmt} (h : SlStmt K w v l) : SlStmt (fun b => K b ∧ b < w.heap.size) w v l := by
  exact Sl.keep (Sl.bound h (by decide)) (Keep.refl _ w) (fun _ _ _ h => h.bound) (fun _ h => h)
theorem FnAt.bound {K : Foot} {w : World} {v : Value} {x : Fn} (h : FnAt K w v x) : FnAt (fun b => K b ∧ b < w.heap.size) w v x := by
  obtain ⟨b, vP, vB, vt, ts, e, hb, hc, h1, h2, h3, h4, h5⟩ := h
  exact ⟨b, vP, vB, vt, ts, e, ⟨hb, World.block_lt_of_cell? w _ (hc 0 _ rfl)⟩, hc, Sl.bound h1 (by decide), h2.bound, h3, Sl.bound h4 (by decide), h5.stBound⟩
theorem FnAt.one {K : Foot} {w : World} {v : Value} {x : Fn} (h : FnAt K w v x) : v.oneCell' = true := by
  obtain ⟨b, vP, vB, vt, ts, rfl, _⟩ := h
  rfl
def UnitAt (K : Foot) (w : World) (v : Value) (t : PTree) (fs : List Fn) : Prop :=
  ∃ b vG vF vs ps, v = .pointer (some ⟨b, 0, none⟩) ∧ K b ∧ Cells w b 0 [vG, vF, vs] ∧ SlGlob K w vG t.globals ∧ SlFunc K w vF t.funcs ∧ SlV K w vs ps ∧ All2 (FnAt K w) ps fs
theorem UnitAt.keep {K K' : Foot} {w w' : World} {v : Value} {t : PTree} {fs : List Fn} (h : UnitAt K w v t fs) (k : Keep K w w') (hK : ∀ b, K b → K' b) : UnitAt K' w' v t fs := by
  obtain ⟨b, vG, vF, vs, ps, e, hb, hc, h1, h2, h3, h4⟩ := h
  exact ⟨b, vG, vF, vs, ps, e, hK b hb, hc.keep k hb, Sl.keep h1 k (fun _ _ _ h => h.any) hK, Sl.keep h2 k (fun _ _ _ h => h.keep k hK) hK, h3.keep k hK, h4.mono fun _ _ _ h => h.keep k hK⟩
theorem UnitAt.ext {K : Foot} {w w' : World} {v : Value} {t : PTree} {fs : List Fn} (h : UnitAt K w v t fs) (k : Ext w w') : UnitAt K w' v t fs := h.keep (k.keep K) (fun _ h => h)
/-- The functions with the model's blocks. -/
def Bodies (l : List PFunc) (fs : List Fn) : Prop := fs.map Prod.fst = l ∧ ∀ p ∈ fs, Md.blocks p.1.body 0 = some p.2
theorem Bodies.snoc {l : List PFunc} {fs : List Fn} {k : Nat} {x : PFunc} {b : List St} (h : Bodies (l.take k) fs) (hx : l[k]? = some x) (hb : Md.blocks x.body 0 = some b) : Bodies (l.take (k + 1)) (fs ++ [(x, b)]) := by
  have hi := (List.getElem?_eq_some_iff.1 hx)
  refine ⟨by rw [List.map_append, h.1, List.take_succ_eq_append_getElem hi.1, hi.2]; rfl, fun p hp => ?_⟩
  rcases List.mem_append.1 hp with hp | hp
  · exact h.2 p hp
  · rw [List.mem_singleton.1 hp]; exact hb
/-- The functions of a unit, apart from its own block and from the row that is written. -/
def ApartU (K : Foot) (w : World) (U : Nat) (s : Value) : Foot := fun c => (K c ∨ w.heap.size ≤ c) ∧ c ≠ U ∧ some c ≠ s.ownBlock
def UnitPost (K : Foot) (t : PTree) (w : World) (e : Ending) (w' : World) : Prop :=
  (valid t = true ∧ ∃ fs v, Bodies t.funcs fs ∧ e = .returned v ∧ UnitAt (KN K w) w' v t fs ∧ Ext w w') ∨ (valid t = false ∧ e = .returned (.pointer none) ∧ Ext w w')
theorem fn_next {K : Foot} {w wr wA w' : World} {U : Nat} {v v' : Value} {vs : List Value} {fs : List Fn} (hA : All2 (FnAt (ApartU K w U v) wr) vs fs) (hE : Keep (fun c => c ≠ U) wr wA) (hs : wr.heap.size ≤ wA.heap.size) (hg : wA.grownBy w' v.ownBlock)
    (hat : v'.ownBlock = v.ownBlock ∨ v'.ownBlock = some wA.heap.size) : All2 (FnAt (ApartU K w U v') w') vs fs := by
  have h1 : All2 (FnAt (fun c => ApartU K w U v c ∧ c < wr.heap.size) wA) vs fs := hA.mono fun _ _ _ h => h.bound.keep (hE.mono (fun c hc => hc.1.2.1)) (fun _ h => h)
  refine h1.mono fun _ _ _ h => h.keep (keep_of_grown hg (fun b hb _ => hb.1.2.2)) (fun b hb => ⟨hb.1.1, hb.1.2.1, ?_⟩)
  rcases hat with h | h
  · rw [h]; exact hb.1.2.2
  · rw [h]
    intro e
    cases e
    exact absurd hb.2 (Nat.not_lt.2 hs)
theorem fn_new {K : Foot} {w wr w10 wA w' : World} {U : Nat} {v v' p : Value} {x : Fn} (hK : ∀ b, K b → b < w.heap.size) (hS : FnAt (fun c => K c ∨ wr.heap.size ≤ c) w10 p x) (hE : Ext w10 wA) (hr : wr.heap.size ≤ w10.heap.size) (hw : w.heap.size ≤ wr.heap.size)
    (hU : w.heap.size ≤ U ∧ U < wr.heap.size) (hv : ∀ k, v.ownBlock = some k → w.heap.size ≤ k ∧ k < wr.heap.size) (hg : wA.grownBy w' v.ownBlock) (hat : v'.ownBlock = v.ownBlock ∨ v'.ownBlock = some wA.heap.size) : FnAt (ApartU K w U v') w' p x := by
  have ne : ∀ c, (K c ∨ wr.heap.size ≤ c) → some c ≠ v.ownBlock := fun c hc e => by
    obtain ⟨h1, h2⟩ := hv c e.symm
    rcases hc with hc | hc
    · have := hK c hc; omega
    · omega
  refine (hS.bound.ext hE).keep (keep_of_grown hg (fun b hb _ => ne b hb.1)) (fun b hb => ⟨?_, ?_, ?_⟩)
  · rcases hb.1 with h | h
    · exact .inl h
    · exact .inr (Nat.le_trans hw h)
  · rcases hb.1 with h | h
    · have := hK b h; omega
    · omega
  · rcases hat with h | h
    · rw [h]; exact ne b hb.1
    · rw [h]
      intro e
      cases e
      exact absurd hb.2 (Nat.not_lt.2 hE.size)
end Go.Proofs.YtolbngbedncemaaGreatDoor
