/- Words for the walk of impl.blocks: footprints of what one round makes; no statement about the program. -/
import Derived.Test.YtolbngbedncemaaGreatDoorGrow
set_option linter.unusedVariables false
set_option linter.unusedSimpArgs false
namespace Go.Proofs.YtolbngbedncemaaGreatDoor
open Go Go.RowKit Md

theorem Sl.bound {α : Type} {K : Foot} {w : World} {sz : Nat} {C : World → List Value → α → Prop} {v : Value} {xs : List α} (h : Sl K w sz C v xs) (hs : 0 < sz) : Sl (fun b => K b ∧ b < w.heap.size) w sz C v xs := by
  obtain ⟨a, cap, e, h1, h2, h3⟩ := h
  refine ⟨a, cap, e, h1, h2, fun hp => ?_⟩
  obtain ⟨b, o, e1, e2, e3⟩ := h3 hp
  obtain ⟨cs, c1, c2, c3⟩ := e3 0 hp
  have hl := World.block_lt_of_cell? w _ (c3 0 _ (List.getElem?_eq_getElem (by omega)))
  exact ⟨b, o, e1, ⟨e2, hl⟩, e3⟩
theorem ExAt.bound {K : Foot} {w : World} {v : Value} {x : Ex} (h : ExAt K w v x) : ExAt (fun b => K b ∧ b < w.heap.size) w v x := by
  induction h with
  | mk b n va vs xs hb hc hk hv hn hs hl hx ih => exact .mk b n va vs xs ⟨hb, World.block_lt_of_cell? w _ (hc 0 _ rfl)⟩ hc hk hv hn (Sl.bound hs (by decide)) hl ih
theorem ExOpt.bound {K : Foot} {w : World} {v : Value} {x : Option Ex} (h : ExOpt K w v x) : ExOpt (fun b => K b ∧ b < w.heap.size) w v x := by
  cases x with
  | none => exact h
  | some x => exact ExAt.bound h
theorem StAt.bound {K : Foot} {w : World} {v : Value} {x : St} (h : StAt K w v x) : StAt (fun b => K b ∧ b < w.heap.size) w v x := by
  induction h with
  | mk b s p x y vE vF ve vf vt vu ts us thn els hb hc hE hF h1 h2 h3 h4 he hf ht hu lt lu _ _ ih1 ih2 =>
    exact .mk b s p x y vE vF ve vf vt vu ts us thn els ⟨hb, World.block_lt_of_cell? w _ (hc 0 _ rfl)⟩ hc (Sl.bound hE (by decide)) (Sl.bound hF (by decide)) h1 h2 h3 h4 he.bound hf.bound (Sl.bound ht (by decide)) (Sl.bound hu (by decide)) lt lu ih1 ih2
theorem ExOpt.mono {K K' : Foot} {w : World} {v : Value} {x : Option Ex} (h : ExOpt K w v x) (hK : ∀ b, K b → K' b) : ExOpt K' w v x := h.keep (Keep.refl K w) hK
theorem ExOpt.ptr {K : Foot} {w : World} {v : Value} {x : Option Ex} (h : ExOpt K w v x) : ∃ p, v = .pointer p := by
  cases x with
  | none => exact ⟨none, h⟩
  | some x => obtain ⟨b, va, vs, rfl, _⟩ := ExAt.op h; exact ⟨_, rfl⟩
theorem StAt.mono {K K' : Foot} {w : World} {v : Value} {x : St} (h : StAt K w v x) (hK : ∀ b, K b → K' b) : StAt K' w v x := h.keep (Keep.refl K w) hK
theorem StAt.one {K : Foot} {w : World} {v : Value} {x : St} (h : StAt K w v x) : v.oneCell' = true := by
  cases h
  rfl
theorem All2.stBound {K : Foot} {w : World} {vs : List Value} {xs : List St} (h : All2 (StAt K w) vs xs) : All2 (StAt (fun b => K b ∧ b < w.heap.size) w) vs xs := h.mono fun _ _ _ h => h.bound
theorem own_moved {w w1 : World} {base : Nat} {e : TypeId} {size n : Nat} {v : Value} {xs : List Value} (h : w.ownsRow base e size v n xs) (k : Ext w w1) : w1.ownsRow base e size v n xs := by
  obtain ⟨h1, h2⟩ := h
  refine ⟨h1, ?_⟩
  rcases h2 with h2 | ⟨g, cap, cur, rfl, hg, hh, r⟩
  · exact .inl h2
  · exact .inr ⟨g, cap, cur, rfl, hg, (k.block g (Array.getElem?_eq_some_iff.1 hh).1).trans hh, r⟩
theorem own_block {w : World} {base : Nat} {e : TypeId} {size n : Nat} {v : Value} {xs : List Value} (h : w.ownsRow base e size v n xs) : ∀ k, v.ownBlock = some k → base ≤ k ∧ k < w.heap.size := by
  rcases h.2 with ⟨rfl, _⟩ | ⟨g, cap, cur, rfl, hg, hh, _⟩
  · intro k hk; simp [Value.ownBlock] at hk
  · intro k hk
    have : g = k := by simpa [Value.ownBlock] using hk
    subst this
    exact ⟨hg, (Array.getElem?_eq_some_iff.1 hh).1⟩
theorem own_shape {w : World} {base : Nat} {e : TypeId} {size n : Nat} {v : Value} {xs : List Value} (h : w.ownsRow base e size v n xs) : ∃ a c, v = .slice a n c := by
  rcases h.2 with ⟨rfl, rfl⟩ | ⟨g, cap, cur, rfl, _⟩
  · exact ⟨none, 0, rfl⟩
  · exact ⟨_, cap, rfl⟩
theorem keep_of_grown {K : Foot} {w w' : World} {row : Option Nat} (h : w.grownBy w' row) (hK : ∀ b, K b → b < w.heap.size → some b ≠ row) : Keep K w w' := fun b hb hl => h.block b hl (hK b hb hl)
/-- A store into a block that w did not have. -/
theorem Ext.setCell {w w' : World} (h : Ext w w') {b j : Nat} (hb : w.heap.size ≤ b) (v : Value) : Ext w (w'.setCell ⟨b, j, none⟩ v) := Below.setCell h hb v

def KN (K : Foot) (w : World) : Foot := fun b => K b ∨ w.heap.size ≤ b
/-- The rows apart from the one that is written. -/
def Apart (K : Foot) (w : World) (s : Value) : Foot := fun b => (K b ∨ w.heap.size ≤ b) ∧ some b ≠ s.ownBlock
theorem Blk.cells {w : World} {g t : Nat} {arr : Array Value} (h : Blk w g t arr) : Cells w g 0 arr.toList := fun i v hv => by
  rw [Nat.zero_add, h.cell]
  simpa using hv
theorem Drew.quiet {P : Program} {f : FuncId} {args : Array Value} {w : World} {n : Nat} {v : Value} (h : Calls P f args (w.drewN n) (Drew v (w.drewN n))) :
    Calls P f args (w.drewN n) fun e w'' => e = .returned v ∧ ∃ m, w'' = w.drewN m := h.mono fun _ _ ⟨he, m, hm⟩ => ⟨he, n + m, by rw [hm, World.drewN_drewN]⟩
theorem Ext.drewN {a b : World} (h : Ext a b) (n : Nat) : Ext a (b.drewN n) := h.trans (drewN_ext b n)

theorem keep_set {w w' : World} {B j : Nat} (h : Ext w w') (v : Value) : Keep (fun c => c ≠ B) w (w'.setCell ⟨B, j, none⟩ v) := Keep.setCell (a := ⟨B, j, none⟩) (h.keep _) (fun c hc => hc) v
theorem stOk_nn {s : PStmt} (h : stOk s = true) : 0 ≤ s.thn ∧ 0 ≤ s.els := by
  simp only [stOk, Bool.and_eq_true, decide_eq_true_eq] at h
  exact ⟨h.1.1.1.1.2, h.1.1.1.2⟩
theorem stOk_f {s : PStmt} (h : stOk s = true) : (if s.kind = 3 then grow s.f else none) = grow s.f := by
  simp only [stOk, Bool.and_eq_true, decide_eq_true_eq] at h
  have h5 := h.1.1.1.1.1.2
  split
  · rfl
  · rename_i h3
    rw [if_neg h3] at h5
    have : s.f = [] := List.eq_nil_of_length_eq_zero (by simpa using h5)
    rw [this]; rfl

theorem news0 (w : World) (v : Value) (t : TypeId) {s : Nat} (hs : s = w.heap.size) : ∀ (j : Nat) u, [v][j]? = some u → (w.alloc (.cells #[v] t)).cell? ((⟨s, 0, none⟩ : Addr).add j) = some u := by
  intro j u hj
  subst hs
  have h0 : j = 0 := by
    have := (List.getElem?_eq_some_iff.1 hj).1
    simp at this; omega
  subst h0
  have := (Blk.alloc w t #[v]).cell 0
  simp at hj
  subst hj
  simp [Addr.add]
/-- What an append to the row of the call's own leaves of old rows. -/
theorem apart_next {K : Foot} {w wr wA w' : World} {v v' : Value} {vs : List Value} {ts : List St} (hA : All2 (StAt (Apart K w v) wr) vs ts) (hE : Ext wr wA) (hg : wA.grownBy w' v.ownBlock) (hat : v'.ownBlock = v.ownBlock ∨ v'.ownBlock = some wA.heap.size) :
    All2 (StAt (Apart K w v') w') vs ts := by
  have h1 := hA.stBound.stExt hE
  refine h1.stKeep (keep_of_grown hg (fun b hb _ => hb.1.2)) (fun b hb => ⟨hb.1.1, ?_⟩)
  rcases hat with h | h
  · rw [h]; exact hb.1.2
  · rw [h]
    intro e
    cases e
    exact absurd hb.2 (Nat.not_lt.2 hE.size)
theorem apart_new {K : Foot} {w wr w10 wA w' : World} {v v' p : Value} {st : St} (hK : ∀ b, K b → b < w.heap.size) (hS : StAt (fun c => K c ∨ wr.heap.size ≤ c) w10 p st) (hE : Ext w10 wA) (hr : wr.heap.size ≤ w10.heap.size) (hw : w.heap.size ≤ wr.heap.size)
    (hv : ∀ k, v.ownBlock = some k → w.heap.size ≤ k ∧ k < wr.heap.size) (hg : wA.grownBy w' v.ownBlock) (hat : v'.ownBlock = v.ownBlock ∨ v'.ownBlock = some wA.heap.size) : StAt (Apart K w v') w' p st := by
  have ne : ∀ c, (K c ∨ wr.heap.size ≤ c) → some c ≠ v.ownBlock := fun c hc e => by
    obtain ⟨h1, h2⟩ := hv c e.symm
    rcases hc with hc | hc
    · have := hK c hc; omega
    · omega
  refine (hS.bound.ext hE).keep (keep_of_grown hg (fun b hb _ => ne b hb.1)) (fun b hb => ⟨?_, ?_⟩)
  · rcases hb.1 with h | h
    · exact .inl h
    · exact .inr (Nat.le_trans hw h)
  · rcases hat with h | h
    · rw [h]; exact ne b hb.1
    · rw [h]
      intro e
      cases e
      exact absurd hb.2 (Nat.not_lt.2 hE.size)

/-! ### the model's blocks, from the k-th on -/
def consB (e : Option Ex) (s : PStmt) (p : Nat) (t u r : Option (List St)) : Option (List St) :=
  match e, t, u, r with
  | some e, some t, some u, some r => some (.mk s p e (grow s.f) t u :: r)
  | _, _, _, _ => none
theorem consB_t {e : Option Ex} {s : PStmt} {p : Nat} {u r : Option (List St)} : consB e s p none u r = none := by cases e <;> rfl
theorem consB_u {e : Option Ex} {s : PStmt} {p : Nat} {t r : Option (List St)} : consB e s p t none r = none := by cases e <;> cases t <;> rfl
theorem consB_some {e : Ex} {s : PStmt} {p : Nat} {t u : List St} {r : Option (List St)} (ts : List St) : (consB (some e) s p (some t) (some u) r).map (ts ++ ·) = r.map ((ts ++ [.mk s p e (grow s.f) t u]) ++ ·) := by cases r <;> simp [consB]
theorem blocks_no {l : List PStmt} {k base : Nat} {s : PStmt} (hs : l[k]? = some s) (h : ¬ (stOk s = true ∧ s.thn ≤ ((l.length - (k + 1) : Nat) : Int) ∧ s.els ≤ ((l.length - (k + 1) : Nat) : Int) - s.thn)) : Md.blocks (l.drop k) (base + k) = none := by
  obtain ⟨hk, e⟩ := List.getElem?_eq_some_iff.1 hs
  rw [List.drop_eq_getElem_cons hk, e, Md.blocks, if_neg]
  rw [List.length_drop]
  exact h
theorem blocks_yes {l : List PStmt} {k base T U : Nat} {s : PStmt} (hs : l[k]? = some s) (h1 : stOk s = true) (hT : s.thn = T) (hU : s.els = U) (h2 : T ≤ l.length - (k + 1)) (h3 : U ≤ l.length - (k + 1) - T) :
    Md.blocks (l.drop k) (base + k) = consB (grow s.e) s (base + k) (Md.blocks ((l.drop (k + 1)).take T) (base + (k + 1))) (Md.blocks ((l.drop (k + 1 + T)).take U) (base + (k + 1 + T))) (Md.blocks (l.drop (k + 1 + T + U)) (base + (k + 1 + T + U))) := by
  obtain ⟨hk, e⟩ := List.getElem?_eq_some_iff.1 hs
  rw [List.drop_eq_getElem_cons hk, e, Md.blocks, if_pos ⟨h1, by rw [hT, List.length_drop]; omega, by rw [hT, hU, List.length_drop]; omega⟩, hT, hU]
  simp only [List.drop_drop, Nat.add_assoc, Int.toNat_natCast]
  rfl
theorem blocks_nil {l : List PStmt} {k base : Nat} (h : l.length ≤ k) : Md.blocks (l.drop k) (base + k) = some [] := by
  rw [List.drop_eq_nil_of_le h, Md.blocks]
end Go.Proofs.YtolbngbedncemaaGreatDoor
