/- Words on worlds, slices and footprints that the walks of this claim share; no statement about the program. -/
import Derived.WalkKit
import Derived.ProofKit
import Derived.OpenShut
import Derived.ChangeOld
import Derived.Below
import Derived.SizedLaws
import Derived.Deep.QuietTactic
import Derived.Deep.RegionHeld3
import Derived.BigQuiet
import Derived.StillTailTactics
import Derived.Lib.Hide
set_option linter.unusedVariables false
set_option linter.unusedSimpArgs false
namespace Go.Proofs.YtnkkfkiedooijaaDoor
open Go Go.RowKit

/-! ### Later worlds -/
/-- w' is w with new blocks: of what was there nothing has turned. -/
abbrev Ext (w w' : World) : Prop := Below w.heap.size w w'
theorem Ext.refl (w : World) : Ext w w := Below.refl _ _
theorem Ext.trans {a b c : World} (h : Ext a b) (k : Ext b c) : Ext a c := Below.trans h (k.mono h.size)
theorem Ext.drew {a b : World} (h : Ext a b) : Ext a b.drew := Below.drew h
theorem Ext.alloc {a b : World} (h : Ext a b) (o : Obj) : Ext a (b.alloc o) := Below.alloc h h.size o
theorem Ext.of_alloc {a b : World} {o : Obj} (h : Ext (a.alloc o) b) : Ext a b := ((Ext.refl a).alloc o).trans h
theorem Ext.of_drew {a b : World} (h : Ext a.drew b) : Ext a b := ((Ext.refl a).drew).trans h
theorem Ext.cell {w w' : World} (h : Ext w w') {a : Addr} {v : Value} (hc : w.cell? a = some v) : w'.cell? a = some v :=
  (Below.cell h (World.block_lt_of_cell? w a hc)).trans hc

/-! ### Footprints -/
abbrev Foot := Nat → Prop
def AnyB : Foot := fun _ => True
def New (w : World) : Foot := fun b => w.heap.size ≤ b
/-- The blocks of K are as they were. -/
def Keep (K : Foot) (w w' : World) : Prop := ∀ b, K b → b < w.heap.size → w'.heap[b]? = w.heap[b]?
theorem Ext.keep {w w' : World} (h : Ext w w') (K : Foot) : Keep K w w' := fun b _ hb => h.block b hb
theorem Keep.cell {K : Foot} {w w' : World} (h : Keep K w w') {a : Addr} {v : Value} (hK : K a.block) (hc : w.cell? a = some v) : w'.cell? a = some v :=
  (World.cell?_of_block (w := w) (h a.block hK (World.block_lt_of_cell? w a hc))).trans hc

/-! ### Cells in a row, slices -/
/-- From (b, o) on stand the cells cs. -/
def Cells (w : World) (b o : Nat) (cs : List Value) : Prop := ∀ i v, cs[i]? = some v → w.cell? ⟨b, o + i, none⟩ = some v
theorem Cells.keep {K : Foot} {w w' : World} {b o : Nat} {cs : List Value} (h : Cells w b o cs) (k : Keep K w w') (hK : K b) : Cells w' b o cs :=
  fun i v hi => k.cell hK (h i v hi)
theorem Cells.ext {w w' : World} {b o : Nat} {cs : List Value} (h : Cells w b o cs) (k : Ext w w') : Cells w' b o cs :=
  fun i v hi => k.cell (h i v hi)

/-- v is a slice of the list xs: elements of sz cells each, as C says; its blocks are of K. -/
def Sl {α : Type} (K : Foot) (w : World) (sz : Nat) (C : World → List Value → α → Prop) (v : Value) (xs : List α) : Prop :=
  ∃ a cap, v = .slice a xs.length cap ∧ xs.length ≤ cap ∧ cap ≤ maxLen ∧
    (0 < xs.length → ∃ b o, a = some ⟨b, o, none⟩ ∧ K b ∧ ∀ i (h : i < xs.length), ∃ cs, cs.length = sz ∧ C w cs xs[i] ∧ Cells w b (o + i * sz) cs)

theorem Sl.nil {α : Type} (K : Foot) (w : World) (sz : Nat) (C : World → List Value → α → Prop) : Sl K w sz C (.slice none 0 0) [] :=
  ⟨none, 0, rfl, Nat.le_refl _, by simp [maxLen], fun h => absurd h (by simp)⟩
theorem Sl.keep {α : Type} {K K' : Foot} {w w' : World} {sz : Nat} {C C' : World → List Value → α → Prop} {v : Value} {xs : List α} (h : Sl K w sz C v xs)
    (k : Keep K w w') (hC : ∀ cs x, x ∈ xs → C w cs x → C' w' cs x) (hK : ∀ b, K b → K' b) : Sl K' w' sz C' v xs := by
  obtain ⟨a, cap, e, h1, h2, h3⟩ := h
  refine ⟨a, cap, e, h1, h2, fun hp => ?_⟩
  obtain ⟨b, o, e1, e2, e3⟩ := h3 hp
  refine ⟨b, o, e1, hK b e2, fun i hi => ?_⟩
  obtain ⟨cs, c1, c2, c3⟩ := e3 i hi
  exact ⟨cs, c1, hC cs _ (List.getElem_mem hi) c2, c3.keep k e2⟩
theorem Sl.ext {α : Type} {K : Foot} {w w' : World} {sz : Nat} {C : World → List Value → α → Prop} {v : Value} {xs : List α} (h : Sl K w sz C v xs)
    (k : Ext w w') (hC : ∀ cs x, C w cs x → C w' cs x) : Sl K w' sz C v xs := h.keep (k.keep K) (fun cs x _ => hC cs x) (fun _ h => h)

/-! ### What a call comes to (plain definitions: the walk's simp does not look inside) -/
def Same (v : Value) (w : World) (e : Ending) (w' : World) : Prop := e = .returned v ∧ w = w'
def Drew (v : Value) (w : World) (e : Ending) (w' : World) : Prop := e = .returned v ∧ ∃ n, w' = w.drewN n
def Gives (v : Value) (w : World) (e : Ending) (w' : World) : Prop := e = .returned v ∧ Ext w w'
def Made (w : World) (R : World → Value → Prop) (e : Ending) (w' : World) : Prop := ∃ v, e = .returned v ∧ R w' v ∧ Ext w w'
theorem Same.int {k : IntKind} {x y : Int} {w : World} (h : x = y) : Same (.int k y) w (.returned (.int k x)) w := ⟨by rw [h], rfl⟩
theorem Same.bool {x y : Bool} {w : World} (h : x = y) : Same (.bool y) w (.returned (.bool x)) w := ⟨by rw [h], rfl⟩
theorem Gives.int {k : IntKind} {x y : Int} {w w' : World} (h : x = y) (hE : Ext w w') : Gives (.int k y) w (.returned (.int k x)) w' := ⟨by rw [h], hE⟩
theorem Gives.bool {x y : Bool} {w w' : World} (h : x = y) (hE : Ext w w') : Gives (.bool y) w (.returned (.bool x)) w' := ⟨by rw [h], hE⟩

/-! ### Blocks -/
/-- Block g holds the cells arr, of elements of type t, none frozen. -/
def Blk (w : World) (g : Nat) (t : TypeId) (arr : Array Value) : Prop := w.heap[g]? = some (.cells arr t (0, 0))
theorem Blk.lt {w : World} {g t : Nat} {arr : Array Value} (h : Blk w g t arr) : g < w.heap.size := (Array.getElem?_eq_some_iff.1 h).1
theorem Blk.ext {w w' : World} {g t : Nat} {arr : Array Value} (h : Blk w g t arr) (k : Ext w w') : Blk w' g t arr := by
  unfold Blk at *
  rw [k.block g (Array.getElem?_eq_some_iff.1 h).1]; exact h
theorem Blk.cell {w : World} {g t : Nat} {arr : Array Value} (h : Blk w g t arr) (i : Nat) : w.cell? ⟨g, i, none⟩ = arr[i]? := cell_of_row w g i arr t _ h
theorem Blk.some {w : World} {g t : Nat} {arr : Array Value} (h : Blk w g t arr) (i : Nat) (hi : i < arr.size) : ∃ u, w.cell? ⟨g, i, none⟩ = some u := ⟨_, by rw [h.cell]; exact Array.getElem?_eq_getElem hi⟩
theorem Blk.frozen {w : World} {g t : Nat} {arr : Array Value} (h : Blk w g t arr) (i : Nat) : w.frozen? ⟨g, i, none⟩ = false := frozen_of_row w g i arr t h
theorem Blk.set {w : World} {g t : Nat} {arr : Array Value} (h : Blk w g t arr) (i : Nat) (v : Value) : Blk (w.setCell ⟨g, i, none⟩ v) g t (arr.setIfInBounds i v) := by
  unfold Blk at *
  rw [heap_setCell_same w g i arr t v h]
theorem Blk.setOther {w : World} {g t : Nat} {arr : Array Value} (h : Blk w g t arr) {a : Addr} (ha : g ≠ a.block) (v : Value) : Blk (w.setCell a v) g t arr := by
  unfold Blk at *
  rw [Below.heap_setCell _ _ _ _ ha]; exact h
theorem Blk.alloc (w : World) (t : Nat) (arr : Array Value) : Blk (w.alloc (.cells arr t)) w.heap.size t arr := heap_alloc_new w _

end Go.Proofs.YtnkkfkiedooijaaDoor
