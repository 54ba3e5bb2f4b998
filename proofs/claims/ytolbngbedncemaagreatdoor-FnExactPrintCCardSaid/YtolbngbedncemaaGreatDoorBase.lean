/- Words on worlds, slices and footprints that the walks of this claim share; no statement about the program. -/
import Derived.WalkKit
import Derived.ProofKit
import Derived.OpenShut
import Derived.ChangeOld
import Derived.Below
import Derived.SizedLaws
import Derived.Deep.QuietTactic
import Derived.Deep.RegionHeld3
import Derived.BigQuiet
import Derived.StillTailTactics
import Derived.Lib.Hide
set_option linter.unusedVariables false
set_option linter.unusedSimpArgs false
namespace Go.Proofs.YtolbngbedncemaaGreatDoor
open Go Go.RowKit

/-! ### Later worlds -/
/-- w' is w with new blocks: of what was there nothing has turned. -/
abbrev Ext (w w' : World) : Prop := Below w.heap.size w w'
theorem Ext.refl (w : World) : Ext w w := Below.refl _ _
theorem Ext.trans {a b c : World} (h : Ext a b) (k : Ext b c) : Ext a c := Below.trans h (k.mono h.size)
theorem Ext.drew {a b : World} (h : Ext a b) : Ext a b.drew := Below.drew h
theorem Ext.alloc {a b : World} (h : Ext a b) (o : Obj) : Ext a (b.alloc o) := Below.alloc h h.size o
theorem Ext.of_alloc {a b : World} {o : Obj} (h : Ext (a.alloc o) b) : Ext a b := ((Ext.refl a).alloc o).trans h
theorem Ext.of_drew {a b : World} (h : Ext a.drew b) : Ext a b := ((Ext.refl a).drew).trans h
theorem Ext.cell {w w' : World} (h : Ext w w') {a : Addr} {v : Value} (hc : w.cell? a = some v) : w'.cell? a = some v :=
  (Below.cell h (World.block_lt_of_cell? w a hc)).trans hc

theorem drewN_ext (w : World) : ∀ n, Ext w (w.drewN n)
  | 0 => Ext.refl w
  | n + 1 => by rw [World.drewN]; exact (drewN_ext w n).drew

/-! ### Footprints -/
abbrev Foot := Nat → Prop
def AnyB : Foot := fun _ => True
def New (w : World) : Foot := fun b => w.heap.size ≤ b
/-- The blocks of K are as they were. -/
def Keep (K : Foot) (w w' : World) : Prop := ∀ b, K b → b < w.heap.size → w'.heap[b]? = w.heap[b]?
theorem Ext.keep {w w' : World} (h : Ext w w') (K : Foot) : Keep K w w' := fun b _ hb => h.block b hb
theorem Keep.cell {K : Foot} {w w' : World} (h : Keep K w w') {a : Addr} {v : Value} (hK : K a.block) (hc : w.cell? a = some v) : w'.cell? a = some v :=
  (World.cell?_of_block (w := w) (h a.block hK (World.block_lt_of_cell? w a hc))).trans hc

theorem Keep.refl (K : Foot) (w : World) : Keep K w w := fun _ _ _ => rfl
theorem Keep.trans {K : Foot} {a b c : World} (h : Keep K a b) (k : Keep K b c) (hs : a.heap.size ≤ b.heap.size) : Keep K a c :=
  fun x hx hl => (k x hx (Nat.lt_of_lt_of_le hl hs)).trans (h x hx hl)
theorem Keep.setCell {K : Foot} {w w' : World} (h : Keep K w w') {a : Addr} (ha : ∀ b, K b → b ≠ a.block) (v : Value) : Keep K w (w'.setCell a v) :=
  fun b hb hl => (Below.heap_setCell w' a v b (ha b hb)).trans (h b hb hl)
theorem Keep.mono {K K' : Foot} {w w' : World} (h : Keep K w w') (hK : ∀ b, K' b → K b) : Keep K' w w' := fun b hb hl => h b (hK b hb) hl

/-! ### Cells in a row, slices -/
/-- From (b, o) on stand the cells cs. -/
def Cells (w : World) (b o : Nat) (cs : List Value) : Prop := ∀ i v, cs[i]? = some v → w.cell? ⟨b, o + i, none⟩ = some v
theorem Cells.keep {K : Foot} {w w' : World} {b o : Nat} {cs : List Value} (h : Cells w b o cs) (k : Keep K w w') (hK : K b) : Cells w' b o cs :=
  fun i v hi => k.cell hK (h i v hi)
theorem Cells.z {w : World} {b o : Nat} {cs : List Value} (h : Cells w b o cs) {v : Value} (hv : cs[0]? = some v) : w.cell? ⟨b, o, none⟩ = some v := h 0 v hv
theorem Cells.ext {w w' : World} {b o : Nat} {cs : List Value} (h : Cells w b o cs) (k : Ext w w') : Cells w' b o cs :=
  fun i v hi => k.cell (h i v hi)

/-- v is a slice of the list xs: elements of sz cells each, as C says; its blocks are of K. -/
def Sl {α : Type} (K : Foot) (w : World) (sz : Nat) (C : World → List Value → α → Prop) (v : Value) (xs : List α) : Prop :=
  ∃ a cap, v = .slice a xs.length cap ∧ xs.length ≤ cap ∧ cap ≤ maxLen ∧
    (0 < xs.length → ∃ b o, a = some ⟨b, o, none⟩ ∧ K b ∧ ∀ i (h : i < xs.length), ∃ cs, cs.length = sz ∧ C w cs xs[i] ∧ Cells w b (o + i * sz) cs)

theorem Sl.nil {α : Type} (K : Foot) (w : World) (sz : Nat) (C : World → List Value → α → Prop) : Sl K w sz C (.slice none 0 0) [] :=
  ⟨none, 0, rfl, Nat.le_refl _, by simp [maxLen], fun h => absurd h (by simp)⟩
theorem Sl.keep {α : Type} {K K' : Foot} {w w' : World} {sz : Nat} {C C' : World → List Value → α → Prop} {v : Value} {xs : List α} (h : Sl K w sz C v xs)
    (k : Keep K w w') (hC : ∀ cs x, x ∈ xs → C w cs x → C' w' cs x) (hK : ∀ b, K b → K' b) : Sl K' w' sz C' v xs := by
  obtain ⟨a, cap, e, h1, h2, h3⟩ := h
  refine ⟨a, cap, e, h1, h2, fun hp => ?_⟩
  obtain ⟨b, o, e1, e2, e3⟩ := h3 hp
  refine ⟨b, o, e1, hK b e2, fun i hi => ?_⟩
  obtain ⟨cs, c1, c2, c3⟩ := e3 i hi
  exact ⟨cs, c1, hC cs _ (List.getElem_mem hi) c2, c3.keep k e2⟩
theorem Sl.ext {α : Type} {K : Foot} {w w' : World} {sz : Nat} {C : World → List Value → α → Prop} {v : Value} {xs : List α} (h : Sl K w sz C v xs)
    (k : Ext w w') (hC : ∀ cs x, C w cs x → C w' cs x) : Sl K w' sz C v xs := h.keep (k.keep K) (fun cs x _ => hC cs x) (fun _ h => h)

theorem Sl.shape {α : Type} {K : Foot} {w : World} {sz : Nat} {C : World → List Value → α → Prop} {v : Value} {xs : List α} (h : Sl K w sz C v xs) : ∃ a n c, v = .slice a n c := by
  obtain ⟨a, cap, e, _⟩ := h
  exact ⟨a, _, cap, e⟩
/-- A slice opened: its length hidden, its elements one by one. -/
theorem Sl.op {α : Type} {K : Foot} {w : World} {sz : Nat} {C : World → List Value → α → Prop} {v : Value} {xs : List α} (h : Sl K w sz C v xs) :
    ∃ a len cap, v = .slice a len cap ∧ Hid (xs.length = len) ∧ len ≤ cap ∧ cap ≤ 9223372036854775807 ∧
      (0 < len → ∃ b o, a = some ⟨b, o, none⟩ ∧ K b ∧ ∀ i, i < len → ∃ x cs, xs[i]? = some x ∧ cs.length = sz ∧ C w cs x ∧ Cells w b (o + i * sz) cs) := by
  obtain ⟨a, cap, e, h1, h2, h3⟩ := h
  refine ⟨a, xs.length, cap, e, rfl, h1, by unfold maxLen at h2; omega, fun hp => ?_⟩
  obtain ⟨b, o, e1, e2, e3⟩ := h3 hp
  refine ⟨b, o, e1, e2, fun i hi => ?_⟩
  obtain ⟨cs, c1, c2, c3⟩ := e3 i hi
  exact ⟨xs[i], cs, List.getElem?_eq_getElem hi, c1, c2, c3⟩
theorem take_snoc {α : Type} {xs : List α} {k : Nat} {x : α} (h : xs[k]? = some x) : xs.take (k + 1) = xs.take k ++ [x] := by
  obtain ⟨hk, e⟩ := List.getElem?_eq_some_iff.1 h
  rw [List.take_succ_eq_append_getElem hk, e]
theorem take_all {α : Type} {xs : List α} {k : Nat} (h : Hid (xs.length = k)) : xs.take k = xs := List.take_of_length_le (by have := h.out; omega)

/-! ### What a call comes to (plain definitions: the walk's simp does not look inside) -/
def Same (v : Value) (w : World) (e : Ending) (w' : World) : Prop := e = .returned v ∧ w = w'
def Drew (v : Value) (w : World) (e : Ending) (w' : World) : Prop := e = .returned v ∧ ∃ n, w' = w.drewN n
def Gives (v : Value) (w : World) (e : Ending) (w' : World) : Prop := e = .returned v ∧ Ext w w'
def Made (w : World) (R : World → Value → Prop) (e : Ending) (w' : World) : Prop := ∃ v, e = .returned v ∧ R w' v ∧ Ext w w'
theorem Same.int {k : IntKind} {x y : Int} {w : World} (h : x = y) : Same (.int k y) w (.returned (.int k x)) w := ⟨by rw [h], rfl⟩
theorem Same.bool {x y : Bool} {w : World} (h : x = y) : Same (.bool y) w (.returned (.bool x)) w := ⟨by rw [h], rfl⟩
theorem Gives.int {k : IntKind} {x y : Int} {w w' : World} (h : x = y) (hE : Ext w w') : Gives (.int k y) w (.returned (.int k x)) w' := ⟨by rw [h], hE⟩
theorem Gives.bool {x y : Bool} {w w' : World} (h : x = y) (hE : Ext w w') : Gives (.bool y) w (.returned (.bool x)) w' := ⟨by rw [h], hE⟩

/-! ### Blocks -/
/-- Block g holds the cells arr, of elements of type t, none frozen. -/
def Blk (w : World) (g : Nat) (t : TypeId) (arr : Array Value) : Prop := w.heap[g]? = some (.cells arr t (0, 0))
theorem Blk.lt {w : World} {g t : Nat} {arr : Array Value} (h : Blk w g t arr) : g < w.heap.size := (Array.getElem?_eq_some_iff.1 h).1
theorem Blk.ext {w w' : World} {g t : Nat} {arr : Array Value} (h : Blk w g t arr) (k : Ext w w') : Blk w' g t arr := by
  unfold Blk at *
  rw [k.block g (Array.getElem?_eq_some_iff.1 h).1]; exact h
theorem Blk.cell {w : World} {g t : Nat} {arr : Array Value} (h : Blk w g t arr) (i : Nat) : w.cell? ⟨g, i, none⟩ = arr[i]? := cell_of_row w g i arr t _ h
theorem Blk.some {w : World} {g t : Nat} {arr : Array Value} (h : Blk w g t arr) (i : Nat) (hi : i < arr.size) : ∃ u, w.cell? ⟨g, i, none⟩ = some u := ⟨_, by rw [h.cell]; exact Array.getElem?_eq_getElem hi⟩
theorem Blk.frozen {w : World} {g t : Nat} {arr : Array Value} (h : Blk w g t arr) (i : Nat) : w.frozen? ⟨g, i, none⟩ = false := frozen_of_row w g i arr t h
theorem Blk.set {w : World} {g t : Nat} {arr : Array Value} (h : Blk w g t arr) (i : Nat) (v : Value) : Blk (w.setCell ⟨g, i, none⟩ v) g t (arr.setIfInBounds i v) := by
  unfold Blk at *
  rw [heap_setCell_same w g i arr t v h]
theorem Blk.setOther {w : World} {g t : Nat} {arr : Array Value} (h : Blk w g t arr) {a : Addr} (ha : g ≠ a.block) (v : Value) : Blk (w.setCell a v) g t arr := by
  unfold Blk at *
  rw [Below.heap_setCell _ _ _ _ ha]; exact h
theorem Blk.alloc (w : World) (t : Nat) (arr : Array Value) : Blk (w.alloc (.cells arr t)) w.heap.size t arr := heap_alloc_new w _

theorem Blk.alloc3 (w : World) (t0 t1 t2 : Nat) (a b c : Array Value) :
    Blk (((w.alloc (.cells a t0)).alloc (.cells b t1)).alloc (.cells c t2)) w.heap.size t0 a ∧ Blk (((w.alloc (.cells a t0)).alloc (.cells b t1)).alloc (.cells c t2)) (w.heap.size + 1) t1 b ∧
      Blk (((w.alloc (.cells a t0)).alloc (.cells b t1)).alloc (.cells c t2)) (w.heap.size + 1 + 1) t2 c := by
  refine ⟨((Blk.alloc w t0 a).ext ((Ext.refl _).alloc _)).ext ((Ext.refl _).alloc _), ?_, ?_⟩
  · have := (Blk.alloc (w.alloc (.cells a t0)) t1 b).ext ((Ext.refl _).alloc (.cells c t2))
    simpa using this
  · have := Blk.alloc ((w.alloc (.cells a t0)).alloc (.cells b t1)) t2 c
    simpa using this
theorem Blk.alloc2 (w : World) (t0 t1 : Nat) (a b : Array Value) :
    Blk ((w.alloc (.cells a t0)).alloc (.cells b t1)) w.heap.size t0 a ∧ Blk ((w.alloc (.cells a t0)).alloc (.cells b t1)) (w.heap.size + 1) t1 b := by
  refine ⟨(Blk.alloc w t0 a).ext ((Ext.refl _).alloc _), ?_⟩
  have := Blk.alloc (w.alloc (.cells a t0)) t1 b
  simpa using this

/-! ### A struct stored into a row -/
def setCs (arr : Array Value) (i : Nat) : List Value → Array Value
  | [] => arr
  | c :: cs => setCs (arr.setIfInBounds i c) (i + 1) cs
theorem setCs_size (cs : List Value) : ∀ (arr : Array Value) (i : Nat), (setCs arr i cs).size = arr.size := by
  induction cs with
  | nil => intro _ _; rfl
  | cons c cs ih => intro arr i; rw [setCs, ih, Array.size_setIfInBounds]
theorem setCs_out (cs : List Value) : ∀ (arr : Array Value) (i j : Nat), (j < i ∨ i + cs.length ≤ j) → (setCs arr i cs)[j]? = arr[j]? := by
  induction cs with
  | nil => intro _ _ _ _; rfl
  | cons c cs ih =>
    intro arr i j h
    simp only [List.length_cons] at h
    rw [setCs, ih _ _ _ (by omega), Array.getElem?_setIfInBounds, if_neg (by omega)]
theorem setCs_in (cs : List Value) : ∀ (arr : Array Value) (i q : Nat), q < cs.length → i + cs.length ≤ arr.size → (setCs arr i cs)[i + q]? = cs[q]? := by
  induction cs with
  | nil => intro _ _ q h; simp at h
  | cons c cs ih =>
    intro arr i q h hs
    simp only [List.length_cons] at h hs
    cases q with
    | zero =>
      rw [setCs, setCs_out _ _ _ _ (by omega), Array.getElem?_setIfInBounds, if_pos (by omega), if_pos (by omega)]
      rfl
    | succ q =>
      rw [setCs, show i + (q + 1) = i + 1 + q by omega, ih _ _ _ (by omega) (by rw [Array.size_setIfInBounds]; omega)]
      rfl
/-- The first k elements, of sz cells each, are in the row; C may speak of the world. -/
def Filled {α : Type} (w : World) (sz : Nat) (C : World → List Value → α → Prop) (l : List α) (k : Nat) (arr : Array Value) : Prop :=
  ∀ j x, j < k → l[j]? = some x → ∃ cs, cs.length = sz ∧ C w cs x ∧ ∀ q, q < sz → arr[j * sz + q]? = cs[q]?
theorem Filled.zero {α : Type} (w : World) (sz : Nat) (C : World → List Value → α → Prop) (l : List α) (arr : Array Value) : Hid (Filled w sz C l 0 arr) := fun j x hj => absurd hj (by omega)
theorem Filled.snoc {α : Type} {w w' : World} {sz : Nat} {C : World → List Value → α → Prop} {l : List α} {k len : Nat} {arr : Array Value} (h : Hid (Filled w sz C l k arr)) {x : α} (hx : Hid (l[k]? = some x))
    {cs : List Value} (hsz : cs.length = sz) (hC : C w' cs x) (hw : ∀ cs x, C w cs x → C w' cs x) (ha : Hid (arr.size = len * sz)) (hk : k < len) : Hid (Filled w' sz C l (k + 1) (setCs arr (k * sz) cs)) := by
  intro j y hj hy
  have ha := ha.out
  have hm : k * sz + sz ≤ len * sz := by rw [← Nat.succ_mul]; exact Nat.mul_le_mul_right _ hk
  by_cases hjk : j = k
  · subst hjk
    rw [hx.out] at hy
    cases hy
    exact ⟨cs, hsz, hC, fun q hq => setCs_in _ _ _ _ (by omega) (by omega)⟩
  · obtain ⟨cs', h1, h2, h3⟩ := h.out j y (by omega) hy
    refine ⟨cs', h1, hw _ _ h2, fun q hq => ?_⟩
    have hm2 : j * sz + sz ≤ k * sz := by rw [← Nat.succ_mul]; exact Nat.mul_le_mul_right _ (by omega)
    rw [setCs_out _ _ _ _ (by omega)]
    exact h3 q hq
/-- A full row is a slice. -/
theorem Filled.sl {α : Type} {w : World} {sz : Nat} {C : World → List Value → α → Prop} {l : List α} {len g t : Nat} {arr : Array Value} {K : Foot} (h : Hid (Filled w sz C l len arr)) (hl : Hid (l.length = len)) (hb : Blk w g t arr)
    (hK : K g) (hm : len ≤ 9223372036854775807) : Sl K w sz C (.slice (some ⟨g, 0, none⟩) len len) l := by
  have hl := hl.out
  refine ⟨some ⟨g, 0, none⟩, len, by rw [hl], by omega, by unfold maxLen; omega, fun hp => ⟨g, 0, rfl, hK, fun i hi => ?_⟩⟩
  obtain ⟨cs, h1, h2, h3⟩ := h.out i l[i] (by omega) (List.getElem?_eq_getElem hi)
  refine ⟨cs, h1, h2, fun q v hv => ?_⟩
  have hq : q < cs.length := (List.getElem?_eq_some_iff.1 hv).1
  rw [hb.cell, Nat.zero_add, h3 q (by omega)]
  exact hv

end Go.Proofs.YtolbngbedncemaaGreatDoor
