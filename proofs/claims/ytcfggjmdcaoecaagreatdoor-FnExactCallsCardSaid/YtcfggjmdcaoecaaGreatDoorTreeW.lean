/- What the laws on trees share: sizes out of the laws' reckoning, footprints, impl.reserved as laid, impl.ValidTree. -/
import Derived.Test.YtcfggjmdcaoecaaGreatDoorUnit
import Derived.Test.YtcfggjmdcaoecaaGreatDoorSz
import Derived.Test.YtcfggjmdcaoecaaGreatDoorEq
import Derived.Test.YtcfggjmdcaoecaaGreatDoorOpen
import Derived.SliceStrings
import Derived.OpenVars
import Derived.LaidHandle
set_option linter.unusedVariables false
set_option linter.unusedSimpArgs false
namespace Go.Proofs.YtcfggjmdcaoecaaGreatDoor
open Go Go.RowKit Md Go.ChangeShapes

theorem sumSz_mem {α : Type} (f : α → Nat) {l : List α} {x : α} (h : x ∈ l) : f x ≤ sumSz f l := by
  unfold sumSz
  induction l with
  | nil => cases h
  | cons y l ih =>
    rw [List.map_cons, List.sum_cons]
    rcases List.mem_cons.1 h with rfl | h
    · omega
    · have := ih h; omega
def Sizes (x : PTree) : Prop := x.globals.length ≤ 1048576 ∧ (x.funcs.length ≤ 1048576 ∧ ∀ s ∈ x.funcs, s.params.length ≤ 1048576 ∧ (s.body.length ≤ 1048576 ∧ ∀ q ∈ s.body, q.e.length ≤ 1048576 ∧ q.f.length ≤ 1048576))
theorem sizes_of {x : PTree} (h : szTree x ≤ 1048576) : Sizes x := by
  unfold szTree szL at h
  refine ⟨by omega, by omega, fun s hs => ?_⟩
  have h1 : s.name.size + szL szStr s.params + szL szStmt s.body ≤ sumSz szFunc x.funcs := sumSz_mem szFunc hs
  unfold szL at h1
  refine ⟨by omega, by omega, fun q hq => ?_⟩
  have h2 : q.name.size + szL szNode q.e + szL szNode q.f ≤ sumSz szStmt s.body := sumSz_mem szStmt hq
  unfold szL at h2
  exact ⟨by omega, by omega⟩
theorem Sizes.small {x : PTree} (h : Sizes x) : Small x := fun f hf s hs => (h.2.2 f hf).2.2 s hs

theorem CFunc.bound {K : Foot} {w : World} {cs : List Value} {s : PFunc} (h : CFunc K w cs s) : CFunc (fun b => K b ∧ b < w.heap.size) w cs s := by
  obtain ⟨vP, vB, e, h1, h2, h3⟩ := h
  exact ⟨vP, vB, e, Sl.bound h1 (by decide), SlStmt.bound h2, h3⟩
theorem SlFunc.bound {K : Foot} {w : World} {v : Value} {l : List PFunc} (h : SlFunc K w v l) : SlFunc (fun b => K b ∧ b < w.heap.size) w v l :=
  Sl.keep (Sl.bound h (by decide)) (Keep.refl _ w) (fun _ _ _ h => h.bound) (fun _ h => h)
theorem SlGlob.bound {K : Foot} {w : World} {v : Value} {l : List PGlob} (h : SlGlob K w v l) : SlGlob (fun b => K b ∧ b < w.heap.size) w v l := Sl.bound h (by decide)

/-! ### impl.reserved as the program's text lays it -/
theorem gRes : Tryz.prog.globalNamed "loop.example/s01725/impl.reserved" = some 1 := by kernel_rfl
theorem tRes : (Tryz.prog.globals[1]?).map (·.type) = some 80 := by kernel_rfl
def resData {H : Type} : List (DataW H) := resL.map fun l => .lit (.string l)
theorem res_of_trod {W : World} {cs : Array Value} {f : Nat} {sp : Nat → Bool} {p : List MemPlace} {H : Type} {enc : TypeId × Value → H} {held : Bool} (hv : W.var? Tryz.prog "loop.example/s01725/impl.reserved" = some cs)
    (hd : DataW.trod enc Tryz.prog W 0 sp held f 80 cs.toList = some (.slice resData [], p)) : Res W := by
  rcases open_strings Tryz.underlying80 Tryz.underlying9 (by kernel_rfl) hd with ⟨_, hx⟩ | ⟨a, len, cap, ss, hcs, _, hl, hm, hsl, hx, hcell, hss⟩
  · simp at hx
  simp only [Prod.mk.injEq, DataW.slice.injEq] at hx
  obtain ⟨⟨h1, h2⟩, _⟩ := hx
  have hd2 : ss.drop len = [] := by
    have := congrArg List.length h2
    simp only [strs, List.length_map, List.length_nil] at this
    exact List.eq_nil_of_length_eq_zero this.symm
  have hlen : ss.length = len := by
    have h3 := congrArg List.length hd2
    rw [List.length_drop, List.length_nil] at h3
    split at hsl <;> omega
  have hss2 : ss.take len = ss := List.take_of_length_le (by omega)
  rw [hss2] at h1
  have hml : ss.map (fun s => s.data.toList) = resL := by
    have h3 : (resL.map fun l => (DataW.lit (.string l) : DataW H)) = ss.map fun s => .lit (.string s.data.toList) := h1
    have h4 := congrArg (List.map fun d : DataW H => match d with | .lit (.string l) => l | _ => []) h3
    rw [List.map_map, List.map_map] at h4
    have e1 : ((fun d : DataW H => match d with | .lit (.string l) => l | _ => []) ∘ fun l : List UInt8 => (DataW.lit (.string l) : DataW H)) = id := by funext l; rfl
    have e2 : ((fun d : DataW H => match d with | .lit (.string l) => l | _ => []) ∘ fun s : ByteArray => (DataW.lit (.string s.data.toList) : DataW H)) = fun s => s.data.toList := by funext l; rfl
    rw [e1, e2, List.map_id] at h4
    exact h4.symm
  have hpos : 0 < len := by
    rw [← hlen]
    have := congrArg List.length hml
    rw [List.length_map] at this
    rw [this]
    decide
  have hspot : a.spot = none := by
    have h0 := hcell 0 (by omega)
    cases hs : a.spot with
    | none => rfl
    | some z =>
      exfalso
      have e : a.add 0 = a := by
        obtain ⟨ab, ao, asp⟩ := a
        simp [Addr.add]
      rw [e] at h0
      unfold World.cell? at h0
      split at h0
      · simp [hs] at h0
      · cases h0
  obtain ⟨b, o, s⟩ := a
  simp only at hspot
  subst hspot
  refine ⟨.slice (some ⟨b, o, none⟩) len cap, ss, ?_, ⟨some ⟨b, o, none⟩, cap, by rw [hlen], by omega, hm, fun _ => ⟨b, o, rfl, trivial, fun i hi => ⟨[.string ss[i]], rfl, ⟨rfl, hss _ (List.getElem_mem hi)⟩, fun q u hu => ?_⟩⟩⟩, ?_⟩
  · have := World.var?_cell gRes hv 0
    rw [Array.eq_one_of_toList hcs] at this
    simpa using this
  · have hq : q = 0 := by
      have := (List.getElem?_eq_some_iff.1 hu).1
      simp at this; omega
    subst hq
    simp at hu
    subst hu
    have := hcell i hi
    have e : ((⟨b, o, none⟩ : Addr).add i) = ⟨b, o + i * 1 + 0, none⟩ := by
      unfold Addr.add
      split <;> simp_all
    rw [e] at this
    rw [this, List.getD_eq_getElem?_getD, List.getElem?_eq_getElem hi]
    rfl
  · rw [← hml]
    exact List.map_congr_left fun s _ => toList_eq s

set_option maxRecDepth 100000 in
/-- A tree that came in as an argument. -/
theorem open_tree {H : Type} {enc : TypeId × Value → H} {W : World} {sp : Nat → Bool} {held : Bool} {r : Reach} {b0 : Nat} {v : Value} {d : DataW H} {p : List MemPlace} (hv : Value.okWide Tryz.prog W r b0 25 v)
    (h : DataW.Trod enc Tryz.prog W 0 sp held 25 v d p) : ∃ (t : PTree) (vG vF : Value), v = .agg #[vG, vF] ∧ SlGlob AnyB W vG t.globals ∧ SlFunc AnyB W vF t.funcs := by
  obtain ⟨v0, v1, y0, y1, n, rfl, _, _, h0, h1⟩ := Joins.open_agg2 Tryz.underlying25 (by kernel_rfl) (by kernel_rfl) hv h
  obtain ⟨G, w0⟩ := sl_of_trod Tryz.underlying22 (by kernel_rfl) (by decide) (fun _ _ _ h hl => glob_of_trod h hl) h0
  obtain ⟨F, w1⟩ := sl_of_trod Tryz.underlying23 (by kernel_rfl) (by decide) (fun _ _ _ h hl => func_of_trod h hl) h1
  exact ⟨⟨G, F⟩, v0, v1, rfl, w0, w1⟩
end Go.Proofs.YtcfggjmdcaoecaaGreatDoor
