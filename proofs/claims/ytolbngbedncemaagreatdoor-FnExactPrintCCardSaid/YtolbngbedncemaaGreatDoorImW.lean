/- A strings.Builder as the printer carries it; WriteString as a deferred call. -/
import Derived.Test.YtolbngbedncemaaGreatDoorImPr
set_option linter.unusedVariables false
set_option linter.unusedSimpArgs false
namespace Go.Proofs.YtolbngbedncemaaGreatDoor
open Go Go.RowKit Md

theorem u8_info : (Tryz.prog.info? 5).map (fun i => (i.zero, i.size, i.bytes)) = some (some (.int .u8 0), 1, 1) := by kernel_rfl
theorem oth_ext {e : TypeId} {b : Option Nat} {w w' : World} (h : Ext w w') : Lib.OthersKept e b w w' := fun k o hk _ _ => by
  rw [h.block k (Array.getElem?_eq_some_iff.1 hk).1]; exact hk
theorem own_ext {w w' : World} {B e n : Nat} {v : Value} {xs : List Value} (h : w.ownsRowF B e 1 v n xs) (hE : Ext w w') : w'.ownsRowF B e 1 v n xs := by
  obtain ⟨h1, h2⟩ := h
  refine ⟨h1, ?_⟩
  rcases h2 with h2 | ⟨g, cap, cur, fz, rfl, hg, hh, r⟩
  · exact .inl h2
  · refine .inr ⟨g, cap, cur, fz, rfl, hg, ?_, r⟩
    rw [hE.block g (Array.getElem?_eq_some_iff.1 hh).1]
    exact hh
theorem bld_ext {T e B b : Nat} {bs : List Value} {w w' : World} (h : Lib.IsBuilderF T e B b bs w) (hE : Ext w w') : Lib.IsBuilderF T e B b bs w' := by
  rcases h with ⟨hB, v, hb, ho, hn⟩ | ⟨hB, v, hb, ho, hn⟩
  · exact .inl ⟨hB, v, by rw [hE.block b (Array.getElem?_eq_some_iff.1 hb).1]; exact hb, own_ext ho hE, hn⟩
  · exact .inr ⟨hB, v, by rw [hE.block b (Array.getElem?_eq_some_iff.1 hb).1]; exact hb, own_ext ho hE, hn⟩
theorem bld_lt {T e B b : Nat} {bs : List Value} {w : World} (h : Lib.IsBuilderF T e B b bs w) : b < w.heap.size ∧ B ≤ b := by
  rcases h with ⟨hB, v, hb, ho, hn⟩ | ⟨hB, v, hb, ho, hn⟩
  · exact ⟨(Array.getElem?_eq_some_iff.1 hb).1, hB⟩
  · exact ⟨(Array.getElem?_eq_some_iff.1 hb).1, hB⟩
/-- What a write to the builder in block b comes to. -/
def Wrote (B b : Nat) (l : List UInt8) (w w' : World) : Prop := Lib.IsBuilderF 136 5 B b (Lib.byteCells l) w' ∧ Below B w w' ∧ Lib.OthersKept 5 (some b) w w'
/-- The builder in block b holds the text l; since w nothing but it and rows of bytes has turned; the blocks of bl are as they were laid. -/
structure PS (B b : Nat) (bl : List (Nat × Nat × Array Value)) (l : List UInt8) (w W : World) : Prop where
  isb : Lib.IsBuilderF 136 5 B b (Lib.byteCells l) W
  bel : Below B w W
  oth : Lib.OthersKept 5 (some b) w W
  hB : B ≤ w.heap.size
  kept : ∀ x ∈ bl, Blk W x.1 x.2.1 x.2.2 ∧ x.1 ≠ b ∧ x.2.1 ≠ 5
theorem PS.wrote {B b : Nat} {bl : List (Nat × Nat × Array Value)} {l l' : List UInt8} {w W W' : World} (h : PS B b bl l w W) (k : Wrote B b l' W W') : PS B b bl l' w W' :=
  ⟨k.1, h.bel.trans k.2.1, h.oth.trans k.2.2, h.hB, fun x hx => ⟨by
    obtain ⟨h1, h2, h3⟩ := h.kept x hx
    exact k.2.2 _ _ h1 (fun e => h2 (Option.some.inj e)) (fun c fz e => h3 (by simp only [Obj.cells.injEq] at e; exact e.2.1)), (h.kept x hx).2⟩⟩
theorem PS.ext {B b : Nat} {bl : List (Nat × Nat × Array Value)} {l : List UInt8} {w W W' : World} (h : PS B b bl l w W) (k : Ext W W') : PS B b bl l w W' :=
  ⟨bld_ext h.isb k, h.bel.trans (k.mono (Nat.le_trans h.hB h.bel.size)), h.oth.trans (oth_ext k), h.hB, fun x hx => ⟨(h.kept x hx).1.ext k, (h.kept x hx).2⟩⟩
theorem PS.add {B b : Nat} {bl : List (Nat × Nat × Array Value)} {l : List UInt8} {w W : World} (h : PS B b bl l w W) (g t : Nat) (arr : Array Value) (hg : Blk W g t arr) (h1 : g ≠ b) (h2 : t ≠ 5) : PS B b ((g, t, arr) :: bl) l w W :=
  ⟨h.isb, h.bel, h.oth, h.hB, fun x hx => by
    rcases List.mem_cons.1 hx with rfl | hx
    · exact ⟨hg, h1, h2⟩
    · exact h.kept x hx⟩
theorem PS.sub {B b : Nat} {bl bl' : List (Nat × Nat × Array Value)} {l : List UInt8} {w W : World} (h : PS B b bl l w W) (hs : ∀ x ∈ bl', x ∈ bl) : PS B b bl' l w W :=
  ⟨h.isb, h.bel, h.oth, h.hB, fun x hx => h.kept x (hs x hx)⟩
theorem PS.le {B b : Nat} {bl : List (Nat × Nat × Array Value)} {l : List UInt8} {w W : World} (h : PS B b bl l w W) : B ≤ W.heap.size := Nat.le_trans h.hB h.bel.size
/-- WriteString. -/
theorem c_WS (B b : Nat) (l : List UInt8) (s : ByteArray) (w : World) (h : Lib.IsBuilderF 136 5 B b (Lib.byteCells l) w) (hB : B ≤ w.heap.size) (hl : l.length + s.size ≤ 4000000) :
    Calls Tryz.prog 72 #[.pointer (some ⟨b, 0, none⟩), .string s] w (fun e w' => (e = .returned (.tuple #[.int .i64 s.size, .nilIface])) ∧ Wrote B b (l ++ s.data.toList) w w') := by
  refine (Tryz.Builder_WriteString_k B b _ s w h (by rw [Lib.byteCells_length]; omega) hB).mono ?_
  rintro e w' ⟨rfl, h1, h2, h3⟩
  refine ⟨rfl, ?_, h2, h3⟩
  rw [Lib.byteCells_append, ← Lib.strCells_eq]
  exact .inr h1
set_option maxRecDepth 100000 in
set_option maxHeartbeats 2000000 in
theorem d_WS (B b : Nat) (l : List UInt8) (s : ByteArray) (u : FrameMode) (w : World) (h : Lib.IsBuilderF 136 5 B b (Lib.byteCells l) w) (hB : B ≤ w.heap.size) (hl : l.length + s.size ≤ 4000000) :
    CallsD Tryz.prog 72 #[.pointer (some ⟨b, 0, none⟩), .string s] u w (fun e u' w' => u' = u ∧ e = .returned (.tuple #[.int .i64 s.size, .nilIface]) ∧ Wrote B b (l ++ s.data.toList) w w') := by
  obtain ⟨i0, hi, hz0, hz1, hz2⟩ := info_parts u8_info
  have hcc := Lib.hid (Any.Builder_copyCheck_k { Tryz.lays156 with } Tryz.Builder_Extra_156.toX72 B b (Lib.byteCells l) w h)
  go_enter_d Tryz.func72, Tryz.ntmps72
  go_wp2_with fail
  refine hcc.out.mono ?_
  rintro e w1 ⟨rfl, ⟨hBb, v, hb, hown, hne⟩, hbel, hoth⟩
  have c1 : w1.cell? ⟨b, 1, none⟩ = some v := by rw [Lib.cell_of_heap hb]; rfl
  go_wp2_with (at_builtin; refine Lib.wpList_append_own_stringF _ rfl _ _ 27 9 rfl B 5 i0 Tryz.underlying27 Tryz.underlying9 hi hz0 hz1 hz2 _ _ _ rfl hown s rfl ?c3 ?c4 ?c5 ?_)
  case c3 => rw [Lib.byteCells_length]; unfold maxLen; omega
  case c4 => rw [Lib.byteCells_length]; omega
  case c5 => have := hbel.size; omega
  intro v' w2 hown' hgrow _
  have hlt : b < w1.heap.size := (Array.getElem?_eq_some_iff.1 hb).1
  have hb2 : w2.heap[b]? = some (.cells #[.pointer (some ⟨b, 0, none⟩), v] 136 (0, 0)) := by
    rw [hgrow.block b hlt (fun e => hne e.symm)]
    exact hb
  have d1 : w2.cell? ⟨b, 1, none⟩ = some v := by rw [Lib.cell_of_heap hb2]; rfl
  have f1 : w2.frozen? ⟨b, 1, none⟩ = false := Lib.frozen_of_heap hb2 1
  obtain ⟨ao, n', cap, rfl⟩ : ∃ ao n' cap, v' = .slice ao n' cap := by
    rcases hown'.2 with ⟨hv, _⟩ | ⟨g, cap, cur, fz, hv, _⟩
    · exact ⟨_, _, _, hv⟩
    · exact ⟨_, _, _, hv⟩
  have HF : Hid (Wrote B b (l ++ s.data.toList) w (w2.setCell ⟨b, 1, none⟩ (.slice ao n' cap))) := by
    refine ⟨?_, (hbel.grown hgrow (by have := hbel.size; omega) (fun k hk => (hown.lt k hk).1)).setCell (p := ⟨b, 1, none⟩) hBb _, (hoth.grown hgrow (Lib.ownsRowF_kind hown)).setCell ⟨b, 1, none⟩ rfl _⟩
    rw [Lib.byteCells_append, ← Lib.strCells_eq]
    exact .inr (Lib.BuilderAtF.put (T := 136) (e := 5) hBb hb2 (bs' := Lib.byteCells l ++ Lib.strCells s) (by simpa [Lib.strCells_length] using hown') (by decide))
  clear hown hown' hgrow hoth hbel hcc h
  go_wp2
  refine bodyPost_ret (v := .tuple #[.int .i64 s.size, .nilIface]) (by simp [results, Tryz.results72, go_sem]) rfl ?_
  exact ⟨rfl, HF.out⟩
end Go.Proofs.YtolbngbedncemaaGreatDoor
