/- The laws' copies of nodes and trees: what they make lies in new memory and is the same model; no condition but bounds. PRINTED by gen_to.py of this repo. -/
import Derived.Test.YtolbngbedncemaaGreatDoorRep
import Derived.Test.YtolbngbedncemaaGreatDoorSz
import Derived.Test.YtolbngbedncemaaGreatDoorSpecCallsA
import Derived.Test.YtolbngbedncemaaGreatDoorUnitB
import Derived.IntWalk
import Derived.Laws.Cells
import Derived.Laws.BytesString
set_option linter.unusedVariables false
set_option linter.unusedSimpArgs false
namespace Go.Proofs.YtolbngbedncemaaGreatDoor
open Go Go.RowKit Md

/-- w' is w with new blocks, none of them frozen. -/
def NT (B : Nat) (w : World) : Prop := ∀ b, B ≤ b → ∀ c t fz, w.heap[b]? = some (.cells c t fz) → fz = (0, 0)
structure TE (w w' : World) : Prop where
  e : Ext w w'
  nt : NT w.heap.size w'
theorem TE.refl (w : World) : TE w w := ⟨Ext.refl w, fun b hb c t fz h => by have := (Array.getElem?_eq_some_iff.1 h).1; omega⟩
theorem TE.trans {a b c : World} (h : TE a b) (k : TE b c) : TE a c := ⟨h.e.trans k.e, fun x hx u t fz e => by
  by_cases hl : x < b.heap.size
  · rw [k.e.block x hl] at e
    exact h.nt x hx u t fz e
  · exact k.nt x (by omega) u t fz e⟩
theorem TE.alloc {a b : World} (h : TE a b) (cs : Array Value) (t : Nat) : TE a (b.alloc (.cells cs t)) := ⟨h.e.alloc _, fun x hx u t' fz e => by
  by_cases hl : x < b.heap.size
  · rw [Below.heap_alloc _ _ _ hl] at e
    exact h.nt x hx u t' fz e
  · have hx2 := (Array.getElem?_eq_some_iff.1 e).1
    obtain rfl : x = b.heap.size := by simp at hx2; omega
    rw [heap_alloc_new] at e
    cases e
    rfl⟩
theorem TE.setCell {a b : World} (h : TE a b) {p : Addr} (hp : a.heap.size ≤ p.block) (v : Value) : TE a (b.setCell p v) := ⟨Below.setCell h.e hp v, fun x hx u t fz e => by
  by_cases hl : x = p.block
  · subst hl
    simp only [World.setCell, Array.getElem?_modify] at e
    rw [if_pos trivial] at e
    cases ho : b.heap[p.block]? with
    | none => rw [ho] at e; cases e
    | some o =>
      rw [ho] at e
      cases o with
      | cells c t' fz' =>
        simp only [Option.map_some, Option.some.injEq, Obj.cells.injEq] at e
        obtain ⟨_, _, rfl⟩ := e
        exact h.nt _ hx c t' _ ho
      | _ => simp at e
  · rw [Below.heap_setCell _ _ _ _ hl] at e
    exact h.nt x hx u t fz e⟩

/-- A made struct value: its cells, as C says, its blocks new. -/
def MadeAgg {α : Type} (C : Foot → World → List Value → α → Prop) (x : α) (w : World) (e : Ending) (w' : World) : Prop :=
  ∃ cs : List Value, e = .returned (.agg cs.toArray) ∧ C (New w) w' cs x ∧ TE w w'
def MadeSl {α : Type} (sz : Nat) (C : Foot → World → List Value → α → Prop) (xs : List α) (w : World) (e : Ending) (w' : World) : Prop :=
  ∃ v, e = .returned v ∧ Sl (New w) w' sz (C (New w)) v xs ∧ TE w w'


theorem c_toNode (x : PNode) (w : World) (i1 : I64 x.kind) (i2 : I64 x.val) (i3 : x.name.size ≤ maxLen) :
    Calls Tryz.prog 214 #[.agg #[.int .i64 x.kind, .int .i64 x.val, .string x.name]] w (MadeAgg (fun _ => CNode) x w) := by
  go_enter Tryz.func214, Tryz.ntmps214
  go_wp2
  refine bodyPost_ret (v := .agg #[.int .i64 x.kind, .int .i64 x.val, .string x.name]) (by simp [results, Tryz.results214, go_sem]) rfl ?_
  exact ⟨[.int .i64 x.kind, .int .i64 x.val, .string x.name], rfl, ⟨rfl, i1, i2, i3⟩, (((TE.refl _).alloc _ _).alloc _ _).alloc _ _⟩


theorem info_Node : (Tryz.prog.info? 56).map (fun i => (i.zero, i.size, i.bytes)) = some (some (.agg #[.int .i64 0, .int .i64 0, .string ByteArray.empty]), 3, 32) := by kernel_rfl
theorem c_toNodeS (K : Foot) (v : Value) (l : List PNode) (w : World) (hv : SlNode K w v l) (hl : l.length ≤ 1048576) :
    Calls Tryz.prog 189 #[v] w (MadeSl 3 (fun _ => CNode) l w) := by
  obtain ⟨a, len, cap, rfl, Hlen, hlc, hcm, hel⟩ := hv.op
  have hln : len ≤ 1048576 := by have := Hlen.out; omega
  clear hv hl
  obtain ⟨i0, hi, hz0, hz1, hz2⟩ := info_parts info_Node
  have hmk := fun (w : World) => run_make (P := Tryz.prog) w 52 56 i0 _ Tryz.underlying52 hi hz0 .i64 .i64 len len (by omega) (by omega) (by rw [hz2]; omega) (by omega)
  rw [hz1] at hmk
  simp only [Int.toNat_natCast] at hmk
  go_enter Tryz.func189, Tryz.ntmps189
  go_wp2
  clear hmk
  go_loopw [4] (fun i wr => ∃ k : Nat, k ≤ len ∧ i = .int .i64 k ∧ TE w wr ∧ ∃ arr, Blk wr w.heap.size 56 arr ∧ Hid (arr.size = len * 3) ∧ Hid (Filled wr 3 CNode l k arr)) (fun i _ => len - (intOf i).toNat)
  case atStart => exact ⟨0, Nat.zero_le _, rfl, (TE.refl w).alloc _ _, _, Blk.alloc _ _ _, size_madeCells _ _, Filled.zero _ _ _ _ _⟩
  case round =>
    obtain ⟨k, hk, rfl, tE, arr, hB, Hsz, Harr⟩ := hrel
    have hE := tE.e
    by_cases hlt : k < len
    · obtain ⟨b, o, rfl, _, hel⟩ := hel (by omega)
      obtain ⟨x, cs, hx, _, hC, hcs⟩ := hel k hlt
      obtain ⟨rfl, i1, i2, i3⟩ := hC
      have c0 := hE.cell (hcs.z rfl)
      have c1 := hE.cell (hcs 1 _ rfl)
      have c2 := hE.cell (hcs 2 _ rfl)
      have Hx := Lib.hid hx
      clear hel hcs hx
      have g0 : (0 : Int) ≤ (k : Int) := by omega
      have g1 : (k : Int) < (len : Int) := by omega
      go_wp2_with fail
      refine (c_toNode x _ i1 i2 i3).mono ?_
      rintro e w1 ⟨cs, rfl, hC, tE1⟩
      have hE1 := tE1.e
      have hEx := hE.trans hE1
      have tEx := tE.trans tE1
      have hB1 := hB.ext hE1
      obtain ⟨rfl, _⟩ := hC
      obtain ⟨y0, d0⟩ := hB1.some (k * 3) (by have := Hsz.out; omega)
      have f0 := hB1.frozen (k * 3)
      obtain ⟨y1, d1⟩ := hB1.some (k * 3 + 1) (by have := Hsz.out; omega)
      have f1 := hB1.frozen (k * 3 + 1)
      obtain ⟨y2, d2⟩ := hB1.some (k * 3 + 2) (by have := Hsz.out; omega)
      have f2 := hB1.frozen (k * 3 + 2)
      go_wp2
      go_roundw
      case rel => exact ⟨k + 1, by omega, by go_num, TE.setCell (TE.setCell (TE.setCell (tEx) (p := ⟨w.heap.size, k * 3, none⟩) (Nat.le_refl _) (.int .i64 x.kind)) (p := ⟨w.heap.size, k * 3 + 1, none⟩) (Nat.le_refl _) (.int .i64 x.val)) (p := ⟨w.heap.size, k * 3 + 2, none⟩) (Nat.le_refl _) (.string x.name), setCs arr (k * 3) [.int .i64 x.kind, .int .i64 x.val, .string x.name], ((hB1.set (k * 3) (.int .i64 x.kind)).set (k * 3 + 1) (.int .i64 x.val)).set (k * 3 + 2) (.string x.name), Lib.hid (by rw [setCs_size]; exact Hsz.out), Filled.snoc Harr Hx rfl ⟨rfl, i1, i2, i3⟩ (fun _ _ h => h.any) Hsz hlt⟩
      case measure => simp [intOf]; omega
    · go_wp2
      go_ret
      obtain rfl : k = len := by omega
      exact ⟨_, rfl, Filled.sl Harr Hlen hB (Nat.le_refl _) (by omega), tE⟩


theorem c_toGlobal (x : PGlob) (w : World) (i1 : I64 x.size) (i2 : x.name.size ≤ maxLen) :
    Calls Tryz.prog 62 #[.agg #[.string x.name, .int .i64 x.size]] w (MadeAgg (fun _ => CGlob) x w) := by
  go_enter Tryz.func62, Tryz.ntmps62
  go_wp2
  refine bodyPost_ret (v := .agg #[.string x.name, .int .i64 x.size]) (by simp [results, Tryz.results62, go_sem]) rfl ?_
  exact ⟨[.string x.name, .int .i64 x.size], rfl, ⟨rfl, i1, i2⟩, (((TE.refl _).alloc _ _).alloc _ _).alloc _ _⟩


theorem info_Global : (Tryz.prog.info? 60).map (fun i => (i.zero, i.size, i.bytes)) = some (some (.agg #[.string ByteArray.empty, .int .i64 0]), 2, 24) := by kernel_rfl
theorem c_toGlobalS (K : Foot) (v : Value) (l : List PGlob) (w : World) (hv : SlGlob K w v l) (hl : l.length ≤ 1048576) :
    Calls Tryz.prog 32 #[v] w (MadeSl 2 (fun _ => CGlob) l w) := by
  obtain ⟨a, len, cap, rfl, Hlen, hlc, hcm, hel⟩ := hv.op
  have hln : len ≤ 1048576 := by have := Hlen.out; omega
  clear hv hl
  obtain ⟨i0, hi, hz0, hz1, hz2⟩ := info_parts info_Global
  have hmk := fun (w : World) => run_make (P := Tryz.prog) w 29 60 i0 _ Tryz.underlying29 hi hz0 .i64 .i64 len len (by omega) (by omega) (by rw [hz2]; omega) (by omega)
  rw [hz1] at hmk
  simp only [Int.toNat_natCast] at hmk
  go_enter Tryz.func32, Tryz.ntmps32
  go_wp2
  clear hmk
  go_loopw [4] (fun i wr => ∃ k : Nat, k ≤ len ∧ i = .int .i64 k ∧ TE w wr ∧ ∃ arr, Blk wr w.heap.size 60 arr ∧ Hid (arr.size = len * 2) ∧ Hid (Filled wr 2 CGlob l k arr)) (fun i _ => len - (intOf i).toNat)
  case atStart => exact ⟨0, Nat.zero_le _, rfl, (TE.refl w).alloc _ _, _, Blk.alloc _ _ _, size_madeCells _ _, Filled.zero _ _ _ _ _⟩
  case round =>
    obtain ⟨k, hk, rfl, tE, arr, hB, Hsz, Harr⟩ := hrel
    have hE := tE.e
    by_cases hlt : k < len
    · obtain ⟨b, o, rfl, _, hel⟩ := hel (by omega)
      obtain ⟨x, cs, hx, _, hC, hcs⟩ := hel k hlt
      obtain ⟨rfl, i1, i2⟩ := hC
      have c0 := hE.cell (hcs.z rfl)
      have c1 := hE.cell (hcs 1 _ rfl)
      have Hx := Lib.hid hx
      clear hel hcs hx
      have g0 : (0 : Int) ≤ (k : Int) := by omega
      have g1 : (k : Int) < (len : Int) := by omega
      go_wp2_with fail
      refine (c_toGlobal x _ i1 i2).mono ?_
      rintro e w1 ⟨cs, rfl, hC, tE1⟩
      have hE1 := tE1.e
      have hEx := hE.trans hE1
      have tEx := tE.trans tE1
      have hB1 := hB.ext hE1
      obtain ⟨rfl, _⟩ := hC
      obtain ⟨y0, d0⟩ := hB1.some (k * 2) (by have := Hsz.out; omega)
      have f0 := hB1.frozen (k * 2)
      obtain ⟨y1, d1⟩ := hB1.some (k * 2 + 1) (by have := Hsz.out; omega)
      have f1 := hB1.frozen (k * 2 + 1)
      go_wp2
      go_roundw
      case rel => exact ⟨k + 1, by omega, by go_num, TE.setCell (TE.setCell (tEx) (p := ⟨w.heap.size, k * 2, none⟩) (Nat.le_refl _) (.string x.name)) (p := ⟨w.heap.size, k * 2 + 1, none⟩) (Nat.le_refl _) (.int .i64 x.size), setCs arr (k * 2) [.string x.name, .int .i64 x.size], (hB1.set (k * 2) (.string x.name)).set (k * 2 + 1) (.int .i64 x.size), Lib.hid (by rw [setCs_size]; exact Hsz.out), Filled.snoc Harr Hx rfl ⟨rfl, i1, i2⟩ (fun _ _ h => h.any) Hsz hlt⟩
      case measure => simp [intOf]; omega
    · go_wp2
      go_ret
      obtain rfl : k = len := by omega
      exact ⟨_, rfl, Filled.sl Harr Hlen hB (Nat.le_refl _) (by omega), tE⟩


theorem info_String : (Tryz.prog.info? 9).map (fun i => (i.zero, i.size, i.bytes)) = some (some (.string ByteArray.empty), 1, 16) := by kernel_rfl
theorem c_toStringS (K : Foot) (v : Value) (l : List ByteArray) (w : World) (hv : SlStr K w v l) (hl : l.length ≤ 1048576) :
    Calls Tryz.prog 112 #[v] w (MadeSl 1 (fun _ => CStr) l w) := by
  obtain ⟨a, len, cap, rfl, Hlen, hlc, hcm, hel⟩ := hv.op
  have hln : len ≤ 1048576 := by have := Hlen.out; omega
  clear hv hl
  obtain ⟨i0, hi, hz0, hz1, hz2⟩ := info_parts info_String
  have hmk := fun (w : World) => run_make (P := Tryz.prog) w 48 9 i0 _ Tryz.underlying48 hi hz0 .i64 .i64 len len (by omega) (by omega) (by rw [hz2]; omega) (by omega)
  rw [hz1] at hmk
  simp only [Int.toNat_natCast, Nat.mul_one] at hmk
  go_enter Tryz.func112, Tryz.ntmps112
  go_wp2
  clear hmk
  go_loopw [4] (fun i wr => ∃ k : Nat, k ≤ len ∧ i = .int .i64 k ∧ TE w wr ∧ ∃ arr, Blk wr w.heap.size 9 arr ∧ Hid (arr.size = len * 1) ∧ Hid (Filled wr 1 CStr l k arr)) (fun i _ => len - (intOf i).toNat)
  case atStart => exact ⟨0, Nat.zero_le _, rfl, (TE.refl w).alloc _ _, _, Blk.alloc _ _ _, Lib.hid (by rw [size_madeCells, Nat.mul_one]), Filled.zero _ _ _ _ _⟩
  case round =>
    obtain ⟨k, hk, rfl, tE, arr, hB, Hsz, Harr⟩ := hrel
    have hE := tE.e
    by_cases hlt : k < len
    · obtain ⟨b, o, rfl, _, hel⟩ := hel (by omega)
      obtain ⟨x, cs, hx, _, hC, hcs⟩ := hel k hlt
      obtain ⟨rfl, i1⟩ := hC
      have c0 := hE.cell (hcs.z rfl)
      rw [Nat.mul_one] at c0
      have Hx := Lib.hid hx
      clear hel hcs hx
      have g0 : (0 : Int) ≤ (k : Int) := by omega
      have g1 : (k : Int) < (len : Int) := by omega
      obtain ⟨y0, d0⟩ := hB.some (k) (by have := Hsz.out; omega)
      have f0 := hB.frozen (k)
      go_wp2
      go_roundw
      case rel => exact ⟨k + 1, by omega, by go_num, TE.setCell (tE) (p := ⟨w.heap.size, k, none⟩) (Nat.le_refl _) (.string x), setCs arr (k * 1) [.string x], by rw [Nat.mul_one]; exact hB.set (k) (.string x), Lib.hid (by rw [setCs_size]; exact Hsz.out), Filled.snoc Harr Hx rfl ⟨rfl, i1⟩ (fun _ _ h => h.any) Hsz hlt⟩
      case measure => simp [intOf]; omega
    · go_wp2
      go_ret
      obtain rfl : k = len := by omega
      exact ⟨_, rfl, Filled.sl Harr Hlen hB (Nat.le_refl _) (by omega), tE⟩


set_option maxHeartbeats 1600000 in
theorem c_toStmt (K : Foot) (x : PStmt) (v0 v1 : Value) (w : World) (h0 : SlNode K w v0 x.e) (h1 : SlNode K w v1 x.f) (b0 : x.e.length ≤ 1048576) (b1 : x.f.length ≤ 1048576) (i1 : I64 x.kind) (i2 : I64 x.thn) (i3 : I64 x.els) (i4 : x.name.size ≤ maxLen) :
    Calls Tryz.prog 153 #[.agg #[.int .i64 x.kind, .string x.name, v0, v1, .int .i64 x.thn, .int .i64 x.els]] w (MadeAgg CStmt x w) := by
  obtain ⟨s2, hs2⟩ : ∃ s2, s2 = w.heap.size + 1 + 1 := ⟨_, rfl⟩
  obtain ⟨Q, hQ⟩ : ∃ Q : Foot, Q = fun b => s2 < b := ⟨_, rfl⟩
  have Hs2 := Lib.hid hs2
  have HQ := Lib.hid hQ
  clear hs2 hQ
  have QN : ∀ b, Q b → New w b := fun b h => by rw [HQ.out] at h; have := Hs2.out; show w.heap.size ≤ b; omega
  have Q2 : ∀ b, Q b → b ≠ w.heap.size + 1 + 1 := fun b h => by rw [HQ.out] at h; have := Hs2.out; omega
  have Q1 : ∀ b, Q b → b ≠ w.heap.size + 1 := fun b h => by rw [HQ.out] at h; have := Hs2.out; omega
  go_enter Tryz.func153, Tryz.ntmps153
  go_wp2_with fail
  refine (c_toNodeS K v0 _ _ (h0.ext ((((Ext.refl _).alloc _).alloc _).alloc _) (fun _ _ h => h.any)) b0).mono ?_
  rintro e w1 ⟨u0, rfl, m0, tX1⟩
  have hX1 := tX1.e
  obtain ⟨p0, p1, p2⟩ := Blk.alloc3 w 213 54 54 #[.int .i64 x.kind, .string x.name, v0, v1, .int .i64 x.thn, .int .i64 x.els] #[.int .i64 0, .string ByteArray.empty, .slice none 0 0, .slice none 0 0, .int .i64 0, .int .i64 0] #[.int .i64 x.kind, .string x.name, .slice none 0 0, .slice none 0 0, .int .i64 0, .int .i64 0]
  have tE1 : TE w w1 := ((((TE.refl w).alloc _ _).alloc _ _).alloc _ _).trans tX1
  have hE1 := tE1.e
  have p0 := p0.ext hX1
  have p1 := p1.ext hX1
  have p2 := p2.ext hX1
  have hs1 : w.heap.size + 1 + 1 < w1.heap.size := p2.lt
  have L1 : w.heap.size ≤ w.heap.size + 1 := Nat.le_succ _
  have L2 : w.heap.size ≤ w.heap.size + 1 + 1 := Nat.le_succ_of_le L1
  have m0 : Sl Q w1 3 CNode u0 x.e := m0.keep (Keep.refl _ w1) (fun _ _ _ h => h.any) (fun b hb => by
    have hb : (((w.alloc _).alloc _).alloc _).heap.size ≤ b := hb
    simp at hb
    rw [HQ.out]
    have := Hs2.out
    show s2 < b
    omega)
  obtain ⟨a0, n0, z0, rfl⟩ := m0.shape
  have q0_0 : w1.cell? ⟨w.heap.size, 0, none⟩ = some (.int .i64 x.kind) := p0.cell 0
  have q0_1 : w1.cell? ⟨w.heap.size, 1, none⟩ = some (.string x.name) := p0.cell 1
  have q0_2 : w1.cell? ⟨w.heap.size, 2, none⟩ = some (v0) := p0.cell 2
  have q0_3 : w1.cell? ⟨w.heap.size, 3, none⟩ = some (v1) := p0.cell 3
  have q0_4 : w1.cell? ⟨w.heap.size, 4, none⟩ = some (.int .i64 x.thn) := p0.cell 4
  have q0_5 : w1.cell? ⟨w.heap.size, 5, none⟩ = some (.int .i64 x.els) := p0.cell 5
  have q2 : w1.cell? ⟨w.heap.size + 1 + 1, 2, none⟩ = some (.slice none 0 0) := p2.cell 2
  have f2 := p2.frozen 2
  go_wp2_with fail
  have tE1s := TE.setCell tE1 (p := ⟨w.heap.size + 1 + 1, 2, none⟩) (by show w.heap.size ≤ w.heap.size + 1 + 1; omega) (.slice a0 n0 z0)
  have hE1s := tE1s.e
  refine (c_toNodeS K v1 _ _ (h1.ext hE1s (fun _ _ h => h.any)) b1).mono ?_
  rintro e w2 ⟨u1, rfl, m1, tX2⟩
  have hX2 := tX2.e
  have tE2 := TE.trans tE1s tX2
  have hE2 := tE2.e
  have NW : ∀ b, New (w1.setCell ⟨w.heap.size + 1 + 1, 2, none⟩ (.slice a0 n0 z0)) b → Q b := fun b hb => by
    have hb : (w1.setCell _ _).heap.size ≤ b := hb
    rw [World.size_setCell] at hb
    rw [HQ.out]
    have := Hs2.out
    show s2 < b
    omega
  have m1 : Sl Q w2 3 CNode u1 x.f := m1.keep (Keep.refl _ w2) (fun _ _ _ h => h.any) NW
  obtain ⟨a1, n1, z1, rfl⟩ := m1.shape
  have m0 := m0.keep (C' := CNode) (((Keep.refl Q w1).setCell (a := ⟨w.heap.size + 1 + 1, 2, none⟩) Q2 (.slice a0 n0 z0)).trans (hX2.keep _) (by rw [World.size_setCell]; omega)) (fun _ _ _ h => h.any) (fun b h => h)
  have p0 := (p0.setOther (a := ⟨w.heap.size + 1 + 1, 2, none⟩) (by show w.heap.size ≠ w.heap.size + 1 + 1; omega) (.slice a0 n0 z0)).ext hX2
  have p1 := (p1.setOther (a := ⟨w.heap.size + 1 + 1, 2, none⟩) (by show w.heap.size + 1 ≠ w.heap.size + 1 + 1; omega) (.slice a0 n0 z0)).ext hX2
  have p2 := (p2.set 2 (.slice a0 n0 z0)).ext hX2
  clear q2 f2 q0_0
  clear q0_1 q0_2 q0_3 q0_4 q0_5
  have q0_0 : w2.cell? ⟨w.heap.size, 0, none⟩ = some (.int .i64 x.kind) := p0.cell 0
  have q1_0 : w2.cell? ⟨w.heap.size + 1, 0, none⟩ = some (.int .i64 0) := p1.cell 0
  have g1_0 := p1.frozen 0
  have q2_0 : w2.cell? ⟨w.heap.size + 1 + 1, 0, none⟩ = some (.int .i64 x.kind) := p2.cell 0
  have g2_0 := p2.frozen 0
  have q0_1 : w2.cell? ⟨w.heap.size, 1, none⟩ = some (.string x.name) := p0.cell 1
  have q1_1 : w2.cell? ⟨w.heap.size + 1, 1, none⟩ = some (.string ByteArray.empty) := p1.cell 1
  have g1_1 := p1.frozen 1
  have q2_1 : w2.cell? ⟨w.heap.size + 1 + 1, 1, none⟩ = some (.string x.name) := p2.cell 1
  have g2_1 := p2.frozen 1
  have q0_2 : w2.cell? ⟨w.heap.size, 2, none⟩ = some (v0) := p0.cell 2
  have q1_2 : w2.cell? ⟨w.heap.size + 1, 2, none⟩ = some (.slice none 0 0) := p1.cell 2
  have g1_2 := p1.frozen 2
  have q2_2 : w2.cell? ⟨w.heap.size + 1 + 1, 2, none⟩ = some (.slice a0 n0 z0) := p2.cell 2
  have g2_2 := p2.frozen 2
  have q0_3 : w2.cell? ⟨w.heap.size, 3, none⟩ = some (v1) := p0.cell 3
  have q1_3 : w2.cell? ⟨w.heap.size + 1, 3, none⟩ = some (.slice none 0 0) := p1.cell 3
  have g1_3 := p1.frozen 3
  have q2_3 : w2.cell? ⟨w.heap.size + 1 + 1, 3, none⟩ = some (.slice none 0 0) := p2.cell 3
  have g2_3 := p2.frozen 3
  have q0_4 : w2.cell? ⟨w.heap.size, 4, none⟩ = some (.int .i64 x.thn) := p0.cell 4
  have q1_4 : w2.cell? ⟨w.heap.size + 1, 4, none⟩ = some (.int .i64 0) := p1.cell 4
  have g1_4 := p1.frozen 4
  have q2_4 : w2.cell? ⟨w.heap.size + 1 + 1, 4, none⟩ = some (.int .i64 0) := p2.cell 4
  have g2_4 := p2.frozen 4
  have q0_5 : w2.cell? ⟨w.heap.size, 5, none⟩ = some (.int .i64 x.els) := p0.cell 5
  have q1_5 : w2.cell? ⟨w.heap.size + 1, 5, none⟩ = some (.int .i64 0) := p1.cell 5
  have g1_5 := p1.frozen 5
  have q2_5 : w2.cell? ⟨w.heap.size + 1 + 1, 5, none⟩ = some (.int .i64 0) := p2.cell 5
  have g2_5 := p2.frozen 5
  go_wp2
  refine bodyPost_ret (v := .agg #[.int .i64 x.kind, .string x.name, .slice a0 n0 z0, .slice a1 n1 z1, .int .i64 x.thn, .int .i64 x.els]) (by simp [results, Tryz.results153, go_sem, q1_0, q1_1, q1_2, q1_3, q1_4, q1_5]) rfl ?_
  have tE3 := (TE.setCell (TE.setCell (TE.setCell (TE.setCell (TE.setCell (TE.setCell (TE.setCell (TE.setCell (TE.setCell tE2 (p := ⟨w.heap.size + 1 + 1, 3, none⟩) L2 (.slice a1 n1 z1)) (p := ⟨w.heap.size + 1 + 1, 4, none⟩) L2 (.int .i64 x.thn)) (p := ⟨w.heap.size + 1 + 1, 5, none⟩) L2 (.int .i64 x.els)) (p := ⟨w.heap.size + 1, 0, none⟩) L1 (.int .i64 x.kind)) (p := ⟨w.heap.size + 1, 1, none⟩) L1 (.string x.name)) (p := ⟨w.heap.size + 1, 2, none⟩) L1 (.slice a0 n0 z0)) (p := ⟨w.heap.size + 1, 3, none⟩) L1 (.slice a1 n1 z1)) (p := ⟨w.heap.size + 1, 4, none⟩) L1 (.int .i64 x.thn)) (p := ⟨w.heap.size + 1, 5, none⟩) L1 (.int .i64 x.els))
  have Kq := ((((((((((Keep.refl Q w2).setCell (a := ⟨w.heap.size + 1 + 1, 3, none⟩) Q2 (.slice a1 n1 z1)).setCell (a := ⟨w.heap.size + 1 + 1, 4, none⟩) Q2 (.int .i64 x.thn)).setCell (a := ⟨w.heap.size + 1 + 1, 5, none⟩) Q2 (.int .i64 x.els)).setCell (a := ⟨w.heap.size + 1, 0, none⟩) Q1 (.int .i64 x.kind)).setCell (a := ⟨w.heap.size + 1, 1, none⟩) Q1 (.string x.name)).setCell (a := ⟨w.heap.size + 1, 2, none⟩) Q1 (.slice a0 n0 z0)).setCell (a := ⟨w.heap.size + 1, 3, none⟩) Q1 (.slice a1 n1 z1)).setCell (a := ⟨w.heap.size + 1, 4, none⟩) Q1 (.int .i64 x.thn)).setCell (a := ⟨w.heap.size + 1, 5, none⟩) Q1 (.int .i64 x.els))
  have m0 := m0.keep (C' := CNode) Kq (fun _ _ _ h => h.any) QN
  have m1 := m1.keep (C' := CNode) Kq (fun _ _ _ h => h.any) QN
  exact ⟨[.int .i64 x.kind, .string x.name, .slice a0 n0 z0, .slice a1 n1 z1, .int .i64 x.thn, .int .i64 x.els], rfl, ⟨_, _, rfl, m0, m1, i1, i2, i3, i4⟩, tE3⟩


theorem info_Stmt : (Tryz.prog.info? 54).map (fun i => (i.zero, i.size, i.bytes)) = some (some (.agg #[.int .i64 0, .string ByteArray.empty, .slice none 0 0, .slice none 0 0, .int .i64 0, .int .i64 0]), 6, 88) := by kernel_rfl
theorem c_toStmtS (K : Foot) (v : Value) (l : List PStmt) (w : World) (hv : SlStmt K w v l) (hl : l.length ≤ 1048576 ∧ ∀ x ∈ l, x.e.length ≤ 1048576 ∧ x.f.length ≤ 1048576) :
    Calls Tryz.prog 113 #[v] w (MadeSl 6 CStmt l w) := by
  obtain ⟨a, len, cap, rfl, Hlen, hlc, hcm, hel⟩ := hv.op
  have hln : len ≤ 1048576 := by have := Hlen.out; omega
  have Hbd := Lib.hid hl.2
  clear hv hl
  obtain ⟨i0, hi, hz0, hz1, hz2⟩ := info_parts info_Stmt
  have hmk := fun (w : World) => run_make (P := Tryz.prog) w 49 54 i0 _ Tryz.underlying49 hi hz0 .i64 .i64 len len (by omega) (by omega) (by rw [hz2]; omega) (by omega)
  rw [hz1] at hmk
  simp only [Int.toNat_natCast] at hmk
  go_enter Tryz.func113, Tryz.ntmps113
  go_wp2
  clear hmk
  go_loopw [4] (fun i wr => ∃ k : Nat, k ≤ len ∧ i = .int .i64 k ∧ TE w wr ∧ ∃ arr, Blk wr w.heap.size 54 arr ∧ Hid (arr.size = len * 6) ∧ Hid (Filled wr 6 (CStmt (fun b => w.heap.size < b)) l k arr)) (fun i _ => len - (intOf i).toNat)
  case atStart => exact ⟨0, Nat.zero_le _, rfl, (TE.refl w).alloc _ _, _, Blk.alloc _ _ _, size_madeCells _ _, Filled.zero _ _ _ _ _⟩
  case round =>
    obtain ⟨k, hk, rfl, tE, arr, hB, Hsz, Harr⟩ := hrel
    have hE := tE.e
    by_cases hlt : k < len
    · obtain ⟨b, o, rfl, _, hel⟩ := hel (by omega)
      obtain ⟨x, cs, hx, _, hC, hcs⟩ := hel k hlt
      obtain ⟨v0, v1, rfl, h0, h1, i1, i2, i3, i4⟩ := hC
      have c0 := hE.cell (hcs.z rfl)
      have c1 := hE.cell (hcs 1 _ rfl)
      have c2 := hE.cell (hcs 2 _ rfl)
      have c3 := hE.cell (hcs 3 _ rfl)
      have c4 := hE.cell (hcs 4 _ rfl)
      have c5 := hE.cell (hcs 5 _ rfl)
      have Hx := Lib.hid hx
      clear hel hcs hx
      have g0 : (0 : Int) ≤ (k : Int) := by omega
      have g1 : (k : Int) < (len : Int) := by omega
      go_wp2_with fail
      have hbd := Hbd.out x (List.mem_of_getElem? Hx.out)
      refine (c_toStmt K x v0 v1 _ (h0.ext hE (fun _ _ h => h.any)) (h1.ext hE (fun _ _ h => h.any)) hbd.1 hbd.2 i1 i2 i3 i4).mono ?_
      clear hbd
      rintro e w1 ⟨cs, rfl, hC, tE1⟩
      have hE1 := tE1.e
      have hEx := hE.trans hE1
      have tEx := tE.trans tE1
      have hB1 := hB.ext hE1
      have hlw := hB.lt
      obtain ⟨u0, u1, rfl, hC⟩ := hC
      obtain ⟨a0, n0, z0, rfl⟩ := hC.1.shape
      obtain ⟨a1, n1, z1, rfl⟩ := hC.2.1.shape
      obtain ⟨y0, d0⟩ := hB1.some (k * 6) (by have := Hsz.out; omega)
      have f0 := hB1.frozen (k * 6)
      obtain ⟨y1, d1⟩ := hB1.some (k * 6 + 1) (by have := Hsz.out; omega)
      have f1 := hB1.frozen (k * 6 + 1)
      obtain ⟨y2, d2⟩ := hB1.some (k * 6 + 2) (by have := Hsz.out; omega)
      have f2 := hB1.frozen (k * 6 + 2)
      obtain ⟨y3, d3⟩ := hB1.some (k * 6 + 3) (by have := Hsz.out; omega)
      have f3 := hB1.frozen (k * 6 + 3)
      obtain ⟨y4, d4⟩ := hB1.some (k * 6 + 4) (by have := Hsz.out; omega)
      have f4 := hB1.frozen (k * 6 + 4)
      obtain ⟨y5, d5⟩ := hB1.some (k * 6 + 5) (by have := Hsz.out; omega)
      have f5 := hB1.frozen (k * 6 + 5)
      go_wp2
      go_roundw
      case rel =>
        have NE : ∀ b, w.heap.size < b → b ≠ w.heap.size := fun b h => by omega
        have NE2 : ∀ b, New wr b → b ≠ w.heap.size := fun b h => by have h : wr.heap.size ≤ b := h; omega
        have K1 : Keep (fun b => w.heap.size < b) wr _ := ((((((hE1.keep _).setCell (a := ⟨w.heap.size, k * 6, none⟩) NE (.int .i64 x.kind)).setCell (a := ⟨w.heap.size, k * 6 + 1, none⟩) NE (.string x.name)).setCell (a := ⟨w.heap.size, k * 6 + 2, none⟩) NE (.slice a0 n0 z0)).setCell (a := ⟨w.heap.size, k * 6 + 3, none⟩) NE (.slice a1 n1 z1)).setCell (a := ⟨w.heap.size, k * 6 + 4, none⟩) NE (.int .i64 x.thn)).setCell (a := ⟨w.heap.size, k * 6 + 5, none⟩) NE (.int .i64 x.els)
        have K2 : Keep (New wr) w1 _ := ((((((Keep.refl _ _).setCell (a := ⟨w.heap.size, k * 6, none⟩) NE2 (.int .i64 x.kind)).setCell (a := ⟨w.heap.size, k * 6 + 1, none⟩) NE2 (.string x.name)).setCell (a := ⟨w.heap.size, k * 6 + 2, none⟩) NE2 (.slice a0 n0 z0)).setCell (a := ⟨w.heap.size, k * 6 + 3, none⟩) NE2 (.slice a1 n1 z1)).setCell (a := ⟨w.heap.size, k * 6 + 4, none⟩) NE2 (.int .i64 x.thn)).setCell (a := ⟨w.heap.size, k * 6 + 5, none⟩) NE2 (.int .i64 x.els)
        have Bf := (((((hB1.set (k * 6) (.int .i64 x.kind)).set (k * 6 + 1) (.string x.name)).set (k * 6 + 2) (.slice a0 n0 z0)).set (k * 6 + 3) (.slice a1 n1 z1)).set (k * 6 + 4) (.int .i64 x.thn)).set (k * 6 + 5) (.int .i64 x.els)
        have Ef := TE.setCell (TE.setCell (TE.setCell (TE.setCell (TE.setCell (TE.setCell (tEx) (p := ⟨w.heap.size, k * 6, none⟩) (Nat.le_refl _) (.int .i64 x.kind)) (p := ⟨w.heap.size, k * 6 + 1, none⟩) (Nat.le_refl _) (.string x.name)) (p := ⟨w.heap.size, k * 6 + 2, none⟩) (Nat.le_refl _) (.slice a0 n0 z0)) (p := ⟨w.heap.size, k * 6 + 3, none⟩) (Nat.le_refl _) (.slice a1 n1 z1)) (p := ⟨w.heap.size, k * 6 + 4, none⟩) (Nat.le_refl _) (.int .i64 x.thn)) (p := ⟨w.heap.size, k * 6 + 5, none⟩) (Nat.le_refl _) (.int .i64 x.els)
        have Ff := Filled.snoc (w' := _) (C := (CStmt (fun b => w.heap.size < b))) Harr Hx (cs := [.int .i64 x.kind, .string x.name, .slice a0 n0 z0, .slice a1 n1 z1, .int .i64 x.thn, .int .i64 x.els]) rfl ((show CStmt (New wr) w1 [.int .i64 x.kind, .string x.name, .slice a0 n0 z0, .slice a1 n1 z1, .int .i64 x.thn, .int .i64 x.els] x from ⟨_, _, rfl, hC⟩).keep (K' := fun b => w.heap.size < b) K2 (fun b hb => Nat.lt_of_lt_of_le hlw hb)) (fun _ _ h => h.keep K1 (fun _ h => h)) Hsz hlt
        refine ⟨k + 1, by omega, by go_num, Ef, setCs arr (k * 6) [.int .i64 x.kind, .string x.name, .slice a0 n0 z0, .slice a1 n1 z1, .int .i64 x.thn, .int .i64 x.els], by simp only [setCs, Nat.add_assoc, Nat.reduceAdd]; exact Bf, Lib.hid (by rw [setCs_size]; exact Hsz.out), Ff⟩
      case measure => simp [intOf]; omega
    · go_wp2
      go_ret
      obtain rfl : k = len := by omega
      exact ⟨_, rfl, (Filled.sl (K := New w) Harr Hlen hB (Nat.le_refl _) (by omega)).keep (Keep.refl _ _) (fun _ _ _ h => h.keep (Keep.refl _ _) (fun b hb => Nat.le_of_lt hb)) (fun _ h => h), tE⟩


set_option maxHeartbeats 1600000 in
theorem c_toFunc (K : Foot) (x : PFunc) (v0 v1 : Value) (w : World) (h0 : SlStr K w v0 x.params) (h1 : SlStmt K w v1 x.body) (b0 : x.params.length ≤ 1048576) (b1 : x.body.length ≤ 1048576 ∧ ∀ s ∈ x.body, s.e.length ≤ 1048576 ∧ s.f.length ≤ 1048576) (i1 : x.name.size ≤ maxLen) :
    Calls Tryz.prog 63 #[.agg #[.string x.name, v0, v1]] w (MadeAgg CFunc x w) := by
  obtain ⟨s2, hs2⟩ : ∃ s2, s2 = w.heap.size + 1 + 1 := ⟨_, rfl⟩
  obtain ⟨Q, hQ⟩ : ∃ Q : Foot, Q = fun b => s2 < b := ⟨_, rfl⟩
  have Hs2 := Lib.hid hs2
  have HQ := Lib.hid hQ
  clear hs2 hQ
  have QN : ∀ b, Q b → New w b := fun b h => by rw [HQ.out] at h; have := Hs2.out; show w.heap.size ≤ b; omega
  have Q2 : ∀ b, Q b → b ≠ w.heap.size + 1 + 1 := fun b h => by rw [HQ.out] at h; have := Hs2.out; omega
  have Q1 : ∀ b, Q b → b ≠ w.heap.size + 1 := fun b h => by rw [HQ.out] at h; have := Hs2.out; omega
  go_enter Tryz.func63, Tryz.ntmps63
  go_wp2_with fail
  refine (c_toStringS K v0 _ _ (h0.ext ((((Ext.refl _).alloc _).alloc _).alloc _) (fun _ _ h => h.any)) b0).mono ?_
  rintro e w1 ⟨u0, rfl, m0, tX1⟩
  have hX1 := tX1.e
  obtain ⟨p0, p1, p2⟩ := Blk.alloc3 w 124 51 51 #[.string x.name, v0, v1] #[.string ByteArray.empty, .slice none 0 0, .slice none 0 0] #[.string x.name, .slice none 0 0, .slice none 0 0]
  have tE1 : TE w w1 := ((((TE.refl w).alloc _ _).alloc _ _).alloc _ _).trans tX1
  have hE1 := tE1.e
  have p0 := p0.ext hX1
  have p1 := p1.ext hX1
  have p2 := p2.ext hX1
  have hs1 : w.heap.size + 1 + 1 < w1.heap.size := p2.lt
  have L1 : w.heap.size ≤ w.heap.size + 1 := Nat.le_succ _
  have L2 : w.heap.size ≤ w.heap.size + 1 + 1 := Nat.le_succ_of_le L1
  have m0 : Sl Q w1 1 CStr u0 x.params := m0.keep (Keep.refl _ w1) (fun _ _ _ h => h.any) (fun b hb => by
    have hb : (((w.alloc _).alloc _).alloc _).heap.size ≤ b := hb
    simp at hb
    rw [HQ.out]
    have := Hs2.out
    show s2 < b
    omega)
  obtain ⟨a0, n0, z0, rfl⟩ := m0.shape
  have q0_0 : w1.cell? ⟨w.heap.size, 0, none⟩ = some (.string x.name) := p0.cell 0
  have q0_1 : w1.cell? ⟨w.heap.size, 1, none⟩ = some (v0) := p0.cell 1
  have q0_2 : w1.cell? ⟨w.heap.size, 2, none⟩ = some (v1) := p0.cell 2
  have q2 : w1.cell? ⟨w.heap.size + 1 + 1, 1, none⟩ = some (.slice none 0 0) := p2.cell 1
  have f2 := p2.frozen 1
  go_wp2_with fail
  have tE1s := TE.setCell tE1 (p := ⟨w.heap.size + 1 + 1, 1, none⟩) (by show w.heap.size ≤ w.heap.size + 1 + 1; omega) (.slice a0 n0 z0)
  have hE1s := tE1s.e
  refine (c_toStmtS K v1 _ _ (h1.ext hE1s (fun _ _ h => h.ext hE1s)) b1).mono ?_
  rintro e w2 ⟨u1, rfl, m1, tX2⟩
  have hX2 := tX2.e
  have tE2 := TE.trans tE1s tX2
  have hE2 := tE2.e
  have NW : ∀ b, New (w1.setCell ⟨w.heap.size + 1 + 1, 1, none⟩ (.slice a0 n0 z0)) b → Q b := fun b hb => by
    have hb : (w1.setCell _ _).heap.size ≤ b := hb
    rw [World.size_setCell] at hb
    rw [HQ.out]
    have := Hs2.out
    show s2 < b
    omega
  have m1 : Sl Q w2 6 (CStmt Q) u1 x.body := m1.keep (Keep.refl _ w2) (fun _ _ _ h => h.keep (Keep.refl _ _) NW) NW
  obtain ⟨a1, n1, z1, rfl⟩ := m1.shape
  have m0 := m0.keep (C' := CStr) (((Keep.refl Q w1).setCell (a := ⟨w.heap.size + 1 + 1, 1, none⟩) Q2 (.slice a0 n0 z0)).trans (hX2.keep _) (by rw [World.size_setCell]; omega)) (fun _ _ _ h => h.any) (fun b h => h)
  have p0 := (p0.setOther (a := ⟨w.heap.size + 1 + 1, 1, none⟩) (by show w.heap.size ≠ w.heap.size + 1 + 1; omega) (.slice a0 n0 z0)).ext hX2
  have p1 := (p1.setOther (a := ⟨w.heap.size + 1 + 1, 1, none⟩) (by show w.heap.size + 1 ≠ w.heap.size + 1 + 1; omega) (.slice a0 n0 z0)).ext hX2
  have p2 := (p2.set 1 (.slice a0 n0 z0)).ext hX2
  clear q2 f2 q0_0
  clear q0_1 q0_2
  have q0_0 : w2.cell? ⟨w.heap.size, 0, none⟩ = some (.string x.name) := p0.cell 0
  have q1_0 : w2.cell? ⟨w.heap.size + 1, 0, none⟩ = some (.string ByteArray.empty) := p1.cell 0
  have g1_0 := p1.frozen 0
  have q2_0 : w2.cell? ⟨w.heap.size + 1 + 1, 0, none⟩ = some (.string x.name) := p2.cell 0
  have g2_0 := p2.frozen 0
  have q0_1 : w2.cell? ⟨w.heap.size, 1, none⟩ = some (v0) := p0.cell 1
  have q1_1 : w2.cell? ⟨w.heap.size + 1, 1, none⟩ = some (.slice none 0 0) := p1.cell 1
  have g1_1 := p1.frozen 1
  have q2_1 : w2.cell? ⟨w.heap.size + 1 + 1, 1, none⟩ = some (.slice a0 n0 z0) := p2.cell 1
  have g2_1 := p2.frozen 1
  have q0_2 : w2.cell? ⟨w.heap.size, 2, none⟩ = some (v1) := p0.cell 2
  have q1_2 : w2.cell? ⟨w.heap.size + 1, 2, none⟩ = some (.slice none 0 0) := p1.cell 2
  have g1_2 := p1.frozen 2
  have q2_2 : w2.cell? ⟨w.heap.size + 1 + 1, 2, none⟩ = some (.slice none 0 0) := p2.cell 2
  have g2_2 := p2.frozen 2
  go_wp2
  refine bodyPost_ret (v := .agg #[.string x.name, .slice a0 n0 z0, .slice a1 n1 z1]) (by simp [results, Tryz.results63, go_sem, q1_0, q1_1, q1_2]) rfl ?_
  have tE3 := (TE.setCell (TE.setCell (TE.setCell (TE.setCell tE2 (p := ⟨w.heap.size + 1 + 1, 2, none⟩) L2 (.slice a1 n1 z1)) (p := ⟨w.heap.size + 1, 0, none⟩) L1 (.string x.name)) (p := ⟨w.heap.size + 1, 1, none⟩) L1 (.slice a0 n0 z0)) (p := ⟨w.heap.size + 1, 2, none⟩) L1 (.slice a1 n1 z1))
  have Kq := (((((Keep.refl Q w2).setCell (a := ⟨w.heap.size + 1 + 1, 2, none⟩) Q2 (.slice a1 n1 z1)).setCell (a := ⟨w.heap.size + 1, 0, none⟩) Q1 (.string x.name)).setCell (a := ⟨w.heap.size + 1, 1, none⟩) Q1 (.slice a0 n0 z0)).setCell (a := ⟨w.heap.size + 1, 2, none⟩) Q1 (.slice a1 n1 z1))
  have m0 := m0.keep (C' := CStr) Kq (fun _ _ _ h => h.any) QN
  have m1 := m1.keep (C' := CStmt (New w)) Kq (fun _ _ _ h => h.keep Kq QN) QN
  exact ⟨[.string x.name, .slice a0 n0 z0, .slice a1 n1 z1], rfl, ⟨_, _, rfl, m0, m1, i1⟩, tE3⟩


theorem info_Func : (Tryz.prog.info? 51).map (fun i => (i.zero, i.size, i.bytes)) = some (some (.agg #[.string ByteArray.empty, .slice none 0 0, .slice none 0 0]), 3, 64) := by kernel_rfl
theorem c_toFuncS (K : Foot) (v : Value) (l : List PFunc) (w : World) (hv : SlFunc K w v l) (hl : l.length ≤ 1048576 ∧ ∀ x ∈ l, x.params.length ≤ 1048576 ∧ (x.body.length ≤ 1048576 ∧ ∀ s ∈ x.body, s.e.length ≤ 1048576 ∧ s.f.length ≤ 1048576)) :
    Calls Tryz.prog 33 #[v] w (MadeSl 3 CFunc l w) := by
  obtain ⟨a, len, cap, rfl, Hlen, hlc, hcm, hel⟩ := hv.op
  have hln : len ≤ 1048576 := by have := Hlen.out; omega
  have Hbd := Lib.hid hl.2
  clear hv hl
  obtain ⟨i0, hi, hz0, hz1, hz2⟩ := info_parts info_Func
  have hmk := fun (w : World) => run_make (P := Tryz.prog) w 30 51 i0 _ Tryz.underlying30 hi hz0 .i64 .i64 len len (by omega) (by omega) (by rw [hz2]; omega) (by omega)
  rw [hz1] at hmk
  simp only [Int.toNat_natCast] at hmk
  go_enter Tryz.func33, Tryz.ntmps33
  go_wp2
  clear hmk
  go_loopw [4] (fun i wr => ∃ k : Nat, k ≤ len ∧ i = .int .i64 k ∧ TE w wr ∧ ∃ arr, Blk wr w.heap.size 51 arr ∧ Hid (arr.size = len * 3) ∧ Hid (Filled wr 3 (CFunc (fun b => w.heap.size < b)) l k arr)) (fun i _ => len - (intOf i).toNat)
  case atStart => exact ⟨0, Nat.zero_le _, rfl, (TE.refl w).alloc _ _, _, Blk.alloc _ _ _, size_madeCells _ _, Filled.zero _ _ _ _ _⟩
  case round =>
    obtain ⟨k, hk, rfl, tE, arr, hB, Hsz, Harr⟩ := hrel
    have hE := tE.e
    by_cases hlt : k < len
    · obtain ⟨b, o, rfl, _, hel⟩ := hel (by omega)
      obtain ⟨x, cs, hx, _, hC, hcs⟩ := hel k hlt
      obtain ⟨v0, v1, rfl, h0, h1, i1⟩ := hC
      have c0 := hE.cell (hcs.z rfl)
      have c1 := hE.cell (hcs 1 _ rfl)
      have c2 := hE.cell (hcs 2 _ rfl)
      have Hx := Lib.hid hx
      clear hel hcs hx
      have g0 : (0 : Int) ≤ (k : Int) := by omega
      have g1 : (k : Int) < (len : Int) := by omega
      go_wp2_with fail
      have hbd := Hbd.out x (List.mem_of_getElem? Hx.out)
      refine (c_toFunc K x v0 v1 _ (h0.ext hE (fun _ _ h => h.any)) (h1.ext hE (fun _ _ h => h.ext hE)) hbd.1 hbd.2 i1).mono ?_
      clear hbd
      rintro e w1 ⟨cs, rfl, hC, tE1⟩
      have hE1 := tE1.e
      have hEx := hE.trans hE1
      have tEx := tE.trans tE1
      have hB1 := hB.ext hE1
      have hlw := hB.lt
      obtain ⟨u0, u1, rfl, hC⟩ := hC
      obtain ⟨a0, n0, z0, rfl⟩ := hC.1.shape
      obtain ⟨a1, n1, z1, rfl⟩ := hC.2.1.shape
      obtain ⟨y0, d0⟩ := hB1.some (k * 3) (by have := Hsz.out; omega)
      have f0 := hB1.frozen (k * 3)
      obtain ⟨y1, d1⟩ := hB1.some (k * 3 + 1) (by have := Hsz.out; omega)
      have f1 := hB1.frozen (k * 3 + 1)
      obtain ⟨y2, d2⟩ := hB1.some (k * 3 + 2) (by have := Hsz.out; omega)
      have f2 := hB1.frozen (k * 3 + 2)
      go_wp2
      go_roundw
      case rel =>
        have NE : ∀ b, w.heap.size < b → b ≠ w.heap.size := fun b h => by omega
        have NE2 : ∀ b, New wr b → b ≠ w.heap.size := fun b h => by have h : wr.heap.size ≤ b := h; omega
        have K1 : Keep (fun b => w.heap.size < b) wr _ := (((hE1.keep _).setCell (a := ⟨w.heap.size, k * 3, none⟩) NE (.string x.name)).setCell (a := ⟨w.heap.size, k * 3 + 1, none⟩) NE (.slice a0 n0 z0)).setCell (a := ⟨w.heap.size, k * 3 + 2, none⟩) NE (.slice a1 n1 z1)
        have K2 : Keep (New wr) w1 _ := (((Keep.refl _ _).setCell (a := ⟨w.heap.size, k * 3, none⟩) NE2 (.string x.name)).setCell (a := ⟨w.heap.size, k * 3 + 1, none⟩) NE2 (.slice a0 n0 z0)).setCell (a := ⟨w.heap.size, k * 3 + 2, none⟩) NE2 (.slice a1 n1 z1)
        have Bf := ((hB1.set (k * 3) (.string x.name)).set (k * 3 + 1) (.slice a0 n0 z0)).set (k * 3 + 2) (.slice a1 n1 z1)
        have Ef := TE.setCell (TE.setCell (TE.setCell (tEx) (p := ⟨w.heap.size, k * 3, none⟩) (Nat.le_refl _) (.string x.name)) (p := ⟨w.heap.size, k * 3 + 1, none⟩) (Nat.le_refl _) (.slice a0 n0 z0)) (p := ⟨w.heap.size, k * 3 + 2, none⟩) (Nat.le_refl _) (.slice a1 n1 z1)
        have Ff := Filled.snoc (w' := _) (C := (CFunc (fun b => w.heap.size < b))) Harr Hx (cs := [.string x.name, .slice a0 n0 z0, .slice a1 n1 z1]) rfl ((show CFunc (New wr) w1 [.string x.name, .slice a0 n0 z0, .slice a1 n1 z1] x from ⟨_, _, rfl, hC⟩).keep (K' := fun b => w.heap.size < b) K2 (fun b hb => Nat.lt_of_lt_of_le hlw hb)) (fun _ _ h => h.keep K1 (fun _ h => h)) Hsz hlt
        refine ⟨k + 1, by omega, by go_num, Ef, setCs arr (k * 3) [.string x.name, .slice a0 n0 z0, .slice a1 n1 z1], by simp only [setCs, Nat.add_assoc, Nat.reduceAdd]; exact Bf, Lib.hid (by rw [setCs_size]; exact Hsz.out), Ff⟩
      case measure => simp [intOf]; omega
    · go_wp2
      go_ret
      obtain rfl : k = len := by omega
      exact ⟨_, rfl, (Filled.sl (K := New w) Harr Hlen hB (Nat.le_refl _) (by omega)).keep (Keep.refl _ _) (fun _ _ _ h => h.keep (Keep.refl _ _) (fun b hb => Nat.le_of_lt hb)) (fun _ h => h), tE⟩


set_option maxHeartbeats 1600000 in
theorem c_toTree (K : Foot) (x : PTree) (v0 v1 : Value) (w : World) (h0 : SlGlob K w v0 x.globals) (h1 : SlFunc K w v1 x.funcs) (b0 : x.globals.length ≤ 1048576) (b1 : x.funcs.length ≤ 1048576 ∧ ∀ s ∈ x.funcs, s.params.length ≤ 1048576 ∧ (s.body.length ≤ 1048576 ∧ ∀ q ∈ s.body, q.e.length ≤ 1048576 ∧ q.f.length ≤ 1048576)) :
    Calls Tryz.prog 9 #[.agg #[v0, v1]] w (MadeAgg CTree x w) := by
  obtain ⟨s2, hs2⟩ : ∃ s2, s2 = w.heap.size + 1 + 1 := ⟨_, rfl⟩
  obtain ⟨Q, hQ⟩ : ∃ Q : Foot, Q = fun b => s2 < b := ⟨_, rfl⟩
  have Hs2 := Lib.hid hs2
  have HQ := Lib.hid hQ
  clear hs2 hQ
  have QN : ∀ b, Q b → New w b := fun b h => by rw [HQ.out] at h; have := Hs2.out; show w.heap.size ≤ b; omega
  have Q2 : ∀ b, Q b → b ≠ w.heap.size + 1 + 1 := fun b h => by rw [HQ.out] at h; have := Hs2.out; omega
  have Q1 : ∀ b, Q b → b ≠ w.heap.size + 1 := fun b h => by rw [HQ.out] at h; have := Hs2.out; omega
  go_enter Tryz.func9, Tryz.ntmps9
  go_wp2_with fail
  refine (c_toGlobalS K v0 _ _ (h0.ext ((((Ext.refl _).alloc _).alloc _).alloc _) (fun _ _ h => h.any)) b0).mono ?_
  rintro e w1 ⟨u0, rfl, m0, tX1⟩
  have hX1 := tX1.e
  obtain ⟨p0, p1, p2⟩ := Blk.alloc3 w 25 32 32 #[v0, v1] #[.slice none 0 0, .slice none 0 0] #[.slice none 0 0, .slice none 0 0]
  have tE1 : TE w w1 := ((((TE.refl w).alloc _ _).alloc _ _).alloc _ _).trans tX1
  have hE1 := tE1.e
  have p0 := p0.ext hX1
  have p1 := p1.ext hX1
  have p2 := p2.ext hX1
  have hs1 : w.heap.size + 1 + 1 < w1.heap.size := p2.lt
  have L1 : w.heap.size ≤ w.heap.size + 1 := Nat.le_succ _
  have L2 : w.heap.size ≤ w.heap.size + 1 + 1 := Nat.le_succ_of_le L1
  have m0 : Sl Q w1 2 CGlob u0 x.globals := m0.keep (Keep.refl _ w1) (fun _ _ _ h => h.any) (fun b hb => by
    have hb : (((w.alloc _).alloc _).alloc _).heap.size ≤ b := hb
    simp at hb
    rw [HQ.out]
    have := Hs2.out
    show s2 < b
    omega)
  obtain ⟨a0, n0, z0, rfl⟩ := m0.shape
  have q0_0 : w1.cell? ⟨w.heap.size, 0, none⟩ = some (v0) := p0.cell 0
  have q0_1 : w1.cell? ⟨w.heap.size, 1, none⟩ = some (v1) := p0.cell 1
  have q2 : w1.cell? ⟨w.heap.size + 1 + 1, 0, none⟩ = some (.slice none 0 0) := p2.cell 0
  have f2 := p2.frozen 0
  go_wp2_with fail
  have tE1s := TE.setCell tE1 (p := ⟨w.heap.size + 1 + 1, 0, none⟩) (by show w.heap.size ≤ w.heap.size + 1 + 1; omega) (.slice a0 n0 z0)
  have hE1s := tE1s.e
  refine (c_toFuncS K v1 _ _ (h1.ext hE1s (fun _ _ h => h.ext hE1s)) b1).mono ?_
  rintro e w2 ⟨u1, rfl, m1, tX2⟩
  have hX2 := tX2.e
  have tE2 := TE.trans tE1s tX2
  have hE2 := tE2.e
  have NW : ∀ b, New (w1.setCell ⟨w.heap.size + 1 + 1, 0, none⟩ (.slice a0 n0 z0)) b → Q b := fun b hb => by
    have hb : (w1.setCell _ _).heap.size ≤ b := hb
    rw [World.size_setCell] at hb
    rw [HQ.out]
    have := Hs2.out
    show s2 < b
    omega
  have m1 : Sl Q w2 3 (CFunc Q) u1 x.funcs := m1.keep (Keep.refl _ w2) (fun _ _ _ h => h.keep (Keep.refl _ _) NW) NW
  obtain ⟨a1, n1, z1, rfl⟩ := m1.shape
  have m0 := m0.keep (C' := CGlob) (((Keep.refl Q w1).setCell (a := ⟨w.heap.size + 1 + 1, 0, none⟩) Q2 (.slice a0 n0 z0)).trans (hX2.keep _) (by rw [World.size_setCell]; omega)) (fun _ _ _ h => h.any) (fun b h => h)
  have p0 := (p0.setOther (a := ⟨w.heap.size + 1 + 1, 0, none⟩) (by show w.heap.size ≠ w.heap.size + 1 + 1; omega) (.slice a0 n0 z0)).ext hX2
  have p1 := (p1.setOther (a := ⟨w.heap.size + 1 + 1, 0, none⟩) (by show w.heap.size + 1 ≠ w.heap.size + 1 + 1; omega) (.slice a0 n0 z0)).ext hX2
  have p2 := (p2.set 0 (.slice a0 n0 z0)).ext hX2
  clear q2 f2 q0_0
  clear q0_1
  have q0_0 : w2.cell? ⟨w.heap.size, 0, none⟩ = some (v0) := p0.cell 0
  have q1_0 : w2.cell? ⟨w.heap.size + 1, 0, none⟩ = some (.slice none 0 0) := p1.cell 0
  have g1_0 := p1.frozen 0
  have q2_0 : w2.cell? ⟨w.heap.size + 1 + 1, 0, none⟩ = some (.slice a0 n0 z0) := p2.cell 0
  have g2_0 := p2.frozen 0
  have q0_1 : w2.cell? ⟨w.heap.size, 1, none⟩ = some (v1) := p0.cell 1
  have q1_1 : w2.cell? ⟨w.heap.size + 1, 1, none⟩ = some (.slice none 0 0) := p1.cell 1
  have g1_1 := p1.frozen 1
  have q2_1 : w2.cell? ⟨w.heap.size + 1 + 1, 1, none⟩ = some (.slice none 0 0) := p2.cell 1
  have g2_1 := p2.frozen 1
  go_wp2
  refine bodyPost_ret (v := .agg #[.slice a0 n0 z0, .slice a1 n1 z1]) (by simp [results, Tryz.results9, go_sem, q1_0, q1_1]) rfl ?_
  have tE3 := (TE.setCell (TE.setCell (TE.setCell tE2 (p := ⟨w.heap.size + 1 + 1, 1, none⟩) L2 (.slice a1 n1 z1)) (p := ⟨w.heap.size + 1, 0, none⟩) L1 (.slice a0 n0 z0)) (p := ⟨w.heap.size + 1, 1, none⟩) L1 (.slice a1 n1 z1))
  have Kq := ((((Keep.refl Q w2).setCell (a := ⟨w.heap.size + 1 + 1, 1, none⟩) Q2 (.slice a1 n1 z1)).setCell (a := ⟨w.heap.size + 1, 0, none⟩) Q1 (.slice a0 n0 z0)).setCell (a := ⟨w.heap.size + 1, 1, none⟩) Q1 (.slice a1 n1 z1))
  have m0 := m0.keep (C' := CGlob) Kq (fun _ _ _ h => h.any) QN
  have m1 := m1.keep (C' := CFunc (New w)) Kq (fun _ _ _ h => h.keep Kq QN) QN
  exact ⟨[.slice a0 n0 z0, .slice a1 n1 z1], rfl, ⟨_, _, rfl, m0, m1⟩, tE3⟩

end Go.Proofs.YtolbngbedncemaaGreatDoor

/- What a marking leaves as it was: slices in the marked blocks, all other blocks; how many marks. No statement about the program's functions. -/
set_option linter.unusedVariables false
set_option linter.unusedSimpArgs false
namespace Go.Proofs.YtolbngbedncemaaGreatDoor
open Go Go.RowKit Md

def isSl : Value → Bool
  | .slice _ _ _ => true
  | _ => false
def Rng (lo hi : Nat) : Foot := fun b => lo ≤ b ∧ b < hi
/-- Of the blocks from lo to hi the cells that hold slices are as they were, the others hold no slice; all other blocks are as they were. -/
structure Soft (lo hi : Nat) (w w' : World) : Prop where
  hl : lo ≤ hi
  hs : hi ≤ w.heap.size
  b : Below lo w w'
  up : ∀ k, hi ≤ k → k < w.heap.size → w'.heap[k]? = w.heap[k]?
  cell : ∀ (a : Addr) v, lo ≤ a.block → a.block < hi → w.cell? a = some v → ∃ v', w'.cell? a = some v' ∧ (isSl v = true → v' = v) ∧ (isSl v = false → isSl v' = false)
  fz : ∀ (a : Addr), lo ≤ a.block → a.block < hi → w'.frozen? a = w.frozen? a
def Thawed (lo hi : Nat) (w : World) : Prop := ∀ a : Addr, lo ≤ a.block → a.block < hi → w.frozen? a = false
theorem NT.thawed {lo hi : Nat} {w : World} (h : NT lo w) : Thawed lo hi w := by
  intro a h1 _
  unfold World.frozen?
  split
  · rename_i c t l u e
    have := h _ h1 _ _ _ e
    cases this
    simp
  · rfl
theorem Soft.refl {lo hi : Nat} {w : World} (hl : lo ≤ hi) (hs : hi ≤ w.heap.size) : Soft lo hi w w := ⟨hl, hs, Below.refl _ _, fun _ _ _ => rfl, fun a v _ _ h => ⟨v, h, fun _ => rfl, fun h => h⟩, fun _ _ _ => rfl⟩
theorem Soft.trans {lo hi : Nat} {a b c : World} (h : Soft lo hi a b) (k : Soft lo hi b c) : Soft lo hi a c :=
  ⟨h.hl, h.hs, h.b.trans k.b, fun x h1 h2 => (k.up x h1 (Nat.lt_of_lt_of_le h2 h.b.size)).trans (h.up x h1 h2), fun p v h1 h2 e => by
    obtain ⟨v1, e1, s1, s2⟩ := h.cell p v h1 h2 e
    obtain ⟨v2, e2, s3, s4⟩ := k.cell p v1 h1 h2 e1
    refine ⟨v2, e2, fun hv => ?_, fun hv => s4 (s2 hv)⟩
    have := s1 hv
    subst this
    exact s3 hv, fun p h1 h2 => (k.fz p h1 h2).trans (h.fz p h1 h2)⟩
theorem Soft.ext {lo hi : Nat} {a b c : World} (h : Soft lo hi a b) (k : Ext b c) : Soft lo hi a c := by
  have hl : ∀ x, x < hi → x < b.heap.size := fun x hx => Nat.lt_of_lt_of_le hx (Nat.le_trans h.hs h.b.size)
  refine ⟨h.hl, h.hs, ⟨k.os.trans h.b.os, k.tape.trans h.b.tape, k.output.trans h.b.output, Nat.le_trans h.b.size k.size, fun x hx => ?_⟩, fun x h1 h2 => (k.block x (Nat.lt_of_lt_of_le h2 h.b.size)).trans (h.up x h1 h2), fun p v h1 h2 e => ?_, fun p h1 h2 => ?_⟩
  · exact (k.block x (hl x (Nat.lt_of_lt_of_le hx h.hl))).trans (h.b.block x hx)
  · obtain ⟨v1, e1, s⟩ := h.cell p v h1 h2 e
    exact ⟨v1, k.cell e1, s⟩
  · exact (World.frozen?_of_block (w := b) (k.block p.block (hl _ h2))).trans (h.fz p h1 h2)
theorem Soft.setCell {lo hi : Nat} {a b : World} (h : Soft lo hi a b) {p : Addr} (h1 : lo ≤ p.block) (h2 : p.block < hi) {u : Value} (hc : b.cell? p = some u) (hu : isSl u = false) {v : Value} (hv : isSl v = false) : Soft lo hi a (b.setCell p v) := by
  refine ⟨h.hl, h.hs, Below.setCell h.b h1 v, fun x h3 h4 => (Below.heap_setCell _ _ _ _ (by omega)).trans (h.up x h3 h4), fun q z h3 h4 e => ?_, fun q h3 h4 => ?_⟩
  · obtain ⟨v1, e1, s1, s2⟩ := h.cell q z h3 h4 e
    by_cases hq : p = q
    · subst hq
      rw [hc] at e1
      cases e1
      refine ⟨v, World.cell?_setCell_same _ _ _ hc, fun hz => ?_, fun _ => hv⟩
      have := s1 hz
      subst this
      rw [hu] at hz
      cases hz
    · exact ⟨v1, (World.cell?_setCell_other _ _ _ _ hq).trans e1, s1, s2⟩
  · rw [World.frozen?_setCell]
    exact h.fz q h3 h4
theorem Soft.thawed {lo hi : Nat} {w w' : World} (h : Soft lo hi w w') (ht : Thawed lo hi w) : Thawed lo hi w' := fun a h1 h2 => (h.fz a h1 h2).trans (ht a h1 h2)
/-- What lies elsewhere. -/
theorem Soft.keep {lo hi : Nat} {w w' : World} (h : Soft lo hi w w') {K : Foot} (hK : ∀ b, K b → b < lo ∨ hi ≤ b) : Keep K w w' := fun b hb hl => by
  rcases hK b hb with h1 | h1
  · exact h.b.block b h1
  · exact h.up b h1 hl
theorem Soft.own {lo hi : Nat} {w w' : World} (h : Soft lo hi w w') {base E sz n : Nat} {v : Value} {xs : List Value} (ho : w.ownsRow base E sz v n xs) (hb : hi ≤ base) : w'.ownsRow base E sz v n xs := by
  obtain ⟨h1, h2⟩ := ho
  refine ⟨h1, ?_⟩
  rcases h2 with h2 | ⟨g, cap, cur, rfl, hg, hh, r⟩
  · exact .inl h2
  · exact .inr ⟨g, cap, cur, rfl, hg, (h.up g (Nat.le_trans hb hg) (Array.getElem?_eq_some_iff.1 hh).1).trans hh, r⟩
theorem Soft.ownLow {lo hi : Nat} {w w' : World} (h : Soft lo hi w w') {base E sz n : Nat} {v : Value} {xs : List Value} (ho : w.ownsRow base E sz v n xs) (hb : ∀ k, v.ownBlock = some k → k < lo) : w'.ownsRow base E sz v n xs := by
  obtain ⟨h1, h2⟩ := ho
  refine ⟨h1, ?_⟩
  rcases h2 with h2 | ⟨g, cap, cur, rfl, hg, hh, r⟩
  · exact .inl h2
  · exact .inr ⟨g, cap, cur, rfl, hg, (h.b.block g (hb g rfl)).trans hh, r⟩

/-! ### The shape that a marking leaves -/
def Softly (cs cs' : List Value) : Prop := cs'.length = cs.length ∧ ∀ (i : Nat) v, cs[i]? = some v → ∃ v', cs'[i]? = some v' ∧ (isSl v = true → v' = v) ∧ (isSl v = false → isSl v' = false)
theorem Sl.soft {α : Type} {lo hi : Nat} {w w' : World} {sz : Nat} {C C' : World → List Value → α → Prop} {v : Value} {xs : List α} (h : Sl (Rng lo hi) w sz C v xs) (k : Soft lo hi w w')
    (hC : ∀ cs cs' x, x ∈ xs → C w cs x → Softly cs cs' → C' w' cs' x) : Sl (Rng lo hi) w' sz C' v xs := by
  obtain ⟨a, cap, e, h1, h2, h3⟩ := h
  refine ⟨a, cap, e, h1, h2, fun hp => ?_⟩
  obtain ⟨b, o, e1, e2, e3⟩ := h3 hp
  refine ⟨b, o, e1, e2, fun i hi => ?_⟩
  obtain ⟨cs, c1, c2, c3⟩ := e3 i hi
  have hc : ∀ (j : Nat) u, cs[j]? = some u → ∃ v', w'.cell? ⟨b, o + i * sz + j, none⟩ = some v' ∧ (isSl u = true → v' = u) ∧ (isSl u = false → isSl v' = false) := fun j u hj => k.cell _ u e2.1 e2.2 (c3 j u hj)
  have hlen : ((List.range cs.length).map fun j => (w'.cell? ⟨b, o + i * sz + j, none⟩).getD (.int .i64 0)).length = cs.length := by simp
  have hget : ∀ (j : Nat) u, cs[j]? = some u → ∃ v', ((List.range cs.length).map fun j => (w'.cell? ⟨b, o + i * sz + j, none⟩).getD (.int .i64 0))[j]? = some v' ∧ w'.cell? ⟨b, o + i * sz + j, none⟩ = some v' ∧ (isSl u = true → v' = u) ∧ (isSl u = false → isSl v' = false) := fun j u hj => by
    obtain ⟨v', d1, d2, d3⟩ := hc j u hj
    refine ⟨v', ?_, d1, d2, d3⟩
    rw [List.getElem?_map, List.getElem?_range (List.getElem?_eq_some_iff.1 hj).1]
    simp [d1]
  refine ⟨(List.range cs.length).map fun j => (w'.cell? ⟨b, o + i * sz + j, none⟩).getD (.int .i64 0), by rw [hlen]; exact c1, hC _ _ _ (List.getElem_mem hi) c2 ⟨hlen, fun j u hj => ?_⟩, fun j u hj => ?_⟩
  · obtain ⟨v', d0, _, d2, d3⟩ := hget j u hj
    exact ⟨v', d0, d2, d3⟩
  · have hjl : j < cs.length := by
      have := (List.getElem?_eq_some_iff.1 hj).1
      rwa [hlen] at this
    obtain ⟨v', d0, d1, _⟩ := hget j _ (List.getElem?_eq_getElem hjl)
    rw [d0] at hj
    cases hj
    exact d1
def CFlat {α : Type} (w : World) (cs : List Value) (x : α) : Prop := ∀ u ∈ cs, isSl u = false
def CStS (lo hi : Nat) (w : World) (cs : List Value) (s : PStmt) : Prop :=
  ∃ u0 u1 vE vF u4 u5, cs = [u0, u1, vE, vF, u4, u5] ∧ (isSl u0 = false ∧ isSl u1 = false ∧ isSl u4 = false ∧ isSl u5 = false) ∧ Sl (Rng lo hi) w 3 CFlat vE s.e ∧ Sl (Rng lo hi) w 3 CFlat vF s.f
def CFnS (lo hi : Nat) (w : World) (cs : List Value) (f : PFunc) : Prop :=
  ∃ u0 vP vB, cs = [u0, vP, vB] ∧ isSl u0 = false ∧ Sl (Rng lo hi) w 1 CFlat vP f.params ∧ Sl (Rng lo hi) w 6 (CStS lo hi) vB f.body
theorem CFlat.soft {α : Type} {w w' : World} {cs cs' : List Value} {x : α} (h : CFlat w cs x) (k : Softly cs cs') : CFlat w' cs' x := by
  intro u hu
  obtain ⟨i, hi, rfl⟩ := List.getElem_of_mem hu
  have hil : i < cs.length := by rw [← k.1]; exact hi
  obtain ⟨v', d0, _, d2⟩ := k.2 i _ (List.getElem?_eq_getElem hil)
  rw [List.getElem?_eq_getElem hi] at d0
  cases d0
  exact d2 (h _ (List.getElem_mem hil))
theorem isSl_of_sl {α : Type} {K : Foot} {w : World} {sz : Nat} {C : World → List Value → α → Prop} {v : Value} {xs : List α} (h : Sl K w sz C v xs) : isSl v = true := by
  obtain ⟨a, n, c, rfl⟩ := h.shape
  rfl
theorem CStS.soft {lo hi : Nat} {w w' : World} {cs cs' : List Value} {s : PStmt} (h : CStS lo hi w cs s) (k : Soft lo hi w w') (q : Softly cs cs') : CStS lo hi w' cs' s := by
  obtain ⟨u0, u1, vE, vF, u4, u5, rfl, ⟨n0, n1, n4, n5⟩, h1, h2⟩ := h
  obtain ⟨x0, e0, _, m0⟩ := q.2 0 _ rfl
  obtain ⟨x1, e1, _, m1⟩ := q.2 1 _ rfl
  obtain ⟨x2, e2, m2, _⟩ := q.2 2 _ rfl
  obtain ⟨x3, e3, m3, _⟩ := q.2 3 _ rfl
  obtain ⟨x4, e4, _, m4⟩ := q.2 4 _ rfl
  obtain ⟨x5, e5, _, m5⟩ := q.2 5 _ rfl
  obtain rfl := m2 (isSl_of_sl h1)
  obtain rfl := m3 (isSl_of_sl h2)
  have hl : cs'.length = 6 := q.1
  refine ⟨x0, x1, x2, x3, x4, x5, ?_, ⟨m0 n0, m1 n1, m4 n4, m5 n5⟩, h1.soft k (fun _ _ _ _ h q => h.soft q), h2.soft k (fun _ _ _ _ h q => h.soft q)⟩
  refine List.ext_getElem? (fun i => ?_)
  match i with
  | 0 => exact e0
  | 1 => exact e1
  | 2 => exact e2
  | 3 => exact e3
  | 4 => exact e4
  | 5 => exact e5
  | n + 6 => rw [List.getElem?_eq_none (by omega), List.getElem?_eq_none (by simp)]
theorem CFnS.soft {lo hi : Nat} {w w' : World} {cs cs' : List Value} {f : PFunc} (h : CFnS lo hi w cs f) (k : Soft lo hi w w') (q : Softly cs cs') : CFnS lo hi w' cs' f := by
  obtain ⟨u0, vP, vB, rfl, n0, h1, h2⟩ := h
  obtain ⟨x0, e0, _, m0⟩ := q.2 0 _ rfl
  obtain ⟨x1, e1, m1, _⟩ := q.2 1 _ rfl
  obtain ⟨x2, e2, m2, _⟩ := q.2 2 _ rfl
  obtain rfl := m1 (isSl_of_sl h1)
  obtain rfl := m2 (isSl_of_sl h2)
  have hl : cs'.length = 3 := q.1
  refine ⟨x0, x1, x2, ?_, m0 n0, h1.soft k (fun _ _ _ _ h q => h.soft q), h2.soft k (fun _ _ _ _ h q => h.soft k q)⟩
  refine List.ext_getElem? (fun i => ?_)
  match i with
  | 0 => exact e0
  | 1 => exact e1
  | 2 => exact e2
  | n + 3 => rw [List.getElem?_eq_none (by omega), List.getElem?_eq_none (by simp)]
/-! from what the copies give -/
theorem CStmt.sh {K : Foot} {lo hi : Nat} {w : World} {cs : List Value} {s : PStmt} (h : CStmt K w cs s) (hK : ∀ b, K b → Rng lo hi b) : CStS lo hi w cs s := by
  obtain ⟨vE, vF, rfl, h1, h2, _⟩ := h
  exact ⟨_, _, vE, vF, _, _, rfl, ⟨rfl, rfl, rfl, rfl⟩, h1.keep (Keep.refl _ w) (fun _ _ _ h => by obtain ⟨rfl, _⟩ := h; intro u hu; simp at hu; rcases hu with rfl | rfl | rfl <;> rfl) hK, h2.keep (Keep.refl _ w) (fun _ _ _ h => by obtain ⟨rfl, _⟩ := h; intro u hu; simp at hu; rcases hu with rfl | rfl | rfl <;> rfl) hK⟩
theorem CFunc.sh {K : Foot} {lo hi : Nat} {w : World} {cs : List Value} {f : PFunc} (h : CFunc K w cs f) (hK : ∀ b, K b → Rng lo hi b) : CFnS lo hi w cs f := by
  obtain ⟨vP, vB, rfl, h1, h2, _⟩ := h
  exact ⟨_, vP, vB, rfl, rfl, h1.keep (Keep.refl _ w) (fun _ _ _ h => by obtain ⟨rfl, _⟩ := h; intro u hu; simp at hu; rcases hu with rfl; rfl) hK, h2.keep (Keep.refl _ w) (fun _ _ _ h => h.sh hK) hK⟩
theorem glob_sh {K : Foot} {lo hi : Nat} {w : World} {v : Value} {l : List PGlob} (h : SlGlob K w v l) (hK : ∀ b, K b → Rng lo hi b) : Sl (Rng lo hi) w 2 CFlat v l :=
  h.keep (Keep.refl _ w) (fun _ _ _ h => by obtain ⟨rfl, _⟩ := h; intro u hu; simp at hu; rcases hu with rfl | rfl <;> rfl) hK
theorem func_sh {K : Foot} {lo hi : Nat} {w : World} {v : Value} {l : List PFunc} (h : SlFunc K w v l) (hK : ∀ b, K b → Rng lo hi b) : Sl (Rng lo hi) w 3 (CFnS lo hi) v l :=
  h.keep (Keep.refl _ w) (fun _ _ _ h => h.sh hK) hK

/-! ### How many marks -/
def mkSt (s : PStmt) : Nat := 4 + 3 * s.e.length + 3 * s.f.length
def mkS (l : List PStmt) : Nat := (l.map mkSt).sum
def mkFn (f : PFunc) : Nat := 1 + f.params.length + mkS f.body
def mkF (l : List PFunc) : Nat := (l.map mkFn).sum
theorem sum_take {α : Type} (g : α → Nat) {l : List α} {k : Nat} {x : α} (h : l[k]? = some x) : ((l.take (k + 1)).map g).sum = ((l.take k).map g).sum + g x := by
  rw [take_snoc h]; simp
theorem sum_take_le {α : Type} (g : α → Nat) (l : List α) (k : Nat) : ((l.take k).map g).sum ≤ (l.map g).sum := by
  have := congrArg (fun l => (l.map g).sum) (List.take_append_drop k l)
  simp only [List.map_append, List.sum_append] at this
  omega
theorem sum_bound {α : Type} (g f : α → Nat) (hg : ∀ x, g x ≤ 16 + 16 * f x) (l : List α) : (l.map g).sum ≤ 16 * szL f l := by
  unfold szL sumSz
  induction l with
  | nil => simp
  | cons a r ih =>
    have := hg a
    simp only [List.map_cons, List.sum_cons, List.length_cons]
    omega
theorem mkS_le (l : List PStmt) : mkS l ≤ 16 * szL szStmt l := sum_bound _ _ (fun s => by unfold mkSt szStmt szL; omega) l
theorem mkF_le (l : List PFunc) : mkF l ≤ 16 * szL szFunc l := sum_bound _ _ (fun f => by
  have := mkS_le f.body
  unfold mkFn szFunc
  have h2 : f.params.length ≤ szL szStr f.params := by unfold szL; omega
  omega) l
end Go.Proofs.YtolbngbedncemaaGreatDoor

/- markText gives a string, whatever it is. -/
set_option linter.unusedVariables false
set_option linter.unusedSimpArgs false
namespace Go.Proofs.YtolbngbedncemaaGreatDoor
open Go Go.RowKit Md

def AStr (w : World) (e : Ending) (w' : World) : Prop := ∃ s, e = .returned (.string s) ∧ Ext w w'
theorem cv_byte (w : World) (n : Int) : (convert 27 9 (.slice (some ⟨w.heap.size, 0, none⟩) 1 1)).run Tryz.prog (w.alloc (.cells #[.int .u8 n] 5)) = .ok (.string (ByteArray.empty.push (UInt8.ofNat n.toNat))) (w.alloc (.cells #[.int .u8 n] 5)) := by
  rw [run_convert_bytes_string _ _ _ 5 _ _ _ Tryz.underlying27 Tryz.underlying5 Tryz.underlying9]
  have h : (w.alloc (.cells #[.int .u8 n] 5)).cell? ⟨w.heap.size, 0, none⟩ = some (.int .u8 n) := ((Blk.alloc w 5 #[.int .u8 n]).cell 0).trans rfl
  refine run_bytesToString _ _ 1 1 [n] ?_
  have := run_loadCells_list (P := Tryz.prog) (w := w.alloc (.cells #[.int .u8 n] 5)) ⟨w.heap.size, 0, none⟩ [.int .u8 n] (fun j v hj => by
    have hj0 : j = 0 := by
      have := (List.getElem?_eq_some_iff.1 hj).1
      simp at this
      omega
    subst hj0
    simp at hj
    subst hj
    exact h)
  simpa using this
set_option maxRecDepth 100000 in
set_option maxHeartbeats 1000000 in
theorem m_Text (k : Nat) (ki : Int) (hki : ki = k) (w : World) (hk : k ≤ 1000000000000) :
    Calls Tryz.prog 77 #[.int .i64 ki] w (AStr w) := by
  subst hki
  go_enter Tryz.func77, Tryz.ntmps77
  by_cases h0 : (k : Int) ≤ 0
  · go_wp2
    go_ret
    exact ⟨_, rfl, Ext.refl w⟩
  · go_wp2
    go_loopw [0, 3] (fun m v wr => ∃ (q : Nat) (s : ByteArray), m = .int .i64 q ∧ v = .string s ∧ s.size + q ≤ 1000000000000 ∧ Ext w wr) (fun m _ _ => (intOf m).toNat)
    case atStart => exact ⟨k, ⟨#[]⟩, rfl, rfl, by show 0 + k ≤ _; omega, Ext.refl w⟩
    case round =>
      obtain ⟨q, s, rfl, rfl, hs, hX⟩ := hrel
      by_cases hq : (q : Int) > 0
      · have hcv := cv_byte
        have hx : (Int.tdiv (q : Int) 10) = ((q / 10 : Nat) : Int) := by rw [Int.tdiv_eq_ediv_of_nonneg (by omega)]; rfl
        go_wp2
        go_roundw
        case rel => exact ⟨q / 10, _, by rfl, rfl, by simp; omega, hX.alloc _⟩
        case measure => simp [intOf]; omega
      · go_wp2
        go_ret
        exact ⟨_, rfl, hX⟩
end Go.Proofs.YtolbngbedncemaaGreatDoor

/- The laws' markings of nodes, strings, globals, statements, functions, trees: how far they count, and that no slice and no other block is turned. -/
set_option linter.unusedVariables false
set_option linter.unusedSimpArgs false
namespace Go.Proofs.YtolbngbedncemaaGreatDoor
open Go Go.RowKit Md

def Mkd (lo hi : Nat) (w : World) (k : Nat) (e : Ending) (w' : World) : Prop := e = .returned (.int .i64 (k : Int)) ∧ Soft lo hi w w'
theorem Mkd.ret {lo hi : Nat} {w w' : World} {k : Nat} {x : Int} (h : x = k) (s : Soft lo hi w w') : Mkd lo hi w k (.returned (.int .i64 x)) w' := ⟨by rw [h], s⟩

theorem wr_next (n : Nat) (h : n ≤ 2000000000) : wrap64 ((n : Int) + 1) = ((n + 1 : Nat) : Int) := by unfold Go.RowKit.wrap64; omega

set_option maxRecDepth 100000 in
set_option maxHeartbeats 1000000 in
theorem m_Nodes (lo hi : Nat) (l : List PNode) (v : Value) (k : Nat) (ki : Int) (hki : ki = k) (w : World) (hlh : lo ≤ hi) (hs : hi ≤ w.heap.size) (ht : Thawed lo hi w) (hv : Sl (Rng lo hi) w 3 CFlat v l) (hk : k + 3 * l.length ≤ 1000000000) :
    Calls Tryz.prog 132 #[v, .int .i64 ki] w (Mkd lo hi w (k + 3 * l.length)) := by
  subst hki
  have HV := Lib.hid hv
  obtain ⟨a, len, cap, rfl, Hlen, hlc, hcm, hel⟩ := hv.op
  have hlen := Hlen.out
  rw [hlen] at hk ⊢
  have HT := Lib.hid ht
  clear hv hlen ht hel
  go_enter Tryz.func132, Tryz.ntmps132
  go_wp2
  go_loopw [1, 5] (fun m i wr => ∃ q : Nat, q ≤ len ∧ m = .int .i64 ((k + 3 * q : Nat) : Int) ∧ i = .int .i64 q ∧ Soft lo hi w wr) (fun _ i _ => len - (intOf i).toNat)
  case atStart => exact ⟨0, Nat.zero_le _, rfl, rfl, Soft.refl hlh hs⟩
  case round =>
    obtain ⟨q, hq, rfl, rfl, hS⟩ := hrel
    by_cases hlt : q < len
    · have hTw := hS.thawed HT.out
      obtain ⟨_, _, _, eC, _, _, _, hel⟩ := (HV.out.soft hS (fun _ _ _ _ h q => h.soft q)).op
      cases eC
      obtain ⟨b, o, rfl, hb, hel⟩ := hel (by omega)
      obtain ⟨x, cs, hx, hcl, hC, hcs⟩ := hel q hlt
      obtain ⟨u0, u1, u2, rfl⟩ : ∃ u0 u1 u2, cs = [u0, u1, u2] := by
        match cs, hcl with
        | [a, b, c], _ => exact ⟨a, b, c, rfl⟩
      have n0 := hC u0 (by simp)
      have n1 := hC u1 (by simp)
      have n2 := hC u2 (by simp)
      have c0 := hcs.z rfl
      have c1 := hcs 1 _ rfl
      have c2 := hcs 2 _ rfl
      have f0 := hTw ⟨b, o + q * 3, none⟩ hb.1 hb.2
      have f1 := hTw ⟨b, o + q * 3 + 1, none⟩ hb.1 hb.2
      have f2 := hTw ⟨b, o + q * 3 + 2, none⟩ hb.1 hb.2
      clear hel hcs hx hcl hC hTw
      have g0 : (0 : Int) ≤ (q : Int) := by omega
      have g1 : (q : Int) < (len : Int) := by omega
      have p0 := wr_next (k + 3 * q) (by omega)
      have p1 := wr_next (k + 3 * q + 1) (by omega)
      have p2 := wr_next (k + 3 * q + 1 + 1) (by omega)
      have S1 := hS.setCell (p := ⟨b, o + q * 3, none⟩) hb.1 hb.2 c0 n0 (v := .int .i64 ((k + 3 * q : Nat) : Int)) rfl
      have d1 := (World.cell?_setCell_other wr ⟨b, o + q * 3, none⟩ ⟨b, o + q * 3 + 1, none⟩ (.int .i64 ((k + 3 * q : Nat) : Int)) (by simp)).trans c1
      have S2 := S1.setCell (p := ⟨b, o + q * 3 + 1, none⟩) hb.1 hb.2 d1 n1 (v := .int .i64 ((k + 3 * q + 1 : Nat) : Int)) rfl
      have d2 := (World.cell?_setCell_other _ ⟨b, o + q * 3 + 1, none⟩ ⟨b, o + q * 3 + 2, none⟩ (.int .i64 ((k + 3 * q + 1 : Nat) : Int)) (by simp)).trans ((World.cell?_setCell_other wr ⟨b, o + q * 3, none⟩ ⟨b, o + q * 3 + 2, none⟩ (.int .i64 ((k + 3 * q : Nat) : Int)) (by simp)).trans c2)
      have HS2 := Lib.hid S2
      have HD2 := Lib.hid d2
      clear S1 S2 d1 d2
      generalize ((k + 3 * q : Nat) : Int) = j0 at *
      generalize hj1 : ((k + 3 * q + 1 : Nat) : Int) = j1 at *
      generalize hj2 : ((k + 3 * q + 1 + 1 : Nat) : Int) = j2 at *
      have Hj2 := Lib.hid hj2
      clear hj1 hj2 c2 f2
      go_wp2_with fail
      refine (m_Text (k + 3 * q + 1 + 1) _ (by first | exact Hj2.out.symm | (simp [p0, p1, p2]; exact Hj2.out.symm)) _ (by omega)).mono ?_
      rintro e w1 ⟨s, rfl, hX⟩
      have S3 := HS2.out.ext hX
      have e2 := hX.cell HD2.out
      have f2 := (S3.thawed HT.out) ⟨b, o + q * 3 + 2, none⟩ hb.1 hb.2
      have HS4 := Lib.hid (S3.setCell (p := ⟨b, o + q * 3 + 2, none⟩) hb.1 hb.2 e2 n2 (v := .string s) rfl)
      clear S3 hX HD2 HS2
      go_wp2
      go_roundw
      case rel => exact ⟨q + 1, by omega, by rw [p2]; congr 2, by go_num, HS4.out⟩
      case measure => simp [intOf]; omega
    · obtain rfl : q = len := by omega
      go_wp2
      go_ret
      exact Mkd.ret rfl hS

theorem nx {J J1 : Nat} (h : J1 = J + 1) (hJ : J ≤ 1500000000) : wrap64 ((J : Int) + 1) = (J1 : Int) := by
  subst h
  exact wr_next J (by omega)
theorem nb0 {J : Nat} (h : J ≤ 1000000000) : J + 8 ≤ 1500000000 := by omega
theorem nb {J J1 c : Nat} (h : J1 = J + 1) (hJ : J + (c + 1) ≤ 1500000000) : J1 + c ≤ 1500000000 := by omega
theorem nle {J c : Nat} (hJ : J + c ≤ 1500000000) : J ≤ 1500000000 := by omega
theorem ntx {J c : Nat} (hJ : J + c ≤ 1500000000) : J ≤ 1000000000000 := by omega
theorem Soft.slc {lo hi : Nat} {w w' : World} (h : Soft lo hi w w') {a : Addr} {v : Value} (hb : Rng lo hi a.block) (hc : w.cell? a = some v) (hv : isSl v = true) : w'.cell? a = some v := by
  obtain ⟨v', e, s, _⟩ := h.cell a v hb.1 hb.2 hc
  rw [e, s hv]
theorem Soft.nsl {lo hi : Nat} {w w' : World} (h : Soft lo hi w w') {a : Addr} {u : Value} (hb : Rng lo hi a.block) (hc : w.cell? a = some u) (hu : isSl u = false) : ∃ u', w'.cell? a = some u' ∧ isSl u' = false := by
  obtain ⟨v', e, _, s⟩ := h.cell a u hb.1 hb.2 hc
  exact ⟨v', e, s hu⟩
theorem Soft.next {lo hi : Nat} {w w1 w2 : World} (h : Soft lo hi w w1) (k : Soft lo hi w1 w2) : Soft lo hi w w2 := h.trans k
theorem Soft.hs' {lo hi : Nat} {w w' : World} (h : Soft lo hi w w') : hi ≤ w'.heap.size := Nat.le_trans h.hs h.b.size
theorem sl_flat {α : Type} {lo hi : Nat} {w w' : World} {sz : Nat} {v : Value} {l : List α} (h : Sl (Rng lo hi) w sz CFlat v l) (k : Soft lo hi w w') : Sl (Rng lo hi) w' sz CFlat v l := h.soft k (fun _ _ _ _ h q => h.soft q)

set_option maxRecDepth 100000 in
set_option maxHeartbeats 1000000 in
theorem m_Strs (lo hi : Nat) (l : List ByteArray) (v : Value) (k : Nat) (ki : Int) (hki : ki = k) (w : World) (hlh : lo ≤ hi) (hs : hi ≤ w.heap.size) (ht : Thawed lo hi w) (hv : Sl (Rng lo hi) w 1 CFlat v l) (hk : k + l.length ≤ 1000000000) :
    Calls Tryz.prog 78 #[v, .int .i64 ki] w (Mkd lo hi w (k + l.length)) := by
  subst hki
  have HV := Lib.hid hv
  obtain ⟨a, len, cap, rfl, Hlen, hlc, hcm, hel⟩ := hv.op
  have hlen := Hlen.out
  rw [hlen] at hk ⊢
  have HT := Lib.hid ht
  clear hv hlen ht hel
  go_enter Tryz.func78, Tryz.ntmps78
  go_wp2
  go_loopw [1, 5] (fun m i wr => ∃ q J : Nat, q ≤ len ∧ m = .int .i64 (J : Int) ∧ Hid (J = k + q) ∧ i = .int .i64 q ∧ Soft lo hi w wr) (fun _ i _ => len - (intOf i).toNat)
  case atStart => exact ⟨0, k, Nat.zero_le _, rfl, rfl, rfl, Soft.refl hlh hs⟩
  case round =>
    obtain ⟨q, J, hq, rfl, HJ, rfl, hS⟩ := hrel
    by_cases hlt : q < len
    · have hTw := hS.thawed HT.out
      obtain ⟨_, _, _, eC, _, _, _, hel⟩ := (sl_flat HV.out hS).op
      cases eC
      obtain ⟨b, o, rfl, hb, hel⟩ := hel (by omega)
      obtain ⟨x, cs, hx, hcl, hC, hcs⟩ := hel q hlt
      obtain ⟨u0, rfl⟩ : ∃ u0, cs = [u0] := by
        match cs, hcl with
        | [a], _ => exact ⟨a, rfl⟩
      have n0 := hC u0 (by simp)
      have c0 := hcs.z rfl
      rw [Nat.mul_one] at c0
      clear hel hcs hx hcl hC
      have g0 : (0 : Int) ≤ (q : Int) := by omega
      have g1 : (q : Int) < (len : Int) := by omega
      have HJb := Lib.hid (nb0 (J := J) (by have := HJ.out; omega))
      obtain ⟨J1, hJ1⟩ : ∃ J1 : Nat, J1 = J + 1 := ⟨_, rfl⟩
      have p0 := nx hJ1 (nle HJb.out)
      have HJ1 := Lib.hid hJ1
      have HC0 := Lib.hid c0
      have HTw := Lib.hid hTw
      clear hJ1 c0 hTw
      go_wp2_with fail
      refine (m_Text J _ rfl _ (ntx HJb.out)).mono ?_
      rintro e w1 ⟨s, rfl, hX⟩
      have c0 := hX.cell HC0.out
      have S1 := (Soft.refl (lo := lo) (hi := hi) hlh hS.hs').ext hX
      have f0 := (S1.thawed HTw.out) ⟨b, o + q, none⟩ hb.1 hb.2
      have HS1 := Lib.hid (hS.trans (S1.setCell (p := ⟨b, o + q, none⟩) hb.1 hb.2 c0 n0 (v := .string s) rfl))
      clear S1 hX
      go_wp2
      go_roundw
      case rel => exact ⟨q + 1, J1, by omega, by rw [p0], by have := HJ.out; have := HJ1.out; show _ = _; omega, by go_num, HS1.out⟩
      case measure => simp [intOf]; omega
    · obtain rfl : len = q := by omega
      go_wp2
      go_ret
      exact Mkd.ret (by rw [HJ.out]) hS

set_option maxRecDepth 100000 in
set_option maxHeartbeats 1000000 in
theorem m_Globs (lo hi : Nat) (l : List PGlob) (v : Value) (k : Nat) (ki : Int) (hki : ki = k) (w : World) (hlh : lo ≤ hi) (hs : hi ≤ w.heap.size) (ht : Thawed lo hi w) (hv : Sl (Rng lo hi) w 2 CFlat v l) (hk : k + 2 * l.length ≤ 1000000000) :
    Calls Tryz.prog 42 #[v, .int .i64 ki] w (Mkd lo hi w (k + 2 * l.length)) := by
  subst hki
  have HV := Lib.hid hv
  obtain ⟨a, len, cap, rfl, Hlen, hlc, hcm, hel⟩ := hv.op
  have hlen := Hlen.out
  rw [hlen] at hk ⊢
  have HT := Lib.hid ht
  clear hv hlen ht hel
  go_enter Tryz.func42, Tryz.ntmps42
  go_wp2
  go_loopw [1, 5] (fun m i wr => ∃ q J : Nat, q ≤ len ∧ m = .int .i64 (J : Int) ∧ Hid (J = k + 2 * q) ∧ i = .int .i64 q ∧ Soft lo hi w wr) (fun _ i _ => len - (intOf i).toNat)
  case atStart => exact ⟨0, k, Nat.zero_le _, rfl, rfl, rfl, Soft.refl hlh hs⟩
  case round =>
    obtain ⟨q, J, hq, rfl, HJ, rfl, hS⟩ := hrel
    by_cases hlt : q < len
    · have hTw := hS.thawed HT.out
      obtain ⟨_, _, _, eC, _, _, _, hel⟩ := (sl_flat HV.out hS).op
      cases eC
      obtain ⟨b, o, rfl, hb, hel⟩ := hel (by omega)
      obtain ⟨x, cs, hx, hcl, hC, hcs⟩ := hel q hlt
      obtain ⟨u0, u1, rfl⟩ : ∃ u0 u1, cs = [u0, u1] := by
        match cs, hcl with
        | [a, b], _ => exact ⟨a, b, rfl⟩
      have n0 := hC u0 (by simp)
      have n1 := hC u1 (by simp)
      have HC0 := Lib.hid (hcs.z rfl)
      have HC1 := Lib.hid (hcs 1 _ rfl)
      clear hel hcs hx hcl hC
      have g0 : (0 : Int) ≤ (q : Int) := by omega
      have g1 : (q : Int) < (len : Int) := by omega
      have HJb := Lib.hid (nb0 (J := J) (by have := HJ.out; omega))
      obtain ⟨J1, hJ1⟩ : ∃ J1 : Nat, J1 = J + 1 := ⟨_, rfl⟩
      obtain ⟨J2, hJ2⟩ : ∃ J2 : Nat, J2 = J1 + 1 := ⟨_, rfl⟩
      have p0 := nx hJ1 (nle HJb.out)
      have p1 := nx hJ2 (nle (nb hJ1 HJb.out))
      have HJ1 := Lib.hid hJ1
      have HJ2 := Lib.hid hJ2
      have HTw := Lib.hid hTw
      clear hJ1 hJ2 hTw
      go_wp2_with fail
      refine (m_Text J _ rfl _ (ntx HJb.out)).mono ?_
      rintro e w1 ⟨s, rfl, hX⟩
      have c0 := hX.cell HC0.out
      have S1 := (Soft.refl (lo := lo) (hi := hi) hlh hS.hs').ext hX
      have f0 := (S1.thawed HTw.out) ⟨b, o + q * 2, none⟩ hb.1 hb.2
      have f1 := (S1.thawed HTw.out) ⟨b, o + q * 2 + 1, none⟩ hb.1 hb.2
      have c1 := hX.cell HC1.out
      have S2 := (S1.setCell (p := ⟨b, o + q * 2, none⟩) hb.1 hb.2 c0 n0 (v := .string s) rfl)
      have d1 := (World.cell?_setCell_other w1 ⟨b, o + q * 2, none⟩ ⟨b, o + q * 2 + 1, none⟩ (.string s) (by simp)).trans c1
      have HS1 := Lib.hid (hS.trans (S2.setCell (p := ⟨b, o + q * 2 + 1, none⟩) hb.1 hb.2 d1 n1 (v := .int .i64 (J1 : Int)) rfl))
      clear S1 S2 hX d1
      go_wp2
      go_roundw
      case rel => exact ⟨q + 1, J2, by omega, by rw [p1], by have := HJ.out; have := HJ1.out; have := HJ2.out; show _ = _; omega, by go_num, HS1.out⟩
      case measure => simp [intOf]; omega
    · obtain rfl : len = q := by omega
      go_wp2
      go_ret
      exact Mkd.ret (by rw [HJ.out]) hS

end Go.Proofs.YtolbngbedncemaaGreatDoor

/- The laws' markings of statements, functions, trees. -/
set_option linter.unusedVariables false
set_option linter.unusedSimpArgs false
namespace Go.Proofs.YtolbngbedncemaaGreatDoor
open Go Go.RowKit Md

theorem st_ar {k J S S' T e f J1 J2 J3 J4 J5 J6 : Nat} (h1 : J = k + S) (h2 : S' = S + (4 + 3 * e + 3 * f)) (h3 : S' ≤ T) (h4 : k + T ≤ 1000000000) (e1 : J1 = J + 1) (e2 : J2 = J1 + 1) (e3 : J3 = J2 + 3 * e) (e4 : J4 = J3 + 3 * f) (e5 : J5 = J4 + 1) (e6 : J6 = J5 + 1) :
    (J ≤ 1500000000 ∧ J1 ≤ 1500000000 ∧ J4 ≤ 1500000000 ∧ J5 ≤ 1500000000) ∧ J1 ≤ 1000000000000 ∧ J2 + 3 * e ≤ 1000000000 ∧ J3 + 3 * f ≤ 1000000000 ∧ J6 = k + S' := by omega
theorem fn_ar {k J S S' T p m J1 J2 J3 : Nat} (h1 : J = k + S) (h2 : S' = S + (1 + p + m)) (h3 : S' ≤ T) (h4 : k + T ≤ 1000000000) (e1 : J1 = J + 1) (e2 : J2 = J1 + p) (e3 : J3 = J2 + m) :
    J ≤ 1500000000 ∧ J ≤ 1000000000000 ∧ J1 + p ≤ 1000000000 ∧ J2 + m ≤ 1000000000 ∧ J3 = k + S' := by omega

set_option maxRecDepth 100000 in
set_option maxHeartbeats 2000000 in
theorem m_Stmts (lo hi : Nat) (l : List PStmt) (v : Value) (k : Nat) (ki : Int) (hki : ki = k) (w : World) (hlh : lo ≤ hi) (hs : hi ≤ w.heap.size) (ht : Thawed lo hi w) (hv : Sl (Rng lo hi) w 6 (CStS lo hi) v l) (hk : k + mkS l ≤ 1000000000) :
    Calls Tryz.prog 79 #[v, .int .i64 ki] w (Mkd lo hi w (k + mkS l)) := by
  subst hki
  have HV := Lib.hid hv
  obtain ⟨a, len, cap, rfl, Hlen, hlc, hcm, hel⟩ := hv.op
  have HK := Lib.hid hk
  have HT := Lib.hid ht
  clear hv ht hel hk
  go_enter Tryz.func79, Tryz.ntmps79
  go_wp2
  go_loopw [1, 5] (fun m i wr => ∃ q J : Nat, q ≤ len ∧ m = .int .i64 (J : Int) ∧ Hid (J = k + mkS (l.take q)) ∧ i = .int .i64 q ∧ Soft lo hi w wr) (fun _ i _ => len - (intOf i).toNat)
  case atStart => exact ⟨0, k, Nat.zero_le _, rfl, rfl, rfl, Soft.refl hlh hs⟩
  case round =>
    obtain ⟨q, J, hq, rfl, HJ, rfl, hS⟩ := hrel
    by_cases hlt : q < len
    · have HTw := Lib.hid (hS.thawed HT.out)
      obtain ⟨_, _, _, eC, _, _, _, hel⟩ := (HV.out.soft hS (fun _ _ _ _ h q => h.soft hS q)).op
      cases eC
      obtain ⟨b, o, rfl, hb, hel⟩ := hel (by omega)
      obtain ⟨x, cs, hx, hcl, hC, hcs⟩ := hel q hlt
      obtain ⟨u0, u1, vE, vF, u4, u5, rfl, ⟨n0, n1, n4, n5⟩, sE, sF⟩ := hC
      have c0 := hcs.z rfl
      have HC1 := Lib.hid (hcs 1 _ rfl)
      have HC2 := Lib.hid (hcs 2 _ rfl)
      have HC3 := Lib.hid (hcs 3 _ rfl)
      have HC4 := Lib.hid (hcs 4 _ rfl)
      have HC5 := Lib.hid (hcs 5 _ rfl)
      have f0 := HTw.out ⟨b, o + q * 6, none⟩ hb.1 hb.2
      have HX := Lib.hid (sum_take mkSt hx)
      have HXl := Lib.hid (sum_take_le mkSt l (q + 1))
      have HE := Lib.hid sE
      have HF := Lib.hid sF
      obtain ⟨aE, nE, cE, rfl⟩ := sE.shape
      obtain ⟨aF, nF, cF, rfl⟩ := sF.shape
      clear hel hcs hx hcl sE sF
      have g0 : (0 : Int) ≤ (q : Int) := by omega
      have g1 : (q : Int) < (len : Int) := by omega
      obtain ⟨J1, hJ1⟩ : ∃ J1 : Nat, J1 = J + 1 := ⟨_, rfl⟩
      obtain ⟨J2, hJ2⟩ : ∃ J2 : Nat, J2 = J1 + 1 := ⟨_, rfl⟩
      obtain ⟨J3, hJ3⟩ : ∃ J3 : Nat, J3 = J2 + 3 * x.e.length := ⟨_, rfl⟩
      obtain ⟨J4, hJ4⟩ : ∃ J4 : Nat, J4 = J3 + 3 * x.f.length := ⟨_, rfl⟩
      obtain ⟨J5, hJ5⟩ : ∃ J5 : Nat, J5 = J4 + 1 := ⟨_, rfl⟩
      obtain ⟨J6, hJ6⟩ : ∃ J6 : Nat, J6 = J5 + 1 := ⟨_, rfl⟩
      have HA := Lib.hid (st_ar (S := mkS (l.take q)) (S' := mkS (l.take (q + 1))) (T := mkS l) HJ.out HX.out HXl.out HK.out hJ1 hJ2 hJ3 hJ4 hJ5 hJ6)
      have p0 := nx hJ1 HA.out.1.1
      have p1 := nx hJ2 HA.out.1.2.1
      have p4 := nx hJ5 HA.out.1.2.2.1
      have p5 := nx hJ6 HA.out.1.2.2.2
      have HN1 : Hid (∀ w', hi ≤ w'.heap.size → Thawed lo hi w' → Sl (Rng lo hi) w' 3 CFlat (.slice aE nE cE) x.e → Calls Tryz.prog 132 #[.slice aE nE cE, .int .i64 (J2 : Int)] w' (Mkd lo hi w' J3)) := fun w' h1 h2 h3 => by
        have := m_Nodes lo hi x.e _ J2 _ rfl w' hlh h1 h2 h3 HA.out.2.2.1
        rw [← hJ3] at this
        exact this
      have HN2 : Hid (∀ w', hi ≤ w'.heap.size → Thawed lo hi w' → Sl (Rng lo hi) w' 3 CFlat (.slice aF nF cF) x.f → Calls Tryz.prog 132 #[.slice aF nF cF, .int .i64 (J3 : Int)] w' (Mkd lo hi w' J4)) := fun w' h1 h2 h3 => by
        have := m_Nodes lo hi x.f _ J3 _ rfl w' hlh h1 h2 h3 HA.out.2.2.2.1
        rw [← hJ4] at this
        exact this
      have HJ6 : Hid (J6 = k + mkS (l.take (q + 1))) := HA.out.2.2.2.2
      have S1 := (Soft.refl (lo := lo) (hi := hi) hlh hS.hs').setCell (p := ⟨b, o + q * 6, none⟩) hb.1 hb.2 c0 n0 (v := .int .i64 (J : Int)) rfl
      have HS1 := Lib.hid S1
      have HB1 := Lib.hid HA.out.2.1
      have HSw := Lib.hid hS
      clear hJ1 hJ2 hJ3 hJ4 hJ5 hJ6 S1 hS
      go_wp2_with fail
      refine (m_Text J1 _ (by first | rfl | rw [p0]) _ HB1.out).mono ?_
      rintro e w1 ⟨s, rfl, hX⟩
      have S2 := HS1.out.ext hX
      obtain ⟨u1', d1, m1⟩ := S2.nsl (a := ⟨b, o + q * 6 + 1, none⟩) hb HC1.out n1
      have f1 := (S2.thawed HTw.out) ⟨b, o + q * 6 + 1, none⟩ hb.1 hb.2
      have S3 := S2.setCell (p := ⟨b, o + q * 6 + 1, none⟩) hb.1 hb.2 d1 m1 (v := .string s) rfl
      have d2 := S3.slc (a := ⟨b, o + q * 6 + 2, none⟩) hb HC2.out rfl
      have HS3 := Lib.hid S3
      clear S2 S3 HS1
      go_wp2_with fail
      refine (HN1.out _ HS3.out.hs' (HS3.out.thawed HTw.out) (sl_flat HE.out HS3.out)).mono ?_
      rintro e w2 ⟨rfl, hX2⟩
      have S4 := HS3.out.trans hX2
      have d3 := S4.slc (a := ⟨b, o + q * 6 + 3, none⟩) hb HC3.out rfl
      have HS4 := Lib.hid S4
      clear S4 hX2 HS3 d1 d2
      go_wp2_with fail
      refine (HN2.out _ HS4.out.hs' (HS4.out.thawed HTw.out) (sl_flat HF.out HS4.out)).mono ?_
      rintro e w3 ⟨rfl, hX3⟩
      have S5 := HS4.out.trans hX3
      obtain ⟨u4', d4, m4⟩ := S5.nsl (a := ⟨b, o + q * 6 + 4, none⟩) hb HC4.out n4
      have f4 := (S5.thawed HTw.out) ⟨b, o + q * 6 + 4, none⟩ hb.1 hb.2
      have f5 := (S5.thawed HTw.out) ⟨b, o + q * 6 + 5, none⟩ hb.1 hb.2
      obtain ⟨u5', d5, m5⟩ := S5.nsl (a := ⟨b, o + q * 6 + 5, none⟩) hb HC5.out n5
      have S6 := S5.setCell (p := ⟨b, o + q * 6 + 4, none⟩) hb.1 hb.2 d4 m4 (v := .int .i64 (J4 : Int)) rfl
      have d6 := (World.cell?_setCell_other w3 ⟨b, o + q * 6 + 4, none⟩ ⟨b, o + q * 6 + 5, none⟩ (.int .i64 (J4 : Int)) (by simp)).trans d5
      have HS7 := Lib.hid (HSw.out.trans (S6.setCell (p := ⟨b, o + q * 6 + 5, none⟩) hb.1 hb.2 d6 m5 (v := .int .i64 (J5 : Int)) rfl))
      clear S5 S6 d6 hX3 HS4 d3
      go_wp2
      go_roundw
      case rel => exact ⟨q + 1, J6, by omega, by rw [p5], HJ6.out, by go_num, HS7.out⟩
      case measure => simp [intOf]; omega
    · obtain rfl : len = q := by omega
      go_wp2
      go_ret
      exact Mkd.ret (by rw [HJ.out, take_all Hlen]) hS

set_option maxRecDepth 100000 in
set_option maxHeartbeats 2000000 in
theorem m_Funcs (lo hi : Nat) (l : List PFunc) (v : Value) (k : Nat) (ki : Int) (hki : ki = k) (w : World) (hlh : lo ≤ hi) (hs : hi ≤ w.heap.size) (ht : Thawed lo hi w) (hv : Sl (Rng lo hi) w 3 (CFnS lo hi) v l) (hk : k + mkF l ≤ 1000000000) :
    Calls Tryz.prog 43 #[v, .int .i64 ki] w (Mkd lo hi w (k + mkF l)) := by
  subst hki
  have HV := Lib.hid hv
  obtain ⟨a, len, cap, rfl, Hlen, hlc, hcm, hel⟩ := hv.op
  have HK := Lib.hid hk
  have HT := Lib.hid ht
  clear hv ht hel hk
  go_enter Tryz.func43, Tryz.ntmps43
  go_wp2
  go_loopw [1, 5] (fun m i wr => ∃ q J : Nat, q ≤ len ∧ m = .int .i64 (J : Int) ∧ Hid (J = k + mkF (l.take q)) ∧ i = .int .i64 q ∧ Soft lo hi w wr) (fun _ i _ => len - (intOf i).toNat)
  case atStart => exact ⟨0, k, Nat.zero_le _, rfl, rfl, rfl, Soft.refl hlh hs⟩
  case round =>
    obtain ⟨q, J, hq, rfl, HJ, rfl, hS⟩ := hrel
    by_cases hlt : q < len
    · have HTw := Lib.hid (hS.thawed HT.out)
      obtain ⟨_, _, _, eC, _, _, _, hel⟩ := (HV.out.soft hS (fun _ _ _ _ h q => h.soft hS q)).op
      cases eC
      obtain ⟨b, o, rfl, hb, hel⟩ := hel (by omega)
      obtain ⟨x, cs, hx, hcl, hC, hcs⟩ := hel q hlt
      obtain ⟨u0, vP, vB, rfl, n0, sP, sB⟩ := hC
      have HC0 := Lib.hid (hcs.z rfl)
      have HC1 := Lib.hid (hcs 1 _ rfl)
      have HC2 := Lib.hid (hcs 2 _ rfl)
      have HX := Lib.hid (sum_take mkFn hx)
      have HXl := Lib.hid (sum_take_le mkFn l (q + 1))
      have HE := Lib.hid sP
      have HF := Lib.hid sB
      obtain ⟨aE, nE, cE, rfl⟩ := sP.shape
      obtain ⟨aF, nF, cF, rfl⟩ := sB.shape
      clear hel hcs hx hcl sP sB
      have g0 : (0 : Int) ≤ (q : Int) := by omega
      have g1 : (q : Int) < (len : Int) := by omega
      obtain ⟨J1, hJ1⟩ : ∃ J1 : Nat, J1 = J + 1 := ⟨_, rfl⟩
      obtain ⟨J2, hJ2⟩ : ∃ J2 : Nat, J2 = J1 + x.params.length := ⟨_, rfl⟩
      obtain ⟨J3, hJ3⟩ : ∃ J3 : Nat, J3 = J2 + mkS x.body := ⟨_, rfl⟩
      have HA := Lib.hid (fn_ar (S := mkF (l.take q)) (S' := mkF (l.take (q + 1))) (T := mkF l) HJ.out HX.out HXl.out HK.out hJ1 hJ2 hJ3)
      have p0 := nx hJ1 HA.out.1
      have HN1 : Hid (∀ w', hi ≤ w'.heap.size → Thawed lo hi w' → Sl (Rng lo hi) w' 1 CFlat (.slice aE nE cE) x.params → Calls Tryz.prog 78 #[.slice aE nE cE, .int .i64 (J1 : Int)] w' (Mkd lo hi w' J2)) := fun w' h1 h2 h3 => by
        have := m_Strs lo hi x.params _ J1 _ rfl w' hlh h1 h2 h3 HA.out.2.2.1
        rw [← hJ2] at this
        exact this
      have HN2 : Hid (∀ w', hi ≤ w'.heap.size → Thawed lo hi w' → Sl (Rng lo hi) w' 6 (CStS lo hi) (.slice aF nF cF) x.body → Calls Tryz.prog 79 #[.slice aF nF cF, .int .i64 (J2 : Int)] w' (Mkd lo hi w' J3)) := fun w' h1 h2 h3 => by
        have := m_Stmts lo hi x.body _ J2 _ rfl w' hlh h1 h2 h3 HA.out.2.2.2.1
        rw [← hJ3] at this
        exact this
      have HJ6 : Hid (J3 = k + mkF (l.take (q + 1))) := HA.out.2.2.2.2
      have HSw := Lib.hid hS
      clear hJ1 hJ2 hJ3 hS
      go_wp2_with fail
      refine (m_Text J _ rfl _ HA.out.2.1).mono ?_
      rintro e w1 ⟨s, rfl, hX⟩
      have S2 := (Soft.refl (lo := lo) (hi := hi) hlh HSw.out.hs').ext hX
      obtain ⟨u1', d1, m1⟩ := S2.nsl (a := ⟨b, o + q * 3, none⟩) hb HC0.out n0
      have f1 := (S2.thawed HTw.out) ⟨b, o + q * 3, none⟩ hb.1 hb.2
      have S3 := S2.setCell (p := ⟨b, o + q * 3, none⟩) hb.1 hb.2 d1 m1 (v := .string s) rfl
      have d2 := S3.slc (a := ⟨b, o + q * 3 + 1, none⟩) hb HC1.out rfl
      have HS3 := Lib.hid S3
      clear S2 S3
      go_wp2_with fail
      refine (HN1.out _ HS3.out.hs' (HS3.out.thawed HTw.out) (sl_flat HE.out HS3.out)).mono ?_
      rintro e w2 ⟨rfl, hX2⟩
      have S4 := HS3.out.trans hX2
      have d3 := S4.slc (a := ⟨b, o + q * 3 + 2, none⟩) hb HC2.out rfl
      have HS4 := Lib.hid S4
      clear S4 hX2 HS3 d1 d2
      go_wp2_with fail
      refine (HN2.out _ HS4.out.hs' (HS4.out.thawed HTw.out) (HF.out.soft HS4.out (fun _ _ _ _ h q => h.soft HS4.out q))).mono ?_
      rintro e w3 ⟨rfl, hX3⟩
      have HS7 := Lib.hid (HSw.out.trans (HS4.out.trans hX3))
      clear hX3 HS4 d3
      go_wp2
      go_roundw
      case rel => exact ⟨q + 1, J3, by omega, rfl, HJ6.out, by go_num, HS7.out⟩
      case measure => simp [intOf]; omega
    · obtain rfl : len = q := by omega
      go_wp2
      go_ret
      exact Mkd.ret (by rw [HJ.out, take_all Hlen]) hS

theorem m_Tree (lo hi : Nat) (t : PTree) (vG vF : Value) (k : Nat) (ki : Int) (hki : ki = k) (w : World) (hlh : lo ≤ hi) (hs : hi ≤ w.heap.size) (ht : Thawed lo hi w) (hG : Sl (Rng lo hi) w 2 CFlat vG t.globals) (hF : Sl (Rng lo hi) w 3 (CFnS lo hi) vF t.funcs) (hk : k + 2 * t.globals.length + mkF t.funcs ≤ 1000000000) :
    Calls Tryz.prog 13 #[.agg #[vG, vF], .int .i64 ki] w (Mkd lo hi w (k + 2 * t.globals.length + mkF t.funcs)) := by
  subst hki
  have HG := Lib.hid hG
  have HF := Lib.hid hF
  obtain ⟨aG, nG, cG, rfl⟩ := hG.shape
  obtain ⟨aF, nF, cF, rfl⟩ := hF.shape
  have S0 := (Soft.refl (lo := lo) (hi := hi) hlh hs).ext ((Ext.refl w).alloc (.cells #[.slice aG nG cG, .slice aF nF cF] 32))
  have hX := Blk.alloc w 32 #[.slice aG nG cG, .slice aF nF cF]
  have HS0 := Lib.hid S0
  have HX := Lib.hid hX
  have HT := Lib.hid ht
  have HL : Hid (w.heap.size < (w.alloc (.cells #[.slice aG nG cG, .slice aF nF cF] 32)).heap.size) := hX.lt
  have d0 := hX.cell 0 |>.trans (show _ = some (Value.slice aG nG cG) from rfl)
  clear hG hF S0 ht
  go_enter Tryz.func13, Tryz.ntmps13
  go_wp2_with fail
  refine (m_Globs lo hi t.globals _ k _ rfl _ hlh HS0.out.hs' (HS0.out.thawed HT.out) (sl_flat HG.out HS0.out) (by omega)).mono ?_
  rintro e w1 ⟨rfl, hS1⟩
  have d1 : w1.cell? ⟨w.heap.size, 1, none⟩ = some (.slice aF nF cF) := by
    rw [World.cell?_of_block (a := ⟨w.heap.size, 1, none⟩) (w := w.alloc (.cells #[.slice aG nG cG, .slice aF nF cF] 32)) (hS1.up _ hs HL.out)]
    exact (HX.out.cell 1).trans rfl
  have HS1 := Lib.hid (HS0.out.trans hS1)
  obtain ⟨J, hJ⟩ : ∃ J : Nat, J = k + 2 * t.globals.length := ⟨_, rfl⟩
  rw [← hJ] at hk ⊢
  have HM := Lib.hid (m_Funcs lo hi t.funcs _ J _ rfl w1 hlh HS1.out.hs' (HS1.out.thawed HT.out) (HF.out.soft HS1.out (fun _ _ _ _ h q => h.soft HS1.out q)) hk)
  have HJ := Lib.hid hJ
  clear hS1 hX hJ hk
  go_wp2_with fail
  refine HM.out.mono ?_
  rintro e w2 ⟨rfl, hS2⟩
  have HS2 := Lib.hid (HS1.out.trans hS2)
  clear hS2
  go_wp2
  go_ret
  exact Mkd.ret (by rw [HJ.out]; exact (Int.natCast_add _ _).symm) HS2.out
end Go.Proofs.YtolbngbedncemaaGreatDoor
