/- The laws' copies of nodes and trees: what they make lies in new memory and is the same model; no condition but bounds. PRINTED by gen_to.py of this repo. -/
import Derived.Test.YtcfggjmdcaoecaaGreatDoorRep
set_option linter.unusedVariables false
set_option linter.unusedSimpArgs false
namespace Go.Proofs.YtcfggjmdcaoecaaGreatDoor
open Go Go.RowKit Md

/-- w' is w with new blocks, none of them frozen. -/
def NT (B : Nat) (w : World) : Prop := ∀ b, B ≤ b → ∀ c t fz, w.heap[b]? = some (.cells c t fz) → fz = (0, 0)
structure TE (w w' : World) : Prop where
  e : Ext w w'
  nt : NT w.heap.size w'
theorem TE.refl (w : World) : TE w w := ⟨Ext.refl w, fun b hb c t fz h => by have := (Array.getElem?_eq_some_iff.1 h).1; omega⟩
theorem TE.trans {a b c : World} (h : TE a b) (k : TE b c) : TE a c := ⟨h.e.trans k.e, fun x hx u t fz e => by
  by_cases hl : x < b.heap.size
  · rw [k.e.block x hl] at e
    exact h.nt x hx u t fz e
  · exact k.nt x (by omega) u t fz e⟩
theorem TE.alloc {a b : World} (h : TE a b) (cs : Array Value) (t : Nat) : TE a (b.alloc (.cells cs t)) := ⟨h.e.alloc _, fun x hx u t' fz e => by
  by_cases hl : x < b.heap.size
  · rw [Below.heap_alloc _ _ _ hl] at e
    exact h.nt x hx u t' fz e
  · have hx2 := (Array.getElem?_eq_some_iff.1 e).1
    obtain rfl : x = b.heap.size := by simp at hx2; omega
    rw [heap_alloc_new] at e
    cases e
    rfl⟩
theorem TE.setCell {a b : World} (h : TE a b) {p : Addr} (hp : a.heap.size ≤ p.block) (v : Value) : TE a (b.setCell p v) := ⟨Below.setCell h.e hp v, fun x hx u t fz e => by
  by_cases hl : x = p.block
  · subst hl
    simp only [World.setCell, Array.getElem?_modify] at e
    rw [if_pos trivial] at e
    cases ho : b.heap[p.block]? with
    | none => rw [ho] at e; cases e
    | some o =>
      rw [ho] at e
      cases o with
      | cells c t' fz' =>
        simp only [Option.map_some, Option.some.injEq, Obj.cells.injEq] at e
        obtain ⟨_, _, rfl⟩ := e
        exact h.nt _ hx c t' _ ho
      | _ => simp at e
  · rw [Below.heap_setCell _ _ _ _ hl] at e
    exact h.nt x hx u t fz e⟩

/-- A made struct value: its cells, as C says, its blocks new. -/
def MadeAgg {α : Type} (C : Foot → World → List Value → α → Prop) (x : α) (w : World) (e : Ending) (w' : World) : Prop :=
  ∃ cs : List Value, e = .returned (.agg cs.toArray) ∧ C (New w) w' cs x ∧ TE w w'
def MadeSl {α : Type} (sz : Nat) (C : Foot → World → List Value → α → Prop) (xs : List α) (w : World) (e : Ending) (w' : World) : Prop :=
  ∃ v, e = .returned v ∧ Sl (New w) w' sz (C (New w)) v xs ∧ TE w w'


theorem c_toNode (x : PNode) (w : World) (i1 : I64 x.kind) (i2 : I64 x.val) (i3 : x.name.size ≤ maxLen) :
    Calls Tryz.prog 181 #[.agg #[.int .i64 x.kind, .int .i64 x.val, .string x.name]] w (MadeAgg (fun _ => CNode) x w) := by
  go_enter Tryz.func181, Tryz.ntmps181
  go_wp2
  refine bodyPost_ret (v := .agg #[.int .i64 x.kind, .int .i64 x.val, .string x.name]) (by simp [results, Tryz.results181, go_sem]) rfl ?_
  exact ⟨[.int .i64 x.kind, .int .i64 x.val, .string x.name], rfl, ⟨rfl, i1, i2, i3⟩, (((TE.refl _).alloc _ _).alloc _ _).alloc _ _⟩


theorem info_Node : (Tryz.prog.info? 104).map (fun i => (i.zero, i.size, i.bytes)) = some (some (.agg #[.int .i64 0, .int .i64 0, .string ByteArray.empty]), 3, 32) := by kernel_rfl
theorem c_toNodeS (K : Foot) (v : Value) (l : List PNode) (w : World) (hv : SlNode K w v l) (hl : l.length ≤ 1048576) :
    Calls Tryz.prog 167 #[v] w (MadeSl 3 (fun _ => CNode) l w) := by
  obtain ⟨a, len, cap, rfl, Hlen, hlc, hcm, hel⟩ := hv.op
  have hln : len ≤ 1048576 := by have := Hlen.out; omega
  clear hv hl
  obtain ⟨i0, hi, hz0, hz1, hz2⟩ := info_parts info_Node
  have hmk := fun (w : World) => run_make (P := Tryz.prog) w 100 104 i0 _ Tryz.underlying100 hi hz0 .i64 .i64 len len (by omega) (by omega) (by rw [hz2]; omega) (by omega)
  rw [hz1] at hmk
  simp only [Int.toNat_natCast] at hmk
  go_enter Tryz.func167, Tryz.ntmps167
  go_wp2
  clear hmk
  go_loopw [4] (fun i wr => ∃ k : Nat, k ≤ len ∧ i = .int .i64 k ∧ TE w wr ∧ ∃ arr, Blk wr w.heap.size 104 arr ∧ Hid (arr.size = len * 3) ∧ Hid (Filled wr 3 CNode l k arr)) (fun i _ => len - (intOf i).toNat)
  case atStart => exact ⟨0, Nat.zero_le _, rfl, (TE.refl w).alloc _ _, _, Blk.alloc _ _ _, size_madeCells _ _, Filled.zero _ _ _ _ _⟩
  case round =>
    obtain ⟨k, hk, rfl, tE, arr, hB, Hsz, Harr⟩ := hrel
    have hE := tE.e
    by_cases hlt : k < len
    · obtain ⟨b, o, rfl, _, hel⟩ := hel (by omega)
      obtain ⟨x, cs, hx, _, hC, hcs⟩ := hel k hlt
      obtain ⟨rfl, i1, i2, i3⟩ := hC
      have c0 := hE.cell (hcs.z rfl)
      have c1 := hE.cell (hcs 1 _ rfl)
      have c2 := hE.cell (hcs 2 _ rfl)
      have Hx := Lib.hid hx
      clear hel hcs hx
      have g0 : (0 : Int) ≤ (k : Int) := by omega
      have g1 : (k : Int) < (len : Int) := by omega
      go_wp2_with fail
      refine (c_toNode x _ i1 i2 i3).mono ?_
      rintro e w1 ⟨cs, rfl, hC, tE1⟩
      have hE1 := tE1.e
      have hEx := hE.trans hE1
      have tEx := tE.trans tE1
      have hB1 := hB.ext hE1
      obtain ⟨rfl, _⟩ := hC
      obtain ⟨y0, d0⟩ := hB1.some (k * 3) (by have := Hsz.out; omega)
      have f0 := hB1.frozen (k * 3)
      obtain ⟨y1, d1⟩ := hB1.some (k * 3 + 1) (by have := Hsz.out; omega)
      have f1 := hB1.frozen (k * 3 + 1)
      obtain ⟨y2, d2⟩ := hB1.some (k * 3 + 2) (by have := Hsz.out; omega)
      have f2 := hB1.frozen (k * 3 + 2)
      go_wp2
      go_roundw
      case rel => exact ⟨k + 1, by omega, by go_num, TE.setCell (TE.setCell (TE.setCell (tEx) (p := ⟨w.heap.size, k * 3, none⟩) (Nat.le_refl _) (.int .i64 x.kind)) (p := ⟨w.heap.size, k * 3 + 1, none⟩) (Nat.le_refl _) (.int .i64 x.val)) (p := ⟨w.heap.size, k * 3 + 2, none⟩) (Nat.le_refl _) (.string x.name), setCs arr (k * 3) [.int .i64 x.kind, .int .i64 x.val, .string x.name], ((hB1.set (k * 3) (.int .i64 x.kind)).set (k * 3 + 1) (.int .i64 x.val)).set (k * 3 + 2) (.string x.name), Lib.hid (by rw [setCs_size]; exact Hsz.out), Filled.snoc Harr Hx rfl ⟨rfl, i1, i2, i3⟩ (fun _ _ h => h.any) Hsz hlt⟩
      case measure => simp [intOf]; omega
    · go_wp2
      go_ret
      obtain rfl : k = len := by omega
      exact ⟨_, rfl, Filled.sl Harr Hlen hB (Nat.le_refl _) (by omega), tE⟩


theorem c_toGlobal (x : PGlob) (w : World) (i1 : I64 x.size) (i2 : x.name.size ≤ maxLen) :
    Calls Tryz.prog 67 #[.agg #[.string x.name, .int .i64 x.size]] w (MadeAgg (fun _ => CGlob) x w) := by
  go_enter Tryz.func67, Tryz.ntmps67
  go_wp2
  refine bodyPost_ret (v := .agg #[.string x.name, .int .i64 x.size]) (by simp [results, Tryz.results67, go_sem]) rfl ?_
  exact ⟨[.string x.name, .int .i64 x.size], rfl, ⟨rfl, i1, i2⟩, (((TE.refl _).alloc _ _).alloc _ _).alloc _ _⟩


theorem info_Global : (Tryz.prog.info? 97).map (fun i => (i.zero, i.size, i.bytes)) = some (some (.agg #[.string ByteArray.empty, .int .i64 0]), 2, 24) := by kernel_rfl
theorem c_toGlobalS (K : Foot) (v : Value) (l : List PGlob) (w : World) (hv : SlGlob K w v l) (hl : l.length ≤ 1048576) :
    Calls Tryz.prog 36 #[v] w (MadeSl 2 (fun _ => CGlob) l w) := by
  obtain ⟨a, len, cap, rfl, Hlen, hlc, hcm, hel⟩ := hv.op
  have hln : len ≤ 1048576 := by have := Hlen.out; omega
  clear hv hl
  obtain ⟨i0, hi, hz0, hz1, hz2⟩ := info_parts info_Global
  have hmk := fun (w : World) => run_make (P := Tryz.prog) w 29 97 i0 _ Tryz.underlying29 hi hz0 .i64 .i64 len len (by omega) (by omega) (by rw [hz2]; omega) (by omega)
  rw [hz1] at hmk
  simp only [Int.toNat_natCast] at hmk
  go_enter Tryz.func36, Tryz.ntmps36
  go_wp2
  clear hmk
  go_loopw [4] (fun i wr => ∃ k : Nat, k ≤ len ∧ i = .int .i64 k ∧ TE w wr ∧ ∃ arr, Blk wr w.heap.size 97 arr ∧ Hid (arr.size = len * 2) ∧ Hid (Filled wr 2 CGlob l k arr)) (fun i _ => len - (intOf i).toNat)
  case atStart => exact ⟨0, Nat.zero_le _, rfl, (TE.refl w).alloc _ _, _, Blk.alloc _ _ _, size_madeCells _ _, Filled.zero _ _ _ _ _⟩
  case round =>
    obtain ⟨k, hk, rfl, tE, arr, hB, Hsz, Harr⟩ := hrel
    have hE := tE.e
    by_cases hlt : k < len
    · obtain ⟨b, o, rfl, _, hel⟩ := hel (by omega)
      obtain ⟨x, cs, hx, _, hC, hcs⟩ := hel k hlt
      obtain ⟨rfl, i1, i2⟩ := hC
      have c0 := hE.cell (hcs.z rfl)
      have c1 := hE.cell (hcs 1 _ rfl)
      have Hx := Lib.hid hx
      clear hel hcs hx
      have g0 : (0 : Int) ≤ (k : Int) := by omega
      have g1 : (k : Int) < (len : Int) := by omega
      go_wp2_with fail
      refine (c_toGlobal x _ i1 i2).mono ?_
      rintro e w1 ⟨cs, rfl, hC, tE1⟩
      have hE1 := tE1.e
      have hEx := hE.trans hE1
      have tEx := tE.trans tE1
      have hB1 := hB.ext hE1
      obtain ⟨rfl, _⟩ := hC
      obtain ⟨y0, d0⟩ := hB1.some (k * 2) (by have := Hsz.out; omega)
      have f0 := hB1.frozen (k * 2)
      obtain ⟨y1, d1⟩ := hB1.some (k * 2 + 1) (by have := Hsz.out; omega)
      have f1 := hB1.frozen (k * 2 + 1)
      go_wp2
      go_roundw
      case rel => exact ⟨k + 1, by omega, by go_num, TE.setCell (TE.setCell (tEx) (p := ⟨w.heap.size, k * 2, none⟩) (Nat.le_refl _) (.string x.name)) (p := ⟨w.heap.size, k * 2 + 1, none⟩) (Nat.le_refl _) (.int .i64 x.size), setCs arr (k * 2) [.string x.name, .int .i64 x.size], (hB1.set (k * 2) (.string x.name)).set (k * 2 + 1) (.int .i64 x.size), Lib.hid (by rw [setCs_size]; exact Hsz.out), Filled.snoc Harr Hx rfl ⟨rfl, i1, i2⟩ (fun _ _ h => h.any) Hsz hlt⟩
      case measure => simp [intOf]; omega
    · go_wp2
      go_ret
      obtain rfl : k = len := by omega
      exact ⟨_, rfl, Filled.sl Harr Hlen hB (Nat.le_refl _) (by omega), tE⟩


theorem info_String : (Tryz.prog.info? 9).map (fun i => (i.zero, i.size, i.bytes)) = some (some (.string ByteArray.empty), 1, 16) := by kernel_rfl
theorem c_toStringS (K : Foot) (v : Value) (l : List ByteArray) (w : World) (hv : SlStr K w v l) (hl : l.length ≤ 1048576) :
    Calls Tryz.prog 109 #[v] w (MadeSl 1 (fun _ => CStr) l w) := by
  obtain ⟨a, len, cap, rfl, Hlen, hlc, hcm, hel⟩ := hv.op
  have hln : len ≤ 1048576 := by have := Hlen.out; omega
  clear hv hl
  obtain ⟨i0, hi, hz0, hz1, hz2⟩ := info_parts info_String
  have hmk := fun (w : World) => run_make (P := Tryz.prog) w 80 9 i0 _ Tryz.underlying80 hi hz0 .i64 .i64 len len (by omega) (by omega) (by rw [hz2]; omega) (by omega)
  rw [hz1] at hmk
  simp only [Int.toNat_natCast, Nat.mul_one] at hmk
  go_enter Tryz.func109, Tryz.ntmps109
  go_wp2
  clear hmk
  go_loopw [4] (fun i wr => ∃ k : Nat, k ≤ len ∧ i = .int .i64 k ∧ TE w wr ∧ ∃ arr, Blk wr w.heap.size 9 arr ∧ Hid (arr.size = len * 1) ∧ Hid (Filled wr 1 CStr l k arr)) (fun i _ => len - (intOf i).toNat)
  case atStart => exact ⟨0, Nat.zero_le _, rfl, (TE.refl w).alloc _ _, _, Blk.alloc _ _ _, Lib.hid (by rw [size_madeCells, Nat.mul_one]), Filled.zero _ _ _ _ _⟩
  case round =>
    obtain ⟨k, hk, rfl, tE, arr, hB, Hsz, Harr⟩ := hrel
    have hE := tE.e
    by_cases hlt : k < len
    · obtain ⟨b, o, rfl, _, hel⟩ := hel (by omega)
      obtain ⟨x, cs, hx, _, hC, hcs⟩ := hel k hlt
      obtain ⟨rfl, i1⟩ := hC
      have c0 := hE.cell (hcs.z rfl)
      rw [Nat.mul_one] at c0
      have Hx := Lib.hid hx
      clear hel hcs hx
      have g0 : (0 : Int) ≤ (k : Int) := by omega
      have g1 : (k : Int) < (len : Int) := by omega
      obtain ⟨y0, d0⟩ := hB.some (k) (by have := Hsz.out; omega)
      have f0 := hB.frozen (k)
      go_wp2
      go_roundw
      case rel => exact ⟨k + 1, by omega, by go_num, TE.setCell (tE) (p := ⟨w.heap.size, k, none⟩) (Nat.le_refl _) (.string x), setCs arr (k * 1) [.string x], by rw [Nat.mul_one]; exact hB.set (k) (.string x), Lib.hid (by rw [setCs_size]; exact Hsz.out), Filled.snoc Harr Hx rfl ⟨rfl, i1⟩ (fun _ _ h => h.any) Hsz hlt⟩
      case measure => simp [intOf]; omega
    · go_wp2
      go_ret
      obtain rfl : k = len := by omega
      exact ⟨_, rfl, Filled.sl Harr Hlen hB (Nat.le_refl _) (by omega), tE⟩


set_option maxHeartbeats 1600000 in
theorem c_toStmt (K : Foot) (x : PStmt) (v0 v1 : Value) (w : World) (h0 : SlNode K w v0 x.e) (h1 : SlNode K w v1 x.f) (b0 : x.e.length ≤ 1048576) (b1 : x.f.length ≤ 1048576) (i1 : I64 x.kind) (i2 : I64 x.thn) (i3 : I64 x.els) (i4 : x.name.size ≤ maxLen) :
    Calls Tryz.prog 141 #[.agg #[.int .i64 x.kind, .string x.name, v0, v1, .int .i64 x.thn, .int .i64 x.els]] w (MadeAgg CStmt x w) := by
  obtain ⟨s2, hs2⟩ : ∃ s2, s2 = w.heap.size + 1 + 1 := ⟨_, rfl⟩
  obtain ⟨Q, hQ⟩ : ∃ Q : Foot, Q = fun b => s2 < b := ⟨_, rfl⟩
  have Hs2 := Lib.hid hs2
  have HQ := Lib.hid hQ
  clear hs2 hQ
  have QN : ∀ b, Q b → New w b := fun b h => by rw [HQ.out] at h; have := Hs2.out; show w.heap.size ≤ b; omega
  have Q2 : ∀ b, Q b → b ≠ w.heap.size + 1 + 1 := fun b h => by rw [HQ.out] at h; have := Hs2.out; omega
  have Q1 : ∀ b, Q b → b ≠ w.heap.size + 1 := fun b h => by rw [HQ.out] at h; have := Hs2.out; omega
  go_enter Tryz.func141, Tryz.ntmps141
  go_wp2_with fail
  refine (c_toNodeS K v0 _ _ (h0.ext ((((Ext.refl _).alloc _).alloc _).alloc _) (fun _ _ h => h.any)) b0).mono ?_
  rintro e w1 ⟨u0, rfl, m0, tX1⟩
  have hX1 := tX1.e
  obtain ⟨p0, p1, p2⟩ := Blk.alloc3 w 223 102 102 #[.int .i64 x.kind, .string x.name, v0, v1, .int .i64 x.thn, .int .i64 x.els] #[.int .i64 0, .string ByteArray.empty, .slice none 0 0, .slice none 0 0, .int .i64 0, .int .i64 0] #[.int .i64 x.kind, .string x.name, .slice none 0 0, .slice none 0 0, .int .i64 0, .int .i64 0]
  have tE1 : TE w w1 := ((((TE.refl w).alloc _ _).alloc _ _).alloc _ _).trans tX1
  have hE1 := tE1.e
  have p0 := p0.ext hX1
  have p1 := p1.ext hX1
  have p2 := p2.ext hX1
  have hs1 : w.heap.size + 1 + 1 < w1.heap.size := p2.lt
  have L1 : w.heap.size ≤ w.heap.size + 1 := Nat.le_succ _
  have L2 : w.heap.size ≤ w.heap.size + 1 + 1 := Nat.le_succ_of_le L1
  have m0 : Sl Q w1 3 CNode u0 x.e := m0.keep (Keep.refl _ w1) (fun _ _ _ h => h.any) (fun b hb => by
    have hb : (((w.alloc _).alloc _).alloc _).heap.size ≤ b := hb
    simp at hb
    rw [HQ.out]
    have := Hs2.out
    show s2 < b
    omega)
  obtain ⟨a0, n0, z0, rfl⟩ := m0.shape
  have q0_0 : w1.cell? ⟨w.heap.size, 0, none⟩ = some (.int .i64 x.kind) := p0.cell 0
  have q0_1 : w1.cell? ⟨w.heap.size, 1, none⟩ = some (.string x.name) := p0.cell 1
  have q0_2 : w1.cell? ⟨w.heap.size, 2, none⟩ = some (v0) := p0.cell 2
  have q0_3 : w1.cell? ⟨w.heap.size, 3, none⟩ = some (v1) := p0.cell 3
  have q0_4 : w1.cell? ⟨w.heap.size, 4, none⟩ = some (.int .i64 x.thn) := p0.cell 4
  have q0_5 : w1.cell? ⟨w.heap.size, 5, none⟩ = some (.int .i64 x.els) := p0.cell 5
  have q2 : w1.cell? ⟨w.heap.size + 1 + 1, 2, none⟩ = some (.slice none 0 0) := p2.cell 2
  have f2 := p2.frozen 2
  go_wp2_with fail
  have tE1s := TE.setCell tE1 (p := ⟨w.heap.size + 1 + 1, 2, none⟩) (by show w.heap.size ≤ w.heap.size + 1 + 1; omega) (.slice a0 n0 z0)
  have hE1s := tE1s.e
  refine (c_toNodeS K v1 _ _ (h1.ext hE1s (fun _ _ h => h.any)) b1).mono ?_
  rintro e w2 ⟨u1, rfl, m1, tX2⟩
  have hX2 := tX2.e
  have tE2 := TE.trans tE1s tX2
  have hE2 := tE2.e
  have NW : ∀ b, New (w1.setCell ⟨w.heap.size + 1 + 1, 2, none⟩ (.slice a0 n0 z0)) b → Q b := fun b hb => by
    have hb : (w1.setCell _ _).heap.size ≤ b := hb
    rw [World.size_setCell] at hb
    rw [HQ.out]
    have := Hs2.out
    show s2 < b
    omega
  have m1 : Sl Q w2 3 CNode u1 x.f := m1.keep (Keep.refl _ w2) (fun _ _ _ h => h.any) NW
  obtain ⟨a1, n1, z1, rfl⟩ := m1.shape
  have m0 := m0.keep (C' := CNode) (((Keep.refl Q w1).setCell (a := ⟨w.heap.size + 1 + 1, 2, none⟩) Q2 (.slice a0 n0 z0)).trans (hX2.keep _) (by rw [World.size_setCell]; omega)) (fun _ _ _ h => h.any) (fun b h => h)
  have p0 := (p0.setOther (a := ⟨w.heap.size + 1 + 1, 2, none⟩) (by show w.heap.size ≠ w.heap.size + 1 + 1; omega) (.slice a0 n0 z0)).ext hX2
  have p1 := (p1.setOther (a := ⟨w.heap.size + 1 + 1, 2, none⟩) (by show w.heap.size + 1 ≠ w.heap.size + 1 + 1; omega) (.slice a0 n0 z0)).ext hX2
  have p2 := (p2.set 2 (.slice a0 n0 z0)).ext hX2
  clear q2 f2 q0_0
  clear q0_1 q0_2 q0_3 q0_4 q0_5
  have q0_0 : w2.cell? ⟨w.heap.size, 0, none⟩ = some (.int .i64 x.kind) := p0.cell 0
  have q1_0 : w2.cell? ⟨w.heap.size + 1, 0, none⟩ = some (.int .i64 0) := p1.cell 0
  have g1_0 := p1.frozen 0
  have q2_0 : w2.cell? ⟨w.heap.size + 1 + 1, 0, none⟩ = some (.int .i64 x.kind) := p2.cell 0
  have g2_0 := p2.frozen 0
  have q0_1 : w2.cell? ⟨w.heap.size, 1, none⟩ = some (.string x.name) := p0.cell 1
  have q1_1 : w2.cell? ⟨w.heap.size + 1, 1, none⟩ = some (.string ByteArray.empty) := p1.cell 1
  have g1_1 := p1.frozen 1
  have q2_1 : w2.cell? ⟨w.heap.size + 1 + 1, 1, none⟩ = some (.string x.name) := p2.cell 1
  have g2_1 := p2.frozen 1
  have q0_2 : w2.cell? ⟨w.heap.size, 2, none⟩ = some (v0) := p0.cell 2
  have q1_2 : w2.cell? ⟨w.heap.size + 1, 2, none⟩ = some (.slice none 0 0) := p1.cell 2
  have g1_2 := p1.frozen 2
  have q2_2 : w2.cell? ⟨w.heap.size + 1 + 1, 2, none⟩ = some (.slice a0 n0 z0) := p2.cell 2
  have g2_2 := p2.frozen 2
  have q0_3 : w2.cell? ⟨w.heap.size, 3, none⟩ = some (v1) := p0.cell 3
  have q1_3 : w2.cell? ⟨w.heap.size + 1, 3, none⟩ = some (.slice none 0 0) := p1.cell 3
  have g1_3 := p1.frozen 3
  have q2_3 : w2.cell? ⟨w.heap.size + 1 + 1, 3, none⟩ = some (.slice none 0 0) := p2.cell 3
  have g2_3 := p2.frozen 3
  have q0_4 : w2.cell? ⟨w.heap.size, 4, none⟩ = some (.int .i64 x.thn) := p0.cell 4
  have q1_4 : w2.cell? ⟨w.heap.size + 1, 4, none⟩ = some (.int .i64 0) := p1.cell 4
  have g1_4 := p1.frozen 4
  have q2_4 : w2.cell? ⟨w.heap.size + 1 + 1, 4, none⟩ = some (.int .i64 0) := p2.cell 4
  have g2_4 := p2.frozen 4
  have q0_5 : w2.cell? ⟨w.heap.size, 5, none⟩ = some (.int .i64 x.els) := p0.cell 5
  have q1_5 : w2.cell? ⟨w.heap.size + 1, 5, none⟩ = some (.int .i64 0) := p1.cell 5
  have g1_5 := p1.frozen 5
  have q2_5 : w2.cell? ⟨w.heap.size + 1 + 1, 5, none⟩ = some (.int .i64 0) := p2.cell 5
  have g2_5 := p2.frozen 5
  go_wp2
  refine bodyPost_ret (v := .agg #[.int .i64 x.kind, .string x.name, .slice a0 n0 z0, .slice a1 n1 z1, .int .i64 x.thn, .int .i64 x.els]) (by simp [results, Tryz.results141, go_sem, q1_0, q1_1, q1_2, q1_3, q1_4, q1_5]) rfl ?_
  have tE3 := (TE.setCell (TE.setCell (TE.setCell (TE.setCell (TE.setCell (TE.setCell (TE.setCell (TE.setCell (TE.setCell tE2 (p := ⟨w.heap.size + 1 + 1, 3, none⟩) L2 (.slice a1 n1 z1)) (p := ⟨w.heap.size + 1 + 1, 4, none⟩) L2 (.int .i64 x.thn)) (p := ⟨w.heap.size + 1 + 1, 5, none⟩) L2 (.int .i64 x.els)) (p := ⟨w.heap.size + 1, 0, none⟩) L1 (.int .i64 x.kind)) (p := ⟨w.heap.size + 1, 1, none⟩) L1 (.string x.name)) (p := ⟨w.heap.size + 1, 2, none⟩) L1 (.slice a0 n0 z0)) (p := ⟨w.heap.size + 1, 3, none⟩) L1 (.slice a1 n1 z1)) (p := ⟨w.heap.size + 1, 4, none⟩) L1 (.int .i64 x.thn)) (p := ⟨w.heap.size + 1, 5, none⟩) L1 (.int .i64 x.els))
  have Kq := ((((((((((Keep.refl Q w2).setCell (a := ⟨w.heap.size + 1 + 1, 3, none⟩) Q2 (.slice a1 n1 z1)).setCell (a := ⟨w.heap.size + 1 + 1, 4, none⟩) Q2 (.int .i64 x.thn)).setCell (a := ⟨w.heap.size + 1 + 1, 5, none⟩) Q2 (.int .i64 x.els)).setCell (a := ⟨w.heap.size + 1, 0, none⟩) Q1 (.int .i64 x.kind)).setCell (a := ⟨w.heap.size + 1, 1, none⟩) Q1 (.string x.name)).setCell (a := ⟨w.heap.size + 1, 2, none⟩) Q1 (.slice a0 n0 z0)).setCell (a := ⟨w.heap.size + 1, 3, none⟩) Q1 (.slice a1 n1 z1)).setCell (a := ⟨w.heap.size + 1, 4, none⟩) Q1 (.int .i64 x.thn)).setCell (a := ⟨w.heap.size + 1, 5, none⟩) Q1 (.int .i64 x.els))
  have m0 := m0.keep (C' := CNode) Kq (fun _ _ _ h => h.any) QN
  have m1 := m1.keep (C' := CNode) Kq (fun _ _ _ h => h.any) QN
  exact ⟨[.int .i64 x.kind, .string x.name, .slice a0 n0 z0, .slice a1 n1 z1, .int .i64 x.thn, .int .i64 x.els], rfl, ⟨_, _, rfl, m0, m1, i1, i2, i3, i4⟩, tE3⟩


theorem info_Stmt : (Tryz.prog.info? 102).map (fun i => (i.zero, i.size, i.bytes)) = some (some (.agg #[.int .i64 0, .string ByteArray.empty, .slice none 0 0, .slice none 0 0, .int .i64 0, .int .i64 0]), 6, 88) := by kernel_rfl
theorem c_toStmtS (K : Foot) (v : Value) (l : List PStmt) (w : World) (hv : SlStmt K w v l) (hl : l.length ≤ 1048576 ∧ ∀ x ∈ l, x.e.length ≤ 1048576 ∧ x.f.length ≤ 1048576) :
    Calls Tryz.prog 110 #[v] w (MadeSl 6 CStmt l w) := by
  obtain ⟨a, len, cap, rfl, Hlen, hlc, hcm, hel⟩ := hv.op
  have hln : len ≤ 1048576 := by have := Hlen.out; omega
  have Hbd := Lib.hid hl.2
  clear hv hl
  obtain ⟨i0, hi, hz0, hz1, hz2⟩ := info_parts info_Stmt
  have hmk := fun (w : World) => run_make (P := Tryz.prog) w 81 102 i0 _ Tryz.underlying81 hi hz0 .i64 .i64 len len (by omega) (by omega) (by rw [hz2]; omega) (by omega)
  rw [hz1] at hmk
  simp only [Int.toNat_natCast] at hmk
  go_enter Tryz.func110, Tryz.ntmps110
  go_wp2
  clear hmk
  go_loopw [4] (fun i wr => ∃ k : Nat, k ≤ len ∧ i = .int .i64 k ∧ TE w wr ∧ ∃ arr, Blk wr w.heap.size 102 arr ∧ Hid (arr.size = len * 6) ∧ Hid (Filled wr 6 (CStmt (fun b => w.heap.size < b)) l k arr)) (fun i _ => len - (intOf i).toNat)
  case atStart => exact ⟨0, Nat.zero_le _, rfl, (TE.refl w).alloc _ _, _, Blk.alloc _ _ _, size_madeCells _ _, Filled.zero _ _ _ _ _⟩
  case round =>
    obtain ⟨k, hk, rfl, tE, arr, hB, Hsz, Harr⟩ := hrel
    have hE := tE.e
    by_cases hlt : k < len
    · obtain ⟨b, o, rfl, _, hel⟩ := hel (by omega)
      obtain ⟨x, cs, hx, _, hC, hcs⟩ := hel k hlt
      obtain ⟨v0, v1, rfl, h0, h1, i1, i2, i3, i4⟩ := hC
      have c0 := hE.cell (hcs.z rfl)
      have c1 := hE.cell (hcs 1 _ rfl)
      have c2 := hE.cell (hcs 2 _ rfl)
      have c3 := hE.cell (hcs 3 _ rfl)
      have c4 := hE.cell (hcs 4 _ rfl)
      have c5 := hE.cell (hcs 5 _ rfl)
      have Hx := Lib.hid hx
      clear hel hcs hx
      have g0 : (0 : Int) ≤ (k : Int) := by omega
      have g1 : (k : Int) < (len : Int) := by omega
      go_wp2_with fail
      have hbd := Hbd.out x (List.mem_of_getElem? Hx.out)
      refine (c_toStmt K x v0 v1 _ (h0.ext hE (fun _ _ h => h.any)) (h1.ext hE (fun _ _ h => h.any)) hbd.1 hbd.2 i1 i2 i3 i4).mono ?_
      clear hbd
      rintro e w1 ⟨cs, rfl, hC, tE1⟩
      have hE1 := tE1.e
      have hEx := hE.trans hE1
      have tEx := tE.trans tE1
      have hB1 := hB.ext hE1
      have hlw := hB.lt
      obtain ⟨u0, u1, rfl, hC⟩ := hC
      obtain ⟨a0, n0, z0, rfl⟩ := hC.1.shape
      obtain ⟨a1, n1, z1, rfl⟩ := hC.2.1.shape
      obtain ⟨y0, d0⟩ := hB1.some (k * 6) (by have := Hsz.out; omega)
      have f0 := hB1.frozen (k * 6)
      obtain ⟨y1, d1⟩ := hB1.some (k * 6 + 1) (by have := Hsz.out; omega)
      have f1 := hB1.frozen (k * 6 + 1)
      obtain ⟨y2, d2⟩ := hB1.some (k * 6 + 2) (by have := Hsz.out; omega)
      have f2 := hB1.frozen (k * 6 + 2)
      obtain ⟨y3, d3⟩ := hB1.some (k * 6 + 3) (by have := Hsz.out; omega)
      have f3 := hB1.frozen (k * 6 + 3)
      obtain ⟨y4, d4⟩ := hB1.some (k * 6 + 4) (by have := Hsz.out; omega)
      have f4 := hB1.frozen (k * 6 + 4)
      obtain ⟨y5, d5⟩ := hB1.some (k * 6 + 5) (by have := Hsz.out; omega)
      have f5 := hB1.frozen (k * 6 + 5)
      go_wp2
      go_roundw
      case rel =>
        have NE : ∀ b, w.heap.size < b → b ≠ w.heap.size := fun b h => by omega
        have NE2 : ∀ b, New wr b → b ≠ w.heap.size := fun b h => by have h : wr.heap.size ≤ b := h; omega
        have K1 : Keep (fun b => w.heap.size < b) wr _ := ((((((hE1.keep _).setCell (a := ⟨w.heap.size, k * 6, none⟩) NE (.int .i64 x.kind)).setCell (a := ⟨w.heap.size, k * 6 + 1, none⟩) NE (.string x.name)).setCell (a := ⟨w.heap.size, k * 6 + 2, none⟩) NE (.slice a0 n0 z0)).setCell (a := ⟨w.heap.size, k * 6 + 3, none⟩) NE (.slice a1 n1 z1)).setCell (a := ⟨w.heap.size, k * 6 + 4, none⟩) NE (.int .i64 x.thn)).setCell (a := ⟨w.heap.size, k * 6 + 5, none⟩) NE (.int .i64 x.els)
        have K2 : Keep (New wr) w1 _ := ((((((Keep.refl _ _).setCell (a := ⟨w.heap.size, k * 6, none⟩) NE2 (.int .i64 x.kind)).setCell (a := ⟨w.heap.size, k * 6 + 1, none⟩) NE2 (.string x.name)).setCell (a := ⟨w.heap.size, k * 6 + 2, none⟩) NE2 (.slice a0 n0 z0)).setCell (a := ⟨w.heap.size, k * 6 + 3, none⟩) NE2 (.slice a1 n1 z1)).setCell (a := ⟨w.heap.size, k * 6 + 4, none⟩) NE2 (.int .i64 x.thn)).setCell (a := ⟨w.heap.size, k * 6 + 5, none⟩) NE2 (.int .i64 x.els)
        have Bf := (((((hB1.set (k * 6) (.int .i64 x.kind)).set (k * 6 + 1) (.string x.name)).set (k * 6 + 2) (.slice a0 n0 z0)).set (k * 6 + 3) (.slice a1 n1 z1)).set (k * 6 + 4) (.int .i64 x.thn)).set (k * 6 + 5) (.int .i64 x.els)
        have Ef := TE.setCell (TE.setCell (TE.setCell (TE.setCell (TE.setCell (TE.setCell (tEx) (p := ⟨w.heap.size, k * 6, none⟩) (Nat.le_refl _) (.int .i64 x.kind)) (p := ⟨w.heap.size, k * 6 + 1, none⟩) (Nat.le_refl _) (.string x.name)) (p := ⟨w.heap.size, k * 6 + 2, none⟩) (Nat.le_refl _) (.slice a0 n0 z0)) (p := ⟨w.heap.size, k * 6 + 3, none⟩) (Nat.le_refl _) (.slice a1 n1 z1)) (p := ⟨w.heap.size, k * 6 + 4, none⟩) (Nat.le_refl _) (.int .i64 x.thn)) (p := ⟨w.heap.size, k * 6 + 5, none⟩) (Nat.le_refl _) (.int .i64 x.els)
        have Ff := Filled.snoc (w' := _) (C := (CStmt (fun b => w.heap.size < b))) Harr Hx (cs := [.int .i64 x.kind, .string x.name, .slice a0 n0 z0, .slice a1 n1 z1, .int .i64 x.thn, .int .i64 x.els]) rfl ((show CStmt (New wr) w1 [.int .i64 x.kind, .string x.name, .slice a0 n0 z0, .slice a1 n1 z1, .int .i64 x.thn, .int .i64 x.els] x from ⟨_, _, rfl, hC⟩).keep (K' := fun b => w.heap.size < b) K2 (fun b hb => Nat.lt_of_lt_of_le hlw hb)) (fun _ _ h => h.keep K1 (fun _ h => h)) Hsz hlt
        refine ⟨k + 1, by omega, by go_num, Ef, setCs arr (k * 6) [.int .i64 x.kind, .string x.name, .slice a0 n0 z0, .slice a1 n1 z1, .int .i64 x.thn, .int .i64 x.els], by simp only [setCs, Nat.add_assoc, Nat.reduceAdd]; exact Bf, Lib.hid (by rw [setCs_size]; exact Hsz.out), Ff⟩
      case measure => simp [intOf]; omega
    · go_wp2
      go_ret
      obtain rfl : k = len := by omega
      exact ⟨_, rfl, (Filled.sl (K := New w) Harr Hlen hB (Nat.le_refl _) (by omega)).keep (Keep.refl _ _) (fun _ _ _ h => h.keep (Keep.refl _ _) (fun b hb => Nat.le_of_lt hb)) (fun _ h => h), tE⟩


set_option maxHeartbeats 1600000 in
theorem c_toFunc (K : Foot) (x : PFunc) (v0 v1 : Value) (w : World) (h0 : SlStr K w v0 x.params) (h1 : SlStmt K w v1 x.body) (b0 : x.params.length ≤ 1048576) (b1 : x.body.length ≤ 1048576 ∧ ∀ s ∈ x.body, s.e.length ≤ 1048576 ∧ s.f.length ≤ 1048576) (i1 : x.name.size ≤ maxLen) :
    Calls Tryz.prog 68 #[.agg #[.string x.name, v0, v1]] w (MadeAgg CFunc x w) := by
  obtain ⟨s2, hs2⟩ : ∃ s2, s2 = w.heap.size + 1 + 1 := ⟨_, rfl⟩
  obtain ⟨Q, hQ⟩ : ∃ Q : Foot, Q = fun b => s2 < b := ⟨_, rfl⟩
  have Hs2 := Lib.hid hs2
  have HQ := Lib.hid hQ
  clear hs2 hQ
  have QN : ∀ b, Q b → New w b := fun b h => by rw [HQ.out] at h; have := Hs2.out; show w.heap.size ≤ b; omega
  have Q2 : ∀ b, Q b → b ≠ w.heap.size + 1 + 1 := fun b h => by rw [HQ.out] at h; have := Hs2.out; omega
  have Q1 : ∀ b, Q b → b ≠ w.heap.size + 1 := fun b h => by rw [HQ.out] at h; have := Hs2.out; omega
  go_enter Tryz.func68, Tryz.ntmps68
  go_wp2_with fail
  refine (c_toStringS K v0 _ _ (h0.ext ((((Ext.refl _).alloc _).alloc _).alloc _) (fun _ _ h => h.any)) b0).mono ?_
  rintro e w1 ⟨u0, rfl, m0, tX1⟩
  have hX1 := tX1.e
  obtain ⟨p0, p1, p2⟩ := Blk.alloc3 w 95 83 83 #[.string x.name, v0, v1] #[.string ByteArray.empty, .slice none 0 0, .slice none 0 0] #[.string x.name, .slice none 0 0, .slice none 0 0]
  have tE1 : TE w w1 := ((((TE.refl w).alloc _ _).alloc _ _).alloc _ _).trans tX1
  have hE1 := tE1.e
  have p0 := p0.ext hX1
  have p1 := p1.ext hX1
  have p2 := p2.ext hX1
  have hs1 : w.heap.size + 1 + 1 < w1.heap.size := p2.lt
  have L1 : w.heap.size ≤ w.heap.size + 1 := Nat.le_succ _
  have L2 : w.heap.size ≤ w.heap.size + 1 + 1 := Nat.le_succ_of_le L1
  have m0 : Sl Q w1 1 CStr u0 x.params := m0.keep (Keep.refl _ w1) (fun _ _ _ h => h.any) (fun b hb => by
    have hb : (((w.alloc _).alloc _).alloc _).heap.size ≤ b := hb
    simp at hb
    rw [HQ.out]
    have := Hs2.out
    show s2 < b
    omega)
  obtain ⟨a0, n0, z0, rfl⟩ := m0.shape
  have q0_0 : w1.cell? ⟨w.heap.size, 0, none⟩ = some (.string x.name) := p0.cell 0
  have q0_1 : w1.cell? ⟨w.heap.size, 1, none⟩ = some (v0) := p0.cell 1
  have q0_2 : w1.cell? ⟨w.heap.size, 2, none⟩ = some (v1) := p0.cell 2
  have q2 : w1.cell? ⟨w.heap.size + 1 + 1, 1, none⟩ = some (.slice none 0 0) := p2.cell 1
  have f2 := p2.frozen 1
  go_wp2_with fail
  have tE1s := TE.setCell tE1 (p := ⟨w.heap.size + 1 + 1, 1, none⟩) (by show w.heap.size ≤ w.heap.size + 1 + 1; omega) (.slice a0 n0 z0)
  have hE1s := tE1s.e
  refine (c_toStmtS K v1 _ _ (h1.ext hE1s (fun _ _ h => h.ext hE1s)) b1).mono ?_
  rintro e w2 ⟨u1, rfl, m1, tX2⟩
  have hX2 := tX2.e
  have tE2 := TE.trans tE1s tX2
  have hE2 := tE2.e
  have NW : ∀ b, New (w1.setCell ⟨w.heap.size + 1 + 1, 1, none⟩ (.slice a0 n0 z0)) b → Q b := fun b hb => by
    have hb : (w1.setCell _ _).heap.size ≤ b := hb
    rw [World.size_setCell] at hb
    rw [HQ.out]
    have := Hs2.out
    show s2 < b
    omega
  have m1 : Sl Q w2 6 (CStmt Q) u1 x.body := m1.keep (Keep.refl _ w2) (fun _ _ _ h => h.keep (Keep.refl _ _) NW) NW
  obtain ⟨a1, n1, z1, rfl⟩ := m1.shape
  have m0 := m0.keep (C' := CStr) (((Keep.refl Q w1).setCell (a := ⟨w.heap.size + 1 + 1, 1, none⟩) Q2 (.slice a0 n0 z0)).trans (hX2.keep _) (by rw [World.size_setCell]; omega)) (fun _ _ _ h => h.any) (fun b h => h)
  have p0 := (p0.setOther (a := ⟨w.heap.size + 1 + 1, 1, none⟩) (by show w.heap.size ≠ w.heap.size + 1 + 1; omega) (.slice a0 n0 z0)).ext hX2
  have p1 := (p1.setOther (a := ⟨w.heap.size + 1 + 1, 1, none⟩) (by show w.heap.size + 1 ≠ w.heap.size + 1 + 1; omega) (.slice a0 n0 z0)).ext hX2
  have p2 := (p2.set 1 (.slice a0 n0 z0)).ext hX2
  clear q2 f2 q0_0
  clear q0_1 q0_2
  have q0_0 : w2.cell? ⟨w.heap.size, 0, none⟩ = some (.string x.name) := p0.cell 0
  have q1_0 : w2.cell? ⟨w.heap.size + 1, 0, none⟩ = some (.string ByteArray.empty) := p1.cell 0
  have g1_0 := p1.frozen 0
  have q2_0 : w2.cell? ⟨w.heap.size + 1 + 1, 0, none⟩ = some (.string x.name) := p2.cell 0
  have g2_0 := p2.frozen 0
  have q0_1 : w2.cell? ⟨w.heap.size, 1, none⟩ = some (v0) := p0.cell 1
  have q1_1 : w2.cell? ⟨w.heap.size + 1, 1, none⟩ = some (.slice none 0 0) := p1.cell 1
  have g1_1 := p1.frozen 1
  have q2_1 : w2.cell? ⟨w.heap.size + 1 + 1, 1, none⟩ = some (.slice a0 n0 z0) := p2.cell 1
  have g2_1 := p2.frozen 1
  have q0_2 : w2.cell? ⟨w.heap.size, 2, none⟩ = some (v1) := p0.cell 2
  have q1_2 : w2.cell? ⟨w.heap.size + 1, 2, none⟩ = some (.slice none 0 0) := p1.cell 2
  have g1_2 := p1.frozen 2
  have q2_2 : w2.cell? ⟨w.heap.size + 1 + 1, 2, none⟩ = some (.slice none 0 0) := p2.cell 2
  have g2_2 := p2.frozen 2
  go_wp2
  refine bodyPost_ret (v := .agg #[.string x.name, .slice a0 n0 z0, .slice a1 n1 z1]) (by simp [results, Tryz.results68, go_sem, q1_0, q1_1, q1_2]) rfl ?_
  have tE3 := (TE.setCell (TE.setCell (TE.setCell (TE.setCell tE2 (p := ⟨w.heap.size + 1 + 1, 2, none⟩) L2 (.slice a1 n1 z1)) (p := ⟨w.heap.size + 1, 0, none⟩) L1 (.string x.name)) (p := ⟨w.heap.size + 1, 1, none⟩) L1 (.slice a0 n0 z0)) (p := ⟨w.heap.size + 1, 2, none⟩) L1 (.slice a1 n1 z1))
  have Kq := (((((Keep.refl Q w2).setCell (a := ⟨w.heap.size + 1 + 1, 2, none⟩) Q2 (.slice a1 n1 z1)).setCell (a := ⟨w.heap.size + 1, 0, none⟩) Q1 (.string x.name)).setCell (a := ⟨w.heap.size + 1, 1, none⟩) Q1 (.slice a0 n0 z0)).setCell (a := ⟨w.heap.size + 1, 2, none⟩) Q1 (.slice a1 n1 z1))
  have m0 := m0.keep (C' := CStr) Kq (fun _ _ _ h => h.any) QN
  have m1 := m1.keep (C' := CStmt (New w)) Kq (fun _ _ _ h => h.keep Kq QN) QN
  exact ⟨[.string x.name, .slice a0 n0 z0, .slice a1 n1 z1], rfl, ⟨_, _, rfl, m0, m1, i1⟩, tE3⟩


theorem info_Func : (Tryz.prog.info? 83).map (fun i => (i.zero, i.size, i.bytes)) = some (some (.agg #[.string ByteArray.empty, .slice none 0 0, .slice none 0 0]), 3, 64) := by kernel_rfl
theorem c_toFuncS (K : Foot) (v : Value) (l : List PFunc) (w : World) (hv : SlFunc K w v l) (hl : l.length ≤ 1048576 ∧ ∀ x ∈ l, x.params.length ≤ 1048576 ∧ (x.body.length ≤ 1048576 ∧ ∀ s ∈ x.body, s.e.length ≤ 1048576 ∧ s.f.length ≤ 1048576)) :
    Calls Tryz.prog 37 #[v] w (MadeSl 3 CFunc l w) := by
  obtain ⟨a, len, cap, rfl, Hlen, hlc, hcm, hel⟩ := hv.op
  have hln : len ≤ 1048576 := by have := Hlen.out; omega
  have Hbd := Lib.hid hl.2
  clear hv hl
  obtain ⟨i0, hi, hz0, hz1, hz2⟩ := info_parts info_Func
  have hmk := fun (w : World) => run_make (P := Tryz.prog) w 30 83 i0 _ Tryz.underlying30 hi hz0 .i64 .i64 len len (by omega) (by omega) (by rw [hz2]; omega) (by omega)
  rw [hz1] at hmk
  simp only [Int.toNat_natCast] at hmk
  go_enter Tryz.func37, Tryz.ntmps37
  go_wp2
  clear hmk
  go_loopw [4] (fun i wr => ∃ k : Nat, k ≤ len ∧ i = .int .i64 k ∧ TE w wr ∧ ∃ arr, Blk wr w.heap.size 83 arr ∧ Hid (arr.size = len * 3) ∧ Hid (Filled wr 3 (CFunc (fun b => w.heap.size < b)) l k arr)) (fun i _ => len - (intOf i).toNat)
  case atStart => exact ⟨0, Nat.zero_le _, rfl, (TE.refl w).alloc _ _, _, Blk.alloc _ _ _, size_madeCells _ _, Filled.zero _ _ _ _ _⟩
  case round =>
    obtain ⟨k, hk, rfl, tE, arr, hB, Hsz, Harr⟩ := hrel
    have hE := tE.e
    by_cases hlt : k < len
    · obtain ⟨b, o, rfl, _, hel⟩ := hel (by omega)
      obtain ⟨x, cs, hx, _, hC, hcs⟩ := hel k hlt
      obtain ⟨v0, v1, rfl, h0, h1, i1⟩ := hC
      have c0 := hE.cell (hcs.z rfl)
      have c1 := hE.cell (hcs 1 _ rfl)
      have c2 := hE.cell (hcs 2 _ rfl)
      have Hx := Lib.hid hx
      clear hel hcs hx
      have g0 : (0 : Int) ≤ (k : Int) := by omega
      have g1 : (k : Int) < (len : Int) := by omega
      go_wp2_with fail
      have hbd := Hbd.out x (List.mem_of_getElem? Hx.out)
      refine (c_toFunc K x v0 v1 _ (h0.ext hE (fun _ _ h => h.any)) (h1.ext hE (fun _ _ h => h.ext hE)) hbd.1 hbd.2 i1).mono ?_
      clear hbd
      rintro e w1 ⟨cs, rfl, hC, tE1⟩
      have hE1 := tE1.e
      have hEx := hE.trans hE1
      have tEx := tE.trans tE1
      have hB1 := hB.ext hE1
      have hlw := hB.lt
      obtain ⟨u0, u1, rfl, hC⟩ := hC
      obtain ⟨a0, n0, z0, rfl⟩ := hC.1.shape
      obtain ⟨a1, n1, z1, rfl⟩ := hC.2.1.shape
      obtain ⟨y0, d0⟩ := hB1.some (k * 3) (by have := Hsz.out; omega)
      have f0 := hB1.frozen (k * 3)
      obtain ⟨y1, d1⟩ := hB1.some (k * 3 + 1) (by have := Hsz.out; omega)
      have f1 := hB1.frozen (k * 3 + 1)
      obtain ⟨y2, d2⟩ := hB1.some (k * 3 + 2) (by have := Hsz.out; omega)
      have f2 := hB1.frozen (k * 3 + 2)
      go_wp2
      go_roundw
      case rel =>
        have NE : ∀ b, w.heap.size < b → b ≠ w.heap.size := fun b h => by omega
        have NE2 : ∀ b, New wr b → b ≠ w.heap.size := fun b h => by have h : wr.heap.size ≤ b := h; omega
        have K1 : Keep (fun b => w.heap.size < b) wr _ := (((hE1.keep _).setCell (a := ⟨w.heap.size, k * 3, none⟩) NE (.string x.name)).setCell (a := ⟨w.heap.size, k * 3 + 1, none⟩) NE (.slice a0 n0 z0)).setCell (a := ⟨w.heap.size, k * 3 + 2, none⟩) NE (.slice a1 n1 z1)
        have K2 : Keep (New wr) w1 _ := (((Keep.refl _ _).setCell (a := ⟨w.heap.size, k * 3, none⟩) NE2 (.string x.name)).setCell (a := ⟨w.heap.size, k * 3 + 1, none⟩) NE2 (.slice a0 n0 z0)).setCell (a := ⟨w.heap.size, k * 3 + 2, none⟩) NE2 (.slice a1 n1 z1)
        have Bf := ((hB1.set (k * 3) (.string x.name)).set (k * 3 + 1) (.slice a0 n0 z0)).set (k * 3 + 2) (.slice a1 n1 z1)
        have Ef := TE.setCell (TE.setCell (TE.setCell (tEx) (p := ⟨w.heap.size, k * 3, none⟩) (Nat.le_refl _) (.string x.name)) (p := ⟨w.heap.size, k * 3 + 1, none⟩) (Nat.le_refl _) (.slice a0 n0 z0)) (p := ⟨w.heap.size, k * 3 + 2, none⟩) (Nat.le_refl _) (.slice a1 n1 z1)
        have Ff := Filled.snoc (w' := _) (C := (CFunc (fun b => w.heap.size < b))) Harr Hx (cs := [.string x.name, .slice a0 n0 z0, .slice a1 n1 z1]) rfl ((show CFunc (New wr) w1 [.string x.name, .slice a0 n0 z0, .slice a1 n1 z1] x from ⟨_, _, rfl, hC⟩).keep (K' := fun b => w.heap.size < b) K2 (fun b hb => Nat.lt_of_lt_of_le hlw hb)) (fun _ _ h => h.keep K1 (fun _ h => h)) Hsz hlt
        refine ⟨k + 1, by omega, by go_num, Ef, setCs arr (k * 3) [.string x.name, .slice a0 n0 z0, .slice a1 n1 z1], by simp only [setCs, Nat.add_assoc, Nat.reduceAdd]; exact Bf, Lib.hid (by rw [setCs_size]; exact Hsz.out), Ff⟩
      case measure => simp [intOf]; omega
    · go_wp2
      go_ret
      obtain rfl : k = len := by omega
      exact ⟨_, rfl, (Filled.sl (K := New w) Harr Hlen hB (Nat.le_refl _) (by omega)).keep (Keep.refl _ _) (fun _ _ _ h => h.keep (Keep.refl _ _) (fun b hb => Nat.le_of_lt hb)) (fun _ h => h), tE⟩


set_option maxHeartbeats 1600000 in
theorem c_toTree (K : Foot) (x : PTree) (v0 v1 : Value) (w : World) (h0 : SlGlob K w v0 x.globals) (h1 : SlFunc K w v1 x.funcs) (b0 : x.globals.length ≤ 1048576) (b1 : x.funcs.length ≤ 1048576 ∧ ∀ s ∈ x.funcs, s.params.length ≤ 1048576 ∧ (s.body.length ≤ 1048576 ∧ ∀ q ∈ s.body, q.e.length ≤ 1048576 ∧ q.f.length ≤ 1048576)) :
    Calls Tryz.prog 11 #[.agg #[v0, v1]] w (MadeAgg CTree x w) := by
  obtain ⟨s2, hs2⟩ : ∃ s2, s2 = w.heap.size + 1 + 1 := ⟨_, rfl⟩
  obtain ⟨Q, hQ⟩ : ∃ Q : Foot, Q = fun b => s2 < b := ⟨_, rfl⟩
  have Hs2 := Lib.hid hs2
  have HQ := Lib.hid hQ
  clear hs2 hQ
  have QN : ∀ b, Q b → New w b := fun b h => by rw [HQ.out] at h; have := Hs2.out; show w.heap.size ≤ b; omega
  have Q2 : ∀ b, Q b → b ≠ w.heap.size + 1 + 1 := fun b h => by rw [HQ.out] at h; have := Hs2.out; omega
  have Q1 : ∀ b, Q b → b ≠ w.heap.size + 1 := fun b h => by rw [HQ.out] at h; have := Hs2.out; omega
  go_enter Tryz.func11, Tryz.ntmps11
  go_wp2_with fail
  refine (c_toGlobalS K v0 _ _ (h0.ext ((((Ext.refl _).alloc _).alloc _).alloc _) (fun _ _ h => h.any)) b0).mono ?_
  rintro e w1 ⟨u0, rfl, m0, tX1⟩
  have hX1 := tX1.e
  obtain ⟨p0, p1, p2⟩ := Blk.alloc3 w 25 32 32 #[v0, v1] #[.slice none 0 0, .slice none 0 0] #[.slice none 0 0, .slice none 0 0]
  have tE1 : TE w w1 := ((((TE.refl w).alloc _ _).alloc _ _).alloc _ _).trans tX1
  have hE1 := tE1.e
  have p0 := p0.ext hX1
  have p1 := p1.ext hX1
  have p2 := p2.ext hX1
  have hs1 : w.heap.size + 1 + 1 < w1.heap.size := p2.lt
  have L1 : w.heap.size ≤ w.heap.size + 1 := Nat.le_succ _
  have L2 : w.heap.size ≤ w.heap.size + 1 + 1 := Nat.le_succ_of_le L1
  have m0 : Sl Q w1 2 CGlob u0 x.globals := m0.keep (Keep.refl _ w1) (fun _ _ _ h => h.any) (fun b hb => by
    have hb : (((w.alloc _).alloc _).alloc _).heap.size ≤ b := hb
    simp at hb
    rw [HQ.out]
    have := Hs2.out
    show s2 < b
    omega)
  obtain ⟨a0, n0, z0, rfl⟩ := m0.shape
  have q0_0 : w1.cell? ⟨w.heap.size, 0, none⟩ = some (v0) := p0.cell 0
  have q0_1 : w1.cell? ⟨w.heap.size, 1, none⟩ = some (v1) := p0.cell 1
  have q2 : w1.cell? ⟨w.heap.size + 1 + 1, 0, none⟩ = some (.slice none 0 0) := p2.cell 0
  have f2 := p2.frozen 0
  go_wp2_with fail
  have tE1s := TE.setCell tE1 (p := ⟨w.heap.size + 1 + 1, 0, none⟩) (by show w.heap.size ≤ w.heap.size + 1 + 1; omega) (.slice a0 n0 z0)
  have hE1s := tE1s.e
  refine (c_toFuncS K v1 _ _ (h1.ext hE1s (fun _ _ h => h.ext hE1s)) b1).mono ?_
  rintro e w2 ⟨u1, rfl, m1, tX2⟩
  have hX2 := tX2.e
  have tE2 := TE.trans tE1s tX2
  have hE2 := tE2.e
  have NW : ∀ b, New (w1.setCell ⟨w.heap.size + 1 + 1, 0, none⟩ (.slice a0 n0 z0)) b → Q b := fun b hb => by
    have hb : (w1.setCell _ _).heap.size ≤ b := hb
    rw [World.size_setCell] at hb
    rw [HQ.out]
    have := Hs2.out
    show s2 < b
    omega
  have m1 : Sl Q w2 3 (CFunc Q) u1 x.funcs := m1.keep (Keep.refl _ w2) (fun _ _ _ h => h.keep (Keep.refl _ _) NW) NW
  obtain ⟨a1, n1, z1, rfl⟩ := m1.shape
  have m0 := m0.keep (C' := CGlob) (((Keep.refl Q w1).setCell (a := ⟨w.heap.size + 1 + 1, 0, none⟩) Q2 (.slice a0 n0 z0)).trans (hX2.keep _) (by rw [World.size_setCell]; omega)) (fun _ _ _ h => h.any) (fun b h => h)
  have p0 := (p0.setOther (a := ⟨w.heap.size + 1 + 1, 0, none⟩) (by show w.heap.size ≠ w.heap.size + 1 + 1; omega) (.slice a0 n0 z0)).ext hX2
  have p1 := (p1.setOther (a := ⟨w.heap.size + 1 + 1, 0, none⟩) (by show w.heap.size + 1 ≠ w.heap.size + 1 + 1; omega) (.slice a0 n0 z0)).ext hX2
  have p2 := (p2.set 0 (.slice a0 n0 z0)).ext hX2
  clear q2 f2 q0_0
  clear q0_1
  have q0_0 : w2.cell? ⟨w.heap.size, 0, none⟩ = some (v0) := p0.cell 0
  have q1_0 : w2.cell? ⟨w.heap.size + 1, 0, none⟩ = some (.slice none 0 0) := p1.cell 0
  have g1_0 := p1.frozen 0
  have q2_0 : w2.cell? ⟨w.heap.size + 1 + 1, 0, none⟩ = some (.slice a0 n0 z0) := p2.cell 0
  have g2_0 := p2.frozen 0
  have q0_1 : w2.cell? ⟨w.heap.size, 1, none⟩ = some (v1) := p0.cell 1
  have q1_1 : w2.cell? ⟨w.heap.size + 1, 1, none⟩ = some (.slice none 0 0) := p1.cell 1
  have g1_1 := p1.frozen 1
  have q2_1 : w2.cell? ⟨w.heap.size + 1 + 1, 1, none⟩ = some (.slice none 0 0) := p2.cell 1
  have g2_1 := p2.frozen 1
  go_wp2
  refine bodyPost_ret (v := .agg #[.slice a0 n0 z0, .slice a1 n1 z1]) (by simp [results, Tryz.results11, go_sem, q1_0, q1_1]) rfl ?_
  have tE3 := (TE.setCell (TE.setCell (TE.setCell tE2 (p := ⟨w.heap.size + 1 + 1, 1, none⟩) L2 (.slice a1 n1 z1)) (p := ⟨w.heap.size + 1, 0, none⟩) L1 (.slice a0 n0 z0)) (p := ⟨w.heap.size + 1, 1, none⟩) L1 (.slice a1 n1 z1))
  have Kq := ((((Keep.refl Q w2).setCell (a := ⟨w.heap.size + 1 + 1, 1, none⟩) Q2 (.slice a1 n1 z1)).setCell (a := ⟨w.heap.size + 1, 0, none⟩) Q1 (.slice a0 n0 z0)).setCell (a := ⟨w.heap.size + 1, 1, none⟩) Q1 (.slice a1 n1 z1))
  have m0 := m0.keep (C' := CGlob) Kq (fun _ _ _ h => h.any) QN
  have m1 := m1.keep (C' := CFunc (New w)) Kq (fun _ _ _ h => h.keep Kq QN) QN
  exact ⟨[.slice a0 n0 z0, .slice a1 n1 z1], rfl, ⟨_, _, rfl, m0, m1⟩, tE3⟩

end Go.Proofs.YtcfggjmdcaoecaaGreatDoor
