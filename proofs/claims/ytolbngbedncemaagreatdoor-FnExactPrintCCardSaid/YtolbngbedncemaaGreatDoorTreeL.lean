/- The laws' comparisons, where both sides are the same model: they return true; no condition. PRINTED by gen_eq.py of this repo. -/
import Derived.Test.YtolbngbedncemaaGreatDoorRep
import Derived.Test.YtolbngbedncemaaGreatDoorUnit
import Derived.Test.YtolbngbedncemaaGreatDoorSz
import Derived.SliceStrings
import Derived.OpenVars
import Derived.LaidHandle
import Derived.Test.YtolbngbedncemaaGreatDoorSpecValid
import Derived.IntWalk
set_option linter.unusedVariables false
set_option linter.unusedSimpArgs false
namespace Go.Proofs.YtolbngbedncemaaGreatDoor
open Go Go.RowKit Md


theorem c_eqNode (x : PNode) (w : World) : Calls Tryz.prog 215 #[.agg #[.int .i64 x.kind, .int .i64 x.val, .string x.name], .agg #[.int .i64 x.kind, .int .i64 x.val, .string x.name]] w (Gives (.bool true) w) := by
  go_enter Tryz.func215, Tryz.ntmps215
  go_wp2
  go_ret
  exact Gives.bool rfl (((Ext.refl _).alloc _).alloc _)


set_option maxRecDepth 1000000 in
theorem c_eqNodeS (K K' : Foot) (l : List PNode) (v u : Value) (w : World) (hv : SlNode K w v l) (hu : SlNode K' w u l) : Calls Tryz.prog 195 #[v, u] w (Gives (.bool true) w) := by
  obtain ⟨a, len, cap, rfl, Hlen, hlc, hcm, hel⟩ := hv.op
  obtain ⟨a', len', cap', rfl, Hlen', hlc', hcm', hel'⟩ := hu.op
  obtain rfl : len = len' := by rw [← Hlen.out, ← Hlen'.out]
  clear hv hu
  go_enter Tryz.func195, Tryz.ntmps195
  go_wp2
  go_loopw [5] (fun i wr => ∃ k : Nat, k ≤ len ∧ i = .int .i64 k ∧ Ext w wr) (fun i _ => len - (intOf i).toNat)
  case atStart => exact ⟨0, Nat.zero_le _, rfl, Ext.refl w⟩
  case round =>
    obtain ⟨k, hk, rfl, hE⟩ := hrel
    by_cases hlt : k < len
    · obtain ⟨b, o, rfl, _, hel⟩ := hel (by omega)
      obtain ⟨b', o', rfl, _, hel'⟩ := hel' (by omega)
      obtain ⟨x, cs, hx, _, hC, hcs⟩ := hel k hlt
      obtain ⟨x', cs', hx', _, hC', hcs'⟩ := hel' k hlt
      obtain rfl : x = x' := by rw [hx] at hx'; exact Option.some.inj hx'
      obtain ⟨rfl, _⟩ := hC
      obtain ⟨rfl, _⟩ := hC'
      have c0 := hE.cell (hcs.z rfl)
      have d0 := hE.cell (hcs'.z rfl)
      have c1 := hE.cell (hcs 1 _ rfl)
      have d1 := hE.cell (hcs' 1 _ rfl)
      have c2 := hE.cell (hcs 2 _ rfl)
      have d2 := hE.cell (hcs' 2 _ rfl)
      clear hel hcs hx hel' hcs' hx'
      have g0 : (0 : Int) ≤ (k : Int) := by omega
      have g1 : (k : Int) < (len : Int) := by omega
      go_wp2
      go_still_tail 8, (by kernel_rfl)
      change wpList _ _ _ _ _ wr.drew
      have hE2 : Ext w wr.drew := hE.drew
      generalize wr.drew = w2 at *
      go_wp2_with fail
      refine (c_eqNode x _).mono ?_
      rintro e w3 ⟨rfl, hX⟩
      have hE3 := hE2.trans hX
      go_wp2
      go_roundw
      case rel => exact ⟨k + 1, by omega, by go_num, hE3⟩
      case measure => simp [intOf]; omega
    · go_wp2
      go_ret
      exact Gives.bool rfl hE


theorem c_eqGlobal (x : PGlob) (w : World) : Calls Tryz.prog 75 #[.agg #[.string x.name, .int .i64 x.size], .agg #[.string x.name, .int .i64 x.size]] w (Gives (.bool true) w) := by
  go_enter Tryz.func75, Tryz.ntmps75
  go_wp2
  go_ret
  exact Gives.bool rfl (((Ext.refl _).alloc _).alloc _)


set_option maxRecDepth 1000000 in
theorem c_eqGlobalS (K K' : Foot) (l : List PGlob) (v u : Value) (w : World) (hv : SlGlob K w v l) (hu : SlGlob K' w u l) : Calls Tryz.prog 40 #[v, u] w (Gives (.bool true) w) := by
  obtain ⟨a, len, cap, rfl, Hlen, hlc, hcm, hel⟩ := hv.op
  obtain ⟨a', len', cap', rfl, Hlen', hlc', hcm', hel'⟩ := hu.op
  obtain rfl : len = len' := by rw [← Hlen.out, ← Hlen'.out]
  clear hv hu
  go_enter Tryz.func40, Tryz.ntmps40
  go_wp2
  go_loopw [5] (fun i wr => ∃ k : Nat, k ≤ len ∧ i = .int .i64 k ∧ Ext w wr) (fun i _ => len - (intOf i).toNat)
  case atStart => exact ⟨0, Nat.zero_le _, rfl, Ext.refl w⟩
  case round =>
    obtain ⟨k, hk, rfl, hE⟩ := hrel
    by_cases hlt : k < len
    · obtain ⟨b, o, rfl, _, hel⟩ := hel (by omega)
      obtain ⟨b', o', rfl, _, hel'⟩ := hel' (by omega)
      obtain ⟨x, cs, hx, _, hC, hcs⟩ := hel k hlt
      obtain ⟨x', cs', hx', _, hC', hcs'⟩ := hel' k hlt
      obtain rfl : x = x' := by rw [hx] at hx'; exact Option.some.inj hx'
      obtain ⟨rfl, _⟩ := hC
      obtain ⟨rfl, _⟩ := hC'
      have c0 := hE.cell (hcs.z rfl)
      have d0 := hE.cell (hcs'.z rfl)
      have c1 := hE.cell (hcs 1 _ rfl)
      have d1 := hE.cell (hcs' 1 _ rfl)
      clear hel hcs hx hel' hcs' hx'
      have g0 : (0 : Int) ≤ (k : Int) := by omega
      have g1 : (k : Int) < (len : Int) := by omega
      go_wp2
      go_still_tail 8, (by kernel_rfl)
      change wpList _ _ _ _ _ wr.drew
      have hE2 : Ext w wr.drew := hE.drew
      generalize wr.drew = w2 at *
      go_wp2_with fail
      refine (c_eqGlobal x _).mono ?_
      rintro e w3 ⟨rfl, hX⟩
      have hE3 := hE2.trans hX
      go_wp2
      go_roundw
      case rel => exact ⟨k + 1, by omega, by go_num, hE3⟩
      case measure => simp [intOf]; omega
    · go_wp2
      go_ret
      exact Gives.bool rfl hE


set_option maxRecDepth 1000000 in
theorem c_eqStringS (K K' : Foot) (l : List ByteArray) (v u : Value) (w : World) (hv : SlStr K w v l) (hu : SlStr K' w u l) : Calls Tryz.prog 130 #[v, u] w (Gives (.bool true) w) := by
  obtain ⟨a, len, cap, rfl, Hlen, hlc, hcm, hel⟩ := hv.op
  obtain ⟨a', len', cap', rfl, Hlen', hlc', hcm', hel'⟩ := hu.op
  obtain rfl : len = len' := by rw [← Hlen.out, ← Hlen'.out]
  clear hv hu
  go_enter Tryz.func130, Tryz.ntmps130
  go_wp2
  go_loopw [5] (fun i wr => ∃ k : Nat, k ≤ len ∧ i = .int .i64 k ∧ Ext w wr) (fun i _ => len - (intOf i).toNat)
  case atStart => exact ⟨0, Nat.zero_le _, rfl, Ext.refl w⟩
  case round =>
    obtain ⟨k, hk, rfl, hE⟩ := hrel
    by_cases hlt : k < len
    · obtain ⟨b, o, rfl, _, hel⟩ := hel (by omega)
      obtain ⟨b', o', rfl, _, hel'⟩ := hel' (by omega)
      obtain ⟨x, cs, hx, _, hC, hcs⟩ := hel k hlt
      obtain ⟨x', cs', hx', _, hC', hcs'⟩ := hel' k hlt
      obtain rfl : x = x' := by rw [hx] at hx'; exact Option.some.inj hx'
      obtain ⟨rfl, _⟩ := hC
      obtain ⟨rfl, _⟩ := hC'
      have c0 := hE.cell (hcs.z rfl)
      have d0 := hE.cell (hcs'.z rfl)
      rw [Nat.mul_one] at c0 d0
      clear hel hcs hx hel' hcs' hx'
      have g0 : (0 : Int) ≤ (k : Int) := by omega
      have g1 : (k : Int) < (len : Int) := by omega
      go_wp2
      go_quiet (fail)
      go_wp2
      go_roundw
      case rel => exact ⟨k + 1, by omega, by go_num, hE.trans (drewN_ext _ _)⟩
      case measure => simp [intOf]; omega
    · go_wp2
      go_ret
      exact Gives.bool rfl hE


theorem c_eqStmt (K K' : Foot) (x : PStmt) (v0 v1 u0 u1 : Value) (w : World) (h0 : SlNode K w v0 x.e) (h1 : SlNode K w v1 x.f) (h0' : SlNode K' w u0 x.e) (h1' : SlNode K' w u1 x.f) :
    Calls Tryz.prog 168 #[.agg #[.int .i64 x.kind, .string x.name, v0, v1, .int .i64 x.thn, .int .i64 x.els], .agg #[.int .i64 x.kind, .string x.name, u0, u1, .int .i64 x.thn, .int .i64 x.els]] w (Gives (.bool true) w) := by
  go_enter Tryz.func168, Tryz.ntmps168
  go_wp2_with fail
  refine (c_eqNodeS K K' x.e _ _ _ (h0.ext (((Ext.refl _).alloc _).alloc _) (fun _ _ h => h.any)) (h0'.ext (((Ext.refl _).alloc _).alloc _) (fun _ _ h => h.any))).mono ?_
  rintro e w1 ⟨rfl, hX1⟩
  obtain ⟨p0, p1⟩ := Blk.alloc2 w 54 54 #[.int .i64 x.kind, .string x.name, v0, v1, .int .i64 x.thn, .int .i64 x.els] #[.int .i64 x.kind, .string x.name, u0, u1, .int .i64 x.thn, .int .i64 x.els]
  have hE1 : Ext w w1 := ((((Ext.refl _).alloc _).alloc _) : Ext w _).trans hX1
  have p0 := p0.ext hX1
  have p1 := p1.ext hX1
  have q0_0 : w1.cell? ⟨w.heap.size, 0, none⟩ = some (.int .i64 x.kind) := p0.cell 0
  have q1_0 : w1.cell? ⟨w.heap.size + 1, 0, none⟩ = some (.int .i64 x.kind) := p1.cell 0
  have q0_1 : w1.cell? ⟨w.heap.size, 1, none⟩ = some (.string x.name) := p0.cell 1
  have q1_1 : w1.cell? ⟨w.heap.size + 1, 1, none⟩ = some (.string x.name) := p1.cell 1
  have q0_2 : w1.cell? ⟨w.heap.size, 2, none⟩ = some (v0) := p0.cell 2
  have q1_2 : w1.cell? ⟨w.heap.size + 1, 2, none⟩ = some (u0) := p1.cell 2
  have q0_3 : w1.cell? ⟨w.heap.size, 3, none⟩ = some (v1) := p0.cell 3
  have q1_3 : w1.cell? ⟨w.heap.size + 1, 3, none⟩ = some (u1) := p1.cell 3
  have q0_4 : w1.cell? ⟨w.heap.size, 4, none⟩ = some (.int .i64 x.thn) := p0.cell 4
  have q1_4 : w1.cell? ⟨w.heap.size + 1, 4, none⟩ = some (.int .i64 x.thn) := p1.cell 4
  have q0_5 : w1.cell? ⟨w.heap.size, 5, none⟩ = some (.int .i64 x.els) := p0.cell 5
  have q1_5 : w1.cell? ⟨w.heap.size + 1, 5, none⟩ = some (.int .i64 x.els) := p1.cell 5
  go_wp2_with fail
  refine (c_eqNodeS K K' x.f _ _ _ (h1.ext hE1 (fun _ _ h => h.any)) (h1'.ext hE1 (fun _ _ h => h.any))).mono ?_
  rintro e w2 ⟨rfl, hX2⟩
  have hE2 := hE1.trans hX2
  have p0 := p0.ext hX2
  have p1 := p1.ext hX2
  clear q0_0 q1_0 q0_1 q1_1 q0_2 q1_2 q0_3 q1_3 q0_4 q1_4 q0_5 q1_5
  have q0_4 : w2.cell? ⟨w.heap.size, 4, none⟩ = some (.int .i64 x.thn) := p0.cell 4
  have q1_4 : w2.cell? ⟨w.heap.size + 1, 4, none⟩ = some (.int .i64 x.thn) := p1.cell 4
  have q0_5 : w2.cell? ⟨w.heap.size, 5, none⟩ = some (.int .i64 x.els) := p0.cell 5
  have q1_5 : w2.cell? ⟨w.heap.size + 1, 5, none⟩ = some (.int .i64 x.els) := p1.cell 5
  go_wp2
  go_ret
  exact Gives.bool rfl hE2


set_option maxRecDepth 1000000 in
theorem c_eqStmtS (K K' : Foot) (l : List PStmt) (v u : Value) (w : World) (hv : SlStmt K w v l) (hu : SlStmt K' w u l) : Calls Tryz.prog 131 #[v, u] w (Gives (.bool true) w) := by
  obtain ⟨a, len, cap, rfl, Hlen, hlc, hcm, hel⟩ := hv.op
  obtain ⟨a', len', cap', rfl, Hlen', hlc', hcm', hel'⟩ := hu.op
  obtain rfl : len = len' := by rw [← Hlen.out, ← Hlen'.out]
  clear hv hu
  go_enter Tryz.func131, Tryz.ntmps131
  go_wp2
  go_loopw [5] (fun i wr => ∃ k : Nat, k ≤ len ∧ i = .int .i64 k ∧ Ext w wr) (fun i _ => len - (intOf i).toNat)
  case atStart => exact ⟨0, Nat.zero_le _, rfl, Ext.refl w⟩
  case round =>
    obtain ⟨k, hk, rfl, hE⟩ := hrel
    by_cases hlt : k < len
    · obtain ⟨b, o, rfl, _, hel⟩ := hel (by omega)
      obtain ⟨b', o', rfl, _, hel'⟩ := hel' (by omega)
      obtain ⟨x, cs, hx, _, hC, hcs⟩ := hel k hlt
      obtain ⟨x', cs', hx', _, hC', hcs'⟩ := hel' k hlt
      obtain rfl : x = x' := by rw [hx] at hx'; exact Option.some.inj hx'
      obtain ⟨v0, v1, rfl, h0, h1, _⟩ := hC
      obtain ⟨u0, u1, rfl, h0', h1', _⟩ := hC'
      have c0 := hE.cell (hcs.z rfl)
      have d0 := hE.cell (hcs'.z rfl)
      have c1 := hE.cell (hcs 1 _ rfl)
      have d1 := hE.cell (hcs' 1 _ rfl)
      have c2 := hE.cell (hcs 2 _ rfl)
      have d2 := hE.cell (hcs' 2 _ rfl)
      have c3 := hE.cell (hcs 3 _ rfl)
      have d3 := hE.cell (hcs' 3 _ rfl)
      have c4 := hE.cell (hcs 4 _ rfl)
      have d4 := hE.cell (hcs' 4 _ rfl)
      have c5 := hE.cell (hcs 5 _ rfl)
      have d5 := hE.cell (hcs' 5 _ rfl)
      clear hel hcs hx hel' hcs' hx'
      have g0 : (0 : Int) ≤ (k : Int) := by omega
      have g1 : (k : Int) < (len : Int) := by omega
      go_wp2
      go_still_tail 8, (by kernel_rfl)
      change wpList _ _ _ _ _ wr.drew
      have hE2 : Ext w wr.drew := hE.drew
      generalize wr.drew = w2 at *
      go_wp2_with fail
      refine (c_eqStmt K K' x v0 v1 u0 u1 _ (h0.ext hE2 (fun _ _ h => h.any)) (h1.ext hE2 (fun _ _ h => h.any)) (h0'.ext hE2 (fun _ _ h => h.any)) (h1'.ext hE2 (fun _ _ h => h.any))).mono ?_
      rintro e w3 ⟨rfl, hX⟩
      have hE3 := hE2.trans hX
      go_wp2
      go_roundw
      case rel => exact ⟨k + 1, by omega, by go_num, hE3⟩
      case measure => simp [intOf]; omega
    · go_wp2
      go_ret
      exact Gives.bool rfl hE


theorem c_eqFunc (K K' : Foot) (x : PFunc) (v0 v1 u0 u1 : Value) (w : World) (h0 : SlStr K w v0 x.params) (h1 : SlStmt K w v1 x.body) (h0' : SlStr K' w u0 x.params) (h1' : SlStmt K' w u1 x.body) :
    Calls Tryz.prog 76 #[.agg #[.string x.name, v0, v1], .agg #[.string x.name, u0, u1]] w (Gives (.bool true) w) := by
  go_enter Tryz.func76, Tryz.ntmps76
  go_wp2_with fail
  refine (c_eqStringS K K' x.params _ _ _ (h0.ext (((Ext.refl _).alloc _).alloc _) (fun _ _ h => h.any)) (h0'.ext (((Ext.refl _).alloc _).alloc _) (fun _ _ h => h.any))).mono ?_
  rintro e w1 ⟨rfl, hX1⟩
  obtain ⟨p0, p1⟩ := Blk.alloc2 w 51 51 #[.string x.name, v0, v1] #[.string x.name, u0, u1]
  have hE1 : Ext w w1 := ((((Ext.refl _).alloc _).alloc _) : Ext w _).trans hX1
  have p0 := p0.ext hX1
  have p1 := p1.ext hX1
  have q0_0 : w1.cell? ⟨w.heap.size, 0, none⟩ = some (.string x.name) := p0.cell 0
  have q1_0 : w1.cell? ⟨w.heap.size + 1, 0, none⟩ = some (.string x.name) := p1.cell 0
  have q0_1 : w1.cell? ⟨w.heap.size, 1, none⟩ = some (v0) := p0.cell 1
  have q1_1 : w1.cell? ⟨w.heap.size + 1, 1, none⟩ = some (u0) := p1.cell 1
  have q0_2 : w1.cell? ⟨w.heap.size, 2, none⟩ = some (v1) := p0.cell 2
  have q1_2 : w1.cell? ⟨w.heap.size + 1, 2, none⟩ = some (u1) := p1.cell 2
  go_wp2_with fail
  refine (c_eqStmtS K K' x.body _ _ _ (h1.ext hE1 (fun _ _ h => h.ext hE1)) (h1'.ext hE1 (fun _ _ h => h.ext hE1))).mono ?_
  rintro e w2 ⟨rfl, hX2⟩
  have hE2 := hE1.trans hX2
  go_wp2
  go_ret
  exact Gives.bool rfl hE2


set_option maxRecDepth 1000000 in
theorem c_eqFuncS (K K' : Foot) (l : List PFunc) (v u : Value) (w : World) (hv : SlFunc K w v l) (hu : SlFunc K' w u l) : Calls Tryz.prog 41 #[v, u] w (Gives (.bool true) w) := by
  obtain ⟨a, len, cap, rfl, Hlen, hlc, hcm, hel⟩ := hv.op
  obtain ⟨a', len', cap', rfl, Hlen', hlc', hcm', hel'⟩ := hu.op
  obtain rfl : len = len' := by rw [← Hlen.out, ← Hlen'.out]
  clear hv hu
  go_enter Tryz.func41, Tryz.ntmps41
  go_wp2
  go_loopw [5] (fun i wr => ∃ k : Nat, k ≤ len ∧ i = .int .i64 k ∧ Ext w wr) (fun i _ => len - (intOf i).toNat)
  case atStart => exact ⟨0, Nat.zero_le _, rfl, Ext.refl w⟩
  case round =>
    obtain ⟨k, hk, rfl, hE⟩ := hrel
    by_cases hlt : k < len
    · obtain ⟨b, o, rfl, _, hel⟩ := hel (by omega)
      obtain ⟨b', o', rfl, _, hel'⟩ := hel' (by omega)
      obtain ⟨x, cs, hx, _, hC, hcs⟩ := hel k hlt
      obtain ⟨x', cs', hx', _, hC', hcs'⟩ := hel' k hlt
      obtain rfl : x = x' := by rw [hx] at hx'; exact Option.some.inj hx'
      obtain ⟨v0, v1, rfl, h0, h1, _⟩ := hC
      obtain ⟨u0, u1, rfl, h0', h1', _⟩ := hC'
      have c0 := hE.cell (hcs.z rfl)
      have d0 := hE.cell (hcs'.z rfl)
      have c1 := hE.cell (hcs 1 _ rfl)
      have d1 := hE.cell (hcs' 1 _ rfl)
      have c2 := hE.cell (hcs 2 _ rfl)
      have d2 := hE.cell (hcs' 2 _ rfl)
      clear hel hcs hx hel' hcs' hx'
      have g0 : (0 : Int) ≤ (k : Int) := by omega
      have g1 : (k : Int) < (len : Int) := by omega
      go_wp2
      go_still_tail 8, (by kernel_rfl)
      change wpList _ _ _ _ _ wr.drew
      have hE2 : Ext w wr.drew := hE.drew
      generalize wr.drew = w2 at *
      go_wp2_with fail
      refine (c_eqFunc K K' x v0 v1 u0 u1 _ (h0.ext hE2 (fun _ _ h => h.any)) (h1.ext hE2 (fun _ _ h => h.ext hE2)) (h0'.ext hE2 (fun _ _ h => h.any)) (h1'.ext hE2 (fun _ _ h => h.ext hE2))).mono ?_
      rintro e w3 ⟨rfl, hX⟩
      have hE3 := hE2.trans hX
      go_wp2
      go_roundw
      case rel => exact ⟨k + 1, by omega, by go_num, hE3⟩
      case measure => simp [intOf]; omega
    · go_wp2
      go_ret
      exact Gives.bool rfl hE


theorem c_eqTree (K K' : Foot) (x : PTree) (v0 v1 u0 u1 : Value) (w : World) (h0 : SlGlob K w v0 x.globals) (h1 : SlFunc K w v1 x.funcs) (h0' : SlGlob K' w u0 x.globals) (h1' : SlFunc K' w u1 x.funcs) :
    Calls Tryz.prog 12 #[.agg #[v0, v1], .agg #[u0, u1]] w (Gives (.bool true) w) := by
  go_enter Tryz.func12, Tryz.ntmps12
  go_wp2_with fail
  refine (c_eqGlobalS K K' x.globals _ _ _ (h0.ext (((Ext.refl _).alloc _).alloc _) (fun _ _ h => h.any)) (h0'.ext (((Ext.refl _).alloc _).alloc _) (fun _ _ h => h.any))).mono ?_
  rintro e w1 ⟨rfl, hX1⟩
  obtain ⟨p0, p1⟩ := Blk.alloc2 w 32 32 #[v0, v1] #[u0, u1]
  have hE1 : Ext w w1 := ((((Ext.refl _).alloc _).alloc _) : Ext w _).trans hX1
  have p0 := p0.ext hX1
  have p1 := p1.ext hX1
  have q0_0 : w1.cell? ⟨w.heap.size, 0, none⟩ = some (v0) := p0.cell 0
  have q1_0 : w1.cell? ⟨w.heap.size + 1, 0, none⟩ = some (u0) := p1.cell 0
  have q0_1 : w1.cell? ⟨w.heap.size, 1, none⟩ = some (v1) := p0.cell 1
  have q1_1 : w1.cell? ⟨w.heap.size + 1, 1, none⟩ = some (u1) := p1.cell 1
  go_wp2_with fail
  refine (c_eqFuncS K K' x.funcs _ _ _ (h1.ext hE1 (fun _ _ h => h.ext hE1)) (h1'.ext hE1 (fun _ _ h => h.ext hE1))).mono ?_
  rintro e w2 ⟨rfl, hX2⟩
  have hE2 := hE1.trans hX2
  go_wp2
  go_ret
  exact Gives.bool rfl hE2

end Go.Proofs.YtolbngbedncemaaGreatDoor

/- A tree that came in, of the laws' own types, lies in memory as the model's tree; no condition. -/
set_option linter.unusedVariables false
set_option linter.unusedSimpArgs false
namespace Go.Proofs.YtolbngbedncemaaGreatDoor
open Go Go.RowKit Md
section
variable {H : Type} {enc : TypeId × Value → H} {W : World} {sp : Nat → Bool} {held : Bool}
theorem node_of_trod {fuel : Nat} {cs : List Value} {x : DataW H × List MemPlace} (h : DataW.trod enc Tryz.prog W 0 sp held fuel 271 cs = some x) (hl : cs.length = 3) : ∃ y, CNode W cs y := by
  match cs, hl with
  | [a, b, c], _ =>
    obtain ⟨n0, y0, h0⟩ := field_of_trod Tryz.underlying271 h 0 rfl (by kernel_rfl) rfl
    obtain ⟨n1, y1, h1⟩ := field_of_trod Tryz.underlying271 h 1 rfl (by kernel_rfl) rfl
    obtain ⟨n2, y2, h2⟩ := field_of_trod Tryz.underlying271 h 2 rfl (by kernel_rfl) rfl
    obtain ⟨k, e0, w0⟩ := int_of_trod Tryz.underlying2 h0
    obtain ⟨v, e1, w1⟩ := int_of_trod Tryz.underlying2 h1
    obtain ⟨s, e2, w2⟩ := str_of_trod Tryz.underlying9 h2
    simp only [List.cons.injEq, and_true] at e0 e1 e2
    subst e0 e1 e2
    exact ⟨⟨k, v, s⟩, rfl, I64.of_wf w0, I64.of_wf w1, w2⟩
theorem glob_of_trod {fuel : Nat} {cs : List Value} {x : DataW H × List MemPlace} (h : DataW.trod enc Tryz.prog W 0 sp held fuel 120 cs = some x) (hl : cs.length = 2) : ∃ y, CGlob W cs y := by
  match cs, hl with
  | [a, b], _ =>
    obtain ⟨n0, y0, h0⟩ := field_of_trod Tryz.underlying120 h 0 rfl (by kernel_rfl) rfl
    obtain ⟨n1, y1, h1⟩ := field_of_trod Tryz.underlying120 h 1 rfl (by kernel_rfl) rfl
    obtain ⟨s, e0, w0⟩ := str_of_trod Tryz.underlying9 h0
    obtain ⟨v, e1, w1⟩ := int_of_trod Tryz.underlying2 h1
    simp only [List.cons.injEq, and_true] at e0 e1
    subst e0 e1
    exact ⟨⟨s, v⟩, rfl, I64.of_wf w1, w0⟩
theorem nodes_of_trod {fuel : Nat} {v : Value} {x : DataW H × List MemPlace} (h : DataW.trod enc Tryz.prog W 0 sp held fuel 211 [v] = some x) : ∃ y, SlNode AnyB W v y :=
  sl_of_trod Tryz.underlying211 (by kernel_rfl) (by decide) (fun _ _ _ h hl => node_of_trod h hl) h
theorem strs_of_trod {fuel : Nat} {v : Value} {x : DataW H × List MemPlace} (h : DataW.trod enc Tryz.prog W 0 sp held fuel 48 [v] = some x) : ∃ y, SlStr AnyB W v y :=
  sl_of_trod Tryz.underlying48 (by kernel_rfl) (by decide) (fun _ _ _ h hl => str_of_trod Tryz.underlying9 h) h
theorem stmt_of_trod {fuel : Nat} {cs : List Value} {x : DataW H × List MemPlace} (h : DataW.trod enc Tryz.prog W 0 sp held fuel 213 cs = some x) (hl : cs.length = 6) : ∃ y, CStmt AnyB W cs y := by
  match cs, hl with
  | [a, b, c, d, e, f], _ =>
    obtain ⟨n0, y0, h0⟩ := field_of_trod Tryz.underlying213 h 0 rfl (by kernel_rfl) rfl
    obtain ⟨n1, y1, h1⟩ := field_of_trod Tryz.underlying213 h 1 rfl (by kernel_rfl) rfl
    obtain ⟨n2, y2, h2⟩ := field_of_trod Tryz.underlying213 h 2 rfl (by kernel_rfl) rfl
    obtain ⟨n3, y3, h3⟩ := field_of_trod Tryz.underlying213 h 3 rfl (by kernel_rfl) rfl
    obtain ⟨n4, y4, h4⟩ := field_of_trod Tryz.underlying213 h 4 rfl (by kernel_rfl) rfl
    obtain ⟨n5, y5, h5⟩ := field_of_trod Tryz.underlying213 h 5 rfl (by kernel_rfl) rfl
    obtain ⟨k, e0, w0⟩ := int_of_trod Tryz.underlying2 h0
    obtain ⟨s, e1, w1⟩ := str_of_trod Tryz.underlying9 h1
    obtain ⟨E, w2⟩ := nodes_of_trod h2
    obtain ⟨F, w3⟩ := nodes_of_trod h3
    obtain ⟨t, e4, w4⟩ := int_of_trod Tryz.underlying2 h4
    obtain ⟨u, e5, w5⟩ := int_of_trod Tryz.underlying2 h5
    simp only [List.cons.injEq, and_true] at e0 e1 e4 e5
    subst e0 e1 e4 e5
    exact ⟨⟨k, s, E, F, t, u⟩, c, d, rfl, w2, w3, I64.of_wf w0, I64.of_wf w4, I64.of_wf w5, w1⟩
theorem func_of_trod {fuel : Nat} {cs : List Value} {x : DataW H × List MemPlace} (h : DataW.trod enc Tryz.prog W 0 sp held fuel 124 cs = some x) (hl : cs.length = 3) : ∃ y, CFunc AnyB W cs y := by
  match cs, hl with
  | [a, b, c], _ =>
    obtain ⟨n0, y0, h0⟩ := field_of_trod Tryz.underlying124 h 0 rfl (by kernel_rfl) rfl
    obtain ⟨n1, y1, h1⟩ := field_of_trod Tryz.underlying124 h 1 rfl (by kernel_rfl) rfl
    obtain ⟨n2, y2, h2⟩ := field_of_trod Tryz.underlying124 h 2 rfl (by kernel_rfl) rfl
    obtain ⟨s, e0, w0⟩ := str_of_trod Tryz.underlying9 h0
    obtain ⟨ps, w1⟩ := strs_of_trod h1
    obtain ⟨B, w2⟩ := sl_of_trod Tryz.underlying122 (by kernel_rfl) (by decide) (fun _ _ _ h hl => stmt_of_trod h hl) h2
    simp only [List.cons.injEq, and_true] at e0
    subst e0
    exact ⟨⟨s, ps, B⟩, b, c, rfl, w1, w2, w0⟩
theorem tree_of_trod {fuel : Nat} {cs : List Value} {x : DataW H × List MemPlace} (h : DataW.trod enc Tryz.prog W 0 sp held fuel 25 cs = some x) (hl : cs.length = 2) : ∃ y, CTree AnyB W cs y := by
  match cs, hl with
  | [a, b], _ =>
    obtain ⟨n0, y0, h0⟩ := field_of_trod Tryz.underlying25 h 0 rfl (by kernel_rfl) rfl
    obtain ⟨n1, y1, h1⟩ := field_of_trod Tryz.underlying25 h 1 rfl (by kernel_rfl) rfl
    obtain ⟨G, w0⟩ := sl_of_trod Tryz.underlying22 (by kernel_rfl) (by decide) (fun _ _ _ h hl => glob_of_trod h hl) h0
    obtain ⟨F, w1⟩ := sl_of_trod Tryz.underlying23 (by kernel_rfl) (by decide) (fun _ _ _ h hl => func_of_trod h hl) h1
    exact ⟨⟨G, F⟩, a, b, rfl, w0, w1⟩
end
end Go.Proofs.YtolbngbedncemaaGreatDoor

/- What the laws on trees share: sizes out of the laws' reckoning, footprints, impl.reserved as laid, impl.ValidTree. -/
set_option linter.unusedVariables false
set_option linter.unusedSimpArgs false
namespace Go.Proofs.YtolbngbedncemaaGreatDoor
open Go Go.RowKit Md Go.ChangeShapes

theorem sumSz_mem {α : Type} (f : α → Nat) {l : List α} {x : α} (h : x ∈ l) : f x ≤ sumSz f l := by
  unfold sumSz
  induction l with
  | nil => cases h
  | cons y l ih =>
    rw [List.map_cons, List.sum_cons]
    rcases List.mem_cons.1 h with rfl | h
    · omega
    · have := ih h; omega
def Sizes (x : PTree) : Prop := x.globals.length ≤ 1048576 ∧ (x.funcs.length ≤ 1048576 ∧ ∀ s ∈ x.funcs, s.params.length ≤ 1048576 ∧ (s.body.length ≤ 1048576 ∧ ∀ q ∈ s.body, q.e.length ≤ 1048576 ∧ q.f.length ≤ 1048576))
theorem sizes_of {x : PTree} (h : szTree x ≤ 1048576) : Sizes x := by
  unfold szTree szL at h
  refine ⟨by omega, by omega, fun s hs => ?_⟩
  have h1 : s.name.size + szL szStr s.params + szL szStmt s.body ≤ sumSz szFunc x.funcs := sumSz_mem szFunc hs
  unfold szL at h1
  refine ⟨by omega, by omega, fun q hq => ?_⟩
  have h2 : q.name.size + szL szNode q.e + szL szNode q.f ≤ sumSz szStmt s.body := sumSz_mem szStmt hq
  unfold szL at h2
  exact ⟨by omega, by omega⟩
theorem Sizes.small {x : PTree} (h : Sizes x) : Small x := fun f hf s hs => (h.2.2 f hf).2.2 s hs

theorem CFunc.bound {K : Foot} {w : World} {cs : List Value} {s : PFunc} (h : CFunc K w cs s) : CFunc (fun b => K b ∧ b < w.heap.size) w cs s := by
  obtain ⟨vP, vB, e, h1, h2, h3⟩ := h
  exact ⟨vP, vB, e, Sl.bound h1 (by decide), SlStmt.bound h2, h3⟩
theorem SlFunc.bound {K : Foot} {w : World} {v : Value} {l : List PFunc} (h : SlFunc K w v l) : SlFunc (fun b => K b ∧ b < w.heap.size) w v l :=
  Sl.keep (Sl.bound h (by decide)) (Keep.refl _ w) (fun _ _ _ h => h.bound) (fun _ h => h)
theorem SlGlob.bound {K : Foot} {w : World} {v : Value} {l : List PGlob} (h : SlGlob K w v l) : SlGlob (fun b => K b ∧ b < w.heap.size) w v l := Sl.bound h (by decide)

/-! ### impl.reserved as the program's text lays it -/
theorem gRes : Tryz.prog.globalNamed "loop.example/s01725/impl.reserved" = some 0 := by kernel_rfl
theorem tRes : (Tryz.prog.globals[0]?).map (·.type) = some 48 := by kernel_rfl
def resData {H : Type} : List (DataW H) := resL.map fun l => .lit (.string l)
theorem res_of_trod {W : World} {cs : Array Value} {f : Nat} {sp : Nat → Bool} {p : List MemPlace} {H : Type} {enc : TypeId × Value → H} {held : Bool} (hv : W.var? Tryz.prog "loop.example/s01725/impl.reserved" = some cs)
    (hd : DataW.trod enc Tryz.prog W 0 sp held f 48 cs.toList = some (.slice resData [], p)) : Res W := by
  rcases open_strings Tryz.underlying48 Tryz.underlying9 (by kernel_rfl) hd with ⟨_, hx⟩ | ⟨a, len, cap, ss, hcs, _, hl, hm, hsl, hx, hcell, hss⟩
  · simp at hx
  simp only [Prod.mk.injEq, DataW.slice.injEq] at hx
  obtain ⟨⟨h1, h2⟩, _⟩ := hx
  have hd2 : ss.drop len = [] := by
    have := congrArg List.length h2
    simp only [strs, List.length_map, List.length_nil] at this
    exact List.eq_nil_of_length_eq_zero this.symm
  have hlen : ss.length = len := by
    have h3 := congrArg List.length hd2
    rw [List.length_drop, List.length_nil] at h3
    split at hsl <;> omega
  have hss2 : ss.take len = ss := List.take_of_length_le (by omega)
  rw [hss2] at h1
  have hml : ss.map (fun s => s.data.toList) = resL := by
    have h3 : (resL.map fun l => (DataW.lit (.string l) : DataW H)) = ss.map fun s => .lit (.string s.data.toList) := h1
    have h4 := congrArg (List.map fun d : DataW H => match d with | .lit (.string l) => l | _ => []) h3
    rw [List.map_map, List.map_map] at h4
    have e1 : ((fun d : DataW H => match d with | .lit (.string l) => l | _ => []) ∘ fun l : List UInt8 => (DataW.lit (.string l) : DataW H)) = id := by funext l; rfl
    have e2 : ((fun d : DataW H => match d with | .lit (.string l) => l | _ => []) ∘ fun s : ByteArray => (DataW.lit (.string s.data.toList) : DataW H)) = fun s => s.data.toList := by funext l; rfl
    rw [e1, e2, List.map_id] at h4
    exact h4.symm
  have hpos : 0 < len := by
    rw [← hlen]
    have := congrArg List.length hml
    rw [List.length_map] at this
    rw [this]
    decide
  have hspot : a.spot = none := by
    have h0 := hcell 0 (by omega)
    cases hs : a.spot with
    | none => rfl
    | some z =>
      exfalso
      have e : a.add 0 = a := by
        obtain ⟨ab, ao, asp⟩ := a
        simp [Addr.add]
      rw [e] at h0
      unfold World.cell? at h0
      split at h0
      · simp [hs] at h0
      · cases h0
  obtain ⟨b, o, s⟩ := a
  simp only at hspot
  subst hspot
  refine ⟨.slice (some ⟨b, o, none⟩) len cap, ss, ?_, ⟨some ⟨b, o, none⟩, cap, by rw [hlen], by omega, hm, fun _ => ⟨b, o, rfl, trivial, fun i hi => ⟨[.string ss[i]], rfl, ⟨rfl, hss _ (List.getElem_mem hi)⟩, fun q u hu => ?_⟩⟩⟩, ?_⟩
  · have := World.var?_cell gRes hv 0
    rw [Array.eq_one_of_toList hcs] at this
    simpa using this
  · have hq : q = 0 := by
      have := (List.getElem?_eq_some_iff.1 hu).1
      simp at this; omega
    subst hq
    simp at hu
    subst hu
    have := hcell i hi
    have e : ((⟨b, o, none⟩ : Addr).add i) = ⟨b, o + i * 1 + 0, none⟩ := by
      unfold Addr.add
      split <;> simp_all
    rw [e] at this
    rw [this, List.getD_eq_getElem?_getD, List.getElem?_eq_getElem hi]
    rfl
  · rw [← hml]
    exact List.map_congr_left fun s _ => toList_eq s

set_option maxRecDepth 100000 in
/-- A tree that came in as an argument. -/
theorem open_tree {H : Type} {enc : TypeId × Value → H} {W : World} {sp : Nat → Bool} {held : Bool} {r : Reach} {b0 : Nat} {v : Value} {d : DataW H} {p : List MemPlace} (hv : Value.okWide Tryz.prog W r b0 25 v)
    (h : DataW.Trod enc Tryz.prog W 0 sp held 25 v d p) : ∃ (t : PTree) (vG vF : Value), v = .agg #[vG, vF] ∧ SlGlob AnyB W vG t.globals ∧ SlFunc AnyB W vF t.funcs := by
  obtain ⟨v0, v1, y0, y1, n, rfl, _, _, h0, h1⟩ := Joins.open_agg2 Tryz.underlying25 (by kernel_rfl) (by kernel_rfl) hv h
  obtain ⟨G, w0⟩ := sl_of_trod Tryz.underlying22 (by kernel_rfl) (by decide) (fun _ _ _ h hl => glob_of_trod h hl) h0
  obtain ⟨F, w1⟩ := sl_of_trod Tryz.underlying23 (by kernel_rfl) (by decide) (fun _ _ _ h hl => func_of_trod h hl) h1
  exact ⟨⟨G, F⟩, v0, v1, rfl, w0, w1⟩
end Go.Proofs.YtolbngbedncemaaGreatDoor

