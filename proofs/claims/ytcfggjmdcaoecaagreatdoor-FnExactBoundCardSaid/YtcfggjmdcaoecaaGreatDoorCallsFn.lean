/- The laws' comparisons, where both sides are the same model: they return true; no condition. PRINTED by gen_eq.py of this repo. -/
import Derived.Test.YtcfggjmdcaoecaaGreatDoorRep
import Derived.Test.YtcfggjmdcaoecaaGreatDoorUnit
import Derived.Test.YtcfggjmdcaoecaaGreatDoorSz
import Derived.SliceStrings
import Derived.OpenVars
import Derived.LaidHandle
import Derived.Test.YtcfggjmdcaoecaaGreatDoorSpecCalls
import Derived.Test.YtcfggjmdcaoecaaGreatDoorSpecValid
import Derived.Test.YtcfggjmdcaoecaaGreatDoorImplCkC
import Derived.IntWalk
set_option linter.unusedVariables false
set_option linter.unusedSimpArgs false
namespace Go.Proofs.YtcfggjmdcaoecaaGreatDoor
open Go Go.RowKit Md


theorem c_eqNode (x : PNode) (w : World) : Calls Tryz.prog 183 #[.agg #[.int .i64 x.kind, .int .i64 x.val, .string x.name], .agg #[.int .i64 x.kind, .int .i64 x.val, .string x.name]] w (Gives (.bool true) w) := by
  go_enter Tryz.func183, Tryz.ntmps183
  go_wp2
  go_ret
  exact Gives.bool rfl (((Ext.refl _).alloc _).alloc _)


set_option maxRecDepth 1000000 in
theorem c_eqNodeS (K K' : Foot) (l : List PNode) (v u : Value) (w : World) (hv : SlNode K w v l) (hu : SlNode K' w u l) : Calls Tryz.prog 175 #[v, u] w (Gives (.bool true) w) := by
  obtain ⟨a, len, cap, rfl, Hlen, hlc, hcm, hel⟩ := hv.op
  obtain ⟨a', len', cap', rfl, Hlen', hlc', hcm', hel'⟩ := hu.op
  obtain rfl : len = len' := by rw [← Hlen.out, ← Hlen'.out]
  clear hv hu
  go_enter Tryz.func175, Tryz.ntmps175
  go_wp2
  go_loopw [5] (fun i wr => ∃ k : Nat, k ≤ len ∧ i = .int .i64 k ∧ Ext w wr) (fun i _ => len - (intOf i).toNat)
  case atStart => exact ⟨0, Nat.zero_le _, rfl, Ext.refl w⟩
  case round =>
    obtain ⟨k, hk, rfl, hE⟩ := hrel
    by_cases hlt : k < len
    · obtain ⟨b, o, rfl, _, hel⟩ := hel (by omega)
      obtain ⟨b', o', rfl, _, hel'⟩ := hel' (by omega)
      obtain ⟨x, cs, hx, _, hC, hcs⟩ := hel k hlt
      obtain ⟨x', cs', hx', _, hC', hcs'⟩ := hel' k hlt
      obtain rfl : x = x' := by rw [hx] at hx'; exact Option.some.inj hx'
      obtain ⟨rfl, _⟩ := hC
      obtain ⟨rfl, _⟩ := hC'
      have c0 := hE.cell (hcs.z rfl)
      have d0 := hE.cell (hcs'.z rfl)
      have c1 := hE.cell (hcs 1 _ rfl)
      have d1 := hE.cell (hcs' 1 _ rfl)
      have c2 := hE.cell (hcs 2 _ rfl)
      have d2 := hE.cell (hcs' 2 _ rfl)
      clear hel hcs hx hel' hcs' hx'
      have g0 : (0 : Int) ≤ (k : Int) := by omega
      have g1 : (k : Int) < (len : Int) := by omega
      go_wp2
      go_still_tail 8, (by kernel_rfl)
      change wpList _ _ _ _ _ wr.drew
      have hE2 : Ext w wr.drew := hE.drew
      generalize wr.drew = w2 at *
      go_wp2_with fail
      refine (c_eqNode x _).mono ?_
      rintro e w3 ⟨rfl, hX⟩
      have hE3 := hE2.trans hX
      go_wp2
      go_roundw
      case rel => exact ⟨k + 1, by omega, by go_num, hE3⟩
      case measure => simp [intOf]; omega
    · go_wp2
      go_ret
      exact Gives.bool rfl hE


theorem c_eqGlobal (x : PGlob) (w : World) : Calls Tryz.prog 77 #[.agg #[.string x.name, .int .i64 x.size], .agg #[.string x.name, .int .i64 x.size]] w (Gives (.bool true) w) := by
  go_enter Tryz.func77, Tryz.ntmps77
  go_wp2
  go_ret
  exact Gives.bool rfl (((Ext.refl _).alloc _).alloc _)


set_option maxRecDepth 1000000 in
theorem c_eqGlobalS (K K' : Foot) (l : List PGlob) (v u : Value) (w : World) (hv : SlGlob K w v l) (hu : SlGlob K' w u l) : Calls Tryz.prog 40 #[v, u] w (Gives (.bool true) w) := by
  obtain ⟨a, len, cap, rfl, Hlen, hlc, hcm, hel⟩ := hv.op
  obtain ⟨a', len', cap', rfl, Hlen', hlc', hcm', hel'⟩ := hu.op
  obtain rfl : len = len' := by rw [← Hlen.out, ← Hlen'.out]
  clear hv hu
  go_enter Tryz.func40, Tryz.ntmps40
  go_wp2
  go_loopw [5] (fun i wr => ∃ k : Nat, k ≤ len ∧ i = .int .i64 k ∧ Ext w wr) (fun i _ => len - (intOf i).toNat)
  case atStart => exact ⟨0, Nat.zero_le _, rfl, Ext.refl w⟩
  case round =>
    obtain ⟨k, hk, rfl, hE⟩ := hrel
    by_cases hlt : k < len
    · obtain ⟨b, o, rfl, _, hel⟩ := hel (by omega)
      obtain ⟨b', o', rfl, _, hel'⟩ := hel' (by omega)
      obtain ⟨x, cs, hx, _, hC, hcs⟩ := hel k hlt
      obtain ⟨x', cs', hx', _, hC', hcs'⟩ := hel' k hlt
      obtain rfl : x = x' := by rw [hx] at hx'; exact Option.some.inj hx'
      obtain ⟨rfl, _⟩ := hC
      obtain ⟨rfl, _⟩ := hC'
      have c0 := hE.cell (hcs.z rfl)
      have d0 := hE.cell (hcs'.z rfl)
      have c1 := hE.cell (hcs 1 _ rfl)
      have d1 := hE.cell (hcs' 1 _ rfl)
      clear hel hcs hx hel' hcs' hx'
      have g0 : (0 : Int) ≤ (k : Int) := by omega
      have g1 : (k : Int) < (len : Int) := by omega
      go_wp2
      go_still_tail 8, (by kernel_rfl)
      change wpList _ _ _ _ _ wr.drew
      have hE2 : Ext w wr.drew := hE.drew
      generalize wr.drew = w2 at *
      go_wp2_with fail
      refine (c_eqGlobal x _).mono ?_
      rintro e w3 ⟨rfl, hX⟩
      have hE3 := hE2.trans hX
      go_wp2
      go_roundw
      case rel => exact ⟨k + 1, by omega, by go_num, hE3⟩
      case measure => simp [intOf]; omega
    · go_wp2
      go_ret
      exact Gives.bool rfl hE


set_option maxRecDepth 1000000 in
theorem c_eqStringS (K K' : Foot) (l : List ByteArray) (v u : Value) (w : World) (hv : SlStr K w v l) (hu : SlStr K' w u l) : Calls Tryz.prog 122 #[v, u] w (Gives (.bool true) w) := by
  obtain ⟨a, len, cap, rfl, Hlen, hlc, hcm, hel⟩ := hv.op
  obtain ⟨a', len', cap', rfl, Hlen', hlc', hcm', hel'⟩ := hu.op
  obtain rfl : len = len' := by rw [← Hlen.out, ← Hlen'.out]
  clear hv hu
  go_enter Tryz.func122, Tryz.ntmps122
  go_wp2
  go_loopw [5] (fun i wr => ∃ k : Nat, k ≤ len ∧ i = .int .i64 k ∧ Ext w wr) (fun i _ => len - (intOf i).toNat)
  case atStart => exact ⟨0, Nat.zero_le _, rfl, Ext.refl w⟩
  case round =>
    obtain ⟨k, hk, rfl, hE⟩ := hrel
    by_cases hlt : k < len
    · obtain ⟨b, o, rfl, _, hel⟩ := hel (by omega)
      obtain ⟨b', o', rfl, _, hel'⟩ := hel' (by omega)
      obtain ⟨x, cs, hx, _, hC, hcs⟩ := hel k hlt
      obtain ⟨x', cs', hx', _, hC', hcs'⟩ := hel' k hlt
      obtain rfl : x = x' := by rw [hx] at hx'; exact Option.some.inj hx'
      obtain ⟨rfl, _⟩ := hC
      obtain ⟨rfl, _⟩ := hC'
      have c0 := hE.cell (hcs.z rfl)
      have d0 := hE.cell (hcs'.z rfl)
      rw [Nat.mul_one] at c0 d0
      clear hel hcs hx hel' hcs' hx'
      have g0 : (0 : Int) ≤ (k : Int) := by omega
      have g1 : (k : Int) < (len : Int) := by omega
      go_wp2
      go_quiet (fail)
      go_wp2
      go_roundw
      case rel => exact ⟨k + 1, by omega, by go_num, hE.trans (drewN_ext _ _)⟩
      case measure => simp [intOf]; omega
    · go_wp2
      go_ret
      exact Gives.bool rfl hE


theorem c_eqStmt (K K' : Foot) (x : PStmt) (v0 v1 u0 u1 : Value) (w : World) (h0 : SlNode K w v0 x.e) (h1 : SlNode K w v1 x.f) (h0' : SlNode K' w u0 x.e) (h1' : SlNode K' w u1 x.f) :
    Calls Tryz.prog 156 #[.agg #[.int .i64 x.kind, .string x.name, v0, v1, .int .i64 x.thn, .int .i64 x.els], .agg #[.int .i64 x.kind, .string x.name, u0, u1, .int .i64 x.thn, .int .i64 x.els]] w (Gives (.bool true) w) := by
  go_enter Tryz.func156, Tryz.ntmps156
  go_wp2_with fail
  refine (c_eqNodeS K K' x.e _ _ _ (h0.ext (((Ext.refl _).alloc _).alloc _) (fun _ _ h => h.any)) (h0'.ext (((Ext.refl _).alloc _).alloc _) (fun _ _ h => h.any))).mono ?_
  rintro e w1 ⟨rfl, hX1⟩
  obtain ⟨p0, p1⟩ := Blk.alloc2 w 102 102 #[.int .i64 x.kind, .string x.name, v0, v1, .int .i64 x.thn, .int .i64 x.els] #[.int .i64 x.kind, .string x.name, u0, u1, .int .i64 x.thn, .int .i64 x.els]
  have hE1 : Ext w w1 := ((((Ext.refl _).alloc _).alloc _) : Ext w _).trans hX1
  have p0 := p0.ext hX1
  have p1 := p1.ext hX1
  have q0_0 : w1.cell? ⟨w.heap.size, 0, none⟩ = some (.int .i64 x.kind) := p0.cell 0
  have q1_0 : w1.cell? ⟨w.heap.size + 1, 0, none⟩ = some (.int .i64 x.kind) := p1.cell 0
  have q0_1 : w1.cell? ⟨w.heap.size, 1, none⟩ = some (.string x.name) := p0.cell 1
  have q1_1 : w1.cell? ⟨w.heap.size + 1, 1, none⟩ = some (.string x.name) := p1.cell 1
  have q0_2 : w1.cell? ⟨w.heap.size, 2, none⟩ = some (v0) := p0.cell 2
  have q1_2 : w1.cell? ⟨w.heap.size + 1, 2, none⟩ = some (u0) := p1.cell 2
  have q0_3 : w1.cell? ⟨w.heap.size, 3, none⟩ = some (v1) := p0.cell 3
  have q1_3 : w1.cell? ⟨w.heap.size + 1, 3, none⟩ = some (u1) := p1.cell 3
  have q0_4 : w1.cell? ⟨w.heap.size, 4, none⟩ = some (.int .i64 x.thn) := p0.cell 4
  have q1_4 : w1.cell? ⟨w.heap.size + 1, 4, none⟩ = some (.int .i64 x.thn) := p1.cell 4
  have q0_5 : w1.cell? ⟨w.heap.size, 5, none⟩ = some (.int .i64 x.els) := p0.cell 5
  have q1_5 : w1.cell? ⟨w.heap.size + 1, 5, none⟩ = some (.int .i64 x.els) := p1.cell 5
  go_wp2_with fail
  refine (c_eqNodeS K K' x.f _ _ _ (h1.ext hE1 (fun _ _ h => h.any)) (h1'.ext hE1 (fun _ _ h => h.any))).mono ?_
  rintro e w2 ⟨rfl, hX2⟩
  have hE2 := hE1.trans hX2
  have p0 := p0.ext hX2
  have p1 := p1.ext hX2
  clear q0_0 q1_0 q0_1 q1_1 q0_2 q1_2 q0_3 q1_3 q0_4 q1_4 q0_5 q1_5
  have q0_4 : w2.cell? ⟨w.heap.size, 4, none⟩ = some (.int .i64 x.thn) := p0.cell 4
  have q1_4 : w2.cell? ⟨w.heap.size + 1, 4, none⟩ = some (.int .i64 x.thn) := p1.cell 4
  have q0_5 : w2.cell? ⟨w.heap.size, 5, none⟩ = some (.int .i64 x.els) := p0.cell 5
  have q1_5 : w2.cell? ⟨w.heap.size + 1, 5, none⟩ = some (.int .i64 x.els) := p1.cell 5
  go_wp2
  go_ret
  exact Gives.bool rfl hE2


set_option maxRecDepth 1000000 in
theorem c_eqStmtS (K K' : Foot) (l : List PStmt) (v u : Value) (w : World) (hv : SlStmt K w v l) (hu : SlStmt K' w u l) : Calls Tryz.prog 123 #[v, u] w (Gives (.bool true) w) := by
  obtain ⟨a, len, cap, rfl, Hlen, hlc, hcm, hel⟩ := hv.op
  obtain ⟨a', len', cap', rfl, Hlen', hlc', hcm', hel'⟩ := hu.op
  obtain rfl : len = len' := by rw [← Hlen.out, ← Hlen'.out]
  clear hv hu
  go_enter Tryz.func123, Tryz.ntmps123
  go_wp2
  go_loopw [5] (fun i wr => ∃ k : Nat, k ≤ len ∧ i = .int .i64 k ∧ Ext w wr) (fun i _ => len - (intOf i).toNat)
  case atStart => exact ⟨0, Nat.zero_le _, rfl, Ext.refl w⟩
  case round =>
    obtain ⟨k, hk, rfl, hE⟩ := hrel
    by_cases hlt : k < len
    · obtain ⟨b, o, rfl, _, hel⟩ := hel (by omega)
      obtain ⟨b', o', rfl, _, hel'⟩ := hel' (by omega)
      obtain ⟨x, cs, hx, _, hC, hcs⟩ := hel k hlt
      obtain ⟨x', cs', hx', _, hC', hcs'⟩ := hel' k hlt
      obtain rfl : x = x' := by rw [hx] at hx'; exact Option.some.inj hx'
      obtain ⟨v0, v1, rfl, h0, h1, _⟩ := hC
      obtain ⟨u0, u1, rfl, h0', h1', _⟩ := hC'
      have c0 := hE.cell (hcs.z rfl)
      have d0 := hE.cell (hcs'.z rfl)
      have c1 := hE.cell (hcs 1 _ rfl)
      have d1 := hE.cell (hcs' 1 _ rfl)
      have c2 := hE.cell (hcs 2 _ rfl)
      have d2 := hE.cell (hcs' 2 _ rfl)
      have c3 := hE.cell (hcs 3 _ rfl)
      have d3 := hE.cell (hcs' 3 _ rfl)
      have c4 := hE.cell (hcs 4 _ rfl)
      have d4 := hE.cell (hcs' 4 _ rfl)
      have c5 := hE.cell (hcs 5 _ rfl)
      have d5 := hE.cell (hcs' 5 _ rfl)
      clear hel hcs hx hel' hcs' hx'
      have g0 : (0 : Int) ≤ (k : Int) := by omega
      have g1 : (k : Int) < (len : Int) := by omega
      go_wp2
      go_still_tail 8, (by kernel_rfl)
      change wpList _ _ _ _ _ wr.drew
      have hE2 : Ext w wr.drew := hE.drew
      generalize wr.drew = w2 at *
      go_wp2_with fail
      refine (c_eqStmt K K' x v0 v1 u0 u1 _ (h0.ext hE2 (fun _ _ h => h.any)) (h1.ext hE2 (fun _ _ h => h.any)) (h0'.ext hE2 (fun _ _ h => h.any)) (h1'.ext hE2 (fun _ _ h => h.any))).mono ?_
      rintro e w3 ⟨rfl, hX⟩
      have hE3 := hE2.trans hX
      go_wp2
      go_roundw
      case rel => exact ⟨k + 1, by omega, by go_num, hE3⟩
      case measure => simp [intOf]; omega
    · go_wp2
      go_ret
      exact Gives.bool rfl hE


theorem c_eqFunc (K K' : Foot) (x : PFunc) (v0 v1 u0 u1 : Value) (w : World) (h0 : SlStr K w v0 x.params) (h1 : SlStmt K w v1 x.body) (h0' : SlStr K' w u0 x.params) (h1' : SlStmt K' w u1 x.body) :
    Calls Tryz.prog 78 #[.agg #[.string x.name, v0, v1], .agg #[.string x.name, u0, u1]] w (Gives (.bool true) w) := by
  go_enter Tryz.func78, Tryz.ntmps78
  go_wp2_with fail
  refine (c_eqStringS K K' x.params _ _ _ (h0.ext (((Ext.refl _).alloc _).alloc _) (fun _ _ h => h.any)) (h0'.ext (((Ext.refl _).alloc _).alloc _) (fun _ _ h => h.any))).mono ?_
  rintro e w1 ⟨rfl, hX1⟩
  obtain ⟨p0, p1⟩ := Blk.alloc2 w 83 83 #[.string x.name, v0, v1] #[.string x.name, u0, u1]
  have hE1 : Ext w w1 := ((((Ext.refl _).alloc _).alloc _) : Ext w _).trans hX1
  have p0 := p0.ext hX1
  have p1 := p1.ext hX1
  have q0_0 : w1.cell? ⟨w.heap.size, 0, none⟩ = some (.string x.name) := p0.cell 0
  have q1_0 : w1.cell? ⟨w.heap.size + 1, 0, none⟩ = some (.string x.name) := p1.cell 0
  have q0_1 : w1.cell? ⟨w.heap.size, 1, none⟩ = some (v0) := p0.cell 1
  have q1_1 : w1.cell? ⟨w.heap.size + 1, 1, none⟩ = some (u0) := p1.cell 1
  have q0_2 : w1.cell? ⟨w.heap.size, 2, none⟩ = some (v1) := p0.cell 2
  have q1_2 : w1.cell? ⟨w.heap.size + 1, 2, none⟩ = some (u1) := p1.cell 2
  go_wp2_with fail
  refine (c_eqStmtS K K' x.body _ _ _ (h1.ext hE1 (fun _ _ h => h.ext hE1)) (h1'.ext hE1 (fun _ _ h => h.ext hE1))).mono ?_
  rintro e w2 ⟨rfl, hX2⟩
  have hE2 := hE1.trans hX2
  go_wp2
  go_ret
  exact Gives.bool rfl hE2


set_option maxRecDepth 1000000 in
theorem c_eqFuncS (K K' : Foot) (l : List PFunc) (v u : Value) (w : World) (hv : SlFunc K w v l) (hu : SlFunc K' w u l) : Calls Tryz.prog 41 #[v, u] w (Gives (.bool true) w) := by
  obtain ⟨a, len, cap, rfl, Hlen, hlc, hcm, hel⟩ := hv.op
  obtain ⟨a', len', cap', rfl, Hlen', hlc', hcm', hel'⟩ := hu.op
  obtain rfl : len = len' := by rw [← Hlen.out, ← Hlen'.out]
  clear hv hu
  go_enter Tryz.func41, Tryz.ntmps41
  go_wp2
  go_loopw [5] (fun i wr => ∃ k : Nat, k ≤ len ∧ i = .int .i64 k ∧ Ext w wr) (fun i _ => len - (intOf i).toNat)
  case atStart => exact ⟨0, Nat.zero_le _, rfl, Ext.refl w⟩
  case round =>
    obtain ⟨k, hk, rfl, hE⟩ := hrel
    by_cases hlt : k < len
    · obtain ⟨b, o, rfl, _, hel⟩ := hel (by omega)
      obtain ⟨b', o', rfl, _, hel'⟩ := hel' (by omega)
      obtain ⟨x, cs, hx, _, hC, hcs⟩ := hel k hlt
      obtain ⟨x', cs', hx', _, hC', hcs'⟩ := hel' k hlt
      obtain rfl : x = x' := by rw [hx] at hx'; exact Option.some.inj hx'
      obtain ⟨v0, v1, rfl, h0, h1, _⟩ := hC
      obtain ⟨u0, u1, rfl, h0', h1', _⟩ := hC'
      have c0 := hE.cell (hcs.z rfl)
      have d0 := hE.cell (hcs'.z rfl)
      have c1 := hE.cell (hcs 1 _ rfl)
      have d1 := hE.cell (hcs' 1 _ rfl)
      have c2 := hE.cell (hcs 2 _ rfl)
      have d2 := hE.cell (hcs' 2 _ rfl)
      clear hel hcs hx hel' hcs' hx'
      have g0 : (0 : Int) ≤ (k : Int) := by omega
      have g1 : (k : Int) < (len : Int) := by omega
      go_wp2
      go_still_tail 8, (by kernel_rfl)
      change wpList _ _ _ _ _ wr.drew
      have hE2 : Ext w wr.drew := hE.drew
      generalize wr.drew = w2 at *
      go_wp2_with fail
      refine (c_eqFunc K K' x v0 v1 u0 u1 _ (h0.ext hE2 (fun _ _ h => h.any)) (h1.ext hE2 (fun _ _ h => h.ext hE2)) (h0'.ext hE2 (fun _ _ h => h.any)) (h1'.ext hE2 (fun _ _ h => h.ext hE2))).mono ?_
      rintro e w3 ⟨rfl, hX⟩
      have hE3 := hE2.trans hX
      go_wp2
      go_roundw
      case rel => exact ⟨k + 1, by omega, by go_num, hE3⟩
      case measure => simp [intOf]; omega
    · go_wp2
      go_ret
      exact Gives.bool rfl hE


theorem c_eqTree (K K' : Foot) (x : PTree) (v0 v1 u0 u1 : Value) (w : World) (h0 : SlGlob K w v0 x.globals) (h1 : SlFunc K w v1 x.funcs) (h0' : SlGlob K' w u0 x.globals) (h1' : SlFunc K' w u1 x.funcs) :
    Calls Tryz.prog 14 #[.agg #[v0, v1], .agg #[u0, u1]] w (Gives (.bool true) w) := by
  go_enter Tryz.func14, Tryz.ntmps14
  go_wp2_with fail
  refine (c_eqGlobalS K K' x.globals _ _ _ (h0.ext (((Ext.refl _).alloc _).alloc _) (fun _ _ h => h.any)) (h0'.ext (((Ext.refl _).alloc _).alloc _) (fun _ _ h => h.any))).mono ?_
  rintro e w1 ⟨rfl, hX1⟩
  obtain ⟨p0, p1⟩ := Blk.alloc2 w 32 32 #[v0, v1] #[u0, u1]
  have hE1 : Ext w w1 := ((((Ext.refl _).alloc _).alloc _) : Ext w _).trans hX1
  have p0 := p0.ext hX1
  have p1 := p1.ext hX1
  have q0_0 : w1.cell? ⟨w.heap.size, 0, none⟩ = some (v0) := p0.cell 0
  have q1_0 : w1.cell? ⟨w.heap.size + 1, 0, none⟩ = some (u0) := p1.cell 0
  have q0_1 : w1.cell? ⟨w.heap.size, 1, none⟩ = some (v1) := p0.cell 1
  have q1_1 : w1.cell? ⟨w.heap.size + 1, 1, none⟩ = some (u1) := p1.cell 1
  go_wp2_with fail
  refine (c_eqFuncS K K' x.funcs _ _ _ (h1.ext hE1 (fun _ _ h => h.ext hE1)) (h1'.ext hE1 (fun _ _ h => h.ext hE1))).mono ?_
  rintro e w2 ⟨rfl, hX2⟩
  have hE2 := hE1.trans hX2
  go_wp2
  go_ret
  exact Gives.bool rfl hE2

end Go.Proofs.YtcfggjmdcaoecaaGreatDoor

/- A tree that came in, of the laws' own types, lies in memory as the model's tree; no condition. -/
set_option linter.unusedVariables false
set_option linter.unusedSimpArgs false
namespace Go.Proofs.YtcfggjmdcaoecaaGreatDoor
open Go Go.RowKit Md
section
variable {H : Type} {enc : TypeId × Value → H} {W : World} {sp : Nat → Bool} {held : Bool}
theorem node_of_trod {fuel : Nat} {cs : List Value} {x : DataW H × List MemPlace} (h : DataW.trod enc Tryz.prog W 0 sp held fuel 267 cs = some x) (hl : cs.length = 3) : ∃ y, CNode W cs y := by
  match cs, hl with
  | [a, b, c], _ =>
    obtain ⟨n0, y0, h0⟩ := field_of_trod Tryz.underlying267 h 0 rfl (by kernel_rfl) rfl
    obtain ⟨n1, y1, h1⟩ := field_of_trod Tryz.underlying267 h 1 rfl (by kernel_rfl) rfl
    obtain ⟨n2, y2, h2⟩ := field_of_trod Tryz.underlying267 h 2 rfl (by kernel_rfl) rfl
    obtain ⟨k, e0, w0⟩ := int_of_trod Tryz.underlying2 h0
    obtain ⟨v, e1, w1⟩ := int_of_trod Tryz.underlying2 h1
    obtain ⟨s, e2, w2⟩ := str_of_trod Tryz.underlying9 h2
    simp only [List.cons.injEq, and_true] at e0 e1 e2
    subst e0 e1 e2
    exact ⟨⟨k, v, s⟩, rfl, I64.of_wf w0, I64.of_wf w1, w2⟩
theorem glob_of_trod {fuel : Nat} {cs : List Value} {x : DataW H × List MemPlace} (h : DataW.trod enc Tryz.prog W 0 sp held fuel 91 cs = some x) (hl : cs.length = 2) : ∃ y, CGlob W cs y := by
  match cs, hl with
  | [a, b], _ =>
    obtain ⟨n0, y0, h0⟩ := field_of_trod Tryz.underlying91 h 0 rfl (by kernel_rfl) rfl
    obtain ⟨n1, y1, h1⟩ := field_of_trod Tryz.underlying91 h 1 rfl (by kernel_rfl) rfl
    obtain ⟨s, e0, w0⟩ := str_of_trod Tryz.underlying9 h0
    obtain ⟨v, e1, w1⟩ := int_of_trod Tryz.underlying2 h1
    simp only [List.cons.injEq, and_true] at e0 e1
    subst e0 e1
    exact ⟨⟨s, v⟩, rfl, I64.of_wf w1, w0⟩
theorem nodes_of_trod {fuel : Nat} {v : Value} {x : DataW H × List MemPlace} (h : DataW.trod enc Tryz.prog W 0 sp held fuel 221 [v] = some x) : ∃ y, SlNode AnyB W v y :=
  sl_of_trod Tryz.underlying221 (by kernel_rfl) (by decide) (fun _ _ _ h hl => node_of_trod h hl) h
theorem strs_of_trod {fuel : Nat} {v : Value} {x : DataW H × List MemPlace} (h : DataW.trod enc Tryz.prog W 0 sp held fuel 80 [v] = some x) : ∃ y, SlStr AnyB W v y :=
  sl_of_trod Tryz.underlying80 (by kernel_rfl) (by decide) (fun _ _ _ h hl => str_of_trod Tryz.underlying9 h) h
theorem stmt_of_trod {fuel : Nat} {cs : List Value} {x : DataW H × List MemPlace} (h : DataW.trod enc Tryz.prog W 0 sp held fuel 223 cs = some x) (hl : cs.length = 6) : ∃ y, CStmt AnyB W cs y := by
  match cs, hl with
  | [a, b, c, d, e, f], _ =>
    obtain ⟨n0, y0, h0⟩ := field_of_trod Tryz.underlying223 h 0 rfl (by kernel_rfl) rfl
    obtain ⟨n1, y1, h1⟩ := field_of_trod Tryz.underlying223 h 1 rfl (by kernel_rfl) rfl
    obtain ⟨n2, y2, h2⟩ := field_of_trod Tryz.underlying223 h 2 rfl (by kernel_rfl) rfl
    obtain ⟨n3, y3, h3⟩ := field_of_trod Tryz.underlying223 h 3 rfl (by kernel_rfl) rfl
    obtain ⟨n4, y4, h4⟩ := field_of_trod Tryz.underlying223 h 4 rfl (by kernel_rfl) rfl
    obtain ⟨n5, y5, h5⟩ := field_of_trod Tryz.underlying223 h 5 rfl (by kernel_rfl) rfl
    obtain ⟨k, e0, w0⟩ := int_of_trod Tryz.underlying2 h0
    obtain ⟨s, e1, w1⟩ := str_of_trod Tryz.underlying9 h1
    obtain ⟨E, w2⟩ := nodes_of_trod h2
    obtain ⟨F, w3⟩ := nodes_of_trod h3
    obtain ⟨t, e4, w4⟩ := int_of_trod Tryz.underlying2 h4
    obtain ⟨u, e5, w5⟩ := int_of_trod Tryz.underlying2 h5
    simp only [List.cons.injEq, and_true] at e0 e1 e4 e5
    subst e0 e1 e4 e5
    exact ⟨⟨k, s, E, F, t, u⟩, c, d, rfl, w2, w3, I64.of_wf w0, I64.of_wf w4, I64.of_wf w5, w1⟩
theorem func_of_trod {fuel : Nat} {cs : List Value} {x : DataW H × List MemPlace} (h : DataW.trod enc Tryz.prog W 0 sp held fuel 95 cs = some x) (hl : cs.length = 3) : ∃ y, CFunc AnyB W cs y := by
  match cs, hl with
  | [a, b, c], _ =>
    obtain ⟨n0, y0, h0⟩ := field_of_trod Tryz.underlying95 h 0 rfl (by kernel_rfl) rfl
    obtain ⟨n1, y1, h1⟩ := field_of_trod Tryz.underlying95 h 1 rfl (by kernel_rfl) rfl
    obtain ⟨n2, y2, h2⟩ := field_of_trod Tryz.underlying95 h 2 rfl (by kernel_rfl) rfl
    obtain ⟨s, e0, w0⟩ := str_of_trod Tryz.underlying9 h0
    obtain ⟨ps, w1⟩ := strs_of_trod h1
    obtain ⟨B, w2⟩ := sl_of_trod Tryz.underlying93 (by kernel_rfl) (by decide) (fun _ _ _ h hl => stmt_of_trod h hl) h2
    simp only [List.cons.injEq, and_true] at e0
    subst e0
    exact ⟨⟨s, ps, B⟩, b, c, rfl, w1, w2, w0⟩
theorem tree_of_trod {fuel : Nat} {cs : List Value} {x : DataW H × List MemPlace} (h : DataW.trod enc Tryz.prog W 0 sp held fuel 25 cs = some x) (hl : cs.length = 2) : ∃ y, CTree AnyB W cs y := by
  match cs, hl with
  | [a, b], _ =>
    obtain ⟨n0, y0, h0⟩ := field_of_trod Tryz.underlying25 h 0 rfl (by kernel_rfl) rfl
    obtain ⟨n1, y1, h1⟩ := field_of_trod Tryz.underlying25 h 1 rfl (by kernel_rfl) rfl
    obtain ⟨G, w0⟩ := sl_of_trod Tryz.underlying22 (by kernel_rfl) (by decide) (fun _ _ _ h hl => glob_of_trod h hl) h0
    obtain ⟨F, w1⟩ := sl_of_trod Tryz.underlying23 (by kernel_rfl) (by decide) (fun _ _ _ h hl => func_of_trod h hl) h1
    exact ⟨⟨G, F⟩, a, b, rfl, w0, w1⟩
end
end Go.Proofs.YtcfggjmdcaoecaaGreatDoor

/- What the laws on trees share: sizes out of the laws' reckoning, footprints, impl.reserved as laid, impl.ValidTree. -/
set_option linter.unusedVariables false
set_option linter.unusedSimpArgs false
namespace Go.Proofs.YtcfggjmdcaoecaaGreatDoor
open Go Go.RowKit Md Go.ChangeShapes

theorem sumSz_mem {α : Type} (f : α → Nat) {l : List α} {x : α} (h : x ∈ l) : f x ≤ sumSz f l := by
  unfold sumSz
  induction l with
  | nil => cases h
  | cons y l ih =>
    rw [List.map_cons, List.sum_cons]
    rcases List.mem_cons.1 h with rfl | h
    · omega
    · have := ih h; omega
def Sizes (x : PTree) : Prop := x.globals.length ≤ 1048576 ∧ (x.funcs.length ≤ 1048576 ∧ ∀ s ∈ x.funcs, s.params.length ≤ 1048576 ∧ (s.body.length ≤ 1048576 ∧ ∀ q ∈ s.body, q.e.length ≤ 1048576 ∧ q.f.length ≤ 1048576))
theorem sizes_of {x : PTree} (h : szTree x ≤ 1048576) : Sizes x := by
  unfold szTree szL at h
  refine ⟨by omega, by omega, fun s hs => ?_⟩
  have h1 : s.name.size + szL szStr s.params + szL szStmt s.body ≤ sumSz szFunc x.funcs := sumSz_mem szFunc hs
  unfold szL at h1
  refine ⟨by omega, by omega, fun q hq => ?_⟩
  have h2 : q.name.size + szL szNode q.e + szL szNode q.f ≤ sumSz szStmt s.body := sumSz_mem szStmt hq
  unfold szL at h2
  exact ⟨by omega, by omega⟩
theorem Sizes.small {x : PTree} (h : Sizes x) : Small x := fun f hf s hs => (h.2.2 f hf).2.2 s hs

theorem CFunc.bound {K : Foot} {w : World} {cs : List Value} {s : PFunc} (h : CFunc K w cs s) : CFunc (fun b => K b ∧ b < w.heap.size) w cs s := by
  obtain ⟨vP, vB, e, h1, h2, h3⟩ := h
  exact ⟨vP, vB, e, Sl.bound h1 (by decide), SlStmt.bound h2, h3⟩
theorem SlFunc.bound {K : Foot} {w : World} {v : Value} {l : List PFunc} (h : SlFunc K w v l) : SlFunc (fun b => K b ∧ b < w.heap.size) w v l :=
  Sl.keep (Sl.bound h (by decide)) (Keep.refl _ w) (fun _ _ _ h => h.bound) (fun _ h => h)
theorem SlGlob.bound {K : Foot} {w : World} {v : Value} {l : List PGlob} (h : SlGlob K w v l) : SlGlob (fun b => K b ∧ b < w.heap.size) w v l := Sl.bound h (by decide)

/-! ### impl.reserved as the program's text lays it -/
theorem gRes : Tryz.prog.globalNamed "loop.example/s01725/impl.reserved" = some 1 := by kernel_rfl
theorem tRes : (Tryz.prog.globals[1]?).map (·.type) = some 80 := by kernel_rfl
def resData {H : Type} : List (DataW H) := resL.map fun l => .lit (.string l)
theorem res_of_trod {W : World} {cs : Array Value} {f : Nat} {sp : Nat → Bool} {p : List MemPlace} {H : Type} {enc : TypeId × Value → H} {held : Bool} (hv : W.var? Tryz.prog "loop.example/s01725/impl.reserved" = some cs)
    (hd : DataW.trod enc Tryz.prog W 0 sp held f 80 cs.toList = some (.slice resData [], p)) : Res W := by
  rcases open_strings Tryz.underlying80 Tryz.underlying9 (by kernel_rfl) hd with ⟨_, hx⟩ | ⟨a, len, cap, ss, hcs, _, hl, hm, hsl, hx, hcell, hss⟩
  · simp at hx
  simp only [Prod.mk.injEq, DataW.slice.injEq] at hx
  obtain ⟨⟨h1, h2⟩, _⟩ := hx
  have hd2 : ss.drop len = [] := by
    have := congrArg List.length h2
    simp only [strs, List.length_map, List.length_nil] at this
    exact List.eq_nil_of_length_eq_zero this.symm
  have hlen : ss.length = len := by
    have h3 := congrArg List.length hd2
    rw [List.length_drop, List.length_nil] at h3
    split at hsl <;> omega
  have hss2 : ss.take len = ss := List.take_of_length_le (by omega)
  rw [hss2] at h1
  have hml : ss.map (fun s => s.data.toList) = resL := by
    have h3 : (resL.map fun l => (DataW.lit (.string l) : DataW H)) = ss.map fun s => .lit (.string s.data.toList) := h1
    have h4 := congrArg (List.map fun d : DataW H => match d with | .lit (.string l) => l | _ => []) h3
    rw [List.map_map, List.map_map] at h4
    have e1 : ((fun d : DataW H => match d with | .lit (.string l) => l | _ => []) ∘ fun l : List UInt8 => (DataW.lit (.string l) : DataW H)) = id := by funext l; rfl
    have e2 : ((fun d : DataW H => match d with | .lit (.string l) => l | _ => []) ∘ fun s : ByteArray => (DataW.lit (.string s.data.toList) : DataW H)) = fun s => s.data.toList := by funext l; rfl
    rw [e1, e2, List.map_id] at h4
    exact h4.symm
  have hpos : 0 < len := by
    rw [← hlen]
    have := congrArg List.length hml
    rw [List.length_map] at this
    rw [this]
    decide
  have hspot : a.spot = none := by
    have h0 := hcell 0 (by omega)
    cases hs : a.spot with
    | none => rfl
    | some z =>
      exfalso
      have e : a.add 0 = a := by
        obtain ⟨ab, ao, asp⟩ := a
        simp [Addr.add]
      rw [e] at h0
      unfold World.cell? at h0
      split at h0
      · simp [hs] at h0
      · cases h0
  obtain ⟨b, o, s⟩ := a
  simp only at hspot
  subst hspot
  refine ⟨.slice (some ⟨b, o, none⟩) len cap, ss, ?_, ⟨some ⟨b, o, none⟩, cap, by rw [hlen], by omega, hm, fun _ => ⟨b, o, rfl, trivial, fun i hi => ⟨[.string ss[i]], rfl, ⟨rfl, hss _ (List.getElem_mem hi)⟩, fun q u hu => ?_⟩⟩⟩, ?_⟩
  · have := World.var?_cell gRes hv 0
    rw [Array.eq_one_of_toList hcs] at this
    simpa using this
  · have hq : q = 0 := by
      have := (List.getElem?_eq_some_iff.1 hu).1
      simp at this; omega
    subst hq
    simp at hu
    subst hu
    have := hcell i hi
    have e : ((⟨b, o, none⟩ : Addr).add i) = ⟨b, o + i * 1 + 0, none⟩ := by
      unfold Addr.add
      split <;> simp_all
    rw [e] at this
    rw [this, List.getD_eq_getElem?_getD, List.getElem?_eq_getElem hi]
    rfl
  · rw [← hml]
    exact List.map_congr_left fun s _ => toList_eq s

set_option maxRecDepth 100000 in
/-- A tree that came in as an argument. -/
theorem open_tree {H : Type} {enc : TypeId × Value → H} {W : World} {sp : Nat → Bool} {held : Bool} {r : Reach} {b0 : Nat} {v : Value} {d : DataW H} {p : List MemPlace} (hv : Value.okWide Tryz.prog W r b0 25 v)
    (h : DataW.Trod enc Tryz.prog W 0 sp held 25 v d p) : ∃ (t : PTree) (vG vF : Value), v = .agg #[vG, vF] ∧ SlGlob AnyB W vG t.globals ∧ SlFunc AnyB W vF t.funcs := by
  obtain ⟨v0, v1, y0, y1, n, rfl, _, _, h0, h1⟩ := Joins.open_agg2 Tryz.underlying25 (by kernel_rfl) (by kernel_rfl) hv h
  obtain ⟨G, w0⟩ := sl_of_trod Tryz.underlying22 (by kernel_rfl) (by decide) (fun _ _ _ h hl => glob_of_trod h hl) h0
  obtain ⟨F, w1⟩ := sl_of_trod Tryz.underlying23 (by kernel_rfl) (by decide) (fun _ _ _ h hl => func_of_trod h hl) h1
  exact ⟨⟨G, F⟩, v0, v1, rfl, w0, w1⟩
end Go.Proofs.YtcfggjmdcaoecaaGreatDoor

/- The reference's Calls and the program's Calls answer as the model. -/
set_option linter.unusedVariables false
set_option linter.unusedSimpArgs false
namespace Go.Proofs.YtcfggjmdcaoecaaGreatDoor
open Go Go.RowKit Md

def bodyAt (t : PTree) (f : Int) : List PStmt := (t.funcs[f.toNat]?.map fun x : PFunc => x.body).getD []
/-- What Calls answers. -/
def callsAns (t : PTree) (f : Int) : List Int := if valid t = true ∧ 0 ≤ f ∧ f < t.funcs.length then callsL t (bodyAt t f) else []
theorem valid_bounds {t : PTree} (h : valid t = true) : t.globals.length ≤ 50 ∧ t.funcs.length ≤ 50 ∧ ∀ x ∈ t.funcs, x.params.length ≤ 6 ∧ x.body.length ≤ 500 ∧ nodes x.body ≤ 2000 := by
  unfold valid at h
  simp only [Bool.and_eq_true, decide_eq_true_eq, List.all_eq_true] at h
  refine ⟨h.1.1.1, h.1.1.2, fun x hx => ?_⟩
  have := h.2 x hx
  unfold okFunc at this
  simp only [Bool.and_eq_true, decide_eq_true_eq] at this
  exact ⟨this.1.1.1.1.2, this.1.1.2, this.1.2⟩
theorem nodes_mem {l : List PStmt} {s : PStmt} (h : s ∈ l) : s.e.length + s.f.length ≤ nodes l := by
  induction l with
  | nil => cases h
  | cons a r ih =>
    have e : nodes (a :: r) = (a.e.length + a.f.length) + nodes r := by simp [nodes]
    rcases List.mem_cons.1 h with rfl | h
    · omega
    · have := ih h; omega
theorem outL_nodes (t : PTree) (l : List PStmt) : (outL t l).length ≤ nodes l := by
  induction l with
  | nil => simp [outL]
  | cons a r ih =>
    have e : nodes (a :: r) = (a.e.length + a.f.length) + nodes r := by simp [nodes]
    have h1 : outL t (a :: r) = outS t a ++ outL t r := rfl
    have h2 : (outS t a).length ≤ a.e.length + a.f.length := by
      unfold outS
      have := List.length_filterMap_le (callN t) (a.e ++ a.f)
      rw [List.length_append] at this
      exact this
    rw [h1, List.length_append]
    omega
theorem callsL_len (t : PTree) (l : List PStmt) : (callsL t l).length ≤ t.funcs.length := upTo_len (outL t l) t.funcs.length
theorem callsAns_len (t : PTree) (f : Int) : (callsAns t f).length ≤ t.funcs.length := by
  unfold callsAns
  split
  · exact callsL_len t _
  · simp
theorem callsAns_at {t : PTree} {f : Nat} {x : PFunc} (hv : valid t = true) (hx : t.funcs[f]? = some x) : callsAns t (f : Int) = callsL t x.body := by
  have := (List.getElem?_eq_some_iff.1 hx).1
  unfold callsAns
  rw [if_pos ⟨hv, by omega, by omega⟩]
  unfold bodyAt
  simp [hx]

set_option maxRecDepth 100000 in
set_option maxHeartbeats 2000000 in
theorem s_Calls (K : Foot) (t : PTree) (vG vF : Value) (f : Int) (w : World) (hG : SlGlob K w vG t.globals) (hF : SlFunc K w vF t.funcs) (hz : Small t) (hf : -9223372036854775808 ≤ f ∧ f ≤ 9223372036854775807) :
    Calls Tryz.prog 10 #[.agg #[vG, vF], .int .i64 f] w (Listed64 w (callsAns t f)) := by
  obtain ⟨aG, nG, cG, rfl⟩ := hG.shape
  obtain ⟨aF, nF, cF, rfl⟩ := hF.shape
  have hlF : t.funcs.length = nF := sl_len hF
  have hE : Ext w (w.alloc (.cells #[.slice aG nG cG, .slice aF nF cF] 32)) := (Ext.refl w).alloc _
  have hX := Blk.alloc w 32 #[.slice aG nG cG, .slice aF nF cF]
  have HV := Lib.hid (s_ValidTree K t _ _ _ (Sl.ext hG hE (fun _ _ h => h.any)) (Sl.ext hF hE (fun _ _ h => h.ext hE)) hz)
  have HG := Lib.hid hG
  have HF := Lib.hid hF
  obtain ⟨R, hR⟩ : ∃ R, R = callsAns t f := ⟨_, rfl⟩
  rw [← hR]
  have HR := Lib.hid hR
  have HlF := Lib.hid hlF
  clear hG hF hz hlF hR
  go_enter Tryz.func10, Tryz.ntmps10
  by_cases hv : valid t = true
  · rw [hv] at HV
    by_cases hin : 0 ≤ f ∧ f < nF
    · obtain ⟨g, rfl⟩ : ∃ g : Nat, f = g := ⟨f.toNat, by omega⟩
      obtain ⟨x, hx⟩ : ∃ x, t.funcs[g]? = some x := ⟨t.funcs[g]'(by have := HlF.out; omega), List.getElem?_eq_getElem _⟩
      have hb := (valid_bounds hv).2.2 x (List.mem_of_getElem? hx)
      have hbs : ∀ s ∈ x.body, s.e.length ≤ 1048576 ∧ s.f.length ≤ 1048576 := fun s hs => by
        have := nodes_mem hs; omega
      have HC : Hid (∀ w', Ext w w' → Calls Tryz.prog 35 #[.agg #[.slice aG nG cG, .slice aF nF cF], .int .i64 (g : Int)] w' (Listed64 w' R)) := fun w' hX' => by
        have := s_l3Calls K t _ _ g (g : Int) rfl x w' (Sl.ext HG.out hX' (fun _ _ h => h.any)) (Sl.ext HF.out hX' (fun _ _ h => h.ext hX')) hx (by have := (valid_bounds hv).2.1; omega) ⟨by omega, hbs⟩
        rw [HR.out, callsAns_at hv hx]
        exact this
      have HIn : Hid (∀ w', Calls Tryz.prog 34 #[.int .i64 (g : Int), .int .i64 0, .int .i64 ((nF : Int) - 1)] w' (Same (.bool true) w')) := fun w' => by
        have := s_l1In (g : Int) 0 ((nF : Int) - 1) w'
        rw [show (decide ((0 : Int) ≤ (g : Int)) && decide ((g : Int) ≤ (nF : Int) - 1)) = true by simp; omega] at this
        exact this
      have hw : wrap64 ((nF : Int) - 1) = (nF : Int) - 1 := by
        have := (valid_bounds hv).2.1
        have := HlF.out
        unfold Go.RowKit.wrap64; omega
      clear hx hb hbs hv hin
      have b0 := (hX.cell 0).trans (show _ = some (Value.slice aG nG cG) from rfl)
      have b1 := (hX.cell 1).trans (show _ = some (Value.slice aF nF cF) from rfl)
      go_wp2_with fail
      refine HV.out.mono ?_
      rintro e w2 ⟨rfl, hX2⟩
      have b0 := hX2.cell b0
      have b1 := hX2.cell b1
      go_wp2_with fail
      refine (HIn.out _).mono ?_
      rintro e w3 ⟨rfl, rfl⟩
      go_wp2_with fail
      refine (HC.out _ (hE.trans hX2)).mono ?_
      rintro e w4 ⟨v, rfl, ho, hX4⟩
      have HO := Lib.hid ho
      go_wp2
      go_ret
      exact ⟨_, rfl, rw_base HO.out (hE.trans hX2).size, (hE.trans hX2).trans hX4⟩
    · have hq : (decide ((0 : Int) ≤ f) && decide (f ≤ (nF : Int) - 1)) = false := by
        simp only [Bool.and_eq_false_iff, decide_eq_false_iff_not]
        omega
      have HIn : Hid (∀ w', Calls Tryz.prog 34 #[.int .i64 f, .int .i64 0, .int .i64 ((nF : Int) - 1)] w' (Same (.bool false) w')) := fun w' => by
        have := s_l1In f 0 ((nF : Int) - 1) w'
        rw [hq] at this
        exact this
      have hw : wrap64 ((nF : Int) - 1) = (nF : Int) - 1 := by
        have := (valid_bounds hv).2.1
        have := HlF.out
        unfold Go.RowKit.wrap64; omega
      have HR2 : Hid (R = []) := by
        show _ = _
        rw [HR.out]
        unfold callsAns
        rw [if_neg (fun h => hin ⟨h.2.1, by have := HlF.out; omega⟩)]
      clear hq hv hin
      have b0 := (hX.cell 0).trans (show _ = some (Value.slice aG nG cG) from rfl)
      have b1 := (hX.cell 1).trans (show _ = some (Value.slice aF nF cF) from rfl)
      go_wp2_with fail
      refine HV.out.mono ?_
      rintro e w2 ⟨rfl, hX2⟩
      have b0 := hX2.cell b0
      have b1 := hX2.cell b1
      go_wp2_with fail
      refine (HIn.out _).mono ?_
      rintro e w3 ⟨rfl, rfl⟩
      go_wp2
      go_ret
      exact ⟨_, rfl, by rw [HR2.out]; exact rw_new0 w2 w.heap.size _ 1 (hE.trans hX2).size, (hE.trans hX2).alloc _⟩
  · have hq : valid t = false := by simpa using hv
    rw [hq] at HV
    have HR2 : Hid (R = []) := by
      show _ = _
      rw [HR.out]
      unfold callsAns
      rw [if_neg (fun h => hv h.1)]
    clear hq hv
    go_wp2_with fail
    refine HV.out.mono ?_
    rintro e w2 ⟨rfl, hX2⟩
    go_wp2
    go_ret
    exact ⟨_, rfl, by rw [HR2.out]; exact rw_new0 w2 w.heap.size _ 1 (hE.trans hX2).size, (hE.trans hX2).alloc _⟩

set_option maxRecDepth 100000 in
set_option maxHeartbeats 2000000 in
theorem i_Calls (K : Foot) (t : PTree) (vG vF : Value) (f : Int) (w : World) (hG : SlGlob K w vG t.globals) (hF : SlFunc K w vF t.funcs) (hz : Small t) (hres : Res w) (hf : -9223372036854775808 ≤ f ∧ f ≤ 9223372036854775807) :
    Calls Tryz.prog 12 #[.agg #[vG, vF], .int .i64 f] w (Listed64 w (callsAns t f)) := by
  have HU := Lib.hid (i_unit _ t vG vF (w.alloc (.cells #[vG, vF] 32)) ((SlGlob.bound hG).ext ((Ext.refl w).alloc _) (fun _ _ h => h.any)) ((SlFunc.bound hF).ext ((Ext.refl w).alloc _) (fun _ _ h => h.ext ((Ext.refl w).alloc _))) hz (hres.ext ((Ext.refl w).alloc _)) (fun b hb => Nat.lt_of_lt_of_le hb.2 ((Ext.refl w).alloc _).size))
  obtain ⟨aG, nG, cG, rfl⟩ := hG.shape
  obtain ⟨aF, nF, cF, rfl⟩ := hF.shape
  have hlF : t.funcs.length = nF := sl_len hF
  have hE : Ext w (w.alloc (.cells #[.slice aG nG cG, .slice aF nF cF] 32)) := (Ext.refl w).alloc _
  have hX := Blk.alloc w 32 #[.slice aG nG cG, .slice aF nF cF]
  obtain ⟨i1, hi1, hy0, hy1, hy2⟩ := info_parts info_int64
  have HAppI : Hid (∀ (w0 wr : World) (v : Value) (n : Nat) (xs : List Int) (y : Int), Ext w0 wr → wr.ownsRow w0.heap.size 2 1 v n (xs.map (Value.int .i64)) → n ≤ 2000000 →
      ∃ v' w', (Builtin.append_ #[27, 27] 27 #[v, .slice (some ⟨wr.heap.size, 0, none⟩) 1 1]).run Tryz.prog (wr.alloc (.cells #[.int .i64 y] 2)) = .ok v' w' ∧ w'.ownsRow w0.heap.size 2 1 v' (n + 1) ((xs ++ [y]).map (Value.int .i64)) ∧ Ext w0 w') :=
    fun w0 wr v n xs y hX ho hl => app_one (P := Tryz.prog) (Value.int .i64) (fun _ => rfl) Tryz.underlying27 hi1 hy0 hy1 hy2 rfl 27 hX ho y (by omega) (by omega)
  obtain ⟨R, hR⟩ : ∃ R, R = callsAns t f := ⟨_, rfl⟩
  rw [← hR]
  have HR := Lib.hid hR
  have HlF := Lib.hid hlF
  clear hG hF hz hlF hR hres
  go_enter Tryz.func12, Tryz.ntmps12
  go_wp2_with fail
  refine HU.out.mono ?_
  rintro e w2 (⟨hv, fs, v, hb, rfl, hu, hX2⟩ | ⟨hv, rfl, hX2⟩)
  · have hvb := valid_bounds hv
    have hnF : nF ≤ 50 := by have := HlF.out; omega
    have b0 := (hX.ext hX2).cell 0 |>.trans (show _ = some (Value.slice aG nG cG) from rfl)
    have b1 := (hX.ext hX2).cell 1 |>.trans (show _ = some (Value.slice aF nF cF) from rfl)
    have HX2 := Lib.hid (hE.trans hX2)
    have HUA := Lib.hid hu
    obtain ⟨ub, _, _, _, _, rfl, _⟩ := hu
    by_cases hin : 0 ≤ f ∧ f < nF
    · obtain ⟨g, rfl⟩ : ∃ g : Nat, f = g := ⟨f.toNat, by omega⟩
      obtain ⟨x, hx⟩ : ∃ x, t.funcs[g]? = some x := ⟨t.funcs[g]'(by have := HlF.out; omega), List.getElem?_eq_getElem _⟩
      have hxb := hvb.2.2 x (List.mem_of_getElem? hx)
      have HC := Lib.hid (i_calls _ t fs _ g (g : Int) rfl x w2 HUA.out hx (by omega) (by omega) (fun s hs => by have := nodes_mem hs; omega) (by have := outL_nodes t x.body; omega))
      have hRx : callsL t x.body = R := by rw [HR.out, callsAns_at hv hx]
      rw [hRx] at HC
      have hRl : R.length ≤ 50 := by rw [← hRx]; have := callsL_len t x.body; omega
      have g0 : ¬ ((g : Int) < 0) := by omega
      have g1 : ¬ ((g : Int) ≥ (nF : Int)) := by omega
      clear hx hxb hRx hvb hv hb HU HUA hX hX2
      go_wp2_with fail
      refine HC.out.mono ?_
      rintro e w3 ⟨v, rfl, ho, hX3⟩
      obtain ⟨a, c, rfl⟩ := rw_form0 ho
      have HO := Lib.hid ho
      have HX3 := Lib.hid hX3
      obtain ⟨nR, hnR⟩ : ∃ nR, nR = R.length := ⟨_, rfl⟩
      rw [← hnR] at HO
      have HnR := Lib.hid hnR
      have hle : nR ≤ 50 := by omega
      clear ho hX3 hRl
      try rw [← hnR]
      clear hnR
      go_wp2
      go_loopw [6, 28] (fun v i wr => ∃ k : Nat, k ≤ nR ∧ i = .int .i64 k ∧ Hid (wr.ownsRow w3.heap.size 2 1 v k ((R.take k).map (Value.int .i64))) ∧ Ext w3 wr) (fun _ i _ => nR - (intOf i).toNat)
      case atStart => exact ⟨0, Nat.zero_le _, rfl, World.ownsRow_nil _ _ _ _, Ext.refl _⟩
      case round =>
        obtain ⟨k, hk, rfl, HQ, hX⟩ := hrel
        by_cases hlt : k < nR
        · obtain ⟨gA, cT, eB, _, _, hlT, hcT⟩ := rw_form HO.out (by omega)
          obtain ⟨rfl, rfl⟩ : some ⟨gA, 0, none⟩ = a ∧ cT = c := by cases eB; exact ⟨rfl, rfl⟩
          obtain ⟨y, hy⟩ : ∃ y, R[k]? = some y := ⟨R[k]'(by have := HnR.out; omega), List.getElem?_eq_getElem _⟩
          have c0 := hX.cell (rw_at HO.out (i := k) (u := .int .i64 y) (by rw [List.getElem?_map, hy]; rfl)).1
          obtain ⟨a', c', rfl⟩ := rw_form0 HQ.out
          obtain ⟨v', w', r1, r2, r3⟩ := HAppI.out w3 wr _ k _ y hX HQ.out (by omega)
          rw [← take_snoc hy] at r2
          have HR1 := Lib.hid r1
          have HO3 := Lib.hid r2
          have g2 : (0 : Int) ≤ (k : Int) := by omega
          have g3 : (k : Int) < (nR : Int) := by omega
          clear r1 r2 hy eB
          go_wp2_with (at_builtin; refine Lib.wpList_append_run _ rfl _ _ _ _ rfl _ _ rfl rfl _ _ HR1.out ?_)
          go_roundw
          case rel => exact ⟨k + 1, by omega, by go_num, HO3.out, r3⟩
          case measure => simp [intOf]; omega
        · have hke : R.take k = R := List.take_of_length_le (by have := HnR.out; omega)
          have hO := HQ.out
          rw [hke] at hO
          obtain rfl : nR = k := by omega
          have HO3 := Lib.hid hO
          obtain ⟨a', c', rfl⟩ := rw_form0 HQ.out
          clear hke hO hk hlt
          go_wp2
          go_ret
          refine ⟨_, rfl, ?_, (HX2.out.trans HX3.out).trans hX⟩
          have h1 := rw_base HO3.out (HX2.out.trans HX3.out).size
          rw [HnR.out] at h1
          rw [HnR.out]
          exact h1
    · have HR2 : Hid (R = []) := by
        show _ = _
        rw [HR.out]
        unfold callsAns
        rw [if_neg (fun h => hin ⟨h.2.1, by have := HlF.out; omega⟩)]
      clear hvb hv hb HU HUA hX hX2
      by_cases h0 : f < 0
      · clear hin
        go_wp2
        go_ret
        exact ⟨_, rfl, by rw [HR2.out]; exact World.ownsRow_nil _ _ _ _, HX2.out⟩
      · have g1 : f ≥ (nF : Int) := by omega
        clear hin
        go_wp2
        go_ret
        exact ⟨_, rfl, by rw [HR2.out]; exact World.ownsRow_nil _ _ _ _, HX2.out⟩
  · have HR2 : Hid (R = []) := by
      show _ = _
      rw [HR.out]
      unfold callsAns
      rw [if_neg (fun h => by rw [hv] at h; exact absurd h.1 (by simp))]
    have HX2 := Lib.hid (hE.trans hX2)
    clear hX hX2 hv
    go_wp2
    go_ret
    exact ⟨_, rfl, by rw [HR2.out]; exact World.ownsRow_nil _ _ _ _, HX2.out⟩
end Go.Proofs.YtcfggjmdcaoecaaGreatDoor
