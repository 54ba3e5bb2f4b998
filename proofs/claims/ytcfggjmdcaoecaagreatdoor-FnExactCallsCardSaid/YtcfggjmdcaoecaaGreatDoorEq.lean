/- The laws' comparisons, where both sides are the same model: they return true; no condition. PRINTED by gen_eq.py of this repo. -/
import Derived.Test.YtcfggjmdcaoecaaGreatDoorRep
set_option linter.unusedVariables false
set_option linter.unusedSimpArgs false
namespace Go.Proofs.YtcfggjmdcaoecaaGreatDoor
open Go Go.RowKit Md


theorem c_eqNode (x : PNode) (w : World) : Calls Tryz.prog 183 #[.agg #[.int .i64 x.kind, .int .i64 x.val, .string x.name], .agg #[.int .i64 x.kind, .int .i64 x.val, .string x.name]] w (Gives (.bool true) w) := by
  go_enter Tryz.func183, Tryz.ntmps183
  go_wp2
  go_ret
  exact Gives.bool rfl (((Ext.refl _).alloc _).alloc _)


set_option maxRecDepth 1000000 in
theorem c_eqNodeS (K K' : Foot) (l : List PNode) (v u : Value) (w : World) (hv : SlNode K w v l) (hu : SlNode K' w u l) : Calls Tryz.prog 175 #[v, u] w (Gives (.bool true) w) := by
  obtain ⟨a, len, cap, rfl, Hlen, hlc, hcm, hel⟩ := hv.op
  obtain ⟨a', len', cap', rfl, Hlen', hlc', hcm', hel'⟩ := hu.op
  obtain rfl : len = len' := by rw [← Hlen.out, ← Hlen'.out]
  clear hv hu
  go_enter Tryz.func175, Tryz.ntmps175
  go_wp2
  go_loopw [5] (fun i wr => ∃ k : Nat, k ≤ len ∧ i = .int .i64 k ∧ Ext w wr) (fun i _ => len - (intOf i).toNat)
  case atStart => exact ⟨0, Nat.zero_le _, rfl, Ext.refl w⟩
  case round =>
    obtain ⟨k, hk, rfl, hE⟩ := hrel
    by_cases hlt : k < len
    · obtain ⟨b, o, rfl, _, hel⟩ := hel (by omega)
      obtain ⟨b', o', rfl, _, hel'⟩ := hel' (by omega)
      obtain ⟨x, cs, hx, _, hC, hcs⟩ := hel k hlt
      obtain ⟨x', cs', hx', _, hC', hcs'⟩ := hel' k hlt
      obtain rfl : x = x' := by rw [hx] at hx'; exact Option.some.inj hx'
      obtain ⟨rfl, _⟩ := hC
      obtain ⟨rfl, _⟩ := hC'
      have c0 := hE.cell (hcs.z rfl)
      have d0 := hE.cell (hcs'.z rfl)
      have c1 := hE.cell (hcs 1 _ rfl)
      have d1 := hE.cell (hcs' 1 _ rfl)
      have c2 := hE.cell (hcs 2 _ rfl)
      have d2 := hE.cell (hcs' 2 _ rfl)
      clear hel hcs hx hel' hcs' hx'
      have g0 : (0 : Int) ≤ (k : Int) := by omega
      have g1 : (k : Int) < (len : Int) := by omega
      go_wp2
      go_still_tail 8, (by kernel_rfl)
      change wpList _ _ _ _ _ wr.drew
      have hE2 : Ext w wr.drew := hE.drew
      generalize wr.drew = w2 at *
      go_wp2_with fail
      refine (c_eqNode x _).mono ?_
      rintro e w3 ⟨rfl, hX⟩
      have hE3 := hE2.trans hX
      go_wp2
      go_roundw
      case rel => exact ⟨k + 1, by omega, by go_num, hE3⟩
      case measure => simp [intOf]; omega
    · go_wp2
      go_ret
      exact Gives.bool rfl hE


theorem c_eqGlobal (x : PGlob) (w : World) : Calls Tryz.prog 77 #[.agg #[.string x.name, .int .i64 x.size], .agg #[.string x.name, .int .i64 x.size]] w (Gives (.bool true) w) := by
  go_enter Tryz.func77, Tryz.ntmps77
  go_wp2
  go_ret
  exact Gives.bool rfl (((Ext.refl _).alloc _).alloc _)


set_option maxRecDepth 1000000 in
theorem c_eqGlobalS (K K' : Foot) (l : List PGlob) (v u : Value) (w : World) (hv : SlGlob K w v l) (hu : SlGlob K' w u l) : Calls Tryz.prog 40 #[v, u] w (Gives (.bool true) w) := by
  obtain ⟨a, len, cap, rfl, Hlen, hlc, hcm, hel⟩ := hv.op
  obtain ⟨a', len', cap', rfl, Hlen', hlc', hcm', hel'⟩ := hu.op
  obtain rfl : len = len' := by rw [← Hlen.out, ← Hlen'.out]
  clear hv hu
  go_enter Tryz.func40, Tryz.ntmps40
  go_wp2
  go_loopw [5] (fun i wr => ∃ k : Nat, k ≤ len ∧ i = .int .i64 k ∧ Ext w wr) (fun i _ => len - (intOf i).toNat)
  case atStart => exact ⟨0, Nat.zero_le _, rfl, Ext.refl w⟩
  case round =>
    obtain ⟨k, hk, rfl, hE⟩ := hrel
    by_cases hlt : k < len
    · obtain ⟨b, o, rfl, _, hel⟩ := hel (by omega)
      obtain ⟨b', o', rfl, _, hel'⟩ := hel' (by omega)
      obtain ⟨x, cs, hx, _, hC, hcs⟩ := hel k hlt
      obtain ⟨x', cs', hx', _, hC', hcs'⟩ := hel' k hlt
      obtain rfl : x = x' := by rw [hx] at hx'; exact Option.some.inj hx'
      obtain ⟨rfl, _⟩ := hC
      obtain ⟨rfl, _⟩ := hC'
      have c0 := hE.cell (hcs.z rfl)
      have d0 := hE.cell (hcs'.z rfl)
      have c1 := hE.cell (hcs 1 _ rfl)
      have d1 := hE.cell (hcs' 1 _ rfl)
      clear hel hcs hx hel' hcs' hx'
      have g0 : (0 : Int) ≤ (k : Int) := by omega
      have g1 : (k : Int) < (len : Int) := by omega
      go_wp2
      go_still_tail 8, (by kernel_rfl)
      change wpList _ _ _ _ _ wr.drew
      have hE2 : Ext w wr.drew := hE.drew
      generalize wr.drew = w2 at *
      go_wp2_with fail
      refine (c_eqGlobal x _).mono ?_
      rintro e w3 ⟨rfl, hX⟩
      have hE3 := hE2.trans hX
      go_wp2
      go_roundw
      case rel => exact ⟨k + 1, by omega, by go_num, hE3⟩
      case measure => simp [intOf]; omega
    · go_wp2
      go_ret
      exact Gives.bool rfl hE


set_option maxRecDepth 1000000 in
theorem c_eqStringS (K K' : Foot) (l : List ByteArray) (v u : Value) (w : World) (hv : SlStr K w v l) (hu : SlStr K' w u l) : Calls Tryz.prog 122 #[v, u] w (Gives (.bool true) w) := by
  obtain ⟨a, len, cap, rfl, Hlen, hlc, hcm, hel⟩ := hv.op
  obtain ⟨a', len', cap', rfl, Hlen', hlc', hcm', hel'⟩ := hu.op
  obtain rfl : len = len' := by rw [← Hlen.out, ← Hlen'.out]
  clear hv hu
  go_enter Tryz.func122, Tryz.ntmps122
  go_wp2
  go_loopw [5] (fun i wr => ∃ k : Nat, k ≤ len ∧ i = .int .i64 k ∧ Ext w wr) (fun i _ => len - (intOf i).toNat)
  case atStart => exact ⟨0, Nat.zero_le _, rfl, Ext.refl w⟩
  case round =>
    obtain ⟨k, hk, rfl, hE⟩ := hrel
    by_cases hlt : k < len
    · obtain ⟨b, o, rfl, _, hel⟩ := hel (by omega)
      obtain ⟨b', o', rfl, _, hel'⟩ := hel' (by omega)
      obtain ⟨x, cs, hx, _, hC, hcs⟩ := hel k hlt
      obtain ⟨x', cs', hx', _, hC', hcs'⟩ := hel' k hlt
      obtain rfl : x = x' := by rw [hx] at hx'; exact Option.some.inj hx'
      obtain ⟨rfl, _⟩ := hC
      obtain ⟨rfl, _⟩ := hC'
      have c0 := hE.cell (hcs.z rfl)
      have d0 := hE.cell (hcs'.z rfl)
      rw [Nat.mul_one] at c0 d0
      clear hel hcs hx hel' hcs' hx'
      have g0 : (0 : Int) ≤ (k : Int) := by omega
      have g1 : (k : Int) < (len : Int) := by omega
      go_wp2
      go_quiet (fail)
      go_wp2
      go_roundw
      case rel => exact ⟨k + 1, by omega, by go_num, hE.trans (drewN_ext _ _)⟩
      case measure => simp [intOf]; omega
    · go_wp2
      go_ret
      exact Gives.bool rfl hE


theorem c_eqStmt (K K' : Foot) (x : PStmt) (v0 v1 u0 u1 : Value) (w : World) (h0 : SlNode K w v0 x.e) (h1 : SlNode K w v1 x.f) (h0' : SlNode K' w u0 x.e) (h1' : SlNode K' w u1 x.f) :
    Calls Tryz.prog 156 #[.agg #[.int .i64 x.kind, .string x.name, v0, v1, .int .i64 x.thn, .int .i64 x.els], .agg #[.int .i64 x.kind, .string x.name, u0, u1, .int .i64 x.thn, .int .i64 x.els]] w (Gives (.bool true) w) := by
  go_enter Tryz.func156, Tryz.ntmps156
  go_wp2_with fail
  refine (c_eqNodeS K K' x.e _ _ _ (h0.ext (((Ext.refl _).alloc _).alloc _) (fun _ _ h => h.any)) (h0'.ext (((Ext.refl _).alloc _).alloc _) (fun _ _ h => h.any))).mono ?_
  rintro e w1 ⟨rfl, hX1⟩
  obtain ⟨p0, p1⟩ := Blk.alloc2 w 102 102 #[.int .i64 x.kind, .string x.name, v0, v1, .int .i64 x.thn, .int .i64 x.els] #[.int .i64 x.kind, .string x.name, u0, u1, .int .i64 x.thn, .int .i64 x.els]
  have hE1 : Ext w w1 := ((((Ext.refl _).alloc _).alloc _) : Ext w _).trans hX1
  have p0 := p0.ext hX1
  have p1 := p1.ext hX1
  have q0_0 : w1.cell? ⟨w.heap.size, 0, none⟩ = some (.int .i64 x.kind) := p0.cell 0
  have q1_0 : w1.cell? ⟨w.heap.size + 1, 0, none⟩ = some (.int .i64 x.kind) := p1.cell 0
  have q0_1 : w1.cell? ⟨w.heap.size, 1, none⟩ = some (.string x.name) := p0.cell 1
  have q1_1 : w1.cell? ⟨w.heap.size + 1, 1, none⟩ = some (.string x.name) := p1.cell 1
  have q0_2 : w1.cell? ⟨w.heap.size, 2, none⟩ = some (v0) := p0.cell 2
  have q1_2 : w1.cell? ⟨w.heap.size + 1, 2, none⟩ = some (u0) := p1.cell 2
  have q0_3 : w1.cell? ⟨w.heap.size, 3, none⟩ = some (v1) := p0.cell 3
  have q1_3 : w1.cell? ⟨w.heap.size + 1, 3, none⟩ = some (u1) := p1.cell 3
  have q0_4 : w1.cell? ⟨w.heap.size, 4, none⟩ = some (.int .i64 x.thn) := p0.cell 4
  have q1_4 : w1.cell? ⟨w.heap.size + 1, 4, none⟩ = some (.int .i64 x.thn) := p1.cell 4
  have q0_5 : w1.cell? ⟨w.heap.size, 5, none⟩ = some (.int .i64 x.els) := p0.cell 5
  have q1_5 : w1.cell? ⟨w.heap.size + 1, 5, none⟩ = some (.int .i64 x.els) := p1.cell 5
  go_wp2_with fail
  refine (c_eqNodeS K K' x.f _ _ _ (h1.ext hE1 (fun _ _ h => h.any)) (h1'.ext hE1 (fun _ _ h => h.any))).mono ?_
  rintro e w2 ⟨rfl, hX2⟩
  have hE2 := hE1.trans hX2
  have p0 := p0.ext hX2
  have p1 := p1.ext hX2
  clear q0_0 q1_0 q0_1 q1_1 q0_2 q1_2 q0_3 q1_3 q0_4 q1_4 q0_5 q1_5
  have q0_4 : w2.cell? ⟨w.heap.size, 4, none⟩ = some (.int .i64 x.thn) := p0.cell 4
  have q1_4 : w2.cell? ⟨w.heap.size + 1, 4, none⟩ = some (.int .i64 x.thn) := p1.cell 4
  have q0_5 : w2.cell? ⟨w.heap.size, 5, none⟩ = some (.int .i64 x.els) := p0.cell 5
  have q1_5 : w2.cell? ⟨w.heap.size + 1, 5, none⟩ = some (.int .i64 x.els) := p1.cell 5
  go_wp2
  go_ret
  exact Gives.bool rfl hE2


set_option maxRecDepth 1000000 in
theorem c_eqStmtS (K K' : Foot) (l : List PStmt) (v u : Value) (w : World) (hv : SlStmt K w v l) (hu : SlStmt K' w u l) : Calls Tryz.prog 123 #[v, u] w (Gives (.bool true) w) := by
  obtain ⟨a, len, cap, rfl, Hlen, hlc, hcm, hel⟩ := hv.op
  obtain ⟨a', len', cap', rfl, Hlen', hlc', hcm', hel'⟩ := hu.op
  obtain rfl : len = len' := by rw [← Hlen.out, ← Hlen'.out]
  clear hv hu
  go_enter Tryz.func123, Tryz.ntmps123
  go_wp2
  go_loopw [5] (fun i wr => ∃ k : Nat, k ≤ len ∧ i = .int .i64 k ∧ Ext w wr) (fun i _ => len - (intOf i).toNat)
  case atStart => exact ⟨0, Nat.zero_le _, rfl, Ext.refl w⟩
  case round =>
    obtain ⟨k, hk, rfl, hE⟩ := hrel
    by_cases hlt : k < len
    · obtain ⟨b, o, rfl, _, hel⟩ := hel (by omega)
      obtain ⟨b', o', rfl, _, hel'⟩ := hel' (by omega)
      obtain ⟨x, cs, hx, _, hC, hcs⟩ := hel k hlt
      obtain ⟨x', cs', hx', _, hC', hcs'⟩ := hel' k hlt
      obtain rfl : x = x' := by rw [hx] at hx'; exact Option.some.inj hx'
      obtain ⟨v0, v1, rfl, h0, h1, _⟩ := hC
      obtain ⟨u0, u1, rfl, h0', h1', _⟩ := hC'
      have c0 := hE.cell (hcs.z rfl)
      have d0 := hE.cell (hcs'.z rfl)
      have c1 := hE.cell (hcs 1 _ rfl)
      have d1 := hE.cell (hcs' 1 _ rfl)
      have c2 := hE.cell (hcs 2 _ rfl)
      have d2 := hE.cell (hcs' 2 _ rfl)
      have c3 := hE.cell (hcs 3 _ rfl)
      have d3 := hE.cell (hcs' 3 _ rfl)
      have c4 := hE.cell (hcs 4 _ rfl)
      have d4 := hE.cell (hcs' 4 _ rfl)
      have c5 := hE.cell (hcs 5 _ rfl)
      have d5 := hE.cell (hcs' 5 _ rfl)
      clear hel hcs hx hel' hcs' hx'
      have g0 : (0 : Int) ≤ (k : Int) := by omega
      have g1 : (k : Int) < (len : Int) := by omega
      go_wp2
      go_still_tail 8, (by kernel_rfl)
      change wpList _ _ _ _ _ wr.drew
      have hE2 : Ext w wr.drew := hE.drew
      generalize wr.drew = w2 at *
      go_wp2_with fail
      refine (c_eqStmt K K' x v0 v1 u0 u1 _ (h0.ext hE2 (fun _ _ h => h.any)) (h1.ext hE2 (fun _ _ h => h.any)) (h0'.ext hE2 (fun _ _ h => h.any)) (h1'.ext hE2 (fun _ _ h => h.any))).mono ?_
      rintro e w3 ⟨rfl, hX⟩
      have hE3 := hE2.trans hX
      go_wp2
      go_roundw
      case rel => exact ⟨k + 1, by omega, by go_num, hE3⟩
      case measure => simp [intOf]; omega
    · go_wp2
      go_ret
      exact Gives.bool rfl hE


theorem c_eqFunc (K K' : Foot) (x : PFunc) (v0 v1 u0 u1 : Value) (w : World) (h0 : SlStr K w v0 x.params) (h1 : SlStmt K w v1 x.body) (h0' : SlStr K' w u0 x.params) (h1' : SlStmt K' w u1 x.body) :
    Calls Tryz.prog 78 #[.agg #[.string x.name, v0, v1], .agg #[.string x.name, u0, u1]] w (Gives (.bool true) w) := by
  go_enter Tryz.func78, Tryz.ntmps78
  go_wp2_with fail
  refine (c_eqStringS K K' x.params _ _ _ (h0.ext (((Ext.refl _).alloc _).alloc _) (fun _ _ h => h.any)) (h0'.ext (((Ext.refl _).alloc _).alloc _) (fun _ _ h => h.any))).mono ?_
  rintro e w1 ⟨rfl, hX1⟩
  obtain ⟨p0, p1⟩ := Blk.alloc2 w 83 83 #[.string x.name, v0, v1] #[.string x.name, u0, u1]
  have hE1 : Ext w w1 := ((((Ext.refl _).alloc _).alloc _) : Ext w _).trans hX1
  have p0 := p0.ext hX1
  have p1 := p1.ext hX1
  have q0_0 : w1.cell? ⟨w.heap.size, 0, none⟩ = some (.string x.name) := p0.cell 0
  have q1_0 : w1.cell? ⟨w.heap.size + 1, 0, none⟩ = some (.string x.name) := p1.cell 0
  have q0_1 : w1.cell? ⟨w.heap.size, 1, none⟩ = some (v0) := p0.cell 1
  have q1_1 : w1.cell? ⟨w.heap.size + 1, 1, none⟩ = some (u0) := p1.cell 1
  have q0_2 : w1.cell? ⟨w.heap.size, 2, none⟩ = some (v1) := p0.cell 2
  have q1_2 : w1.cell? ⟨w.heap.size + 1, 2, none⟩ = some (u1) := p1.cell 2
  go_wp2_with fail
  refine (c_eqStmtS K K' x.body _ _ _ (h1.ext hE1 (fun _ _ h => h.ext hE1)) (h1'.ext hE1 (fun _ _ h => h.ext hE1))).mono ?_
  rintro e w2 ⟨rfl, hX2⟩
  have hE2 := hE1.trans hX2
  go_wp2
  go_ret
  exact Gives.bool rfl hE2


set_option maxRecDepth 1000000 in
theorem c_eqFuncS (K K' : Foot) (l : List PFunc) (v u : Value) (w : World) (hv : SlFunc K w v l) (hu : SlFunc K' w u l) : Calls Tryz.prog 41 #[v, u] w (Gives (.bool true) w) := by
  obtain ⟨a, len, cap, rfl, Hlen, hlc, hcm, hel⟩ := hv.op
  obtain ⟨a', len', cap', rfl, Hlen', hlc', hcm', hel'⟩ := hu.op
  obtain rfl : len = len' := by rw [← Hlen.out, ← Hlen'.out]
  clear hv hu
  go_enter Tryz.func41, Tryz.ntmps41
  go_wp2
  go_loopw [5] (fun i wr => ∃ k : Nat, k ≤ len ∧ i = .int .i64 k ∧ Ext w wr) (fun i _ => len - (intOf i).toNat)
  case atStart => exact ⟨0, Nat.zero_le _, rfl, Ext.refl w⟩
  case round =>
    obtain ⟨k, hk, rfl, hE⟩ := hrel
    by_cases hlt : k < len
    · obtain ⟨b, o, rfl, _, hel⟩ := hel (by omega)
      obtain ⟨b', o', rfl, _, hel'⟩ := hel' (by omega)
      obtain ⟨x, cs, hx, _, hC, hcs⟩ := hel k hlt
      obtain ⟨x', cs', hx', _, hC', hcs'⟩ := hel' k hlt
      obtain rfl : x = x' := by rw [hx] at hx'; exact Option.some.inj hx'
      obtain ⟨v0, v1, rfl, h0, h1, _⟩ := hC
      obtain ⟨u0, u1, rfl, h0', h1', _⟩ := hC'
      have c0 := hE.cell (hcs.z rfl)
      have d0 := hE.cell (hcs'.z rfl)
      have c1 := hE.cell (hcs 1 _ rfl)
      have d1 := hE.cell (hcs' 1 _ rfl)
      have c2 := hE.cell (hcs 2 _ rfl)
      have d2 := hE.cell (hcs' 2 _ rfl)
      clear hel hcs hx hel' hcs' hx'
      have g0 : (0 : Int) ≤ (k : Int) := by omega
      have g1 : (k : Int) < (len : Int) := by omega
      go_wp2
      go_still_tail 8, (by kernel_rfl)
      change wpList _ _ _ _ _ wr.drew
      have hE2 : Ext w wr.drew := hE.drew
      generalize wr.drew = w2 at *
      go_wp2_with fail
      refine (c_eqFunc K K' x v0 v1 u0 u1 _ (h0.ext hE2 (fun _ _ h => h.any)) (h1.ext hE2 (fun _ _ h => h.ext hE2)) (h0'.ext hE2 (fun _ _ h => h.any)) (h1'.ext hE2 (fun _ _ h => h.ext hE2))).mono ?_
      rintro e w3 ⟨rfl, hX⟩
      have hE3 := hE2.trans hX
      go_wp2
      go_roundw
      case rel => exact ⟨k + 1, by omega, by go_num, hE3⟩
      case measure => simp [intOf]; omega
    · go_wp2
      go_ret
      exact Gives.bool rfl hE


theorem c_eqTree (K K' : Foot) (x : PTree) (v0 v1 u0 u1 : Value) (w : World) (h0 : SlGlob K w v0 x.globals) (h1 : SlFunc K w v1 x.funcs) (h0' : SlGlob K' w u0 x.globals) (h1' : SlFunc K' w u1 x.funcs) :
    Calls Tryz.prog 14 #[.agg #[v0, v1], .agg #[u0, u1]] w (Gives (.bool true) w) := by
  go_enter Tryz.func14, Tryz.ntmps14
  go_wp2_with fail
  refine (c_eqGlobalS K K' x.globals _ _ _ (h0.ext (((Ext.refl _).alloc _).alloc _) (fun _ _ h => h.any)) (h0'.ext (((Ext.refl _).alloc _).alloc _) (fun _ _ h => h.any))).mono ?_
  rintro e w1 ⟨rfl, hX1⟩
  obtain ⟨p0, p1⟩ := Blk.alloc2 w 32 32 #[v0, v1] #[u0, u1]
  have hE1 : Ext w w1 := ((((Ext.refl _).alloc _).alloc _) : Ext w _).trans hX1
  have p0 := p0.ext hX1
  have p1 := p1.ext hX1
  have q0_0 : w1.cell? ⟨w.heap.size, 0, none⟩ = some (v0) := p0.cell 0
  have q1_0 : w1.cell? ⟨w.heap.size + 1, 0, none⟩ = some (u0) := p1.cell 0
  have q0_1 : w1.cell? ⟨w.heap.size, 1, none⟩ = some (v1) := p0.cell 1
  have q1_1 : w1.cell? ⟨w.heap.size + 1, 1, none⟩ = some (u1) := p1.cell 1
  go_wp2_with fail
  refine (c_eqFuncS K K' x.funcs _ _ _ (h1.ext hE1 (fun _ _ h => h.ext hE1)) (h1'.ext hE1 (fun _ _ h => h.ext hE1))).mono ?_
  rintro e w2 ⟨rfl, hX2⟩
  have hE2 := hE1.trans hX2
  go_wp2
  go_ret
  exact Gives.bool rfl hE2

end Go.Proofs.YtcfggjmdcaoecaaGreatDoor
