/- The law FnExactBoot walked: it returns true. -/
import Derived.Test.YtjgfiplhaanflaaBootC
import Derived.Test.YtjgfiplhaanflaaPFnExactBootx3
import Derived.Test.YtjgfiplhaanflaaPFnExactBootx4
import Derived.Deep.RegionHeld3
set_option linter.unusedVariables false
set_option linter.unusedSimpArgs false
namespace Go.Proofs.Ytjgfiplhaanflaa
open Go Go.RowKit Md Go.Proofs.YtjgfiplhaanflaaW.PrintWords Go.Proofs.YtjgfiplhaanflaaW.PrintLast Go.Proofs.Ytjgfiplhaanflaa.PFnExactBoot

theorem drawn_ext {w w' : World} (h : Drawn0 w w') : Ext w w' := h.below
def Holds_ (w : World) (e : Ending) (w' : World) : Prop := e = .returned (.bool true) ∧ Ext w w'
theorem R_self {k : IntKind} {e : Nat} {w : World} {base : Nat} {ok : Nat → Prop} {v : Value} {xs : List Int} (h : (Kd.int k).R e w base ok v xs) : (Kd.int k).R e w base (fun j => v.ownBlock = some j) v xs :=
  Kd.R_of_own (Kd.own_of_R h) (fun _ hk => hk)
theorem R_shape {k : IntKind} {e : Nat} {w : World} {base : Nat} {ok : Nat → Prop} {v : Value} {xs : List Int} (h : (Kd.int k).R e w base ok v xs) : ∃ A c, v = .slice A xs.length c ∧ xs.length ≤ c := by
  have ho := Kd.own_of_R h
  rcases ho.2 with ⟨rfl, h1⟩ | ⟨g, cap, cur, rfl, hg, hh, h1, h2, h3⟩
  · exact ⟨none, 0, by rw [h1], by omega⟩
  · exact ⟨_, _, rfl, h1⟩
theorem R_read {k : IntKind} {e : Nat} {w w' : World} {base c : Nat} {A : Option Addr} {ok : Nat → Prop} {xs : List Int} (h : (Kd.int k).R e w base ok (.slice A xs.length c) xs) (hX : Ext w w') : (Kd.int k).C w' A xs.length xs :=
  Kd.C_kept_own (S := fun _ => False) h (fun _ _ hk => hk) w' (Kept.of_below hX _)
theorem R_readK {k : IntKind} {e : Nat} {w w' : World} {base c : Nat} {A : Option Addr} {ok S : Nat → Prop} {xs : List Int} (h : (Kd.int k).R e w base ok (.slice A xs.length c) xs) (hX : Kept w w' S) (hne : ∀ b, (Value.slice A xs.length c).ownBlock = some b → ¬ S b) : (Kd.int k).C w' A xs.length xs :=
  Kd.C_kept_own (R_self h) hne w' hX
theorem blkK {w w' : World} {g t : Nat} {arr : Array Value} {S : Nat → Prop} (h : Blk w g t arr) (hX : Kept w w' S) (hne : ¬ S g) : Blk w' g t arr := blk_kept (W := w) h hX hne

set_option maxHeartbeats 4000000 in
set_option maxRecDepth 1000000 in
theorem boot_walk (A0 : Option Addr) (c0 : Nat) (l0 : List Int) (n d : Int) (A1 : Option Addr) (c1 : Nat) (l1 : List Int) (w : World) (h0 : (Kd.int .u32).C w A0 l0.length l0) (hc0 : l0.length ≤ c0) (h1 : (Kd.int .i64).C w A1 l1.length l1) (hc1 : l1.length ≤ c1)
    (hl0 : l0.length ≤ 1048576) (hl1 : l1.length ≤ 1048576) (hwf : ∀ x ∈ l1, (Lit.int .i64 x).wf = true) :
    Calls Try.prog 4 #[.agg #[.slice A0 l0.length c0, .int .i64 n, .int .i64 d], .slice A1 l1.length c1] w (Holds_ w) := by
  have hu27 := Try.underlying27
  have hu24 := Try.underlying24
  have hu35 := Try.underlying35
  have H0 := Lib.hid h0
  have H1 := Lib.hid h1
  obtain ⟨b, hb⟩ : ∃ b, boots l0 n d l1 = b := ⟨_, rfl⟩
  have HB := Lib.hid hb
  have g0 : ¬ (1048576 : Int) < (l1.length : Int) := by omega
  have g1 : (0 : Int) ≤ 1048576 - (l0.length : Int) := by omega
  have HWF := Lib.hid hwf
  have HLB := Lib.hid (b_lens b l0 n d l1 hb hl1)
  clear h0 h1 hb hwf
  have B2 : Blk (w.alloc (.cells #[.slice A0 l0.length c0, .int .i64 n, .int .i64 d] 24)) w.heap.size 24 #[.slice A0 l0.length c0, .int .i64 n, .int .i64 d] := Blk.alloc _ _ _
  have X0 : Ext w (w.alloc (.cells #[.slice A0 l0.length c0, .int .i64 n, .int .i64 d] 24)) := (Ext.refl w).alloc _
  go_enter Try.func4, Try.ntmps4
  go_wp2_with fail
  refine (laws_szImage.calls A0 c0 l0 n d _ _ _ (Kd.C_below H0.out X0) hc0 (sz_yes l0 n d hl0)).mono ?_
  rintro e w1 ⟨rfl, hX⟩
  have X1 : Ext w w1 := Ext.trans X0 hX
  have B2 := Blk.ext B2 hX
  obtain ⟨z0, z1, z2⟩ := blk_cells3 B2
  clear hX X0
  go_wp2_with fail
  -- r7
  refine (laws_toImage.calls 1048600 A0 c0 l0 n d _ _ _ _ (Kd.C_below H0.out X1) hc0 (toImage_ _ l0 n d hl0 (by omega))).mono ?_
  rintro e w2 ⟨v0, rfl, R0, hX⟩
  obtain ⟨Aa, ca, rfl, hca⟩ := R_shape R0
  have X2 : Ext w w2 := Ext.trans X1 hX
  have B2 := Blk.ext B2 hX
  clear hX z0 z1 z2
  go_wp2_with fail
  refine (laws_toInt64S.calls 1048600 A1 c1 l1 _ _ (Kd.C_below H1.out X2) hc1 (toInt64S_ _ l1 hl1 (by omega))).mono ?_
  rintro e w3 ⟨v1, rfl, R1, hX3⟩
  obtain ⟨Ab, cb, rfl, hcb⟩ := R_shape R1
  have X3 : Ext w w3 := Ext.trans X2 hX3
  have B2 := Blk.ext B2 hX3
  go_wp2_with fail
  refine (spec_Boot.calls 1048700 Aa ca l0 n d Ab cb l1 _ _ _ _ _ _ _ _ _ (R_read R0 hX3) hca (R_read R1 (Ext.refl _)) hcb (boot_ _ l0 n d l1 hl1 (by omega))).mono ?_
  rw [HB.out]
  rintro e w4 ⟨p0, p2, p3, p4, p5, rfl, P0, P2, P3, P4, P5, hX⟩
  obtain ⟨A20, c20, rfl, q20⟩ := R_shape P0
  obtain ⟨A22, c22, rfl, q22⟩ := R_shape P2
  obtain ⟨A23, c23, rfl, q23⟩ := R_shape P3
  obtain ⟨A24, c24, rfl, q24⟩ := R_shape P4
  obtain ⟨A25, c25, rfl, q25⟩ := R_shape P5
  have X4 : Ext w w4 := Ext.trans X3 hX
  have lp0 := Kd.R_lt P0
  have lp2 := Kd.R_lt P2
  have lp3 := Kd.R_lt P3
  have lp4 := Kd.R_lt P4
  have lp5 := Kd.R_lt P5
  have B2 := Blk.ext B2 hX
  clear hX hX3 R0 R1
  have B6 := Blk.alloc w4 35 #[.slice A20 (bRegs b).length c20, .int .u32 (bPc b), .slice A22 (bData b n).length c22, .slice A23 (bData b d).length c23, .slice A24 (bIn b l1).length c24, .slice A25 0 c25, .int .u32 (bLow b), .int .i64 0]
  have hX : Ext w4 (w4.alloc (.cells #[.slice A20 (bRegs b).length c20, .int .u32 (bPc b), .slice A22 (bData b n).length c22, .slice A23 (bData b d).length c23, .slice A24 (bIn b l1).length c24, .slice A25 0 c25, .int .u32 (bLow b), .int .i64 0] 35)) := (Ext.refl w4).alloc _
  have B2 := Blk.ext B2 hX
  obtain ⟨z0, z1, z2⟩ := blk_cells3 B2
  have X5 := Ext.trans X4 hX
  go_wp2_with fail
  -- r8
  trace "r8"
  refine (laws_toImage.calls 1048600 A0 c0 l0 n d _ _ _ _ (Kd.C_below H0.out X5) hc0 (toImage_ _ l0 n d hl0 (by omega))).mono ?_
  rintro e w6 ⟨vx, rfl, Rx, hX⟩
  obtain ⟨Ax, cx, rfl, hcx⟩ := R_shape Rx
  have X6 : Ext w w6 := Ext.trans X5 hX
  have B2 := Blk.ext B2 hX
  have B6 := Blk.ext B6 hX
  have P0 := Kd.R_below P0 ((Ext.refl _).alloc _ |>.trans hX)
  have P2 := Kd.R_below P2 ((Ext.refl _).alloc _ |>.trans hX)
  have P3 := Kd.R_below P3 ((Ext.refl _).alloc _ |>.trans hX)
  have P4 := Kd.R_below P4 ((Ext.refl _).alloc _ |>.trans hX)
  have P5 := Kd.R_below P5 ((Ext.refl _).alloc _ |>.trans hX)
  have l6 := B6.lt
  have lx : ∀ k, (Value.slice Ax l0.length cx).ownBlock = some k → w4.heap.size + 1 ≤ k ∧ k < w6.heap.size := fun k hk => ⟨by have := Kd.R_base Rx k hk; simpa using this, Kd.R_lt Rx k hk⟩
  clear hX z0 z1 z2
  have B7 := Blk.alloc w6 27 #[.slice Ax l0.length cx, .int .i64 n, .int .i64 d]
  have hX : Ext w6 (w6.alloc (.cells #[.slice Ax l0.length cx, .int .i64 n, .int .i64 d] 27)) := (Ext.refl w6).alloc _
  have B2 := Blk.ext B2 hX
  have B6 := Blk.ext B6 hX
  have X7 := Ext.trans X6 hX
  clear hX
  go_wp2_with fail
  trace "r9"
  refine (laws_toInt64S.calls 1048600 A1 c1 l1 _ _ (Kd.C_below H1.out X7) hc1 (toInt64S_ _ l1 hl1 (by omega))).mono ?_
  rintro e w8 ⟨vy, rfl, Ry, hX⟩
  obtain ⟨Ay, cy, rfl, hcy⟩ := R_shape Ry
  have X8 : Ext w w8 := Ext.trans X7 hX
  have Y8 : Ext w6 w8 := Ext.trans ((Ext.refl _).alloc _) hX
  have B2 := Blk.ext B2 hX
  have B6 := Blk.ext B6 hX
  have B7 := Blk.ext B7 hX
  have l7 := B7.lt
  have ly : ∀ k, (Value.slice Ay l1.length cy).ownBlock = some k → w6.heap.size + 1 ≤ k ∧ k < w8.heap.size := fun k hk => ⟨by have := Kd.R_base Ry k hk; simpa using this, Kd.R_lt Ry k hk⟩
  obtain ⟨z0, z1, z2⟩ := blk_cells3 B7
  clear hX
  go_wp2_with fail
  trace "r10"
  refine (b_Boot_all AnyB l0 n d cx Ax (.slice Ay l1.length cy) l1 _ (R_read Rx Y8) hcx (Kd.R_sl Ry (fun cs x hx h => ⟨h, HWF.out x hx⟩) (fun _ _ => trivial))).mono ?_
  rw [HB.out]
  rintro e w9 ⟨p0, p2, p3, p4, p5, rfl, G0, G2, G3, G4, G5, hX⟩
  obtain ⟨A90, c90, rfl, q90⟩ := R_shape G0
  obtain ⟨A92, c92, rfl, q92⟩ := R_shape G2
  obtain ⟨A93, c93, rfl, q93⟩ := R_shape G3
  obtain ⟨A94, c94, rfl, q94⟩ := R_shape G4
  obtain ⟨A95, c95, rfl, q95⟩ := R_shape G5
  have X9 : Ext w w9 := Ext.trans X8 hX
  have lg0 : ∀ k, (Value.slice A90 (bRegs b).length c90).ownBlock = some k → w8.heap.size ≤ k ∧ k < w9.heap.size := fun k hk => ⟨Kd.R_base G0 k hk, Kd.R_lt G0 k hk⟩
  have lg2 : ∀ k, (Value.slice A92 (bData b n).length c92).ownBlock = some k → w8.heap.size ≤ k ∧ k < w9.heap.size := fun k hk => ⟨Kd.R_base G2 k hk, Kd.R_lt G2 k hk⟩
  have lg3 : ∀ k, (Value.slice A93 (bData b d).length c93).ownBlock = some k → w8.heap.size ≤ k ∧ k < w9.heap.size := fun k hk => ⟨Kd.R_base G3 k hk, Kd.R_lt G3 k hk⟩
  have lg4 : ∀ k, (Value.slice A94 (bIn b l1).length c94).ownBlock = some k → w8.heap.size ≤ k ∧ k < w9.heap.size := fun k hk => ⟨Kd.R_base G4 k hk, Kd.R_lt G4 k hk⟩
  have lg5 : ∀ k, (Value.slice A95 0 c95).ownBlock = some k → w8.heap.size ≤ k ∧ k < w9.heap.size := fun k hk => ⟨Kd.R_base G5 k hk, Kd.R_lt G5 k hk⟩
  have n23 : ∀ k, (Value.slice A92 (bData b n).length c92).ownBlock = some k → ¬ (Value.slice A93 (bData b d).length c93).ownBlock = some k := fun k h e => G2.1 k h e.symm
  have n32 : ∀ k, (Value.slice A93 (bData b d).length c93).ownBlock = some k → ¬ (Value.slice A92 (bData b n).length c92).ownBlock = some k := fun k h e => G3.1 k h e.symm
  have n45 : ∀ k, (Value.slice A94 (bIn b l1).length c94).ownBlock = some k → ¬ (Value.slice A95 0 c95).ownBlock = some k := fun k h e => G4.1 k h e.symm
  have n54 : ∀ k, (Value.slice A95 0 c95).ownBlock = some k → ¬ (Value.slice A94 (bIn b l1).length c94).ownBlock = some k := fun k h e => G5.1 k h e.symm
  have l89 := hX.size
  have Y9 : Ext w6 w9 := Ext.trans Y8 hX
  have B2 := Blk.ext B2 hX
  have B6 := Blk.ext B6 hX
  have B7 := Blk.ext B7 hX
  have Ry := Kd.R_below Ry hX
  have Rx := Kd.R_below Rx Y9
  have P0 := Kd.R_below P0 Y9
  have P2 := Kd.R_below P2 Y9
  have P3 := Kd.R_below P3 Y9
  have P4 := Kd.R_below P4 Y9
  have P5 := Kd.R_below P5 Y9
  clear hX z0 z1 z2 Y8 Y9
  have B9 := Blk.alloc w9 35 #[.slice A90 (bRegs b).length c90, .int .u32 (bPc b), .slice A92 (bData b n).length c92, .slice A93 (bData b d).length c93, .slice A94 (bIn b l1).length c94, .slice A95 0 c95, .int .u32 (bLow b), .int .i64 0]
  have hX : Ext w9 (w9.alloc (.cells #[.slice A90 (bRegs b).length c90, .int .u32 (bPc b), .slice A92 (bData b n).length c92, .slice A93 (bData b d).length c93, .slice A94 (bIn b l1).length c94, .slice A95 0 c95, .int .u32 (bLow b), .int .i64 0] 35)) := (Ext.refl w9).alloc _
  have B2 := Blk.ext B2 hX
  have B6 := Blk.ext B6 hX
  have B7 := Blk.ext B7 hX
  have X10 := Ext.trans X9 hX
  obtain ⟨y0, y1, y2, y3, y4, y5, y6, y7⟩ := blk_cells8 B6
  obtain ⟨x0, x1, x2, x3, x4, x5, x6, x7⟩ := blk_cells8 B9
  obtain ⟨t1, t2, t3, t4⟩ := HLB.out
  go_wp2_with fail
  trace "r11"
  refine (laws_eqCpu.calls 1048700 A90 c90 (bRegs b) (bPc b) A92 c92 (bData b n) A93 c93 (bData b d) A94 c94 (bIn b l1) A95 c95 [] (bLow b) 0 A20 c20 (bRegs b) (bPc b) A22 c22 (bData b n) A23 c23 (bData b d) A24 c24 (bIn b l1) A25 c25 [] (bLow b) 0 true _
    (R_read G0 hX) q90 (R_read G2 hX) q92 (R_read G3 hX) q93 (R_read G4 hX) q94 (R_read G5 hX) q95 (R_read P0 hX) q20 (R_read P2 hX) q22 (R_read P3 hX) q23 (R_read P4 hX) q24 (R_read P5 hX) q25 (eqCpu_ _ _ _ _ _ _ _ _ _ t1 t2 t3 t4 (by simp) (by omega))).mono ?_
  rintro e w11 ⟨rfl, hXb⟩
  have X11 : Ext w w11 := Ext.trans X10 hXb
  have Y11 : Ext w9 w11 := Ext.trans hX hXb
  have B2 := Blk.ext B2 hXb
  have B6 := Blk.ext B6 hXb
  have B7 := Blk.ext B7 hXb
  have B9 := Blk.ext B9 hXb
  clear hXb hX x0 x1 x2 x3 x4 x5 x6 x7 y0 y1 y2 y3 y4 y5 y6 y7
  obtain ⟨z0, z1, z2⟩ := blk_cells3 B7
  obtain ⟨y0, y1, y2⟩ := blk_cells3 B2
  go_wp2_with fail
  trace "r13"
  go_region_held3 (fun w' => w'.cell? ⟨w6.heap.size, 0, none⟩ = some (.slice Ax l0.length cx) ∧ w'.cell? ⟨w6.heap.size, 1, none⟩ = some (.int .i64 n) ∧ w'.cell? ⟨w6.heap.size, 2, none⟩ = some (.int .i64 d) ∧ w'.cell? ⟨w.heap.size, 0, none⟩ = some (.slice A0 l0.length c0) ∧ w'.cell? ⟨w.heap.size, 1, none⟩ = some (.int .i64 n) ∧ w'.cell? ⟨w.heap.size, 2, none⟩ = some (.int .i64 d))
      (first | go_keep | (refine ⟨Ext.cell hX13 (Ext.cell hX12 ?_), Ext.cell hX13 (Ext.cell hX12 ?_), Ext.cell hX13 (Ext.cell hX12 ?_), Ext.cell hX13 (Ext.cell hX12 ?_), Ext.cell hX13 (Ext.cell hX12 ?_), Ext.cell hX13 (Ext.cell hX12 ?_)⟩ <;> simp [*]) | (refine ⟨Ext.cell hX12 ?_, Ext.cell hX12 ?_, Ext.cell hX12 ?_, Ext.cell hX12 ?_, Ext.cell hX12 ?_, Ext.cell hX12 ?_⟩ <;> simp [*]))
      (first
        | (go_at_call 7; refine (laws_toImage.calls 1048600 A0 c0 l0 n d _ _ _ _ (Kd.C_below H0.out (X11.drew)) hc0 (toImage_ _ l0 n d hl0 (by omega))).mono ?_; rintro e w12 ⟨vt, rfl, Rt, hX12⟩; obtain ⟨At, ct, rfl, hct⟩ := R_shape Rt)
        | (go_at_call 9; refine (laws_eqImage.calls 1048700 Ax cx l0 n d At ct l0 n d true _ (R_read Rx (Ext.trans Y11.drew hX12)) hcx (R_read Rt (Ext.refl _)) hct (eqImage_ _ l0 n d hl0 (by omega))).mono ?_; rintro e w13 ⟨rfl, hX13⟩))
  have hX : Ext w11 w13 := Ext.trans ((Ext.refl w11).drew) (Ext.trans hX12 hX13)
  have X13 : Ext w w13 := Ext.trans X11 hX
  have Y13 : Ext w9 w13 := Ext.trans Y11 hX
  have B2 := Blk.ext B2 hX
  have B6 := Blk.ext B6 hX
  have B7 := Blk.ext B7 hX
  have B9 := Blk.ext B9 hX
  clear hX hX12 hX13 Rt z0 z1 z2 y0 y1 y2 Y11
  go_wp2_with fail
  trace "r15"
  refine (laws_toInt64S.calls 1048600 A1 c1 l1 _ _ (Kd.C_below H1.out X13) hc1 (toInt64S_ _ l1 hl1 (by omega))).mono ?_
  rintro e w14 ⟨vt, rfl, Rt, hX14⟩
  obtain ⟨At2, ct2, rfl, hct2⟩ := R_shape Rt
  go_wp2_with fail
  refine (laws_eqInt64S.calls 1048700 Ay cy l1 At2 ct2 l1 true _ (R_read Ry (Ext.trans Y13 hX14)) hcy (R_read Rt (Ext.refl _)) hct2 (eqInt64S_ _ l1 hl1 (by omega))).mono ?_
  rintro e w15 ⟨rfl, hX15⟩
  have hX : Ext w13 w15 := Ext.trans hX14 (drawn_ext hX15)
  have X15 : Ext w w15 := Ext.trans X13 hX
  have Y15 : Ext w9 w15 := Ext.trans Y13 hX
  have B2 := Blk.ext B2 hX
  have B6 := Blk.ext B6 hX
  have B7 := Blk.ext B7 hX
  have B9 := Blk.ext B9 hX
  clear hX hX14 hX15 Rt Y13
  have Rx := R_self (Kd.R_lower (Kd.R_below Rx Y15) (base' := w.heap.size) (Nat.le_trans X4.size (by simp)))
  have Ry := R_self (Kd.R_lower (Kd.R_below Ry Y15) (base' := w.heap.size) (Nat.le_trans X6.size (by simp)))
  have P0 := Kd.R_below P0 Y15
  have P2 := Kd.R_below P2 Y15
  have P3 := Kd.R_below P3 Y15
  have P4 := Kd.R_below P4 Y15
  have P5 := Kd.R_below P5 Y15
  have G0 := Kd.R_below G0 Y15
  have G2 := Kd.R_below G2 Y15
  have G3 := Kd.R_below G3 Y15
  have G4 := Kd.R_below G4 Y15
  have G5 := Kd.R_below G5 Y15
  obtain ⟨z0, z1, z2⟩ := blk_cells3 B7
  obtain ⟨i', hmk⟩ := markImage_ 1048700 l0 n d 1 hl0 (by omega) (by omega) (by omega)
  have HMK := Lib.hid hmk
  obtain ⟨s', hms, _⟩ := markInt64S_ 1048700 l1 (1 + l0.length) hl1 (by omega) (by omega) (by omega)
  have HMS := Lib.hid hms
  clear hmk hms
  go_wp2_with fail
  trace "r18"
  refine (laws_markImage.calls 1048700 _ (.slice Ax l0.length cx) l0 n d 1 _ _ w _ X15 Rx HMK.out).mono ?_
  rintro e w16 ⟨rfl, Rx', X16, K16⟩
  go_wp2_with fail
  trace "r19"
  have Ry := Kd.R_kept Ry K16 (fun k h1 h2 => by have := lx k h2; have := ly k h1; omega)
  refine (laws_markInt64S.calls 1048700 _ (.slice Ay l1.length cy) l1 (1 + (l0.length : Int)) _ _ w _ X16 Ry HMS.out).mono ?_
  rintro e w17 ⟨rfl, Ry', X17, K17⟩
  have K : Kept w15 w17 (fun k => (Value.slice Ax l0.length cx).ownBlock = some k ∨ (Value.slice Ay l1.length cy).ownBlock = some k) := (K16.mono (fun k h => .inl h)).then_ K17 (fun k h => .inl (.inr h))
  have l4 := X4.size
  have B2 := blkK B2 K (fun h => by rcases h with h | h; (have := lx _ h; omega); (have := ly _ h; omega))
  have B6 := blkK B6 K (fun h => by rcases h with h | h; (have := lx _ h; omega); (have := ly _ h; omega))
  have B9 := blkK B9 K (fun h => by rcases h with h | h; (have := lx _ h; omega); (have := ly _ h; omega))
  have G0 := Kd.R_kept (R_self (Kd.R_lower G0 X8.size)) K (fun k h1 h => by have := lg0 k h1; rcases h with h | h; (have := lx _ h; omega); (have := ly _ h; omega))
  have G2 := Kd.R_kept (R_self (Kd.R_lower G2 X8.size)) K (fun k h1 h => by have := lg2 k h1; rcases h with h | h; (have := lx _ h; omega); (have := ly _ h; omega))
  have G3 := Kd.R_kept (R_self (Kd.R_lower G3 X8.size)) K (fun k h1 h => by have := lg3 k h1; rcases h with h | h; (have := lx _ h; omega); (have := ly _ h; omega))
  have G4 := Kd.R_kept (R_self (Kd.R_lower G4 X8.size)) K (fun k h1 h => by have := lg4 k h1; rcases h with h | h; (have := lx _ h; omega); (have := ly _ h; omega))
  have G5 := Kd.R_kept (R_self (Kd.R_lower G5 X8.size)) K (fun k h1 h => by have := lg5 k h1; rcases h with h | h; (have := lx _ h; omega); (have := ly _ h; omega))
  have P0 := Kd.R_kept (R_self P0) K (fun k h1 h => by have := lp0 k h1; rcases h with h | h; (have := lx _ h; omega); (have := ly _ h; omega))
  have P2 := Kd.R_kept (R_self P2) K (fun k h1 h => by have := lp2 k h1; rcases h with h | h; (have := lx _ h; omega); (have := ly _ h; omega))
  have P3 := Kd.R_kept (R_self P3) K (fun k h1 h => by have := lp3 k h1; rcases h with h | h; (have := lx _ h; omega); (have := ly _ h; omega))
  have P4 := Kd.R_kept (R_self P4) K (fun k h1 h => by have := lp4 k h1; rcases h with h | h; (have := lx _ h; omega); (have := ly _ h; omega))
  have P5 := Kd.R_kept (R_self P5) K (fun k h1 h => by have := lp5 k h1; rcases h with h | h; (have := lx _ h; omega); (have := ly _ h; omega))
  clear K16 K17 K Rx' Ry' X16 z0 z1 z2
  obtain ⟨y0, y1, y2, y3, y4, y5, y6, y7⟩ := blk_cells8 B6
  obtain ⟨x0, x1, x2, x3, x4, x5, x6, x7⟩ := blk_cells8 B9
  have t5 : ¬ (1 + (l0.length : Int) + (l1.length : Int)) < 0 := by omega
  go_wp2_with fail
  trace "r20"
  refine (laws_eqCpu.calls 1048700 A90 c90 (bRegs b) (bPc b) A92 c92 (bData b n) A93 c93 (bData b d) A94 c94 (bIn b l1) A95 c95 [] (bLow b) 0 A20 c20 (bRegs b) (bPc b) A22 c22 (bData b n) A23 c23 (bData b d) A24 c24 (bIn b l1) A25 c25 [] (bLow b) 0 true _
    (R_read G0 (Ext.refl _)) q90 (R_read G2 (Ext.refl _)) q92 (R_read G3 (Ext.refl _)) q93 (R_read G4 (Ext.refl _)) q94 (R_read G5 (Ext.refl _)) q95 (R_read P0 (Ext.refl _)) q20 (R_read P2 (Ext.refl _)) q22 (R_read P3 (Ext.refl _)) q23 (R_read P4 (Ext.refl _)) q24 (R_read P5 (Ext.refl _)) q25 (eqCpu_ _ _ _ _ _ _ _ _ _ t1 t2 t3 t4 (by simp) (by omega))).mono ?_
  rintro e w18 ⟨rfl, hX⟩
  have X18 : Ext w w18 := Ext.trans X17 hX
  have B2 := Blk.ext B2 hX
  have B6 := Blk.ext B6 hX
  have B9 := Blk.ext B9 hX
  have G0 := Kd.R_below G0 hX
  have G2 := Kd.R_below G2 hX
  have G3 := Kd.R_below G3 hX
  have G4 := Kd.R_below G4 hX
  have G5 := Kd.R_below G5 hX
  have P0 := Kd.R_below P0 hX
  have P2 := Kd.R_below P2 hX
  have P3 := Kd.R_below P3 hX
  have P4 := Kd.R_below P4 hX
  have P5 := Kd.R_below P5 hX
  clear hX x0 x1 x2 x3 x4 x5 x6 x7 y0 y1 y2 y3 y4 y5 y6 y7
  obtain ⟨m, hm0, s1, s3, s4, s5, s6, hmk, hhd, e1, e3, e4, e5, e6⟩ := markCpu_ 1048700 (bRegs b) (bPc b) (bData b n) (bData b d) (bIn b l1) [] (bLow b) 0 t1 t2 t3 t4 (by simp) (by omega)
  have HMK := Lib.hid hmk
  have HHD := Lib.hid hhd
  have E1 := Lib.hid e1
  have E3 := Lib.hid e3
  have E4 := Lib.hid e4
  have E5 := Lib.hid e5
  have E6 := Lib.hid e6
  clear hmk hhd e1 e3 e4 e5 e6
  obtain ⟨x0, x1, x2, x3, x4, x5, x6, x7⟩ := blk_cells8 B9
  go_wp2_with fail
  trace "r23"
  refine (laws_markCpu.calls 1048700 _ (.slice A90 (bRegs b).length c90) (bRegs b) (bPc b) _ (.slice A92 (bData b n).length c92) (bData b n) _ (.slice A93 (bData b d).length c93) (bData b d) _ (.slice A94 (bIn b l1).length c94) (bIn b l1) _ (.slice A95 0 c95) [] (bLow b) 0 1 _ _ _ _ _ _ w _ X18 G0 G2 n23 G3 n32 G4 n45 G5 n54 HMK.out).mono ?_
  rintro e w19 ⟨rfl, M0, M2, M3, M4, M5, X19, K19⟩
  have nS : ∀ k, ((Value.slice A90 (bRegs b).length c90).ownBlock = some k ∨ (Value.slice A92 (bData b n).length c92).ownBlock = some k ∨ (Value.slice A93 (bData b d).length c93).ownBlock = some k ∨ (Value.slice A94 (bIn b l1).length c94).ownBlock = some k ∨ (Value.slice A95 0 c95).ownBlock = some k) → w8.heap.size ≤ k ∧ k < w9.heap.size := fun k h => by
    rcases h with h | h | h | h | h
    · exact lg0 k h
    · exact lg2 k h
    · exact lg3 k h
    · exact lg4 k h
    · exact lg5 k h
  have B2 := blkK B2 K19 (fun h => by have := nS _ h; omega)
  have B6 := blkK B6 K19 (fun h => by have := nS _ h; omega)
  have B9 := blkK B9 K19 (fun h => by have := nS _ h; omega)
  have P0 := Kd.R_kept P0 K19 (fun k h1 h => by have := lp0 k h1; have := nS _ h; omega)
  have P2 := Kd.R_kept P2 K19 (fun k h1 h => by have := lp2 k h1; have := nS _ h; omega)
  have P3 := Kd.R_kept P3 K19 (fun k h1 h => by have := lp3 k h1; have := nS _ h; omega)
  have P4 := Kd.R_kept P4 K19 (fun k h1 h => by have := lp4 k h1; have := nS _ h; omega)
  have P5 := Kd.R_kept P5 K19 (fun k h1 h => by have := lp5 k h1; have := nS _ h; omega)
  clear K19 nS x0 x1 x2 x3 x4 x5 x6 x7
  rw [← E1.out] at M0 q90 B9
  rw [← E3.out] at M2 q92 B9
  rw [← E4.out] at M3 q93 B9
  rw [← E5.out] at M4 q94 B9
  rw [show (0 : Nat) = s6.length from E6.out.symm] at M5 B9
  obtain ⟨x0, x1, x2, x3, x4, x5, x6, x7⟩ := blk_cells8 B9
  have q95' : s6.length ≤ c95 := by have := E6.out; simp at this; simp [this]
  go_wp2_with fail
  trace "r25"
  refine (laws_heldCpu.calls 1048700 A90 c90 s1 (bPc b) A92 c92 s3 A93 c93 s4 A94 c94 s5 A95 c95 s6 (bLow b) 0 1 m _ (R_read M0 (Ext.refl _)) q90 (R_read M2 (Ext.refl _)) q92 (R_read M3 (Ext.refl _)) q93 (R_read M4 (Ext.refl _)) q94 (R_read M5 (Ext.refl _)) q95' HHD.out).mono ?_
  rintro e w20 ⟨rfl, hX⟩
  have X20 : Ext w w20 := Ext.trans X19 hX
  have B2 := Blk.ext B2 hX
  have B6 := Blk.ext B6 hX
  have P0 := Kd.R_below P0 hX
  have P2 := Kd.R_below P2 hX
  have P3 := Kd.R_below P3 hX
  have P4 := Kd.R_below P4 hX
  have P5 := Kd.R_below P5 hX
  clear hX x0 x1 x2 x3 x4 x5 x6 x7 M0 M2 M3 M4 M5 G0 G2 G3 G4 G5 q90 q92 q93 q94 q95 q95' B9 lg0 lg2 lg3 lg4 lg5 n23 n32 n45 n54 lp0 lp2 lp3 lp4 lp5 lx ly
  have t6 : ¬ m < 0 := by omega
  obtain ⟨z0, z1, z2⟩ := blk_cells3 B2
  go_wp2_with fail
  trace "r30"
  refine (laws_toImage.calls 1048600 A0 c0 l0 n d _ _ _ _ (Kd.C_below H0.out X20) hc0 (toImage_ _ l0 n d hl0 (by omega))).mono ?_
  rintro e w21 ⟨v0, rfl, R0, hX21⟩
  obtain ⟨Aa', ca', rfl, hca'⟩ := R_shape R0
  have X21 : Ext w w21 := Ext.trans X20 hX21
  go_wp2_with fail
  refine (laws_toInt64S.calls 1048600 A1 c1 l1 _ _ (Kd.C_below H1.out X21) hc1 (toInt64S_ _ l1 hl1 (by omega))).mono ?_
  rintro e w22 ⟨v1, rfl, R1, hX22⟩
  obtain ⟨Ab', cb', rfl, hcb'⟩ := R_shape R1
  have X22 : Ext w w22 := Ext.trans X21 hX22
  go_wp2_with fail
  refine (b_Boot_all AnyB l0 n d ca' Aa' (.slice Ab' l1.length cb') l1 _ (R_read R0 hX22) hca' (Kd.R_sl R1 (fun cs x hx h => ⟨h, HWF.out x hx⟩) (fun _ _ => trivial))).mono ?_
  rw [HB.out]
  rintro e w23 ⟨p0, p2, p3, p4, p5, rfl, G0, G2, G3, G4, G5, hX23⟩
  obtain ⟨A70, c70, rfl, q70⟩ := R_shape G0
  obtain ⟨A72, c72, rfl, q72⟩ := R_shape G2
  obtain ⟨A73, c73, rfl, q73⟩ := R_shape G3
  obtain ⟨A74, c74, rfl, q74⟩ := R_shape G4
  obtain ⟨A75, c75, rfl, q75⟩ := R_shape G5
  have X23 : Ext w w23 := Ext.trans X22 hX23
  have Y23 : Ext w20 w23 := Ext.trans hX21 (Ext.trans hX22 hX23)
  clear z0 z1 z2 R0 R1 hX21 hX22 hX23
  have B6 := Blk.ext B6 Y23
  have P0 := Kd.R_below P0 Y23
  have P2 := Kd.R_below P2 Y23
  have P3 := Kd.R_below P3 Y23
  have P4 := Kd.R_below P4 Y23
  have P5 := Kd.R_below P5 Y23
  have B9 := Blk.alloc w23 35 #[.slice A70 (bRegs b).length c70, .int .u32 (bPc b), .slice A72 (bData b n).length c72, .slice A73 (bData b d).length c73, .slice A74 (bIn b l1).length c74, .slice A75 0 c75, .int .u32 (bLow b), .int .i64 0]
  have hX : Ext w23 (w23.alloc (.cells #[.slice A70 (bRegs b).length c70, .int .u32 (bPc b), .slice A72 (bData b n).length c72, .slice A73 (bData b d).length c73, .slice A74 (bIn b l1).length c74, .slice A75 0 c75, .int .u32 (bLow b), .int .i64 0] 35)) := (Ext.refl w23).alloc _
  have B6 := Blk.ext B6 hX
  have X24 := Ext.trans X23 hX
  obtain ⟨y0, y1, y2, y3, y4, y5, y6, y7⟩ := blk_cells8 B6
  obtain ⟨x0, x1, x2, x3, x4, x5, x6, x7⟩ := blk_cells8 B9
  go_wp2_with fail
  trace "r31"
  refine (laws_eqCpu.calls 1048700 A70 c70 (bRegs b) (bPc b) A72 c72 (bData b n) A73 c73 (bData b d) A74 c74 (bIn b l1) A75 c75 [] (bLow b) 0 A20 c20 (bRegs b) (bPc b) A22 c22 (bData b n) A23 c23 (bData b d) A24 c24 (bIn b l1) A25 c25 [] (bLow b) 0 true _
    (R_read G0 hX) q70 (R_read G2 hX) q72 (R_read G3 hX) q73 (R_read G4 hX) q74 (R_read G5 hX) q75 (R_read P0 hX) q20 (R_read P2 hX) q22 (R_read P3 hX) q23 (R_read P4 hX) q24 (R_read P5 hX) q25 (eqCpu_ _ _ _ _ _ _ _ _ _ t1 t2 t3 t4 (by simp) (by omega))).mono ?_
  rintro e w25 ⟨rfl, hX25⟩
  go_wp2
  go_ret
  exact ⟨rfl, Ext.trans X24 hX25⟩
end Go.Proofs.Ytjgfiplhaanflaa
