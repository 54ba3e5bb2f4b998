/- impl.Boot where the image, the number of inputs or a word is not in order; and its contract in the print's words. -/
import Derived.Test.YtjgfiplhaanflaaBootB
import Derived.Test.YtjgfiplhaanflaaBootPure
set_option linter.unusedVariables false
set_option linter.unusedSimpArgs false
namespace Go.Proofs.Ytjgfiplhaanflaa
open Go Go.RowKit Md Go.Proofs.YtjgfiplhaanflaaW.PrintWords Go.Proofs.YtjgfiplhaanflaaW.PrintLast Go.Proofs.Ytjgfiplhaanflaa.PFnExactBoot

theorem blk_cells8 {w : World} {g t : Nat} {a0 a1 a2 a3 a4 a5 a6 a7 : Value} (h : Blk w g t #[a0, a1, a2, a3, a4, a5, a6, a7]) :
    w.cell? ⟨g, 0, none⟩ = some a0 ∧ w.cell? ⟨g, 1, none⟩ = some a1 ∧ w.cell? ⟨g, 2, none⟩ = some a2 ∧ w.cell? ⟨g, 3, none⟩ = some a3 ∧ w.cell? ⟨g, 4, none⟩ = some a4 ∧ w.cell? ⟨g, 5, none⟩ = some a5 ∧ w.cell? ⟨g, 6, none⟩ = some a6 ∧ w.cell? ⟨g, 7, none⟩ = some a7 :=
  ⟨(h.cell 0).trans rfl, (h.cell 1).trans rfl, (h.cell 2).trans rfl, (h.cell 3).trans rfl, (h.cell 4).trans rfl, (h.cell 5).trans rfl, (h.cell 6).trans rfl, (h.cell 7).trans rfl⟩
theorem blk_frozen8 {w : World} {g t : Nat} {arr : Array Value} (h : Blk w g t arr) :
    w.frozen? ⟨g, 0, none⟩ = false ∧ w.frozen? ⟨g, 1, none⟩ = false ∧ w.frozen? ⟨g, 2, none⟩ = false ∧ w.frozen? ⟨g, 3, none⟩ = false ∧ w.frozen? ⟨g, 4, none⟩ = false ∧ w.frozen? ⟨g, 5, none⟩ = false ∧ w.frozen? ⟨g, 6, none⟩ = false ∧ w.frozen? ⟨g, 7, none⟩ = false :=
  ⟨h.frozen 0, h.frozen 1, h.frozen 2, h.frozen 3, h.frozen 4, h.frozen 5, h.frozen 6, h.frozen 7⟩
theorem blk_cells3 {w : World} {g t : Nat} {a0 a1 a2 : Value} (h : Blk w g t #[a0, a1, a2]) : w.cell? ⟨g, 0, none⟩ = some a0 ∧ w.cell? ⟨g, 1, none⟩ = some a1 ∧ w.cell? ⟨g, 2, none⟩ = some a2 :=
  ⟨(h.cell 0).trans rfl, (h.cell 1).trans rfl, (h.cell 2).trans rfl⟩

def NoCpu : Value := .agg #[.slice none 0 0, .int .u32 0, .slice none 0 0, .slice none 0 0, .slice none 0 0, .slice none 0 0, .int .u32 0, .int .i64 0]
set_option maxHeartbeats 1000000 in
set_option maxRecDepth 1000000 in
theorem b_BootNo (K1 : Foot) (l0 : List Int) (n d : Int) (c0 : Nat) (A0 : Option Addr) (v1 : Value) (l1 : List Int) (w : World)
    (h0 : (Kd.int .u32).C w A0 l0.length l0) (hc0 : l0.length ≤ c0) (h1 : SlInt .i64 K1 w v1 l1) (b : Bool) (hV : impl_ValidImage.f l0 n d = some b) (hb : boots l0 n d l1 = false) :
    Calls Try.prog 12 #[.agg #[.slice A0 l0.length c0, .int .i64 n, .int .i64 d], v1] w (Gives NoCpu w) := by
  have hu27 := Try.underlying27
  have hu35 := Try.underlying35
  obtain ⟨a1, n1, c1, rfl⟩ := h1.shape
  have hn1 := h1.len.1
  have H0 := Lib.hid h0
  have H1 := Lib.hid h1
  have HVl := Lib.hid hV
  have HW : b = true → n1 ≤ 1000 → l1.all isWord = false := by
    rintro rfl hn
    unfold boots at hb
    rw [hV] at hb
    simpa [show l1.length ≤ 1000 by omega] using hb
  clear h0 h1 hb hV hn1
  cases b with
  | false =>
    clear HW
    go_enter Try.func12, Try.ntmps12
    go_wp2_with (first
      | (go_at_call 8; ((refine (impl_ValidImage.calls A0 c0 l0 n d false _ ?_ hc0 HVl.out).mono ?_); exact Kd.C_below H0.out (by (repeat' (first | assumption | exact Ext.refl _ | refine Ext.drew ?_ | refine Ext.alloc ?_ _ | refine Ext.set ?_ (by first | omega | (simp; done) | (simp; omega)) _ _))); rintro e wv ⟨rfl, hXa⟩; have hX1 : Ext w wv := Ext.trans (by (repeat' (first | assumption | exact Ext.refl _ | refine Ext.drew ?_ | refine Ext.alloc ?_ _ | refine Ext.set ?_ (by first | omega | (simp; done) | (simp; omega)) _ _))) hXa; have BR : Blk wv (w.heap.size + 1) 35 #[.slice none 0 0, .int .u32 0, .slice none 0 0, .slice none 0 0, .slice none 0 0, .slice none 0 0, .int .u32 0, .int .i64 0] := Blk.ext (by have := Blk.alloc (w.alloc (.cells #[.slice A0 l0.length c0, .int .i64 n, .int .i64 d] 27)) 35 #[.slice none 0 0, .int .u32 0, .slice none 0 0, .slice none 0 0, .slice none 0 0, .slice none 0 0, .int .u32 0, .int .i64 0]; simpa using this) hXa; clear hXa; obtain ⟨r0, r1, r2, r3, r4, r5, r6, r7⟩ := blk_cells8 BR; obtain ⟨f0, f1, f2, f3, f4, f5, f6, f7⟩ := blk_frozen8 BR)))
    refine bodyPost_ret (results_cell_row rfl _ _ (w.heap.size + 1) 35 _ (0, 0) _ (by rfl) (Blk.set8 BR _ _ _ _ _ _ _ _) hu35 (by rfl) (by kernel_rfl)) rfl ?_
    exact ⟨rfl, ext_set8 hX1 (by omega) _ _ _ _ _ _ _ _⟩
  | true =>
    by_cases hl : n1 ≤ 1000
    · have hw := Lib.hid (HW rfl hl)
      clear HW
      have t0 : ¬ (1000 : Int) < (n1 : Int) := by omega
      go_enter Try.func12, Try.ntmps12
      go_wp2_with (first
        | (go_at_call 8; ((refine (impl_ValidImage.calls A0 c0 l0 n d true _ ?_ hc0 HVl.out).mono ?_); exact Kd.C_below H0.out (by (repeat' (first | assumption | exact Ext.refl _ | refine Ext.drew ?_ | refine Ext.alloc ?_ _ | refine Ext.set ?_ (by first | omega | (simp; done) | (simp; omega)) _ _))); rintro e wv ⟨rfl, hXa⟩; have hX1 : Ext w wv := Ext.trans (by (repeat' (first | assumption | exact Ext.refl _ | refine Ext.drew ?_ | refine Ext.alloc ?_ _ | refine Ext.set ?_ (by first | omega | (simp; done) | (simp; omega)) _ _))) hXa; have BR : Blk wv (w.heap.size + 1) 35 #[.slice none 0 0, .int .u32 0, .slice none 0 0, .slice none 0 0, .slice none 0 0, .slice none 0 0, .int .u32 0, .int .i64 0] := Blk.ext (by have := Blk.alloc (w.alloc (.cells #[.slice A0 l0.length c0, .int .i64 n, .int .i64 d] 27)) 35 #[.slice none 0 0, .int .u32 0, .slice none 0 0, .slice none 0 0, .slice none 0 0, .slice none 0 0, .int .u32 0, .int .i64 0]; simpa using this) hXa; clear hXa; obtain ⟨r0, r1, r2, r3, r4, r5, r6, r7⟩ := blk_cells8 BR; obtain ⟨f0, f1, f2, f3, f4, f5, f6, f7⟩ := blk_frozen8 BR))
        | (go_at_call 24; (refine (b_words K1 l1 _ _ ?_).mono ?_); exact Sl.ext H1.out (by (repeat' (first | assumption | exact Ext.refl _ | refine Ext.drew ?_ | refine Ext.alloc ?_ _ | refine Ext.set ?_ (by first | omega | (simp; done) | (simp; omega)) _ _))) (fun _ _ h => h); rw [hw.out]; rintro e w' ⟨rfl, rfl⟩))
      refine bodyPost_ret (results_cell_row rfl _ _ (w.heap.size + 1) 35 _ (0, 0) _ (by rfl) (Blk.set8 BR _ _ _ _ _ _ _ _) hu35 (by rfl) (by kernel_rfl)) rfl ?_
      exact ⟨rfl, ext_set8 hX1 (by omega) _ _ _ _ _ _ _ _⟩
    · have t0 : (1000 : Int) < (n1 : Int) := by omega
      clear HW
      go_enter Try.func12, Try.ntmps12
      go_wp2_with (first
        | (go_at_call 8; ((refine (impl_ValidImage.calls A0 c0 l0 n d true _ ?_ hc0 HVl.out).mono ?_); exact Kd.C_below H0.out (by (repeat' (first | assumption | exact Ext.refl _ | refine Ext.drew ?_ | refine Ext.alloc ?_ _ | refine Ext.set ?_ (by first | omega | (simp; done) | (simp; omega)) _ _))); rintro e wv ⟨rfl, hXa⟩; have hX1 : Ext w wv := Ext.trans (by (repeat' (first | assumption | exact Ext.refl _ | refine Ext.drew ?_ | refine Ext.alloc ?_ _ | refine Ext.set ?_ (by first | omega | (simp; done) | (simp; omega)) _ _))) hXa; have BR : Blk wv (w.heap.size + 1) 35 #[.slice none 0 0, .int .u32 0, .slice none 0 0, .slice none 0 0, .slice none 0 0, .slice none 0 0, .int .u32 0, .int .i64 0] := Blk.ext (by have := Blk.alloc (w.alloc (.cells #[.slice A0 l0.length c0, .int .i64 n, .int .i64 d] 27)) 35 #[.slice none 0 0, .int .u32 0, .slice none 0 0, .slice none 0 0, .slice none 0 0, .slice none 0 0, .int .u32 0, .int .i64 0]; simpa using this) hXa; clear hXa; obtain ⟨r0, r1, r2, r3, r4, r5, r6, r7⟩ := blk_cells8 BR; obtain ⟨f0, f1, f2, f3, f4, f5, f6, f7⟩ := blk_frozen8 BR)))
      refine bodyPost_ret (results_cell_row rfl _ _ (w.heap.size + 1) 35 _ (0, 0) _ (by rfl) (Blk.set8 BR _ _ _ _ _ _ _ _) hu35 (by rfl) (by kernel_rfl)) rfl ?_
      exact ⟨rfl, ext_set8 hX1 (by omega) _ _ _ _ _ _ _ _⟩

/-- A slice whose cells a list tells, in the print's words. -/
theorem own_of_blk {w : World} {g t base n : Nat} {k : IntKind} {arr : Array Value} {xs : List Int} (h : Blk w g t arr) (hg : base ≤ g) (ha : arr = (encs (Value.int k) xs).toArray) (hn : n = xs.length) (hm : n ≤ maxLen) :
    (Kd.int k).R t w base (fun j => j = g) (.slice (some ⟨g, 0, none⟩) n n) xs := by
  subst hn ha
  refine Kd.R_of_own ⟨by simp [encs], .inr ⟨g, xs.length, _, rfl, hg, h, Nat.le_refl _, hm, by simp [encs], by simp [encs, List.take_of_length_le]⟩⟩ (fun j hj => ?_)
  have : g = j := by simpa [Value.ownBlock] using hj
  exact this.symm
def CpuMade (w : World) (b : Bool) (l : List Int) (n d : Int) (s : List Int) (e : Ending) (w' : World) : Prop :=
  ∃ v0_ v2_ v3_ v4_ v5_ : Value, e = .returned (.agg #[v0_, .int .u32 (bPc b), v2_, v3_, v4_, v5_, .int .u32 (bLow b), .int .i64 0]) ∧ Kd.R (Kd.int .u32) 32 w' w.heap.size (fun _ => True) v0_ (bRegs b) ∧
    Kd.R (Kd.int .u8) 5 w' w.heap.size (fun k_ => some k_ ≠ (v3_ : Value).ownBlock) v2_ (bData b n) ∧ Kd.R (Kd.int .u8) 5 w' w.heap.size (fun k_ => some k_ ≠ (v2_ : Value).ownBlock) v3_ (bData b d) ∧
    Kd.R (Kd.int .i64) 2 w' w.heap.size (fun k_ => some k_ ≠ (v5_ : Value).ownBlock) v4_ (bIn b s) ∧ Kd.R (Kd.int .i64) 2 w' w.heap.size (fun k_ => some k_ ≠ (v4_ : Value).ownBlock) v5_ [] ∧ Below w.heap.size w w'
theorem made_enc (k : IntKind) (n : Nat) : madeCells #[Value.int k 0] n = (encs (Value.int k) (List.replicate n 0)).toArray := by
  apply Array.ext
  · simp [madeCells, encs]
  · intro i h1 h2
    simp [madeCells, encs, Nat.mod_one]
theorem b_Boot_all (K1 : Foot) (l0 : List Int) (n d : Int) (c0 : Nat) (A0 : Option Addr) (v1 : Value) (l1 : List Int) (w : World)
    (h0 : (Kd.int .u32).C w A0 l0.length l0) (hc0 : l0.length ≤ c0) (h1 : SlInt .i64 K1 w v1 l1) :
    Calls Try.prog 12 #[.agg #[.slice A0 l0.length c0, .int .i64 n, .int .i64 d], v1] w (CpuMade w (boots l0 n d l1) l0 n d l1) := by
  obtain ⟨b, _, hV⟩ := valid_same l0 n d
  cases hb : boots l0 n d l1 with
  | false =>
    refine (b_BootNo K1 l0 n d c0 A0 v1 l1 w h0 hc0 h1 b hV hb).mono ?_
    rintro e w' ⟨rfl, hE⟩
    exact ⟨_, _, _, _, _, rfl, Kd.R_nil _ _ _ _ _, Kd.R_nil _ _ _ _ _, Kd.R_nil _ _ _ _ _, Kd.R_nil _ _ _ _ _, Kd.R_nil _ _ _ _ _, hE⟩
  | true =>
    have hv : 0 ≤ n ∧ n ≤ 1048576 ∧ 0 ≤ d ∧ d ≤ 1048576 ∧ impl_ValidImage.f l0 n d = some true ∧ l1.length ≤ 1000 ∧ l1.all isWord = true := by
      unfold boots at hb
      simp only [Bool.and_eq_true, beq_iff_eq, decide_eq_true_eq] at hb
      obtain ⟨⟨h1, h2⟩, h3⟩ := hb
      refine ⟨?_, ?_, ?_, ?_, h1, h2, h3⟩ <;>
      · revert h1
        unfold impl_ValidImage.f
        repeat' split
        all_goals simp
        all_goals (intros; omega)
    obtain ⟨n0, n1, d0, d1, hV2, hl, hw⟩ := hv
    obtain ⟨n, rfl⟩ := Int.eq_ofNat_of_zero_le n0
    obtain ⟨d, rfl⟩ := Int.eq_ofNat_of_zero_le d0
    refine (b_Boot AnyB K1 l0 n d c0 A0 v1 l1 w h0 hc0 h1 hV2 (by omega) (by omega) hl hw).mono ?_
    rintro e w' ⟨gr, gd, gs, aI, cI, rfl, g0, g1, g2, e1, e2, e3, B0, B1, B2, O, hE⟩
    refine ⟨_, _, _, _, _, rfl, Kd.R_mono (own_of_blk (xs := (List.replicate 32 0).set 2 1073741824) B0 g0 (by rw [made_enc]; simp [encs, List.map_set]) (by simp) (by decide)) (fun _ _ => trivial),
      Kd.R_mono (own_of_blk (xs := List.replicate n 0) B1 g1 (made_enc _ _) (by simp) (by unfold maxLen; omega)) (fun k hk => by subst hk; simpa [Value.ownBlock] using e3),
      Kd.R_mono (own_of_blk (xs := List.replicate d 0) B2 g2 (made_enc _ _) (by simp) (by unfold maxLen; omega)) (fun k hk => by subst hk; simpa [Value.ownBlock] using Ne.symm e3),
      Kd.R_of_own O (fun k _ => by simp [Value.ownBlock]), Kd.R_nil _ _ _ _ _, hE⟩
end Go.Proofs.Ytjgfiplhaanflaa
