/- impl.Boot: the five makers of its literal, in every order. -/
import Derived.Test.YtjgfiplhaanflaaBootA
import Derived.Test.YtjgfiplhaanflaaPar
import Derived.Test.YtjgfiplhaanflaaPFnExactBootx2
import Derived.Laws.MakeOwn
import Derived.Deep.RegionHeld3
import Derived.Deep.DeepCutAuto
import Derived.Deep.CutRange
set_option linter.unusedVariables false
set_option linter.unusedSimpArgs false
namespace Go.Proofs.Ytjgfiplhaanflaa
open Go Go.RowKit Md Go.Proofs.YtjgfiplhaanflaaW.PrintWords Go.Proofs.YtjgfiplhaanflaaW.PrintLast Go.Proofs.Ytjgfiplhaanflaa.PFnExactBoot

theorem info_u32 : (Try.prog.info? 32).map (fun i => (i.zero, i.size, i.bytes)) = some (some (.int .u32 0), 1, 4) := by kernel_rfl
theorem info_u8 : (Try.prog.info? 5).map (fun i => (i.zero, i.size, i.bytes)) = some (some (.int .u8 0), 1, 1) := by kernel_rfl
theorem run_mk32 (w : World) : (Instr.makeSlice 22 (.int .i64 32) (.int .i64 32)).run Try.prog w = .ok (.slice (some ⟨w.heap.size, 0, none⟩) 32 32) (w.alloc (.cells (madeCells #[.int .u32 0] 32) 32)) := by
  obtain ⟨i0, hi, hz0, hz1, hz2⟩ := info_parts info_u32
  have := run_make (P := Try.prog) w 22 32 i0 (.int .u32 0) Try.underlying22 hi hz0 .i64 .i64 32 32 (by decide) (by decide) (by rw [hz2]; decide) (by decide)
  rw [hz1] at this
  exact this
theorem run_mk8 (n : Nat) (hn : n ≤ 1048576) (w : World) : (Instr.makeSlice 33 (.int .i64 n) (.int .i64 n)).run Try.prog w = .ok (.slice (some ⟨w.heap.size, 0, none⟩) n n) (w.alloc (.cells (madeCells #[.int .u8 0] n) 5)) := by
  obtain ⟨i0, hi, hz0, hz1, hz2⟩ := info_parts info_u8
  have := run_make (P := Try.prog) w 33 5 i0 (.int .u8 0) Try.underlying33 hi hz0 .i64 .i64 n n (by omega) (by omega) (by rw [hz2]; omega) (by omega)
  rw [hz1] at this
  simpa [Value.cells] using this

theorem own_shape {w : World} {b e sz n : Nat} {v : Value} {xs : List Value} (h : w.ownsRow b e sz v n xs) : ∃ a c, v = .slice a n c := by
  obtain ⟨_, h2⟩ := h
  rcases h2 with ⟨rfl, rfl⟩ | ⟨g, cap, cur, rfl, _⟩
  · exact ⟨_, _, rfl⟩
  · exact ⟨_, _, rfl⟩
theorem Ext.setB {w w' : World} (h : Ext w w') {b : Nat} (hb : w.heap.size ≤ b) (o : Nat) (v : Value) : Ext w (w'.setCell ⟨b, o, none⟩ v) := Below.setCell h (p := ⟨b, o, none⟩) hb v
theorem Ext.cellq {w w' : World} (h : Ext w w') (b o : Nat) (hb : b < w.heap.size) : w'.cell? ⟨b, o, none⟩ = w.cell? ⟨b, o, none⟩ := by
  simp [World.cell?, h.block b hb]
theorem Ext.frozq {w w' : World} (h : Ext w w') (b o : Nat) (hb : b < w.heap.size) : w'.frozen? ⟨b, o, none⟩ = w.frozen? ⟨b, o, none⟩ := by
  simp [World.frozen?, h.block b hb]
theorem Blk.set0 {w : World} {g t : Nat} {a0 a1 a2 a3 a4 a5 a6 a7 : Value} (h : Blk w g t #[a0, a1, a2, a3, a4, a5, a6, a7]) (v0 v1 v2 v3 : Value) :
    Blk ((((w.setCell ⟨g, 0, none⟩ v0).setCell ⟨g, 1, none⟩ v1).setCell ⟨g, 2, none⟩ v2).setCell ⟨g, 3, none⟩ v3) g t #[v0, v1, v2, v3, a4, a5, a6, a7] := by
  have h0 := h.set 0 v0
  have h1 := h0.set 1 v1
  have h2 := h1.set 2 v2
  have h3 := h2.set 3 v3
  simpa using h3
theorem Blk.set4 {w : World} {g t : Nat} {a0 a1 a2 a3 a4 a5 a6 a7 : Value} (h : Blk w g t #[a0, a1, a2, a3, a4, a5, a6, a7]) (v0 v1 v2 v3 : Value) :
    Blk ((((w.setCell ⟨g, 4, none⟩ v0).setCell ⟨g, 5, none⟩ v1).setCell ⟨g, 6, none⟩ v2).setCell ⟨g, 7, none⟩ v3) g t #[a0, a1, a2, a3, v0, v1, v2, v3] := by
  have h0 := h.set 4 v0
  have h1 := h0.set 5 v1
  have h2 := h1.set 6 v2
  have h3 := h2.set 7 v3
  simpa using h3
theorem Blk.set8 {w : World} {g t : Nat} {a0 a1 a2 a3 a4 a5 a6 a7 : Value} (h : Blk w g t #[a0, a1, a2, a3, a4, a5, a6, a7]) (v0 v1 v2 v3 v4 v5 v6 v7 : Value) :
    Blk ((((((((w.setCell ⟨g, 0, none⟩ v0).setCell ⟨g, 1, none⟩ v1).setCell ⟨g, 2, none⟩ v2).setCell ⟨g, 3, none⟩ v3).setCell ⟨g, 4, none⟩ v4).setCell ⟨g, 5, none⟩ v5).setCell ⟨g, 6, none⟩ v6).setCell ⟨g, 7, none⟩ v7) g t #[v0, v1, v2, v3, v4, v5, v6, v7] :=
  Blk.set4 (a0 := v0) (a1 := v1) (a2 := v2) (a3 := v3) (Blk.set0 h v0 v1 v2 v3) v4 v5 v6 v7
theorem Blk.other8 {w : World} {g b t : Nat} {arr : Array Value} (h : Blk w b t arr) (hne : b ≠ g) (v0 v1 v2 v3 v4 v5 v6 v7 : Value) :
    Blk ((((((((w.setCell ⟨g, 0, none⟩ v0).setCell ⟨g, 1, none⟩ v1).setCell ⟨g, 2, none⟩ v2).setCell ⟨g, 3, none⟩ v3).setCell ⟨g, 4, none⟩ v4).setCell ⟨g, 5, none⟩ v5).setCell ⟨g, 6, none⟩ v6).setCell ⟨g, 7, none⟩ v7) b t arr :=
  Blk.setOther (Blk.setOther (Blk.setOther (Blk.setOther (Blk.setOther (Blk.setOther (Blk.setOther (Blk.setOther h hne v0) hne v1) hne v2) hne v3) hne v4) hne v5) hne v6) hne v7
theorem own_setB {w : World} {base e sz n B j : Nat} {v u : Value} {xs : List Value} (h : w.ownsRow base e sz v n xs) (hne : blkOf v ≠ some B) : (w.setCell ⟨B, j, none⟩ u).ownsRow base e sz v n xs := by
  obtain ⟨h1, h2⟩ := h
  refine ⟨h1, ?_⟩
  rcases h2 with h2 | ⟨g, cap, cur, rfl, hg, hh, r⟩
  · exact .inl h2
  · refine .inr ⟨g, cap, cur, rfl, hg, ?_, r⟩
    rw [Below.heap_setCell _ _ _ _ (by intro e; apply hne; simp [blkOf, e])]
    exact hh
theorem own_set8 {w : World} {base e sz n g : Nat} {v : Value} {xs : List Value} (h : w.ownsRow base e sz v n xs) (hne : blkOf v ≠ some g) (v0 v1 v2 v3 v4 v5 v6 v7 : Value) :
    ((((((((w.setCell ⟨g, 0, none⟩ v0).setCell ⟨g, 1, none⟩ v1).setCell ⟨g, 2, none⟩ v2).setCell ⟨g, 3, none⟩ v3).setCell ⟨g, 4, none⟩ v4).setCell ⟨g, 5, none⟩ v5).setCell ⟨g, 6, none⟩ v6).setCell ⟨g, 7, none⟩ v7).ownsRow base e sz v n xs :=
  own_setB (own_setB (own_setB (own_setB (own_setB (own_setB (own_setB (own_setB h hne) hne) hne) hne) hne) hne) hne) hne
theorem ext_set8 {w0 w : World} {g : Nat} (h : Ext w0 w) (hg : w0.heap.size ≤ g) (v0 v1 v2 v3 v4 v5 v6 v7 : Value) :
    Ext w0 ((((((((w.setCell ⟨g, 0, none⟩ v0).setCell ⟨g, 1, none⟩ v1).setCell ⟨g, 2, none⟩ v2).setCell ⟨g, 3, none⟩ v3).setCell ⟨g, 4, none⟩ v4).setCell ⟨g, 5, none⟩ v5).setCell ⟨g, 6, none⟩ v6).setCell ⟨g, 7, none⟩ v7) :=
  Ext.setB (Ext.setB (Ext.setB (Ext.setB (Ext.setB (Ext.setB (Ext.setB (Ext.setB h hg _ _) hg _ _) hg _ _) hg _ _) hg _ _) hg _ _) hg _ _) hg _ _
theorem own_blk {w : World} {base e sz n b : Nat} {v : Value} {xs : List Value} (h : w.ownsRow base e sz v n xs) (hb : blkOf v = some b) : base ≤ b ∧ b < w.heap.size := by
  obtain ⟨_, h2⟩ := h
  rcases h2 with ⟨rfl, rfl⟩ | ⟨g, cap, cur, rfl, hg, hh, _⟩
  · cases hb
  · cases hb
    exact ⟨hg, (Array.getElem?_eq_some_iff.1 hh).1⟩
def BGood (l1 : List Int) (base : Nat) (Z32 ZN ZD : Array Value) (n d : Nat) (i : Nat) (w : World) (v : Value) : Prop :=
  match i with
  | 0 => ∃ g, v = .slice (some ⟨g, 0, none⟩) 32 32 ∧ Blk w g 32 Z32
  | 3 => ∃ g, v = .slice (some ⟨g, 0, none⟩) n n ∧ Blk w g 5 ZN
  | 6 => ∃ g, v = .slice (some ⟨g, 0, none⟩) d d ∧ Blk w g 5 ZD
  | 8 => ∃ a c, v = .slice a l1.length c ∧ w.ownsRow base 2 1 v l1.length (l1.map fun x => .int .i64 x)
  | _ => ∃ g, v = .pointer (some ⟨g, 0, none⟩) ∧ Blk w g 35 #[.slice none 0 0, .int .u32 0, .slice none 0 0, .slice none 0 0, .slice none 0 0, .slice none 0 0, .int .u32 0, .int .i64 0]
theorem BGood.ext {l1 : List Int} {base : Nat} {Z32 ZN ZD : Array Value} {n d : Nat} {w w' : World} (k : Ext w w') : ∀ (i : Nat) (v : Value), BGood l1 base Z32 ZN ZD n d i w v → BGood l1 base Z32 ZN ZD n d i w' v := by
  intro i v h
  unfold BGood at h ⊢
  split at h
  · obtain ⟨g, rfl, hb⟩ := h; exact ⟨g, rfl, hb.ext k⟩
  · obtain ⟨g, rfl, hb⟩ := h; exact ⟨g, rfl, hb.ext k⟩
  · obtain ⟨g, rfl, hb⟩ := h; exact ⟨g, rfl, hb.ext k⟩
  · obtain ⟨a, c, e, hb⟩ := h; exact ⟨a, c, e, pw_own_below hb k⟩
  · obtain ⟨g, rfl, hb⟩ := h; exact ⟨g, rfl, hb.ext k⟩
def BootMade (w : World) (n d : Nat) (l1 : List Int) (Z32 ZN ZD : Array Value) (e : Ending) (w' : World) : Prop :=
  ∃ gr gd gs aI cI, e = .returned (.agg #[.slice (some ⟨gr, 0, none⟩) 32 32, .int .u32 4096, .slice (some ⟨gd, 0, none⟩) n n, .slice (some ⟨gs, 0, none⟩) d d, .slice aI l1.length cI, .slice none 0 0, .int .u32 1073741824, .int .i64 0]) ∧
    w.heap.size ≤ gr ∧ w.heap.size ≤ gd ∧ w.heap.size ≤ gs ∧ gr ≠ gd ∧ gr ≠ gs ∧ gd ≠ gs ∧ Blk w' gr 32 (Z32.setIfInBounds 2 (.int .u32 1073741824)) ∧ Blk w' gd 5 ZN ∧ Blk w' gs 5 ZD ∧
    w'.ownsRow w.heap.size 2 1 (.slice aI l1.length cI) l1.length (l1.map fun x => .int .i64 x) ∧ Ext w w'
set_option maxHeartbeats 0 in
set_option maxRecDepth 1000000 in
theorem b_Boot (K K1 : Foot) (l0 : List Int) (n d : Nat) (c0 : Nat) (A0 : Option Addr) (v1 : Value) (l1 : List Int) (w : World)
    (h0 : (Kd.int .u32).C w A0 l0.length l0) (hc0 : l0.length ≤ c0) (h1 : SlInt .i64 K1 w v1 l1) (hV : impl_ValidImage.f l0 n d = some true) (hn : n ≤ 1048576) (hd : d ≤ 1048576) (hl : l1.length ≤ 1000) (hW : l1.all isWord = true) :
    Calls Try.prog 12 #[.agg #[.slice A0 l0.length c0, .int .i64 n, .int .i64 d], v1] w (BootMade w n d l1 (madeCells #[.int .u32 0] 32) (madeCells #[.int .u8 0] n) (madeCells #[.int .u8 0] d)) := by
  have hu27 := Try.underlying27
  have hu35 := Try.underlying35
  obtain ⟨a1, n1, c1, rfl⟩ := h1.shape
  have H0 := Lib.hid h0
  have H1 := Lib.hid h1
  have HVl := Lib.hid hV
  have HW := Lib.hid hW
  have hlen : n1 ≤ 1000 := by have := h1.len.1; omega
  have HL := Lib.hid hl
  have t0 : ¬ (1000 : Int) < (n1 : Int) := by omega
  have M32 := run_mk32
  have MN := run_mk8 n hn
  have MD := run_mk8 d hd
  have HZ2 : Hid ((madeCells #[.int .u32 0] 32)[2]? = some (Value.int .u32 0)) := Lib.hid (by simp [madeCells])
  generalize madeCells #[.int .u32 0] 32 = Z32 at M32 HZ2 ⊢
  generalize madeCells #[.int .u8 0] n = ZN at MN ⊢
  generalize madeCells #[.int .u8 0] d = ZD at MD ⊢
  clear h0 h1 hV hW hl
  go_enter Try.func12, Try.ntmps12
  go_upto_region 3 with (first
    | (go_at_call 8; ((refine (impl_ValidImage.calls A0 c0 l0 n d true _ ?_ hc0 HVl.out).mono ?_); exact Kd.C_below H0.out (by (repeat' (first | assumption | exact Ext.refl _ | refine Ext.drew ?_ | refine Ext.alloc ?_ _ | refine Ext.set ?_ (by first | omega | (simp; done) | (simp; omega)) _ _))); rintro e wv ⟨rfl, hXa⟩; have hX1 : Ext w wv := Ext.trans (by (repeat' (first | assumption | exact Ext.refl _ | refine Ext.drew ?_ | refine Ext.alloc ?_ _ | refine Ext.set ?_ (by first | omega | (simp; done) | (simp; omega)) _ _))) hXa; have hc1 : wv.cell? ⟨w.heap.size, 1, none⟩ = some (.int .i64 (n : Int)) := Ext.cell hXa (by first | (simp; done) | (simp [go_sem]; done) | (simp [*]; done) | go_simp); have hc2 : wv.cell? ⟨w.heap.size, 2, none⟩ = some (.int .i64 (d : Int)) := Ext.cell hXa (by first | (simp; done) | (simp [go_sem]; done) | (simp [*]; done) | go_simp); have BR : Blk wv (w.heap.size + 1) 35 #[.slice none 0 0, .int .u32 0, .slice none 0 0, .slice none 0 0, .slice none 0 0, .slice none 0 0, .int .u32 0, .int .i64 0] := Blk.ext (by have := Blk.alloc (w.alloc (.cells #[.slice A0 l0.length c0, .int .i64 n, .int .i64 d] 27)) 35 #[.slice none 0 0, .int .u32 0, .slice none 0 0, .slice none 0 0, .slice none 0 0, .slice none 0 0, .int .u32 0, .int .i64 0]; simpa using this) hXa; clear hXa))
    | (go_at_call 24; (refine (b_words K1 l1 _ _ ?_).mono ?_); exact Sl.ext H1.out (by (repeat' (first | assumption | exact Ext.refl _ | refine Ext.drew ?_ | refine Ext.alloc ?_ _ | refine Ext.set ?_ (by first | omega | (simp; done) | (simp; omega)) _ _))) (fun _ _ h => h); rw [HW.out]; rintro e w' ⟨rfl, rfl⟩))
  refine start_ (n := 12) (S := (fun w' => w'.cell? ⟨w.heap.size, 1, none⟩ = some (.int .i64 n) ∧ w'.cell? ⟨w.heap.size, 2, none⟩ = some (.int .i64 d) ∧ Ext wv w')) (ds := []) #[false, false, false, false, false, false, false, false, false, false, false, false] (by kernel_rfl) rfl rfl ?hS (fun hHeld => ?_)
  case hS => exact ⟨Ext.cell ((Ext.refl wv).drew) hc1, Ext.cell ((Ext.refl wv).drew) hc2, (Ext.refl wv).drew⟩
  refine pure_ (i := 1) (N := some 21) (v := ?_) (a' := ?_) #[false, true, false, false, false, false, false, false, false, false, false, false] rfl rfl (by kernel_rfl) (fun _ _ _ h => h) (Or.inl ⟨by rfl, ?_⟩) ?_ ?_
  rotate_left
  · intro w'
    go_simp
    with_reducible rfl
  rotate_left
  · simp only [Act.put, List.setIfInBounds_toArray, List.set_cons_zero, List.set_cons_succ, i64_w, i32_w]
    rfl
  refine take_ (i := 2) (N := some 22) (v := ?_) (a' := ?_) #[false, true, true, false, false, false, false, false, false, false, false, false] rfl rfl (by kernel_rfl) (fun _ _ _ h => h) (Or.inl ⟨by rfl, ?_⟩) hHeld ?_ ?_
  rotate_left
  · rintro w' ⟨s1, s2, s3⟩
    go_simp
    with_reducible rfl
  rotate_left
  · simp only [Act.put, List.setIfInBounds_toArray, List.set_cons_zero, List.set_cons_succ, i64_w, i32_w]
    rfl
  refine pure_ (i := 4) (N := some 24) (v := ?_) (a' := ?_) #[false, true, true, false, true, false, false, false, false, false, false, false] rfl rfl (by kernel_rfl) (fun _ _ _ h => h) (Or.inl ⟨by rfl, ?_⟩) ?_ ?_
  rotate_left
  · intro w'
    go_simp
    with_reducible rfl
  rotate_left
  · simp only [Act.put, List.setIfInBounds_toArray, List.set_cons_zero, List.set_cons_succ, i64_w, i32_w]
    rfl
  refine take_ (i := 5) (N := some 25) (v := ?_) (a' := ?_) #[false, true, true, false, true, true, false, false, false, false, false, false] rfl rfl (by kernel_rfl) (fun _ _ _ h => h) (Or.inl ⟨by rfl, ?_⟩) hHeld ?_ ?_
  rotate_left
  · rintro w' ⟨s1, s2, s3⟩
    go_simp
    with_reducible rfl
  rotate_left
  · simp only [Act.put, List.setIfInBounds_toArray, List.set_cons_zero, List.set_cons_succ, i64_w, i32_w]
    rfl
  refine pure_ (i := 7) (N := some 27) (v := ?_) (a' := ?_) #[false, true, true, false, true, true, false, true, false, false, false, false] rfl rfl (by kernel_rfl) (fun _ _ _ h => h) (Or.inl ⟨by rfl, ?_⟩) ?_ ?_
  rotate_left
  · intro w'
    go_simp
    with_reducible rfl
  rotate_left
  · simp only [Act.put, List.setIfInBounds_toArray, List.set_cons_zero, List.set_cons_succ, i64_w, i32_w]
    rfl
  refine par_ [0, 3, 6, 8, 10] [0, 3, 6, 8] (fun o => { tmps := #[.agg #[.slice A0 l0.length c0, .int .i64 n, .int .i64 d], .slice a1 n1 c1, .pointer (some ⟨w.heap.size, 0, none⟩), undef, .pointer (some ⟨w.heap.size + 1, 0, none⟩), (o 10).getD undef,
      .agg #[.slice A0 l0.length c0, .int .i64 n, .int .i64 d], .bool true, .bool false, .bool false, .slice a1 n1 c1, .int .i64 n1, .bool (decide ((1000 : Int) < n1)), .bool (decide ((1000 : Int) < n1)), .bool (decide ((1000 : Int) < n1)),
      .slice a1 n1 c1, .bool true, .bool false, .bool (decide ((1000 : Int) < n1)), undef, (o 0).getD undef, .pointer (some ⟨w.heap.size, 1, none⟩), .int .i64 n, (o 3).getD undef, .pointer (some ⟨w.heap.size, 2, none⟩), .int .i64 d, (o 6).getD undef,
      .slice a1 n1 c1, (o 8).getD undef, undef, undef, undef, undef, undef], defers := [] }) (fun o => #[(o 0).isSome, true, true, (o 3).isSome, true, true, (o 6).isSome, true, (o 8).isSome, false, (o 10).isSome, false])
    (MInv (BGood l1 wv.heap.size Z32 ZN ZD n d) wv.drew) 2 (by decide) (by decide) (by decide) ?_ ?_ ?_ ?_ ?_ 5 (fun _ => none) wv.drew rfl (MInv.start _ _) hHeld
  case refine_1 =>
    intro o hne
    revert hne
    simp only [undone, List.filter]
    generalize o 0 = x0, o 3 = x3, o 6 = x6, o 8 = x8, o 10 = x10
    cases x0 <;> cases x3 <;> cases x6 <;> cases x8 <;> cases x10 <;> first | (intro hne; exact absurd rfl hne) | (intro _; kernel_rfl)
  case refine_2 =>
    intro o i v hi
    simp only [List.mem_cons, List.not_mem_nil, or_false] at hi
    rcases hi with rfl | rfl | rfl | rfl | rfl <;> simp [upd]
  case refine_3 =>
    intro i hi oi hoi o v
    simp only [List.mem_cons, List.not_mem_nil, or_false] at hi
    rcases hi with rfl | rfl | rfl | rfl | rfl <;> (obtain rfl := Option.some.inj hoi; simp [Act.put, upd])
  case refine_4 =>
    intro i hi
    simp only [List.mem_cons, List.not_mem_nil, or_false] at hi
    rcases hi with rfl | rfl | rfl | rfl | rfl
    · refine ⟨_, rfl, fun o w1 ho hI hS K hK => ?_⟩
      obtain ⟨s1, s2, s3⟩ := hS
      have hX : Ext w1 (w1.alloc (.cells Z32 32)) := (Ext.refl w1).alloc _
      refine value_ (N := some 20) (w1 := w1.alloc (.cells Z32 32)) (v := .slice (some ⟨w1.heap.size, 0, none⟩) 32 32) (by rfl) rfl ?_ (hK _ _ ⟨Ext.cell hX s1, Ext.cell hX s2, Ext.trans s3 hX⟩ (MInv.step hI hX (BGood.ext hX) ⟨_, rfl, Blk.alloc _ _ _⟩ (fun b hb => by cases hb; exact ⟨Nat.le_refl _, by simp⟩)))
      go_simp
      first | done | rfl | (constructor <;> rfl)
    · refine ⟨_, rfl, fun o w1 ho hI hS K hK => ?_⟩
      obtain ⟨s1, s2, s3⟩ := hS
      have hX : Ext w1 (w1.alloc (.cells ZN 5)) := (Ext.refl w1).alloc _
      refine value_ (N := some 23) (w1 := w1.alloc (.cells ZN 5)) (v := .slice (some ⟨w1.heap.size, 0, none⟩) n n) (by rfl) rfl ?_ (hK _ _ ⟨Ext.cell hX s1, Ext.cell hX s2, Ext.trans s3 hX⟩ (MInv.step hI hX (BGood.ext hX) ⟨_, rfl, Blk.alloc _ _ _⟩ (fun b hb => by cases hb; exact ⟨Nat.le_refl _, by simp⟩)))
      go_simp
      first | done | rfl | (constructor <;> rfl)
    · refine ⟨_, rfl, fun o w1 ho hI hS K hK => ?_⟩
      obtain ⟨s1, s2, s3⟩ := hS
      have hX : Ext w1 (w1.alloc (.cells ZD 5)) := (Ext.refl w1).alloc _
      refine value_ (N := some 26) (w1 := w1.alloc (.cells ZD 5)) (v := .slice (some ⟨w1.heap.size, 0, none⟩) d d) (by rfl) rfl ?_ (hK _ _ ⟨Ext.cell hX s1, Ext.cell hX s2, Ext.trans s3 hX⟩ (MInv.step hI hX (BGood.ext hX) ⟨_, rfl, Blk.alloc _ _ _⟩ (fun b hb => by cases hb; exact ⟨Nat.le_refl _, by simp⟩)))
      go_simp
      first | done | rfl | (constructor <;> rfl)
    · refine ⟨_, rfl, fun o w1 ho hI hS K hK => ?_⟩
      obtain ⟨s1, s2, s3⟩ := hS
      refine goes_ (N := some 28) Try.func25 (by kernel_rfl) rfl #[.slice a1 n1 c1] (by rfl) rfl rfl (by simp [Act.eval]) ?_
      refine (b_Clone K1 _ l1 _ (Sl.ext H1.out (Ext.trans hX1 s3) (fun _ _ h => h)) (by have := HL.out; omega)).mono ?_
      rintro e3 w3 ⟨vI, rfl, hV, hX⟩
      obtain ⟨aI, cI, rfl⟩ := own_shape hV
      exact ⟨_, rfl, hK _ _ ⟨Ext.cell hX s1, Ext.cell hX s2, Ext.trans s3 hX⟩ (MInv.step hI hX (BGood.ext hX) ⟨_, _, rfl, own_weakB hV s3.size⟩ (fun b hb => own_blk hV hb))⟩
    · refine ⟨_, rfl, fun o w1 ho hI hS K hK => ?_⟩
      obtain ⟨s1, s2, s3⟩ := hS
      have hX : Ext w1 (w1.alloc (.cells #[.slice none 0 0, .int .u32 0, .slice none 0 0, .slice none 0 0, .slice none 0 0, .slice none 0 0, .int .u32 0, .int .i64 0] 35)) := (Ext.refl w1).alloc _
      refine value_ (N := some 5) (w1 := w1.alloc (.cells #[.slice none 0 0, .int .u32 0, .slice none 0 0, .slice none 0 0, .slice none 0 0, .slice none 0 0, .int .u32 0, .int .i64 0] 35)) (v := .pointer (some ⟨w1.heap.size, 0, none⟩)) (by rfl) rfl ?_ (hK _ _ ⟨Ext.cell hX s1, Ext.cell hX s2, Ext.trans s3 hX⟩ (MInv.step hI hX (BGood.ext hX) ⟨_, rfl, Blk.alloc _ _ _⟩ (fun b hb => by cases hb; exact ⟨Nat.le_refl _, by simp⟩)))
      go_simp
      first | done | rfl | (constructor <;> rfl)
  case refine_5 =>
    intro o w1 hall hI hS
    obtain ⟨s1, s2, s3⟩ := hS
    obtain ⟨v0, h0⟩ := Option.ne_none_iff_exists'.1 (hall 0 (by decide))
    obtain ⟨v3, h3⟩ := Option.ne_none_iff_exists'.1 (hall 3 (by decide))
    obtain ⟨v6, h6⟩ := Option.ne_none_iff_exists'.1 (hall 6 (by decide))
    obtain ⟨v8, h8⟩ := Option.ne_none_iff_exists'.1 (hall 8 (by decide))
    obtain ⟨gr, rfl, B0⟩ := hI.good 0 v0 h0
    obtain ⟨gd, rfl, B3⟩ := hI.good 3 v3 h3
    obtain ⟨gs, rfl, B6⟩ := hI.good 6 v6 h6
    obtain ⟨aI, cI, rfl, HV⟩ := hI.good 8 v8 h8
    have l0' := hI.lt 0 _ gr h0 rfl
    have l3' := hI.lt 3 _ gd h3 rfl
    have l6' := hI.lt 6 _ gs h6 rfl
    have n36 := hI.ne 3 6 _ _ gd gs (by decide) h3 h6 rfl rfl
    have n03 := hI.ne 0 3 _ _ gr gd (by decide) h0 h3 rfl rfl
    have n06 := hI.ne 0 6 _ _ gr gs (by decide) h0 h6 rfl rfl
    cases h10 : o 10 with
    | none =>
      simp only [h0, h3, h6, h8, h10, Option.getD_some, Option.getD_none, Option.isSome_some, Option.isSome_none]
      rw [show (undone [0, 3, 6, 8, 10] o).length = 1 by simp [undone, List.filter, h0, h3, h6, h8, h10]]
      refine pure_ (i := 9) (N := some 29) (v := ?_) (a' := ?_) #[true, true, true, true, true, true, true, true, true, true, false, false] rfl rfl (by kernel_rfl) (fun _ _ _ h => h) (Or.inl ⟨by rfl, ?_⟩) ?_ ?_
      rotate_left
      · intro w'
        go_simp
        with_reducible rfl
      rotate_left
      · simp only [Act.put, List.setIfInBounds_toArray, List.set_cons_zero, List.set_cons_succ, i64_w, i32_w]
        rfl
      refine one_ (i := 10) (N := some 5) #[true, true, true, true, true, true, true, true, true, true, true, false] rfl rfl (by kernel_rfl) (by decide) (fun K hK => ?_)
      refine value_ (w1 := ?_) (v := ?_) (by rfl) rfl ?_ ?_
      rotate_left 2
      · go_simp
        constructor
        · rfl
        · rfl
      have hX : Ext w1 (w1.alloc (.cells #[.slice none 0 0, .int .u32 0, .slice none 0 0, .slice none 0 0, .slice none 0 0, .slice none 0 0, .int .u32 0, .int .i64 0] 35)) := (Ext.refl w1).alloc _
      refine hK.out _ _ ⟨Ext.cell hX s1, Ext.cell hX s2, Ext.trans s3 hX⟩ (fun hHeld => ?_)
      clear hK K
      refine norm_ (a' := ?_) ?_ ?_
      rotate_left
      · show Act.put _ (some 5) _ = _
        simp only [Act.put, List.setIfInBounds_toArray, List.set_cons_zero, List.set_cons_succ, i64_w, i32_w]
        rfl
      have B := Blk.alloc w1 35 #[.slice none 0 0, .int .u32 0, .slice none 0 0, .slice none 0 0, .slice none 0 0, .slice none 0 0, .int .u32 0, .int .i64 0]
      have hgb : wv.heap.size ≤ w1.heap.size := s3.size
      have C0 := B0.ext hX
      have C3 := B3.ext hX
      have C6 := B6.ext hX
      have CV := pw_own_below HV hX
      obtain ⟨g, hg⟩ : ∃ g, g = w1.heap.size := ⟨_, rfl⟩
      obtain ⟨w2, hw2⟩ : ∃ w2, w2 = w1.alloc (.cells #[.slice none 0 0, .int .u32 0, .slice none 0 0, .slice none 0 0, .slice none 0 0, .slice none 0 0, .int .u32 0, .int .i64 0] 35) := ⟨_, rfl⟩
      rw [← hw2] at B C0 C3 C6 CV hX hHeld ⊢
      rw [← hg] at B hgb ⊢
      have hgr : gr ≠ g := by omega
      have hgd : gd ≠ g := by omega
      have hgs : gs ≠ g := by omega
      have hgv : blkOf (.slice aI l1.length cI) ≠ some g := fun e => by have := hI.lt 8 _ g h8 e; omega
      have HG := Lib.hid hg
      clear hg hw2
      refine one_ (i := 11) (N := none) #[true, true, true, true, true, true, true, true, true, true, true, true] rfl rfl (by kernel_rfl) (by decide) (fun K hK => ?_)
      have z0 : w2.cell? ⟨g, 0, none⟩ = some (.slice none 0 0) := (B.cell 0).trans rfl
      have f0 : w2.frozen? ⟨g, 0, none⟩ = false := B.frozen 0
      have z1 : w2.cell? ⟨g, 1, none⟩ = some (.int .u32 0) := (B.cell 1).trans rfl
      have f1 : w2.frozen? ⟨g, 1, none⟩ = false := B.frozen 1
      have z2 : w2.cell? ⟨g, 2, none⟩ = some (.slice none 0 0) := (B.cell 2).trans rfl
      have f2 : w2.frozen? ⟨g, 2, none⟩ = false := B.frozen 2
      have z3 : w2.cell? ⟨g, 3, none⟩ = some (.slice none 0 0) := (B.cell 3).trans rfl
      have f3 : w2.frozen? ⟨g, 3, none⟩ = false := B.frozen 3
      have z4 : w2.cell? ⟨g, 4, none⟩ = some (.slice none 0 0) := (B.cell 4).trans rfl
      have f4 : w2.frozen? ⟨g, 4, none⟩ = false := B.frozen 4
      have z5 : w2.cell? ⟨g, 5, none⟩ = some (.slice none 0 0) := (B.cell 5).trans rfl
      have f5 : w2.frozen? ⟨g, 5, none⟩ = false := B.frozen 5
      have z6 : w2.cell? ⟨g, 6, none⟩ = some (.int .u32 0) := (B.cell 6).trans rfl
      have f6 : w2.frozen? ⟨g, 6, none⟩ = false := B.frozen 6
      have z7 : w2.cell? ⟨g, 7, none⟩ = some (.int .i64 0) := (B.cell 7).trans rfl
      have f7 : w2.frozen? ⟨g, 7, none⟩ = false := B.frozen 7
      have hE8 : Ext wv ((((((((w2.setCell ⟨g, 0, none⟩ (.slice (some ⟨gr, 0, none⟩) 32 32)).setCell ⟨g, 1, none⟩ (.int .u32 4096)).setCell ⟨g, 2, none⟩ (.slice (some ⟨gd, 0, none⟩) n n)).setCell ⟨g, 3, none⟩ (.slice (some ⟨gs, 0, none⟩) d d)).setCell ⟨g, 4, none⟩ (.slice aI l1.length cI)).setCell ⟨g, 5, none⟩ (.slice none 0 0)).setCell ⟨g, 6, none⟩ (.int .u32 1073741824)).setCell ⟨g, 7, none⟩ (.int .i64 0)) := Ext.setB (Ext.setB (Ext.setB (Ext.setB (Ext.setB (Ext.setB (Ext.setB (Ext.setB (Ext.trans s3 hX) hgb _ _) hgb _ _) hgb _ _) hgb _ _) hgb _ _) hgb _ _) hgb _ _) hgb _ _
      refine skip_ (w1 := ((((((((w2.setCell ⟨g, 0, none⟩ (.slice (some ⟨gr, 0, none⟩) 32 32)).setCell ⟨g, 1, none⟩ (.int .u32 4096)).setCell ⟨g, 2, none⟩ (.slice (some ⟨gd, 0, none⟩) n n)).setCell ⟨g, 3, none⟩ (.slice (some ⟨gs, 0, none⟩) d d)).setCell ⟨g, 4, none⟩ (.slice aI l1.length cI)).setCell ⟨g, 5, none⟩ (.slice none 0 0)).setCell ⟨g, 6, none⟩ (.int .u32 1073741824)).setCell ⟨g, 7, none⟩ (.int .i64 0))) (by rfl) rfl ?_ ?_
      · go_simp
        first | done | rfl | (constructor <;> rfl)
      refine hK.out _ _ ⟨Ext.cell hE8 hc1, Ext.cell hE8 hc2, hE8⟩ (fun hHeld => ?_)
      clear hK K
      refine done_ (by kernel_rfl) ?_
      obtain ⟨w5, hw5⟩ : ∃ w5, w5 = ((((((((w2.setCell ⟨g, 0, none⟩ (.slice (some ⟨gr, 0, none⟩) 32 32)).setCell ⟨g, 1, none⟩ (.int .u32 4096)).setCell ⟨g, 2, none⟩ (.slice (some ⟨gd, 0, none⟩) n n)).setCell ⟨g, 3, none⟩ (.slice (some ⟨gs, 0, none⟩) d d)).setCell ⟨g, 4, none⟩ (.slice aI l1.length cI)).setCell ⟨g, 5, none⟩ (.slice none 0 0)).setCell ⟨g, 6, none⟩ (.int .u32 1073741824)).setCell ⟨g, 7, none⟩ (.int .i64 0)) := ⟨_, rfl⟩
      rw [← hw5] at hE8 ⊢
      have D : Blk w5 g 35 #[.slice (some ⟨gr, 0, none⟩) 32 32, .int .u32 4096, .slice (some ⟨gd, 0, none⟩) n n, .slice (some ⟨gs, 0, none⟩) d d, .slice aI l1.length cI, .slice none 0 0, .int .u32 1073741824, .int .i64 0] := by rw [hw5]; exact Blk.set8 B _ _ _ _ _ _ _ _
      have D0 : Blk w5 gr 32 Z32 := by rw [hw5]; exact Blk.other8 C0 hgr _ _ _ _ _ _ _ _
      have D3 : Blk w5 gd 5 ZN := by rw [hw5]; exact Blk.other8 C3 hgd _ _ _ _ _ _ _ _
      have D6 : Blk w5 gs 5 ZD := by rw [hw5]; exact Blk.other8 C6 hgs _ _ _ _ _ _ _ _
      have DV := own_set8 CV hgv (.slice (some ⟨gr, 0, none⟩) 32 32) (.int .u32 4096) (.slice (some ⟨gd, 0, none⟩) n n) (.slice (some ⟨gs, 0, none⟩) d d) (.slice aI l1.length cI) (.slice none 0 0) (.int .u32 1073741824) (.int .i64 0)
      rw [← hw5] at DV
      clear hw5
      have d0 : w5.cell? ⟨g, 0, none⟩ = some (.slice (some ⟨gr, 0, none⟩) 32 32) := (D.cell 0).trans rfl
      have d1 : w5.cell? ⟨g, 1, none⟩ = some (.int .u32 4096) := (D.cell 1).trans rfl
      have d2 : w5.cell? ⟨g, 2, none⟩ = some (.slice (some ⟨gd, 0, none⟩) n n) := (D.cell 2).trans rfl
      have d3 : w5.cell? ⟨g, 3, none⟩ = some (.slice (some ⟨gs, 0, none⟩) d d) := (D.cell 3).trans rfl
      have d4 : w5.cell? ⟨g, 4, none⟩ = some (.slice aI l1.length cI) := (D.cell 4).trans rfl
      have d5 : w5.cell? ⟨g, 5, none⟩ = some (.slice none 0 0) := (D.cell 5).trans rfl
      have d6 : w5.cell? ⟨g, 6, none⟩ = some (.int .u32 1073741824) := (D.cell 6).trans rfl
      have d7 : w5.cell? ⟨g, 7, none⟩ = some (.int .i64 0) := (D.cell 7).trans rfl
      have y2 : w5.cell? ⟨gr, 2, none⟩ = some (.int .u32 0) := (D0.cell 2).trans HZ2.out
      have yf : w5.frozen? ⟨gr, 2, none⟩ = false := D0.frozen 2
      have r0 : w5.cell? ⟨w.heap.size + 1, 0, none⟩ = some (.slice none 0 0) := ((BR.ext hE8).cell 0).trans rfl
      have rf0 : w5.frozen? ⟨w.heap.size + 1, 0, none⟩ = false := (BR.ext hE8).frozen 0
      have r1 : w5.cell? ⟨w.heap.size + 1, 1, none⟩ = some (.int .u32 0) := ((BR.ext hE8).cell 1).trans rfl
      have rf1 : w5.frozen? ⟨w.heap.size + 1, 1, none⟩ = false := (BR.ext hE8).frozen 1
      have r2 : w5.cell? ⟨w.heap.size + 1, 2, none⟩ = some (.slice none 0 0) := ((BR.ext hE8).cell 2).trans rfl
      have rf2 : w5.frozen? ⟨w.heap.size + 1, 2, none⟩ = false := (BR.ext hE8).frozen 2
      have r3 : w5.cell? ⟨w.heap.size + 1, 3, none⟩ = some (.slice none 0 0) := ((BR.ext hE8).cell 3).trans rfl
      have rf3 : w5.frozen? ⟨w.heap.size + 1, 3, none⟩ = false := (BR.ext hE8).frozen 3
      have r4 : w5.cell? ⟨w.heap.size + 1, 4, none⟩ = some (.slice none 0 0) := ((BR.ext hE8).cell 4).trans rfl
      have rf4 : w5.frozen? ⟨w.heap.size + 1, 4, none⟩ = false := (BR.ext hE8).frozen 4
      have r5 : w5.cell? ⟨w.heap.size + 1, 5, none⟩ = some (.slice none 0 0) := ((BR.ext hE8).cell 5).trans rfl
      have rf5 : w5.frozen? ⟨w.heap.size + 1, 5, none⟩ = false := (BR.ext hE8).frozen 5
      have r6 : w5.cell? ⟨w.heap.size + 1, 6, none⟩ = some (.int .u32 0) := ((BR.ext hE8).cell 6).trans rfl
      have rf6 : w5.frozen? ⟨w.heap.size + 1, 6, none⟩ = false := (BR.ext hE8).frozen 6
      have r7 : w5.cell? ⟨w.heap.size + 1, 7, none⟩ = some (.int .i64 0) := ((BR.ext hE8).cell 7).trans rfl
      have rf7 : w5.frozen? ⟨w.heap.size + 1, 7, none⟩ = false := (BR.ext hE8).frozen 7
      have k0 := BR.lt
      have k9 : wv.drew.heap.size = wv.heap.size := rfl
      rw [k9] at l0' l3' l6'
      have k1 : ¬ gr = g := hgr
      have k2 : ¬ g = gr := fun e => hgr e.symm
      have k3 : ¬ w.heap.size + 1 = gr := by omega
      have k4 : ¬ gr = w.heap.size + 1 := by omega
      have k5 : ¬ w.heap.size + 1 = g := by omega
      have k6 : ¬ g = w.heap.size + 1 := by omega
      clear z0 z1 z2 z3 z4 z5 z6 z7 f0 f1 f2 f3 f4 f5 f6 f7
      go_wp2
      have BF := Blk.set8 (Blk.setOther (a := ⟨gr, 2, none⟩) (BR.ext hE8) k3 (.int .u32 1073741824)) (.slice (some ⟨gr, 0, none⟩) 32 32) (.int .u32 4096) (.slice (some ⟨gd, 0, none⟩) n n) (.slice (some ⟨gs, 0, none⟩) d d) (.slice aI l1.length cI) (.slice none 0 0) (.int .u32 1073741824) (.int .i64 0)
      refine bodyPost_ret (results_cell_row rfl _ _ (w.heap.size + 1) 35 _ (0, 0) _ (by rfl) BF hu35 (by rfl) (by kernel_rfl)) rfl ?_
      have k7 : w.heap.size ≤ wv.heap.size := hX1.size
      have e3 : gd ≠ w.heap.size + 1 := by omega
      have e6 : gs ≠ w.heap.size + 1 := by omega
      have ev : blkOf (.slice aI l1.length cI) ≠ some (w.heap.size + 1) := fun e => by have := hI.lt 8 _ _ h8 e; omega
      have er : blkOf (.slice aI l1.length cI) ≠ some gr := fun e => hI.ne 0 8 _ _ gr gr (by decide) h0 h8 rfl e rfl
      exact ⟨gr, gd, gs, aI, cI, rfl, by omega, by omega, by omega, n03, n06, n36, Blk.other8 (Blk.set D0 2 _) k4 _ _ _ _ _ _ _ _, Blk.other8 (Blk.setOther (a := ⟨gr, 2, none⟩) D3 (Ne.symm n03) _) e3 _ _ _ _ _ _ _ _,
        Blk.other8 (Blk.setOther (a := ⟨gr, 2, none⟩) D6 (Ne.symm n06) _) e6 _ _ _ _ _ _ _ _, own_weakB (own_set8 (own_setB DV er) ev _ _ _ _ _ _ _ _) (by omega),
        ext_set8 (Ext.setB (Ext.trans hX1 hE8) (by omega) _ _) (by omega) _ _ _ _ _ _ _ _⟩
    | some v10 =>
      obtain ⟨g, rfl, B⟩ := hI.good 10 v10 h10
      have l10 := hI.lt 10 _ g h10 rfl
      have k8 : wv.drew.heap.size = wv.heap.size := rfl
      have hgr : gr ≠ g := hI.ne 0 10 _ _ gr g (by decide) h0 h10 rfl rfl
      have hgd : gd ≠ g := hI.ne 3 10 _ _ gd g (by decide) h3 h10 rfl rfl
      have hgs : gs ≠ g := hI.ne 6 10 _ _ gs g (by decide) h6 h10 rfl rfl
      have hgv : blkOf (.slice aI l1.length cI) ≠ some g := fun e => hI.ne 8 10 _ _ g g (by decide) h8 h10 e rfl rfl
      have hgb : wv.heap.size ≤ g := by omega
      clear l10 k8
      simp only [h0, h3, h6, h8, h10, Option.getD_some, Option.isSome_some]
      rw [show (undone [0, 3, 6, 8, 10] o).length = 0 by simp [undone, List.filter, h0, h3, h6, h8, h10]]
      refine pure_ (i := 9) (N := some 29) (v := ?_) (a' := ?_) #[true, true, true, true, true, true, true, true, true, true, true, false] rfl rfl (by kernel_rfl) (fun _ _ _ h => h) (Or.inl ⟨by rfl, ?_⟩) ?_ ?_
      rotate_left
      · intro w'
        go_simp
        with_reducible rfl
      rotate_left
      · simp only [Act.put, List.setIfInBounds_toArray, List.set_cons_zero, List.set_cons_succ, i64_w, i32_w]
        rfl
      have C0 := B0
      have C3 := B3
      have C6 := B6
      have CV := HV
      obtain ⟨w2, hw2⟩ : ∃ w2, w2 = w1 := ⟨_, rfl⟩
      rw [← hw2] at B C0 C3 C6 CV s3 ⊢
      have hX : Ext w2 w2 := Ext.refl w2
      clear hw2
      refine one_ (i := 11) (N := none) #[true, true, true, true, true, true, true, true, true, true, true, true] rfl rfl (by kernel_rfl) (by decide) (fun K hK => ?_)
      have z0 : w2.cell? ⟨g, 0, none⟩ = some (.slice none 0 0) := (B.cell 0).trans rfl
      have f0 : w2.frozen? ⟨g, 0, none⟩ = false := B.frozen 0
      have z1 : w2.cell? ⟨g, 1, none⟩ = some (.int .u32 0) := (B.cell 1).trans rfl
      have f1 : w2.frozen? ⟨g, 1, none⟩ = false := B.frozen 1
      have z2 : w2.cell? ⟨g, 2, none⟩ = some (.slice none 0 0) := (B.cell 2).trans rfl
      have f2 : w2.frozen? ⟨g, 2, none⟩ = false := B.frozen 2
      have z3 : w2.cell? ⟨g, 3, none⟩ = some (.slice none 0 0) := (B.cell 3).trans rfl
      have f3 : w2.frozen? ⟨g, 3, none⟩ = false := B.frozen 3
      have z4 : w2.cell? ⟨g, 4, none⟩ = some (.slice none 0 0) := (B.cell 4).trans rfl
      have f4 : w2.frozen? ⟨g, 4, none⟩ = false := B.frozen 4
      have z5 : w2.cell? ⟨g, 5, none⟩ = some (.slice none 0 0) := (B.cell 5).trans rfl
      have f5 : w2.frozen? ⟨g, 5, none⟩ = false := B.frozen 5
      have z6 : w2.cell? ⟨g, 6, none⟩ = some (.int .u32 0) := (B.cell 6).trans rfl
      have f6 : w2.frozen? ⟨g, 6, none⟩ = false := B.frozen 6
      have z7 : w2.cell? ⟨g, 7, none⟩ = some (.int .i64 0) := (B.cell 7).trans rfl
      have f7 : w2.frozen? ⟨g, 7, none⟩ = false := B.frozen 7
      have hE8 : Ext wv ((((((((w2.setCell ⟨g, 0, none⟩ (.slice (some ⟨gr, 0, none⟩) 32 32)).setCell ⟨g, 1, none⟩ (.int .u32 4096)).setCell ⟨g, 2, none⟩ (.slice (some ⟨gd, 0, none⟩) n n)).setCell ⟨g, 3, none⟩ (.slice (some ⟨gs, 0, none⟩) d d)).setCell ⟨g, 4, none⟩ (.slice aI l1.length cI)).setCell ⟨g, 5, none⟩ (.slice none 0 0)).setCell ⟨g, 6, none⟩ (.int .u32 1073741824)).setCell ⟨g, 7, none⟩ (.int .i64 0)) := Ext.setB (Ext.setB (Ext.setB (Ext.setB (Ext.setB (Ext.setB (Ext.setB (Ext.setB (Ext.trans s3 hX) hgb _ _) hgb _ _) hgb _ _) hgb _ _) hgb _ _) hgb _ _) hgb _ _) hgb _ _
      refine skip_ (w1 := ((((((((w2.setCell ⟨g, 0, none⟩ (.slice (some ⟨gr, 0, none⟩) 32 32)).setCell ⟨g, 1, none⟩ (.int .u32 4096)).setCell ⟨g, 2, none⟩ (.slice (some ⟨gd, 0, none⟩) n n)).setCell ⟨g, 3, none⟩ (.slice (some ⟨gs, 0, none⟩) d d)).setCell ⟨g, 4, none⟩ (.slice aI l1.length cI)).setCell ⟨g, 5, none⟩ (.slice none 0 0)).setCell ⟨g, 6, none⟩ (.int .u32 1073741824)).setCell ⟨g, 7, none⟩ (.int .i64 0))) (by rfl) rfl ?_ ?_
      · go_simp
        first | done | rfl | (constructor <;> rfl)
      refine hK.out _ _ ⟨Ext.cell hE8 hc1, Ext.cell hE8 hc2, hE8⟩ (fun hHeld => ?_)
      clear hK K
      refine done_ (by kernel_rfl) ?_
      obtain ⟨w5, hw5⟩ : ∃ w5, w5 = ((((((((w2.setCell ⟨g, 0, none⟩ (.slice (some ⟨gr, 0, none⟩) 32 32)).setCell ⟨g, 1, none⟩ (.int .u32 4096)).setCell ⟨g, 2, none⟩ (.slice (some ⟨gd, 0, none⟩) n n)).setCell ⟨g, 3, none⟩ (.slice (some ⟨gs, 0, none⟩) d d)).setCell ⟨g, 4, none⟩ (.slice aI l1.length cI)).setCell ⟨g, 5, none⟩ (.slice none 0 0)).setCell ⟨g, 6, none⟩ (.int .u32 1073741824)).setCell ⟨g, 7, none⟩ (.int .i64 0)) := ⟨_, rfl⟩
      rw [← hw5] at hE8 ⊢
      have D : Blk w5 g 35 #[.slice (some ⟨gr, 0, none⟩) 32 32, .int .u32 4096, .slice (some ⟨gd, 0, none⟩) n n, .slice (some ⟨gs, 0, none⟩) d d, .slice aI l1.length cI, .slice none 0 0, .int .u32 1073741824, .int .i64 0] := by rw [hw5]; exact Blk.set8 B _ _ _ _ _ _ _ _
      have D0 : Blk w5 gr 32 Z32 := by rw [hw5]; exact Blk.other8 C0 hgr _ _ _ _ _ _ _ _
      have D3 : Blk w5 gd 5 ZN := by rw [hw5]; exact Blk.other8 C3 hgd _ _ _ _ _ _ _ _
      have D6 : Blk w5 gs 5 ZD := by rw [hw5]; exact Blk.other8 C6 hgs _ _ _ _ _ _ _ _
      have DV := own_set8 CV hgv (.slice (some ⟨gr, 0, none⟩) 32 32) (.int .u32 4096) (.slice (some ⟨gd, 0, none⟩) n n) (.slice (some ⟨gs, 0, none⟩) d d) (.slice aI l1.length cI) (.slice none 0 0) (.int .u32 1073741824) (.int .i64 0)
      rw [← hw5] at DV
      clear hw5
      have d0 : w5.cell? ⟨g, 0, none⟩ = some (.slice (some ⟨gr, 0, none⟩) 32 32) := (D.cell 0).trans rfl
      have d1 : w5.cell? ⟨g, 1, none⟩ = some (.int .u32 4096) := (D.cell 1).trans rfl
      have d2 : w5.cell? ⟨g, 2, none⟩ = some (.slice (some ⟨gd, 0, none⟩) n n) := (D.cell 2).trans rfl
      have d3 : w5.cell? ⟨g, 3, none⟩ = some (.slice (some ⟨gs, 0, none⟩) d d) := (D.cell 3).trans rfl
      have d4 : w5.cell? ⟨g, 4, none⟩ = some (.slice aI l1.length cI) := (D.cell 4).trans rfl
      have d5 : w5.cell? ⟨g, 5, none⟩ = some (.slice none 0 0) := (D.cell 5).trans rfl
      have d6 : w5.cell? ⟨g, 6, none⟩ = some (.int .u32 1073741824) := (D.cell 6).trans rfl
      have d7 : w5.cell? ⟨g, 7, none⟩ = some (.int .i64 0) := (D.cell 7).trans rfl
      have y2 : w5.cell? ⟨gr, 2, none⟩ = some (.int .u32 0) := (D0.cell 2).trans HZ2.out
      have yf : w5.frozen? ⟨gr, 2, none⟩ = false := D0.frozen 2
      have r0 : w5.cell? ⟨w.heap.size + 1, 0, none⟩ = some (.slice none 0 0) := ((BR.ext hE8).cell 0).trans rfl
      have rf0 : w5.frozen? ⟨w.heap.size + 1, 0, none⟩ = false := (BR.ext hE8).frozen 0
      have r1 : w5.cell? ⟨w.heap.size + 1, 1, none⟩ = some (.int .u32 0) := ((BR.ext hE8).cell 1).trans rfl
      have rf1 : w5.frozen? ⟨w.heap.size + 1, 1, none⟩ = false := (BR.ext hE8).frozen 1
      have r2 : w5.cell? ⟨w.heap.size + 1, 2, none⟩ = some (.slice none 0 0) := ((BR.ext hE8).cell 2).trans rfl
      have rf2 : w5.frozen? ⟨w.heap.size + 1, 2, none⟩ = false := (BR.ext hE8).frozen 2
      have r3 : w5.cell? ⟨w.heap.size + 1, 3, none⟩ = some (.slice none 0 0) := ((BR.ext hE8).cell 3).trans rfl
      have rf3 : w5.frozen? ⟨w.heap.size + 1, 3, none⟩ = false := (BR.ext hE8).frozen 3
      have r4 : w5.cell? ⟨w.heap.size + 1, 4, none⟩ = some (.slice none 0 0) := ((BR.ext hE8).cell 4).trans rfl
      have rf4 : w5.frozen? ⟨w.heap.size + 1, 4, none⟩ = false := (BR.ext hE8).frozen 4
      have r5 : w5.cell? ⟨w.heap.size + 1, 5, none⟩ = some (.slice none 0 0) := ((BR.ext hE8).cell 5).trans rfl
      have rf5 : w5.frozen? ⟨w.heap.size + 1, 5, none⟩ = false := (BR.ext hE8).frozen 5
      have r6 : w5.cell? ⟨w.heap.size + 1, 6, none⟩ = some (.int .u32 0) := ((BR.ext hE8).cell 6).trans rfl
      have rf6 : w5.frozen? ⟨w.heap.size + 1, 6, none⟩ = false := (BR.ext hE8).frozen 6
      have r7 : w5.cell? ⟨w.heap.size + 1, 7, none⟩ = some (.int .i64 0) := ((BR.ext hE8).cell 7).trans rfl
      have rf7 : w5.frozen? ⟨w.heap.size + 1, 7, none⟩ = false := (BR.ext hE8).frozen 7
      have k0 := BR.lt
      have k9 : wv.drew.heap.size = wv.heap.size := rfl
      rw [k9] at l0' l3' l6'
      have k1 : ¬ gr = g := hgr
      have k2 : ¬ g = gr := fun e => hgr e.symm
      have k3 : ¬ w.heap.size + 1 = gr := by omega
      have k4 : ¬ gr = w.heap.size + 1 := by omega
      have k5 : ¬ w.heap.size + 1 = g := by omega
      have k6 : ¬ g = w.heap.size + 1 := by omega
      clear z0 z1 z2 z3 z4 z5 z6 z7 f0 f1 f2 f3 f4 f5 f6 f7
      go_wp2
      have BF := Blk.set8 (Blk.setOther (a := ⟨gr, 2, none⟩) (BR.ext hE8) k3 (.int .u32 1073741824)) (.slice (some ⟨gr, 0, none⟩) 32 32) (.int .u32 4096) (.slice (some ⟨gd, 0, none⟩) n n) (.slice (some ⟨gs, 0, none⟩) d d) (.slice aI l1.length cI) (.slice none 0 0) (.int .u32 1073741824) (.int .i64 0)
      refine bodyPost_ret (results_cell_row rfl _ _ (w.heap.size + 1) 35 _ (0, 0) _ (by rfl) BF hu35 (by rfl) (by kernel_rfl)) rfl ?_
      have k7 : w.heap.size ≤ wv.heap.size := hX1.size
      have e3 : gd ≠ w.heap.size + 1 := by omega
      have e6 : gs ≠ w.heap.size + 1 := by omega
      have ev : blkOf (.slice aI l1.length cI) ≠ some (w.heap.size + 1) := fun e => by have := hI.lt 8 _ _ h8 e; omega
      have er : blkOf (.slice aI l1.length cI) ≠ some gr := fun e => hI.ne 0 8 _ _ gr gr (by decide) h0 h8 rfl e rfl
      exact ⟨gr, gd, gs, aI, cI, rfl, by omega, by omega, by omega, n03, n06, n36, Blk.other8 (Blk.set D0 2 _) k4 _ _ _ _ _ _ _ _, Blk.other8 (Blk.setOther (a := ⟨gr, 2, none⟩) D3 (Ne.symm n03) _) e3 _ _ _ _ _ _ _ _,
        Blk.other8 (Blk.setOther (a := ⟨gr, 2, none⟩) D6 (Ne.symm n06) _) e6 _ _ _ _ _ _ _ _, own_weakB (own_set8 (own_setB DV er) ev _ _ _ _ _ _ _ _) (by omega),
        ext_set8 (Ext.setB (Ext.trans hX1 hE8) (by omega) _ _) (by omega) _ _ _ _ _ _ _ _⟩
end Go.Proofs.Ytjgfiplhaanflaa
