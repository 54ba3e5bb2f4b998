/- slices.Grow and slices.Concat at nodes, as impl uses them. -/
import Derived.Test.YtcfggjmdcaoecaaGreatDoorRows3
import Derived.Test.YtcfggjmdcaoecaaGreatDoorUnitB
import Derived.Lib.AppendZeros
set_option linter.unusedVariables false
set_option linter.unusedSimpArgs false
namespace Go.Proofs.YtcfggjmdcaoecaaGreatDoor
open Go Go.RowKit Md

theorem info_node : (Tryz.prog.info? 104).map (fun i => (i.zero, i.size, i.bytes)) = some (some (.agg #[.int .i64 0, .int .i64 0, .string ⟨#[]⟩]), 3, 32) := by kernel_rfl
def Grew (w : World) (e : Ending) (w' : World) : Prop := ∃ v, e = .returned v ∧ w'.ownsRow w.heap.size 104 3 v 0 [] ∧ Ext w w'
set_option maxRecDepth 1000000 in
theorem g_Grow (n : Nat) (m : Int) (hm : m = n) (w : World) (hn : n ≤ 4194304) :
    Calls Tryz.prog 117 #[.slice none 0 0, .int .i64 m] w (Grew w) := by
  subst hm
  obtain ⟨i0, hi, hz0, hz1, hz2⟩ := info_parts info_node
  have b0 : ((n : Int) < 0) = False := by simp
  go_enter Tryz.func117, Tryz.ntmps117
  by_cases h0 : 0 < n
  · have g0 : (0 : Int) < (n : Int) := by omega
    obtain ⟨cp, hcp⟩ : ∃ cp, cp = grownCap w n 0 104 := ⟨_, rfl⟩
    have hrun := fun ty => Lib.run_append_nil_zeros (P := Tryz.prog) w 100 3 ty 104 i0 _ .i64 .i64 Tryz.underlying100 Tryz.underlying3 hi hz0 n h0 (by omega) (by omega) (by rw [hz2]; omega)
    have HRun := Lib.hid hrun
    clear hrun
    go_wp2_with (at_builtin; refine Lib.wpList_append_run _ rfl _ _ _ _ rfl _ _ rfl rfl _ _ (HRun.out _) ?_)
    have h1 := grownCap_ge w n 0 104
    have h2 := grownCap_le_maxLen w n 0 104 (by unfold maxLen; omega)
    go_ret
    refine ⟨_, rfl, ⟨rfl, .inr ⟨w.heap.size, grownCap w n 0 104, _, rfl, Nat.le_refl _, heap_alloc_new w _, Nat.zero_le _, h2, ?_, rfl⟩⟩, ((Ext.refl w).alloc _).drew⟩
    rw [Array.size_append, size_zeroCells, size_zeroCells]
    show n * 3 + (_ - n) * 3 = _
    omega
  · obtain rfl : n = 0 := by omega
    clear h0
    go_wp2
    go_ret
    exact ⟨_, rfl, ⟨rfl, .inl ⟨rfl, rfl⟩⟩, Ext.refl _⟩

/-- What Concat comes to: a new row with both lists. -/
def Joined (w : World) (l : List PNode) (e : Ending) (w' : World) : Prop := ∃ v, e = .returned v ∧ SlNode (New w) w' v l ∧ Ext w w'
theorem node_cells {w : World} {cs : List Value} {x : PNode} (h : CNode w cs x) : cs = encNode x := h.1
set_option maxRecDepth 1000000 in
set_option maxHeartbeats 1000000 in
theorem g_Concat (K : Foot) (vE vF : Value) (le lf : List PNode) (g : Nat) (w : World) (hE : SlNode K w vE le) (hF : SlNode K w vF lf) (hg : Blk w g 100 #[vE, vF]) (he : le.length ≤ 1048576) (hf : lf.length ≤ 1048576) :
    Calls Tryz.prog 73 #[.slice (some ⟨g, 0, none⟩) 2 2] w (Joined w (le ++ lf)) := by
  obtain ⟨i0, hi, hz0, hz1, hz2⟩ := info_parts info_node
  obtain ⟨aE, nE, cE, rfl, HlE, hlcE, hcmE, _⟩ := hE.op
  obtain ⟨aF, nF, cF, rfl, HlF, hlcF, hcmF, _⟩ := hF.op
  have HE := Lib.hid hE
  have HF := Lib.hid hF
  have HG := Lib.hid hg
  have hnE : nE ≤ 1048576 := by have := HlE.out; omega
  have hnF : nF ≤ 1048576 := by have := HlF.out; omega
  have c0 : w.cell? ⟨g, 0, none⟩ = some (.slice aE nE cE) := (hg.cell 0).trans rfl
  have c1 : w.cell? ⟨g, 1, none⟩ = some (.slice aF nF cF) := (hg.cell 1).trans rfl
  clear hE hF hg he hf
  go_enter Tryz.func73, Tryz.ntmps73
  go_wp2
  go_loop [3, 11] (fun s i => (i = .int .i64 0 ∧ s = .int .i64 0) ∨ (i = .int .i64 1 ∧ s = .int .i64 nE) ∨ (i = .int .i64 2 ∧ s = .int .i64 ((nE : Int) + (nF : Int)))) (fun _ i => 2 - (intOf i).toNat)
  case atStart => exact .inl ⟨rfl, rfl⟩
  case round =>
    rcases hrel with ⟨rfl, rfl⟩ | ⟨rfl, rfl⟩ | ⟨rfl, rfl⟩
    · go_wp2
      go_round
      case rel => exact .inr (.inl ⟨by go_num, by go_num⟩)
      case measure => simp [intOf]
    · go_wp2
      go_round
      case rel => exact .inr (.inr ⟨by go_num, by go_num⟩)
      case measure => simp [intOf]
    · have hsum : (nE : Int) + (nF : Int) = ((nE + nF : Nat) : Int) := by omega
      have HSum := Lib.hid hsum
      clear hsum
      go_wp2_with fail
      refine (g_Grow (nE + nF) _ HSum.out _ (by omega)).mono ?_
      rintro e w1 ⟨v, rfl, hO, hX⟩
      have hE0 := HE.out.ext hX (fun _ _ h => h.any)
      have hF0 := HF.out.ext hX (fun _ _ h => h.any)
      have HO := Lib.hid hO
      have HX := Lib.hid hX
      clear hO hX c0 c1 HSum
      have HA : Hid (∀ (wr : World) (v vx : Value) (n : Nat) (xs ys : List PNode), w.heap.size ≤ wr.heap.size → wr.ownsRow w.heap.size 104 3 v n (xs.flatMap encNode) → SlNode K wr vx ys → n ≤ 1048576 → ys.length ≤ 1048576 →
          ∃ v' w', (Builtin.append_ #[100, 100] 100 #[v, vx]).run Tryz.prog wr = .ok v' w' ∧ w'.ownsRow w.heap.size 104 3 v' (n + ys.length) ((xs ++ ys).flatMap encNode) ∧ wr.grownBy w' v.ownBlock) := by
        intro wr v vx n xs ys hw ho hs h1 h2
        obtain ⟨v', w', r1, r2, r3, _⟩ := run_appN (P := Tryz.prog) CNode (fun _ _ _ h => h.1) encNode_len (by decide) encNode_one K wr w.heap.size Tryz.underlying100 hi hz0 hz1 hz2 rfl v n xs ho vx ys hs (by omega) (by omega) hw 100
        exact ⟨v', w', r1, r2, r3⟩
      go_wp2
      go_loopw [6, 27] (fun v i wr => ∃ n l, Hid (wr.ownsRow w.heap.size 104 3 v n (l.flatMap encNode)) ∧ Hid (Ext w wr) ∧ ((i = .int .i64 0 ∧ Hid (n = 0 ∧ l = [])) ∨ (i = .int .i64 1 ∧ Hid (n = nE ∧ l = le)) ∨ (i = .int .i64 2 ∧ Hid (l = le ++ lf)))) (fun _ i _ => 2 - (intOf i).toNat)
      case atStart => exact ⟨0, [], HO.out, HX.out, .inl ⟨rfl, ⟨rfl, rfl⟩⟩⟩
      case round =>
        obtain ⟨n, l, HO, HX, hrel⟩ := hrel
        have d0 : wr.cell? ⟨g, 0, none⟩ = some (.slice aE nE cE) := HX.out.cell ((HG.out.cell 0).trans rfl)
        have d1 : wr.cell? ⟨g, 1, none⟩ = some (.slice aF nF cF) := HX.out.cell ((HG.out.cell 1).trans rfl)
        obtain ⟨av, cv, rfl⟩ := own_shape HO.out
        rcases hrel with ⟨rfl, hn⟩ | ⟨rfl, hn⟩ | ⟨rfl, hn⟩
        · obtain ⟨v', w', r1, r2, r3⟩ := HA.out wr _ _ n l le HX.out.size HO.out (HE.out.ext HX.out (fun _ _ h => h.any)) (by have := hn.out.1; omega) (by have := HlE.out; omega)
          have HR1 := Lib.hid r1
          have hX' := Below.grown HX.out r3 HX.out.size (fun k hk => by
            rcases HO.out.2 with ⟨e, _⟩ | ⟨g', _, _, e, hg', _⟩
            · rw [e] at hk; cases hk
            · rw [e] at hk; cases hk; exact hg')
          have HX' := Lib.hid hX'
          have HO' := Lib.hid r2
          clear r1 r2 r3 hX'
          go_wp2_with (at_builtin; refine Lib.wpList_append_run _ rfl _ _ _ _ rfl _ _ rfl rfl _ _ HR1.out ?_)
          go_roundw
          case rel => exact ⟨n + le.length, l ++ le, HO'.out, HX'.out, .inr (.inl ⟨by go_num, ⟨by rw [hn.out.1, HlE.out, Nat.zero_add], by rw [hn.out.2]; rfl⟩⟩)⟩
          case measure => simp [intOf]
        · obtain ⟨v', w', r1, r2, r3⟩ := HA.out wr _ _ n l lf HX.out.size HO.out (HF.out.ext HX.out (fun _ _ h => h.any)) (by have := hn.out.1; omega) (by have := HlF.out; omega)
          have HR1 := Lib.hid r1
          have hX' := Below.grown HX.out r3 HX.out.size (fun k hk => by
            rcases HO.out.2 with ⟨e, _⟩ | ⟨g', _, _, e, hg', _⟩
            · rw [e] at hk; cases hk
            · rw [e] at hk; cases hk; exact hg')
          have HX' := Lib.hid hX'
          have HO' := Lib.hid r2
          clear r1 r2 r3 hX'
          go_wp2_with (at_builtin; refine Lib.wpList_append_run _ rfl _ _ _ _ rfl _ _ rfl rfl _ _ HR1.out ?_)
          go_roundw
          case rel => exact ⟨n + lf.length, l ++ lf, HO'.out, HX'.out, .inr (.inr ⟨by go_num, by show _ = _; rw [hn.out.2]⟩)⟩
          case measure => simp [intOf]
        · go_wp2
          go_ret
          refine ⟨_, rfl, sl_ownN encNode_len (by decide) (hn.out ▸ HO.out) (fun _ h => h) (fun x hx => ?_), HX.out⟩
          rcases List.mem_append.1 hx with hx | hx
          · obtain ⟨cs, hC⟩ := Sl.mem HE.out x hx
            exact ⟨rfl, hC.2⟩
          · obtain ⟨cs, hC⟩ := Sl.mem HF.out x hx
            exact ⟨rfl, hC.2⟩
end Go.Proofs.YtcfggjmdcaoecaaGreatDoor
