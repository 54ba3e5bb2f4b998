/- impl.blocks: a list of statements becomes the model's statements with their blocks; conditions: bounds of lengths. -/
import Derived.Test.YtolbngbedncemaaGreatDoorBlocksA
import Derived.Test.YtolbngbedncemaaGreatDoorValid
import Derived.Maps.AppendAt
set_option linter.unusedVariables false
set_option linter.unusedSimpArgs false
namespace Go.Proofs.YtolbngbedncemaaGreatDoor
open Go Go.RowKit Md

theorem info_stmtp : (Tryz.prog.info? 139).map (fun i => (i.zero, i.size, i.bytes)) = some (some (.pointer none), 1, 8) := by kernel_rfl
theorem info_stmt : (Tryz.prog.info? 54).map (fun i => (i.size)) = some 6 := by kernel_rfl

def Blocked (K : Foot) (l : List PStmt) (base : Nat) (w : World) (e : Ending) (w' : World) : Prop :=
  (∃ ts, Md.blocks l base = some ts ∧ ∃ v vs, e = .returned (.tuple #[v, .bool true]) ∧ SlV (New w) w' v vs ∧ All2 (StAt (KN K w) w') vs ts ∧ Ext w w') ∨
  (Md.blocks l base = none ∧ e = .returned (.tuple #[.slice none 0 0, .bool false]) ∧ Ext w w')
/-- The same, the flag a letter. -/
def BlockedR (K : Foot) (l : List PStmt) (base : Nat) (w : World) (v : Value) (ok : Bool) (w' : World) : Prop :=
  (ok = true ∧ ∃ ts, Md.blocks l base = some ts ∧ ∃ vs, SlV (New w) w' v vs ∧ All2 (StAt (KN K w) w') vs ts) ∨ (ok = false ∧ Md.blocks l base = none)
theorem Blocked.open_ {K : Foot} {l : List PStmt} {base : Nat} {w w' : World} {e : Ending} (h : Blocked K l base w e w') : ∃ a n c ok, e = .returned (.tuple #[.slice a n c, .bool ok]) ∧ BlockedR K l base w (.slice a n c) ok w' ∧ Ext w w' := by
  rcases h with ⟨ts, h1, v, vs, rfl, h2, h3, h4⟩ | ⟨h1, rfl, h4⟩
  · obtain ⟨a, n, c, rfl⟩ := h2.shape
    exact ⟨a, n, c, true, rfl, .inl ⟨rfl, ts, h1, vs, h2, h3⟩, h4⟩
  · exact ⟨none, 0, 0, false, rfl, .inr ⟨rfl, h1⟩, h4⟩

theorem BlockedR.drew {K : Foot} {l : List PStmt} {base n : Nat} {w w' : World} {v : Value} {ok : Bool} (h : BlockedR K l base (w.drewN n) v ok w') : BlockedR K l base w v ok w' := by
  have e : (w.drewN n).heap.size = w.heap.size := by simp
  unfold BlockedR KN New at *
  simp only [e] at h
  exact h
set_option maxRecDepth 1000000 in
set_option maxHeartbeats 8000000 in
theorem i_blocks (K : Foot) (n : Nat) : ∀ (l : List PStmt) (base : Nat) (bi : Int) (hbi : bi = base) (v : Value) (w : World) (hv : SlStmt K w v l) (hl : l.length = n) (hm : l.length ≤ 1000000) (hb : base + l.length ≤ 2000000) (hz : ∀ s ∈ l, s.e.length ≤ 1048576 ∧ s.f.length ≤ 1048576) (hres : Res w) (hK : ∀ b, K b → b < w.heap.size),
    Calls Tryz.prog 67 #[v, .int .i64 bi] w (Blocked K l base w) := by
  induction n using Nat.strongRecOn with
  | ind n ih =>
    intro l base bi hbi v w hv hl hm hb hz hres hK
    subst hbi
    obtain ⟨aL, len, cL, rfl, HlL, hlcL, hcmL, helL⟩ := hv.op
    have hll := HlL.out
    have hlm : len ≤ 1000000 := by omega
    have hbm : base + len ≤ 2000000 := by omega
    have Hl := Lib.hid hl
    have HV := Lib.hid hv
    have HZ := Lib.hid hz
    have HRs := Lib.hid hres
    have HK := Lib.hid hK
    have IH := Lib.hid ih
    obtain ⟨i0, hi, hz0, hz1, hz2⟩ := info_parts info_stmtp
    obtain ⟨iS, hSt, hSz⟩ := Option.map_eq_some_iff.1 info_stmt
    clear hv hz hres hK hl hm hb hll ih
    go_enter Tryz.func67, Tryz.ntmps67
    go_wp2
    go_loopw [6, 7] (fun s i wr => ∃ (k : Nat) (vs : List Value) (ts : List St), k ≤ len ∧ i = .int .i64 k ∧ Hid (wr.ownsRow w.heap.size 139 1 s vs.length vs) ∧ Hid (All2 (StAt (Apart K w s) wr) vs ts) ∧ ts.length ≤ k ∧ Hid (Md.blocks l base = (Md.blocks (l.drop k) (base + k)).map (ts ++ ·)) ∧ Hid (Ext w wr)) (fun _ i _ => len - (intOf i).toNat)
    case atStart => exact ⟨0, [], [], Nat.zero_le _, rfl, World.ownsRow_nil w _ _ _, All2.nil _, Nat.le_refl _, by show _ = _; rw [List.drop_zero, Nat.add_zero]; cases Md.blocks l base <;> rfl, Ext.refl _⟩
    case round =>
      obtain ⟨k, vs, ts, hk, rfl, HO, HA, htk, HB, HEx⟩ := hrel
      obtain ⟨aS, cS, rfl⟩ := own_shape HO.out
      by_cases hlt : k < len
      · obtain ⟨b, o, rfl, _, hel⟩ := helL (by omega)
        obtain ⟨x, cs, hx, _, hC, hcs⟩ := hel k hlt
        obtain ⟨vE, vF, rfl, sE, sF, q1, q2, q3, q4⟩ := hC
        have hEx := HEx.out
        have c0 := hEx.cell (hcs.z rfl)
        have c1 := hEx.cell (hcs 1 _ rfl)
        have c2 := hEx.cell (hcs 2 _ rfl)
        have c3 := hEx.cell (hcs 3 _ rfl)
        have c4 := hEx.cell (hcs 4 _ rfl)
        have c5 := hEx.cell (hcs 5 _ rfl)
        have Hx := Lib.hid hx
        have Hz := Lib.hid (HZ.out x (List.mem_of_getElem? hx))
        have HE := Lib.hid (sE.ext hEx (fun _ _ h => h.any))
        have HF := Lib.hid (sF.ext hEx (fun _ _ h => h.any))
        obtain ⟨aE, nE, cE, rfl, HlE, _⟩ := sE.op
        obtain ⟨aF, nF, cF, rfl, HlF, _⟩ := sF.op
        have HR1 := Lib.hid (HRs.out.ext hEx)
        have HNo := Lib.hid (fun h => blocks_no (base := base) hx h)
        have HYes := Lib.hid (fun T U h1 hT hU h2 h3 => blocks_yes (base := base) (T := T) (U := U) hx h1 hT hU h2 h3)
        clear hel hcs hx sE sF hEx helL
        obtain ⟨kind, name, xe, xf, thn, els⟩ := x
        simp only at *
        have g0 : (0 : Int) ≤ (k : Int) := by omega
        have g1 : (k : Int) < (len : Int) := by omega
        have s1 : IntKind.i64.wrap ((base : Int) + (k : Int)) = ((base + k : Nat) : Int) := by
          have := IntWalk.i64_in ((base : Int) + (k : Int)) (by omega)
          rw [this]; omega
        go_wp2
        go_region_held3 (fun w' => w'.cell? ⟨b, o + k * 6, none⟩ = some (.int .i64 kind) ∧ w'.cell? ⟨b, o + k * 6 + 1, none⟩ = some (.string name) ∧ w'.cell? ⟨b, o + k * 6 + 2, none⟩ = some (.slice aE nE cE) ∧ w'.cell? ⟨b, o + k * 6 + 3, none⟩ = some (.slice aF nF cF) ∧ w'.cell? ⟨b, o + k * 6 + 4, none⟩ = some (.int .i64 thn) ∧ w'.cell? ⟨b, o + k * 6 + 5, none⟩ = some (.int .i64 els))
          (first | go_keep | (refine ⟨hX3.cell ?_, hX3.cell ?_, hX3.cell ?_, hX3.cell ?_, hX3.cell ?_, hX3.cell ?_⟩ <;> simp [*]))
          (first
            | (go_at_call 118; refine (i_grow K xe _ _ (HE.out.ext ((Ext.refl wr).drew) (fun _ _ h => h.any)) Hz.out.1 (HR1.out.ext ((Ext.refl wr).drew))).mono ?_; rintro e3 w3 ⟨v3, rfl, hV3, hX3⟩; obtain ⟨p3, rfl⟩ := hV3.ptr)
            | fail)
        obtain ⟨w4, hw4⟩ : ∃ w4, w4 = w3.alloc (.cells #[.int .i64 kind, .string name, .slice aE nE cE, .slice aF nF cF, .int .i64 thn, .int .i64 els, .int .i64 ((base : Int) + (k : Int)), .pointer p3, .pointer none, .slice none 0 0, .slice none 0 0] 142) := ⟨_, rfl⟩
        rw [← hw4]
        obtain ⟨B, hB⟩ : ∃ B, B = w3.heap.size := ⟨_, rfl⟩
        rw [← hB]
        have hb4 : Blk w4 B 142 #[.int .i64 kind, .string name, .slice aE nE cE, .slice aF nF cF, .int .i64 thn, .int .i64 els, .int .i64 ((base : Int) + (k : Int)), .pointer p3, .pointer none, .slice none 0 0, .slice none 0 0] := by
          rw [hw4, hB]; exact Blk.alloc _ _ _
        have hE4 : Ext wr w4 := by
          rw [hw4]; exact (((Ext.refl wr).drew).trans hX3).trans ((Ext.refl w3).alloc _)
        have hBs : wr.heap.size ≤ B := by
          rw [hB]; exact (((Ext.refl wr).drew).trans hX3).size
        have hBl : B < w4.heap.size := hb4.lt
        have hVe : ExOpt (fun c => wr.heap.size ≤ c ∧ c ≠ B) w4 (.pointer p3) (grow xe) := by
          have h := hV3.bound
          have h2 : Ext w3 w4 := by rw [hw4]; exact (Ext.refl w3).alloc _
          exact h.keep (h2.keep _) (fun c hc => ⟨Nat.le_trans ((Ext.refl wr).drew).size hc.1, by rw [hB]; exact Nat.ne_of_lt hc.2⟩)
        have HVe := Lib.hid hVe
        have HW4 := Lib.hid hE4
        clear hV3 hX3 hw4 hB hVe hE4 s1
        have n4 : w4.frozen? ⟨B, 8, none⟩ = false := hb4.frozen 8
        have n8 : w4.cell? ⟨B, 8, none⟩ = some (.pointer none) := hb4.cell 8
        have b3 : w4.cell? ⟨b, o + k * 6 + 3, none⟩ = some (.slice aF nF cF) := HW4.out.cell c3
        have b0 : w4.cell? ⟨b, o + k * 6, none⟩ = some (.int .i64 kind) := HW4.out.cell c0
        have Hb4 := Lib.hid hb4
        clear c0 c1 c2 c3 c4 c5 hb4
        have hfin : ∀ w6 (p6 : Option Addr), Blk w6 B 142 #[.int .i64 kind, .string name, .slice aE nE cE, .slice aF nF cF, .int .i64 thn, .int .i64 els, .int .i64 ((base : Int) + (k : Int)), .pointer p3, .pointer p6, .slice none 0 0, .slice none 0 0] → True := fun _ _ _ => trivial
        clear hfin
        by_cases h3 : kind = 3
        rotate_left
        have h3' : (kind == 3) = false := by simp [h3]
        go_wp2_with fail
        obtain ⟨p6, hp6⟩ : ∃ p6 : Option Addr, p6 = none := ⟨_, rfl⟩
        obtain ⟨w6, hw6⟩ : ∃ w6, w6 = w4 := ⟨_, rfl⟩
        rw [← hw6]
        have hb6 : Blk w6 B 142 #[.int .i64 kind, .string name, .slice aE nE cE, .slice aF nF cF, .int .i64 thn, .int .i64 els, .int .i64 ((base : Int) + (k : Int)), .pointer p3, .pointer p6, .slice none 0 0, .slice none 0 0] := by
          rw [hw6, hp6]; exact Hb4.out
        have hE6 : Ext wr w6 := by rw [hw6]; exact HW4.out
        have HVe6 : Hid (ExOpt (fun c => wr.heap.size ≤ c ∧ c ≠ B) w6 (.pointer p3) (grow xe)) := by rw [hw6]; exact HVe.out
        have HVf6 : Hid (ExOpt (fun c => wr.heap.size ≤ c ∧ c ≠ B) w6 (.pointer p6) (if kind = 3 then grow xf else none)) := by
          show ExOpt _ _ _ _
          rw [if_neg h3, hp6]; rfl
        clear hw6 hp6 n4 n8 b3 b0
        rotate_left
        have h3' : (kind == 3) = true := by simp [h3]
        go_wp2_with fail
        refine (i_grow K xf _ _ (HF.out.ext HW4.out (fun _ _ h => h.any)) Hz.out.2 (HR1.out.ext HW4.out)).mono ?_
        rintro e5 w5 ⟨v5, rfl, hV5, hX5⟩
        obtain ⟨p6, rfl⟩ := hV5.ptr
        have hb5 := Hb4.out.ext hX5
        have m4 : w5.frozen? ⟨B, 8, none⟩ = false := hb5.frozen 8
        have m8 : w5.cell? ⟨B, 8, none⟩ = some (.pointer none) := hb5.cell 8
        go_wp2_with fail
        obtain ⟨w6, hw6⟩ : ∃ w6, w6 = w5.setCell ⟨B, 8, none⟩ (.pointer p6) := ⟨_, rfl⟩
        rw [← hw6]
        have hb6 : Blk w6 B 142 #[.int .i64 kind, .string name, .slice aE nE cE, .slice aF nF cF, .int .i64 thn, .int .i64 els, .int .i64 ((base : Int) + (k : Int)), .pointer p3, .pointer p6, .slice none 0 0, .slice none 0 0] := by
          rw [hw6]; exact hb5.set 8 _
        have hE6 : Ext wr w6 := by rw [hw6]; exact (HW4.out.trans hX5).setCell hBs _
        have hK6 : Keep (fun c => c ≠ B) w4 w6 := by rw [hw6]; exact keep_set hX5 _
        have HVe6 : Hid (ExOpt (fun c => wr.heap.size ≤ c ∧ c ≠ B) w6 (.pointer p3) (grow xe)) := HVe.out.keep (hK6.mono (fun c hc => hc.2)) (fun c hc => hc)
        have HVf6 : Hid (ExOpt (fun c => wr.heap.size ≤ c ∧ c ≠ B) w6 (.pointer p6) (if kind = 3 then grow xf else none)) := by
          show ExOpt _ _ _ _
          rw [if_pos h3]
          have h1 : w5.heap.size ≤ w6.heap.size := by rw [hw6]; simp
          have h2 : Keep (fun c => c ≠ B) w5 w6 := by rw [hw6]; exact keep_set (Ext.refl _) _
          exact hV5.keep (h2.mono (fun c hc => by have := hc; unfold New at this; omega)) (fun c hc => by unfold New at hc; have := HW4.out.size; omega)
        clear hV5 hX5 hb5 m4 m8 hw6 hK6 n4 n8 b3 b0
        all_goals
          have HE6 := Lib.hid hE6
          have HEw : Hid (Ext w w6) := HEx.out.trans hE6
          have HR6 : Hid (Res w6) := HRs.out.ext HEw.out
          have HQ := fun (R : Bool) (hR : R = stOk ⟨kind, name, xe, xf, thn, els⟩) n => Lib.hid (Drew.quiet (n := n) (i_valid (fun c => wr.heap.size ≤ c ∧ c ≠ B) ⟨kind, name, xe, xf, thn, els⟩ B (base + k) nF (.slice aE nE cE) (.pointer p3) (.pointer p6) (.slice none 0 0) (.slice none 0 0) aF cF R hR (w6.drewN n)
            (by rw [Int.natCast_add]; exact (hb6.ext (drewN_ext w6 n)).cells) q4 (HR6.out.ext (drewN_ext _ _)) (HVe6.out.ext (drewN_ext _ _)) (HVf6.out.ext (drewN_ext _ _)) HlF))
          have d4 : w6.cell? ⟨B, 4, none⟩ = some (.int .i64 thn) := hb6.cell 4
          have d5 : w6.cell? ⟨B, 5, none⟩ = some (.int .i64 els) := hb6.cell 5
          have HVp := Lib.hid HQ
          clear HQ hE6
          cases hst : stOk ⟨kind, name, xe, xf, thn, els⟩
          · have Hst := Lib.hid hst
            clear hst
            go_quiet ((go_at_call 119; exact (HVp.out false Hst.out.symm _).out))
            go_wp2
            go_ret2
            exact Or.inr ⟨by rw [HB.out, HNo.out (by rw [Hst.out]; simp)]; rfl, rfl, HEw.out.trans (drewN_ext _ _)⟩
          · have Hst := Lib.hid hst
            obtain ⟨hT0, hU0⟩ := stOk_nn hst
            simp only at hT0 hU0
            clear hst
            obtain ⟨T, rfl⟩ : ∃ T : Nat, thn = T := ⟨thn.toNat, by omega⟩
            obtain ⟨U, rfl⟩ : ∃ U : Nat, els = U := ⟨els.toNat, by omega⟩
            clear hT0 hU0
            by_cases hT : T ≤ len - (k + 1)
            · by_cases hU : U ≤ len - (k + 1) - T
              · obtain ⟨a7, hs7, k7⟩ := cut_mid_int Tryz.underlying49 hSt hSz (some ⟨b, o, none⟩) len cL (k + 1) (k + 1 + T) ((k : Int) + 1) ((k : Int) + 1 + (T : Int)) (by omega) (by omega) (by omega) (by omega)
                obtain ⟨a8, hs8, k8⟩ := cut_mid_int Tryz.underlying49 hSt hSz (some ⟨b, o, none⟩) len cL (k + 1 + T) (k + 1 + T + U) ((k : Int) + 1 + (T : Int)) ((k : Int) + 1 + (T : Int) + (U : Int)) (by omega) (by omega) (by omega) (by omega)
                rw [show k + 1 + T - (k + 1) = T by omega] at hs7 k7
                rw [show k + 1 + T + U - (k + 1 + T) = U by omega] at hs8 k8
                have HT7 := Lib.hid (Sl.cutAt (c := cL - (k + 1)) HV.out (k + 1) T (by omega) (by omega) (Nat.sub_le _ _) k7)
                have HT8 := Lib.hid (Sl.cutAt (c := cL - (k + 1 + T)) HV.out (k + 1 + T) U (by omega) (by omega) (Nat.sub_le _ _) k8)
                have hln : len = n := by rw [← HlL.out, Hl.out]
                have HYs := Lib.hid (HYes.out T U Hst.out rfl rfl (by rw [HlL.out]; exact hT) (by rw [HlL.out]; exact hU))
                have L7 : ((l.drop (k + 1)).take T).length = T := by rw [List.length_take, List.length_drop, HlL.out]; omega
                have L8 : ((l.drop (k + 1 + T)).take U).length = U := by rw [List.length_take, List.length_drop, HlL.out]; omega
                have T7 : T < n := by omega
                have T8 : U < n := by omega
                have M7 : T ≤ 1000000 := by omega
                have M8 : U ≤ 1000000 := by omega
                have N7 : base + (k + 1) + T ≤ 2000000 := by omega
                have N8 : base + (k + 1 + T) + U ≤ 2000000 := by omega
                have HLs := Lib.hid (show (_ ∧ _) ∧ (_ ∧ _) ∧ (_ ∧ _) ∧ (_ ∧ _) from ⟨⟨L7, L8⟩, ⟨T7, T8⟩, ⟨M7, M8⟩, ⟨N7, N8⟩⟩)
                clear L7 L8 T7 T8 M7 M8 N7 N8 hln k7 k8
                have HK6 : Hid (∀ c, K c → c < w6.heap.size) := fun c hc => Nat.lt_of_lt_of_le (HK.out c hc) HEw.out.size
                have t1 : decide ((len : Int) - ((k : Int) + 1) < (T : Int)) = false := decide_eq_false (by omega)
                have t2 : decide ((len : Int) - ((k : Int) + 1) - (T : Int) < (U : Int)) = false := decide_eq_false (by omega)
                have t3 : IntKind.i64.wrap ((len : Int) - ((k : Int) + 1) - (T : Int)) = (len : Int) - ((k : Int) + 1) - (T : Int) := IntWalk.i64_in _ (by omega)
                go_quiet ((go_at_call 119; exact (HVp.out true Hst.out.symm _).out))
                clear t3
                go_wp2_with fail
                refine (IH.out T HLs.out.2.1.1 ((l.drop (k + 1)).take T) (base + (k + 1)) _ (by omega) (.slice a7 T (cL - (k + 1))) _ (HT7.out.ext (HEw.out.drewN _) (fun _ _ h => h.ext (HEw.out.drewN _))) HLs.out.1.1 (by rw [HLs.out.1.1]; exact HLs.out.2.2.1.1) (by rw [HLs.out.1.1]; exact HLs.out.2.2.2.1) (fun s hs => HZ.out s (List.mem_of_mem_drop (List.mem_of_mem_take hs))) (HR6.out.ext (drewN_ext _ _)) (fun c hc => by simpa using HK6.out c hc)).mono ?_
                rintro e7 w7 hbl7
                obtain ⟨a9, n9, c9, ok9, rfl, HBl7, hX7⟩ := hbl7.open_
                have hb7 := (hb6.ext (drewN_ext w6 _)).ext hX7
                have f7 : w7.frozen? ⟨B, 9, none⟩ = false := hb7.frozen 9
                have v7 : w7.cell? ⟨B, 9, none⟩ = some (.slice none 0 0) := hb7.cell 9
                have HX7 : Hid (Ext w6 w7) := (drewN_ext w6 _).trans hX7
                have HBs7 : Hid (BlockedR K ((l.drop (k + 1)).take T) (base + (k + 1)) w6 (.slice a9 n9 c9) ok9 w7) := HBl7.drew
                clear hX7 HBl7 hs7
                go_wp2_with fail
                obtain ⟨w8, hw8⟩ : ∃ w8, w8 = w7.setCell ⟨B, 9, none⟩ (.slice a9 n9 c9) := ⟨_, rfl⟩
                rw [← hw8]
                have hb8 : Blk w8 B 142 #[.int .i64 kind, .string name, .slice aE nE cE, .slice aF nF cF, .int .i64 T, .int .i64 U, .int .i64 ((base : Int) + (k : Int)), .pointer p3, .pointer p6, .slice a9 n9 c9, .slice none 0 0] := by
                  rw [hw8]; exact hb7.set 9 _
                have HE8 : Hid (Ext wr w8) := by rw [hw8]; exact (HE6.out.trans HX7.out).setCell hBs _
                have HK78 : Hid (Keep (fun c => c ≠ B) w7 w8) := by rw [hw8]; exact keep_set (Ext.refl _) _
                have HK68 : Hid (Keep (fun c => c ≠ B) w6 w8) := by rw [hw8]; exact keep_set HX7.out _
                have HS78 : w7.heap.size ≤ w8.heap.size := by rw [hw8]; simp
                have HEw8 : Hid (Ext w w8) := HEx.out.trans HE8.out
                have HR8 : Hid (Res w8) := HRs.out.ext HEw8.out
                clear hw8 hb7 f7 v7
                refine (IH.out U HLs.out.2.1.2 ((l.drop (k + 1 + T)).take U) (base + (k + 1 + T)) _ (by omega) (.slice a8 U (cL - (k + 1 + T))) _ (HT8.out.ext HEw8.out (fun _ _ h => h.ext HEw8.out)) HLs.out.1.2 (by rw [HLs.out.1.2]; exact HLs.out.2.2.1.2) (by rw [HLs.out.1.2]; exact HLs.out.2.2.2.2) (fun s hs => HZ.out s (List.mem_of_mem_drop (List.mem_of_mem_take hs))) HR8.out (fun c hc => Nat.lt_of_lt_of_le (HK.out c hc) HEw8.out.size)).mono ?_
                rintro e9 w9 hbl9
                obtain ⟨aA, nA, cA, okA, rfl, HBl9, hX9⟩ := hbl9.open_
                have hb9 := hb8.ext hX9
                have f9 : w9.frozen? ⟨B, 10, none⟩ = false := hb9.frozen 10
                have v9 : w9.cell? ⟨B, 10, none⟩ = some (.slice none 0 0) := hb9.cell 10
                have HBs9 := Lib.hid HBl9
                have HX9 := Lib.hid hX9
                clear HBl9 hX9 hs8 hb8
                rcases HBs7.out with ⟨hok9, ts9, hbk9, vs9, hS9, hA9⟩ | ⟨hok9, hbk9⟩
                rotate_left
                · subst hok9
                  have HN := Lib.hid hbk9
                  clear hbk9 hb9
                  go_wp2
                  go_ret2
                  exact Or.inr ⟨by rw [HB.out, HYs.out, HN.out, consB_t]; rfl, rfl, (HEw8.out.trans HX9.out).setCell (Nat.le_trans HEx.out.size hBs) _⟩
                subst hok9
                rcases HBs9.out with ⟨hokA, tsA, hbkA, vsA, hSA, hAA⟩ | ⟨hokA, hbkA⟩
                rotate_left
                · subst hokA
                  have HN := Lib.hid hbkA
                  clear hbkA hb9 hbk9 hS9 hA9
                  go_wp2
                  go_ret2
                  exact Or.inr ⟨by rw [HB.out, HYs.out, HN.out, consB_u]; rfl, rfl, (HEw8.out.trans HX9.out).setCell (Nat.le_trans HEx.out.size hBs) _⟩
                subst hokA
                have hE10 : Ext wr (w9.setCell ⟨B, 10, none⟩ (.slice aA nA cA)) := (HE8.out.trans HX9.out).setCell hBs _
                have HOA : Hid (((w9.setCell ⟨B, 10, none⟩ (.slice aA nA cA)).alloc (.cells #[.pointer (some ⟨B, 0, none⟩)] 139)).ownsRow w.heap.size 139 1 (.slice aS vs.length cS) vs.length vs) := own_moved HO.out (hE10.alloc _)
                have HNw := Lib.hid (news0 (w9.setCell ⟨B, 10, none⟩ (.slice aA nA cA)) (.pointer (some ⟨B, 0, none⟩)) 139 (s := w9.heap.size) (by simp))
                have hvl := HA.out.1
                have A1 : vs.length + 1 ≤ maxLen := by unfold maxLen; omega
                have A2 : (vs.length + 1) * 8 ≤ 140737488355328 := by omega
                have A3 : Hid (w.heap.size ≤ ((w9.setCell ⟨B, 10, none⟩ (.slice aA nA cA)).alloc (.cells #[.pointer (some ⟨B, 0, none⟩)] 139)).heap.size) := (HEx.out.trans (hE10.alloc _)).size
                have HE10 := Lib.hid hE10
                have Hb9 := Lib.hid hb9
                have H9 := Lib.hid (show _ ∧ _ ∧ _ from ⟨hbk9, hS9, hA9⟩)
                have HAl := Lib.hid (show _ ∧ _ ∧ _ from ⟨hbkA, hSA, hAA⟩)
                clear hE10 hvl hb9 hbk9 hS9 hA9 hbkA hSA hAA
                go_wp2_with (at_builtin; refine wpList_append_own_at _ rfl _ _ 80 rfl w.heap.size 139 i0 (.pointer none) 1 8 Tryz.underlying80 hi hz0 hz1 hz2 rfl (by decide) (.slice aS vs.length cS) vs.length vs (by rfl) HOA.out ⟨w9.heap.size, 0, none⟩ 1 1 [.pointer (some ⟨B, 0, none⟩)] (by rfl) rfl HNw.out (by simp [Value.oneCell']) A1 A2 A3.out ?_; intro v' w' hown' hg' _ hat')
                have HOn := Lib.hid hown'
                have HG := Lib.hid hg'
                have HAt := Lib.hid hat'
                obtain ⟨aS', cS', rfl⟩ := own_shape hown'
                clear hown' hg' hat' f9 v9
                go_wp2
                go_roundw
                case rel =>
                  obtain ⟨hbk9, hS9, hA9⟩ := H9.out
                  obtain ⟨hbkA, hSA, hAA⟩ := HAl.out
                  obtain ⟨y, hy⟩ := Option.isSome_iff_exists.1 (stOk_grow Hst.out)
                  simp only at hy
                  have hKB : ∀ c, K c → c ≠ B := fun c hc => by have := HK.out c hc; have := HEx.out.size; omega
                  have k9 : Keep (fun c => c ≠ B) w9 (w9.setCell ⟨B, 10, none⟩ (.slice aA nA cA)) := keep_set (Ext.refl _) _
                  have k89 : Keep (fun c => c ≠ B) w8 w9 := HX9.out.keep _
                  have s89 : w8.heap.size ≤ w9.heap.size := HX9.out.size
                  have k8 : Keep (fun c => c ≠ B) w8 (w9.setCell ⟨B, 10, none⟩ (.slice aA nA cA)) := k89.trans k9 s89
                  have s68 : w6.heap.size ≤ w8.heap.size := Nat.le_trans HX7.out.size HS78
                  have k6 : Keep (fun c => c ≠ B) w6 (w9.setCell ⟨B, 10, none⟩ (.slice aA nA cA)) := HK68.out.trans k8 s68
                  have k7 : Keep (fun c => c ≠ B) w7 (w9.setCell ⟨B, 10, none⟩ (.slice aA nA cA)) := HK78.out.trans k8 HS78
                  have hBl6 : B < w6.heap.size := hb6.lt
                  have hB8 : B < w8.heap.size := Nat.lt_of_lt_of_le hBl6 s68
                  have r6 : wr.heap.size ≤ w6.heap.size := HE6.out.size
                  have f1 : ∀ c, KN K w6 c → c ≠ B := fun c hc => by
                    rcases hc with hc | hc
                    · exact hKB c hc
                    · omega
                  have f2 : ∀ c, KN K w8 c → c ≠ B := fun c hc => by
                    rcases hc with hc | hc
                    · exact hKB c hc
                    · omega
                  have hST : StAt (fun c => K c ∨ wr.heap.size ≤ c) (w9.setCell ⟨B, 10, none⟩ (.slice aA nA cA)) (.pointer (some ⟨B, 0, none⟩)) (.mk ⟨kind, name, xe, xf, T, U⟩ (base + k) y (grow xf) ts9 tsA) := by
                    refine .mk B ⟨kind, name, xe, xf, T, U⟩ (base + k) y (grow xf) (.slice aE nE cE) (.slice aF nF cF) (.pointer p3) (.pointer p6) (.slice a9 n9 c9) (.slice aA nA cA) vs9 vsA ts9 tsA (.inr hBs) ?_ ?_ ?_ q1 q2 q3 q4 ?_ ?_ ?_ ?_ hA9.1 hAA.1 ?_ ?_
                    · rw [Int.natCast_add]; exact (Hb9.out.set 10 _).cells
                    · exact Sl.keep HE.out (HE10.out.keep K) (fun _ _ _ h => h.any) (fun c hc => .inl hc)
                    · exact Sl.keep HF.out (HE10.out.keep K) (fun _ _ _ h => h.any) (fun c hc => .inl hc)
                    · have h1 := HVe6.out
                      rw [hy] at h1
                      exact ExAt.keep h1 (k6.mono (fun c hc => hc.2)) (fun c hc => .inr hc.1)
                    · have h1 := HVf6.out
                      rw [stOk_f (s := ⟨kind, name, xe, xf, T, U⟩) Hst.out] at h1
                      exact h1.keep (k6.mono (fun c hc => hc.2)) (fun c hc => .inr hc.1)
                    · exact hS9.keep (k7.mono (fun c hc => f1 c (.inr hc))) (fun c hc => .inr (by unfold New at hc; omega))
                    · exact hSA.keep (k9.mono (fun c hc => f2 c (.inr hc))) (fun c hc => .inr (by unfold New at hc; omega))
                    · exact fun i v z h1 h2 => (hA9.2 i v z h1 h2).keep (k7.mono (fun c hc => f1 c hc)) (fun c hc => by rcases hc with hc | hc; exact .inl hc; exact .inr (by omega))
                    · exact fun i v z h1 h2 => (hAA.2 i v z h1 h2).keep (k9.mono (fun c hc => f2 c hc)) (fun c hc => by rcases hc with hc | hc; exact .inl hc; exact .inr (by omega))
                  refine ⟨k + 1 + T + U, vs ++ [.pointer (some ⟨B, 0, none⟩)], ts ++ [.mk ⟨kind, name, xe, xf, T, U⟩ (base + k) y (grow xf) ts9 tsA], by omega, by go_num, ?_, ?_, by simp; omega, ?_, ?_⟩
                  · show World.ownsRow _ _ _ _ _ _ _
                    rw [List.length_append, List.length_singleton]
                    exact HOn.out
                  · exact (apart_next HA.out (HE10.out.alloc _) HG.out HAt.out).snoc (apart_new HK.out hST ((Ext.refl _).alloc _) HE10.out.size HEx.out.size (own_block HO.out) HG.out HAt.out)
                  · show _ = _
                    rw [HB.out, HYs.out, hbk9, hbkA]
                    simp only [hy]
                    exact consB_some ts
                  · exact Below.grown (HEx.out.trans (HE10.out.alloc _)) HG.out A3.out (fun g hg => (own_block HO.out g hg).1)
                case measure => simp [intOf]; omega
              · have t1 : decide ((len : Int) - ((k : Int) + 1) < (T : Int)) = false := decide_eq_false (by omega)
                have t2 : decide ((len : Int) - ((k : Int) + 1) - (T : Int) < (U : Int)) = true := decide_eq_true (by omega)
                have t3 : IntKind.i64.wrap ((len : Int) - ((k : Int) + 1) - (T : Int)) = (len : Int) - ((k : Int) + 1) - (T : Int) := IntWalk.i64_in _ (by omega)
                go_quiet ((go_at_call 119; exact (HVp.out true Hst.out.symm _).out))
                go_wp2
                go_ret2
                exact Or.inr ⟨by rw [HB.out, HNo.out (fun h => by have h1 : (T : Int) ≤ ((l.length - (k + 1) : Nat) : Int) := h.2.1; have h2 : (U : Int) ≤ ((l.length - (k + 1) : Nat) : Int) - (T : Int) := h.2.2; rw [HlL.out] at h1 h2; omega)]; rfl, rfl, HEw.out.trans (drewN_ext _ _)⟩
            · have t1 : decide ((len : Int) - ((k : Int) + 1) < (T : Int)) = true := decide_eq_true (by omega)
              go_quiet ((go_at_call 119; exact (HVp.out true Hst.out.symm _).out))
              go_wp2
              go_ret2
              exact Or.inr ⟨by rw [HB.out, HNo.out (fun h => by have h1 : (T : Int) ≤ ((l.length - (k + 1) : Nat) : Int) := h.2.1; have h2 : (U : Int) ≤ ((l.length - (k + 1) : Nat) : Int) - (T : Int) := h.2.2; rw [HlL.out] at h1 h2; omega)]; rfl, rfl, HEw.out.trans (drewN_ext _ _)⟩
      · have hF : Hid (Md.blocks l base = some ts) := by
          show _ = _
          rw [HB.out, blocks_nil (by rw [HlL.out]; omega)]
          simp
        go_wp2
        go_ret2
        exact Or.inl ⟨ts, hF.out, _, vs, rfl, sl_of_own HO.out (fun g hg => hg), HA.out.mono (fun _ _ _ h => h.mono (fun b hb => hb.1)), HEx.out⟩
end Go.Proofs.YtolbngbedncemaaGreatDoor
