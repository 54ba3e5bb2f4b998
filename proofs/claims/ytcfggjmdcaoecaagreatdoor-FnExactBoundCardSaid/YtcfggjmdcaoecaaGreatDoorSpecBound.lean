/- The reference's l6Deep and Bound answer as the model. -/
import Derived.Test.YtcfggjmdcaoecaaGreatDoorMdBound
import Derived.Test.YtcfggjmdcaoecaaGreatDoorWLast
set_option linter.unusedVariables false
set_option linter.unusedSimpArgs false
namespace Go.Proofs.YtcfggjmdcaoecaaGreatDoor
open Go Go.RowKit Md Go.Proofs.YtcfggjmdcaoecaaGreatDoorW.PrintLast

/-- What l6Deep wants of the tree. -/
structure BdOk (t : PTree) (m : Int) : Prop where
  val : valid t = true
  fr : ∀ x ∈ t.funcs, frameSz x ≤ 2032
  rg : 0 ≤ m ∧ m < t.funcs.length
  rec_ : ∀ x, MetF t m x → ¬ Rch t [x] x
theorem row_of {w : World} {base n : Nat} {v : Value} {xs : List Int} (h : RowI w base v xs) (hn : n = xs.length) : w.ownsRow base 2 1 v n (xs.map (Value.int .i64)) := by
  rw [hn]; exact h
theorem rowS_succ (S : Nat → Nat) (k : Nat) : rowS S (k + 1) = rowS S k ++ [((S k : Nat) : Int)] := by
  unfold rowS
  rw [List.range_succ, List.map_append]
  rfl
theorem fold_snoc' {g : Int → Nat} {l : List Int} {k : Nat} {x : Int} (h : l[k]? = some x) : (l.take (k + 1)).foldl (fun m x => max m (g x)) 0 = max ((l.take k).foldl (fun m x => max m (g x)) 0) (g x) := by
  rw [take_snoc h, List.foldl_append]
  rfl
theorem mapset (xs : List Int) (f : Nat) (v : Int) : (xs.map (Value.int .i64)).set f (.int .i64 v) = (xs.set f v).map (Value.int .i64) := by
  rw [List.map_set]
set_option maxRecDepth 1000000 in
set_option maxHeartbeats 0 in
theorem s_l6Deep (K : Foot) (t : PTree) (vG vF : Value) (m : Nat) (w : World) (hG : SlGlob K w vG t.globals) (hF : SlFunc K w vF t.funcs) (hb : BdOk t (m : Int)) :
    Calls Tryz.prog 55 #[.agg #[vG, vF], .int .i64 (m : Int)] w (Gives (.int .i64 (deep t (m : Int) : Nat)) w) := by
  obtain ⟨aG, nG, cG, rfl⟩ := hG.shape
  have HF := Lib.hid hF
  obtain ⟨aF, nF, cF, rfl, HlF, hlcF, hcmF, helF⟩ := hF.op
  have hlF : t.funcs.length = nF := HlF.out
  have hnF : nF ≤ 50 := by have := (valid_bounds hb.val).2.1; omega
  have hmn : m < nF := by have := hb.rg.2; omega
  obtain ⟨w1, hw1⟩ : ∃ w1, w1 = w.alloc (.cells #[.slice aG nG cG, .slice aF nF cF] 32) := ⟨_, rfl⟩
  obtain ⟨w2, hw2⟩ : ∃ w2, w2 = w1.alloc (.cells #[.int .i64 (m : Int)] 2) := ⟨_, rfl⟩
  have X1 : Ext w w1 := by rw [hw1]; exact (Ext.refl w).alloc _
  have X2 : Ext w1 w2 := by rw [hw2]; exact (Ext.refl w1).alloc _
  have BT : Blk w1 w.heap.size 32 #[.slice aG nG cG, .slice aF nF cF] := by rw [hw1]; exact Blk.alloc _ _ _
  have hs1 : w1.heap.size = w.heap.size + 1 := by rw [hw1]; simp
  have HRc := Lib.hid (s_l3Reach K t _ _ [(m : Int)] (.slice (some ⟨w1.heap.size, 0, none⟩) 1 1) w1.heap.size w2 (Sl.ext hG (X1.trans X2) (fun _ _ h => h.any)) (Sl.ext hF (X1.trans X2) (fun _ _ h => h.ext (X1.trans X2))) hb.val (by rw [hw2]; exact one_row w1 m) (fun y hy => by rw [List.mem_singleton.1 hy]; exact hb.rg) (Nat.le_refl _))
  have HCalls : Hid (∀ (f : Nat) w', Ext w w' → f < nF → Calls Tryz.prog 35 #[.agg #[.slice aG nG cG, .slice aF nF cF], .int .i64 (f : Int)] w' (Listed64 w' (succ t (f : Int)))) := fun f w' hX hf => by
    obtain ⟨x, hx⟩ : ∃ x, t.funcs[f]? = some x := ⟨t.funcs[f]'(by omega), List.getElem?_eq_getElem _⟩
    have hvb := (valid_bounds hb.val).2.2 x (List.mem_of_getElem? hx)
    have h := s_l3Calls K t _ _ f (f : Int) rfl x w' (Sl.ext hG hX (fun _ _ h => h.any)) (Sl.ext hF hX (fun _ _ h => h.ext hX)) hx (by omega) ⟨by omega, fun s hs => by have := nodes_mem hs; omega⟩
    rw [bodyOf_at (h := (f : Int)) (x := x) (by simpa using hx)]
    exact h
  have HFr : Hid (∀ (f : Nat) (x : PFunc) (vP vB : Value) w', Ext w w' → t.funcs[f]? = some x → SlStr K w vP x.params → SlStmt K w vB x.body → Calls Tryz.prog 58 #[.agg #[.string x.name, vP, vB]] w' (Gives (.int .i64 (fsz t (f : Int) : Nat)) w')) := fun f x vP vB w' hX hx sP sB => by
    have e : fsz t (f : Int) = frameSz x := by unfold fsz; simp [hx]
    rw [e]
    exact s_l6Frame K x vP vB w' (sP.ext hX (fun _ _ h => h)) (sB.ext hX (fun _ _ h => h.ext hX)) (valid_frOk hb.val x (List.mem_of_getElem? hx))
  obtain ⟨i1, hi1, hy0, hy1, hy2⟩ := info_parts info_int64
  have HApp : Hid (∀ (w0 wr : World) (v : Value) (n : Nat) (xs : List Int) (y : Int), Ext w0 wr → wr.ownsRow w0.heap.size 2 1 v n (xs.map (Value.int .i64)) → n ≤ 2000000 →
      ∃ v' w', (Builtin.append_ #[27, 27] 27 #[v, .slice (some ⟨wr.heap.size, 0, none⟩) 1 1]).run Tryz.prog (wr.alloc (.cells #[.int .i64 y] 2)) = .ok v' w' ∧ w'.ownsRow w0.heap.size 2 1 v' (n + 1) ((xs ++ [y]).map (Value.int .i64)) ∧ Ext w0 w') :=
    fun w0 wr v n xs y hX ho hl => app_one (P := Tryz.prog) (Value.int .i64) (fun _ => rfl) Tryz.underlying27 hi1 hy0 hy1 hy2 rfl 27 hX ho y (by omega) (by omega)
  have HX1 := Lib.hid X1
  have HXa := Lib.hid X1
  have HX2 := Lib.hid X2
  have HBT := Lib.hid BT
  have HW1 := Lib.hid hw1
  have HW2 := Lib.hid hw2
  have Hs1 := Lib.hid hs1
  have Hb := Lib.hid hb
  obtain ⟨R, hR⟩ : ∃ R, R = deep t (m : Int) := ⟨_, rfl⟩
  rw [← hR]
  have HR := Lib.hid hR
  have HlF2 := Lib.hid hlF
  have b0 : w2.cell? ⟨w.heap.size, 0, none⟩ = some (.slice aG nG cG) := X2.cell ((BT.cell 0).trans rfl)
  have b1 : w2.cell? ⟨w.heap.size, 1, none⟩ = some (.slice aF nF cF) := X2.cell ((BT.cell 1).trans rfl)
  rw [hw2, hw1] at b0 b1
  clear hG hF hb hlF X1 X2 BT hw1 hw2 hs1 hR HlF
  go_enter Tryz.func55, Tryz.ntmps55
  go_wp2_with fail
  rw [← HW1.out, ← HW2.out, ← Hs1.out]
  refine HRc.out.mono ?_
  rintro e w3 ⟨v3, out, rfl, ho3, hmem, hlen, hX3⟩
  obtain ⟨lo, hlo⟩ : ∃ lo, lo = out.length := ⟨_, rfl⟩
  have ho3' := row_of ho3 hlo
  have HX3 := Lib.hid (HX2.out.trans hX3)
  have hlo2 : lo ≤ 50 := by have := HlF2.out; omega
  obtain ⟨v4, w4, r1, r2, r3⟩ := HApp.out w2 w3 v3 lo out (m : Int) hX3 ho3' (by omega)
  obtain ⟨a3, c3, rfl⟩ := rw_form0 ho3'
  obtain ⟨a4, c4, rfl⟩ := rw_form0 r2
  obtain ⟨live, hlive⟩ : ∃ live, live = out ++ [(m : Int)] := ⟨_, rfl⟩
  rw [← hlive] at r2
  have HLm : Hid (∀ x, MetF t (m : Int) x → x ∈ live) := fun x hx => by
    rw [hlive, List.mem_append]
    rcases hx with rfl | hx
    · exact .inr (List.mem_singleton.2 rfl)
    · exact .inl ((hmem x).2 hx)
  have HLx : Hid (∀ x ∈ live, MetF t (m : Int) x) := fun x hx => by
    rw [hlive, List.mem_append] at hx
    rcases hx with hx | hx
    · exact .inr ((hmem x).1 hx)
    · exact .inl (List.mem_singleton.1 hx)
  have HLl : Hid (live.length = lo + 1) := by
    show _ = _
    rw [hlive, hlo]; simp
  have HP1 := Lib.hid r1
  have HLv := Lib.hid r2
  have HX4 : Hid (Ext w1 w4) := HX2.out.trans r3
  obtain ⟨L, hL⟩ : ∃ L, L = lo + 1 := ⟨_, rfl⟩
  rw [← hL] at HLv HLl
  have hL51 : L ≤ 51 := by omega
  have hL0 : 0 < L := by omega
  clear b0 b1 HRc ho3 hmem hX3 hlo ho3' r1 r2 r3 hlive hlen
  go_wp2_with (at_builtin; refine Lib.wpList_append_run _ rfl _ _ _ _ rfl _ _ rfl rfl _ _ HP1.out ?_)
  rw [← hL]
  clear HP1 hL
  obtain ⟨w5, hw5⟩ : ∃ w5, w5 = w4.alloc (.cells #[] 2) := ⟨_, rfl⟩
  have X5 : Ext w4 w5 := by rw [hw5]; exact (Ext.refl w4).alloc _
  have ho5 : w5.ownsRow w4.heap.size 2 1 (.slice (some ⟨w4.heap.size, 0, none⟩) 0 0) 0 ((rowS (fun _ => 0) 0).map (Value.int .i64)) := by rw [hw5]; exact rw_new0 w4 w4.heap.size _ 1 (Nat.le_refl _)
  have HX5 := Lib.hid X5
  have HO5 := Lib.hid ho5
  have HW5 := Lib.hid hw5
  clear X5 ho5 hw5
  go_loopw [6, 7] (fun v6 v7 wr => ∃ (k : Nat) (a : Option Addr) (c : Nat), k ≤ nF ∧ v7 = .int .i64 k ∧ v6 = .slice a k c ∧ Hid (wr.ownsRow w4.heap.size 2 1 (.slice a k c) k ((rowS (fun _ => 0) k).map (Value.int .i64))) ∧ Hid (Ext w4 wr)) (fun _ v7 _ => nF - (intOf v7).toNat)
  case atStart => exact ⟨0, _, _, Nat.zero_le _, rfl, rfl, by rw [← HW5.out]; exact HO5.out, by rw [← HW5.out]; exact HX5.out⟩
  case round =>
    clear HO5 HX5 HW5
    obtain ⟨k, a, c, hk, rfl, rfl, HO, HX⟩ := hrel
    have t1 : wr.cell? ⟨w.heap.size, 1, none⟩ = some (.slice aF nF cF) := (HX4.out.trans HX.out).cell ((HBT.out.cell 1).trans rfl)
    by_cases hlt : k < nF
    · obtain ⟨v', w', p1, p2, p3⟩ := HApp.out w4 wr _ k _ (0 : Int) HX.out HO.out (by omega)
      obtain ⟨a5, c5, rfl⟩ := rw_form0 p2
      have HP1 := Lib.hid p1
      have HX6 := Lib.hid p3
      have HO6 : Hid (w'.ownsRow w4.heap.size 2 1 (.slice a5 (k + 1) c5) (k + 1) ((rowS (fun _ => 0) (k + 1)).map (Value.int .i64))) := by
        rw [rowS_succ]; exact p2
      clear p1 p2 p3 HO
      go_wp2_with (at_builtin; refine Lib.wpList_append_run _ rfl _ _ _ _ rfl _ _ rfl rfl _ _ HP1.out ?_)
      go_roundw
      case rel => exact ⟨k + 1, _, _, by omega, by go_num, rfl, HO6.out, HX6.out⟩
      case measure => simp [intOf]; omega
    obtain rfl : nF = k := by omega
    obtain ⟨g, c', e', hg, _, hgc, hgm⟩ := rw_form HO.out (by omega)
    obtain ⟨rfl, rfl⟩ : a = some ⟨g, 0, none⟩ ∧ c' = c := by cases e'; exact ⟨rfl, rfl⟩
    obtain ⟨g4, c4', e4, _, _, hlc, hlm⟩ := rw_form HLv.out hL0
    obtain ⟨rfl, rfl⟩ : a4 = some ⟨g4, 0, none⟩ ∧ c4' = c4 := by cases e4; exact ⟨rfl, rfl⟩
    have HA0 : Hid (AtR t (m : Int) live 0 0 (fun _ => 0)) := AtR.zero _ _ _
    have Hg := Lib.hid hg
    clear e' e4 hg
    go_wp2_with fail
    go_loopw [8] (fun v8 w6 => ∃ (r : Nat) (S : Nat → Nat), r ≤ L ∧ v8 = .int .i64 r ∧ Hid (AtR t (m : Int) live r 0 S) ∧ Hid (w6.ownsRow w4.heap.size 2 1 (.slice (some ⟨g, 0, none⟩) nF c') nF ((rowS S nF).map (Value.int .i64))) ∧ Hid (Ext w4 w6)) (fun v8 _ => L - (intOf v8).toNat)
    case atStart => exact ⟨0, _, Nat.zero_le _, rfl, HA0.out, HO.out, HX.out⟩
    case round =>
      clear HA0 HO HX t1
      obtain ⟨r, S, hr, rfl, HA, HO, HX⟩ := hrel
      by_cases hlr : r < L
      · have HA1 := HA
        have HO1 := HO
        have HX1 := HX
        clear HA HO HX
        go_wp2_with fail
        go_loopw [9] (fun v9 w7 => ∃ (k : Nat) (S : Nat → Nat), k ≤ L ∧ v9 = .int .i64 k ∧ Hid (AtR t (m : Int) live r k S) ∧ Hid (w7.ownsRow w4.heap.size 2 1 (.slice (some ⟨g, 0, none⟩) nF c') nF ((rowS S nF).map (Value.int .i64))) ∧ Hid (Ext w4 w7)) (fun v9 _ => L - (intOf v9).toNat)
        case atStart => exact ⟨0, S, Nat.zero_le _, rfl, HA1.out, HO1.out, HX1.out⟩
        case round =>
          clear HA1 HO1 HX1
          obtain ⟨k, S, hk, rfl, HA, HO, HX⟩ := hrel
          by_cases hlk : k < L
          · obtain ⟨fi, hfi⟩ : ∃ fi, live[k]? = some fi := ⟨live[k]'(by have := HLl.out; omega), List.getElem?_eq_getElem _⟩
            have hmet := HLx.out fi (List.mem_of_getElem? hfi)
            have hfr := met_all Hb.out.rg hmet
            obtain ⟨f, rfl⟩ : ∃ f : Nat, fi = f := ⟨fi.toNat, by omega⟩
            have hfn : f < nF := by have := HlF2.out; omega
            have HXw := Lib.hid (HXa.out.trans (HX4.out.trans HX.out))
            have k0 := (rw_at (rw_ext HLv.out HX.out) (i := k) (u := .int .i64 (f : Int)) (by rw [List.getElem?_map, hfi]; rfl)).1
            have t0 : wr.cell? ⟨w.heap.size, 0, none⟩ = some (.slice aG nG cG) := (HX4.out.trans HX.out).cell ((HBT.out.cell 0).trans rfl)
            have t1 : wr.cell? ⟨w.heap.size, 1, none⟩ = some (.slice aF nF cF) := (HX4.out.trans HX.out).cell ((HBT.out.cell 1).trans rfl)
            have HC := Lib.hid (HCalls.out f wr HXw.out hfn)
            have Hfi := Lib.hid hfi
            have Hmet := Lib.hid hmet
            have z0 : (0 : Int) ≤ (k : Int) := by omega
            have z1 : (k : Int) < (L : Int) := by omega
            clear hfi hmet hfr
            go_wp2_with fail
            refine HC.out.mono ?_
            rintro e w8 ⟨v8, rfl, ho8, hX8⟩
            obtain ⟨nc, hnc⟩ : ∃ nc, nc = (succ t (f : Int)).length := ⟨_, rfl⟩
            obtain ⟨cl, hcl⟩ : ∃ cl, cl = succ t (f : Int) := ⟨_, rfl⟩
            have hnc50 : nc ≤ 50 := by
              have h : (succ t (f : Int)).length ≤ t.funcs.length := callsL_len t _
              have := HlF2.out
              omega
            have Hsr : Hid (∀ x ∈ cl, 0 ≤ x ∧ x < nF) := fun x hx => by
              rw [hcl] at hx
              have := succ_range hx
              have := HlF2.out
              omega
            rw [← hcl] at hnc ho8
            rw [← hnc] at ho8
            obtain ⟨a8, c8, rfl⟩ := rw_form0 ho8
            have HO8 := Lib.hid ho8
            have HX8 := Lib.hid (HX.out.trans hX8)
            have HXw8 := Lib.hid (HXw.out.trans hX8)
            have HOs := Lib.hid (rw_ext HO.out hX8)
            have Hnc := Lib.hid hnc
            have Hcl := Lib.hid hcl
            have hdl := deep_le Hb.out.fr (by rw [HlF2.out]; exact hnF)
            have HSb : Hid (∀ i : Nat, S i ≤ 101600) := fun i => Nat.le_trans (HA.out.le i) (hdl _)
            clear ho8 hX8 HC HO k0 t0 t1 hnc hcl hdl
            go_wp2_with fail
            go_loop [11, 13] (fun v11 v13 => ∃ (q most : Nat), q ≤ nc ∧ most ≤ 101600 ∧ v13 = .int .i64 q ∧ v11 = .int .i64 most ∧ Hid (most = (cl.take q).foldl (fun m x => max m (S x.toNat)) 0)) (fun _ v13 => nc - (intOf v13).toNat)
            case atStart => exact ⟨0, 0, Nat.zero_le _, by omega, rfl, rfl, rfl⟩
            case round =>
              obtain ⟨q, most, hq, hmb, rfl, rfl, HM⟩ := hrel
              by_cases hqn : q < nc
              · obtain ⟨x, hx⟩ : ∃ x, cl[q]? = some x := ⟨cl[q]'(by have := Hnc.out; omega), List.getElem?_eq_getElem _⟩
                have hx0 := Hsr.out x (List.mem_of_getElem? hx)
                obtain ⟨xc, rfl⟩ : ∃ xc : Nat, x = xc := ⟨x.toNat, by omega⟩
                obtain ⟨g8, c8', e8, _, _, _, _⟩ := rw_form HO8.out (by omega)
                obtain ⟨rfl, rfl⟩ : a8 = some ⟨g8, 0, none⟩ ∧ c8' = c8 := by cases e8; exact ⟨rfl, rfl⟩
                have k0 := (rw_at HO8.out (i := q) (u := .int .i64 (xc : Int)) (by rw [List.getElem?_map, hx]; rfl)).1
                have hxn : xc < nF := by omega
                have k1 := (rw_at HOs.out (i := xc) (u := .int .i64 (S xc : Nat)) (by rw [List.getElem?_map, rowS_at hxn]; rfl)).1
                have hm2 := fold_snoc' (g := fun x => S x.toNat) hx
                rw [← HM.out] at hm2
                obtain ⟨sv, hsv⟩ : ∃ sv, sv = S xc := ⟨_, rfl⟩
                have hsb : sv ≤ 101600 := by rw [hsv]; exact HSb.out _
                rw [show S ((xc : Int)).toNat = sv from hsv.symm] at hm2
                rw [← hsv] at k1
                have HM2 := Lib.hid hm2.symm
                have z2 : (0 : Int) ≤ (q : Int) := by omega
                have z3 : (q : Int) < (nc : Int) := by omega
                have z4 : (0 : Int) ≤ (xc : Int) := by omega
                have z5 : (xc : Int) < (nF : Int) := by omega
                clear hx hx0 e8 hm2 hsv
                go_wp2_with fail
                refine (s_l6Most most sv _).mono ?_
                rintro e w9 ⟨rfl, rfl⟩
                go_wp2
                go_round
                case rel => exact ⟨q + 1, max most sv, by omega, by omega, by go_num, rfl, HM2.out⟩
                case measure => simp [intOf]; omega
              · have hke : cl.take q = cl := List.take_of_length_le (by rw [← Hnc.out]; omega)
                have hme : most = maxL (fun x => S x.toNat) (succ t (f : Int)) := by rw [HM.out, hke, Hcl.out]; rfl
                obtain ⟨aF', nF', cF', eF, _, _, _, helF2⟩ := HF.out.op
                cases eF
                obtain ⟨bF, oF, rfl, _, helF3⟩ := helF2 (by omega)
                obtain ⟨x, cs, hxk, _, hC, hcs⟩ := helF3 f hfn
                obtain ⟨vP, vB, rfl, sP, sB, _⟩ := hC
                have q0 := HXw8.out.cell (hcs.z rfl)
                have q1 := HXw8.out.cell (hcs 1 _ rfl)
                have q2 := HXw8.out.cell (hcs 2 _ rfl)
                have t1 : w8.cell? ⟨w.heap.size, 1, none⟩ = some (.slice (some ⟨bF, oF, none⟩) nF cF) := (HX4.out.trans HX8.out).cell ((HBT.out.cell 1).trans rfl)
                have HFc := Lib.hid (HFr.out f x vP vB w8 HXw8.out hxk sP sB)
                obtain ⟨aP, nP, cP, rfl⟩ := sP.shape
                obtain ⟨aB, nB, cB, rfl⟩ := sB.shape
                have hfz := fsz_le Hb.out.fr (f : Int)
                have hst := AtR.step Hb.out.rg Hb.out.rec_ HA.out (fun x hx => (met_all Hb.out.rg (HLx.out x hx)).1) Hfi.out Hmet.out
                rw [← hme, show ((f : Int)).toNat = f from rfl] at hst
                obtain ⟨fz, hfzd⟩ : ∃ fz, fz = fsz t (f : Int) := ⟨_, rfl⟩
                rw [← hfzd] at hfz hst HFc
                have Hst := Lib.hid hst
                have z4 : (0 : Int) ≤ (f : Int) := by omega
                have z5 : (f : Int) < (nF : Int) := by omega
                obtain ⟨nm, xp, xb⟩ := x
                simp only at q0 HFc
                clear hke hme helF2 helF3 hxk hcs sP sB hst hfzd helF
                go_wp2_with fail
                refine HFc.out.mono ?_
                rintro e w9 ⟨rfl, hX9⟩
                have hrow := rw_ext HOs.out hX9
                obtain ⟨k1, k2⟩ := rw_at hrow (i := f) (u := .int .i64 (S f : Nat)) (by rw [List.getElem?_map, rowS_at hfn]; rfl)
                have hset := rw_set hrow hfn (.int .i64 ((most : Int) + (fz : Int)))
                rw [mapset, show (most : Int) + (fz : Int) = ((most + fz : Nat) : Int) by omega, rowS_set] at hset
                have HO9 : Hid ((w9.setCell ⟨g, f, none⟩ (.int .i64 ((most : Int) + (fz : Int)))).ownsRow w4.heap.size 2 1 (.slice (some ⟨g, 0, none⟩) nF c') nF ((rowS (updS S f (most + fz)) nF).map (Value.int .i64))) := by
                  rw [show (most : Int) + (fz : Int) = ((most + fz : Nat) : Int) by omega]; exact hset
                have HX9 : Hid (Ext w4 (w9.setCell ⟨g, f, none⟩ (.int .i64 ((most : Int) + (fz : Int))))) := Below.setCell (HX8.out.trans hX9) (p := ⟨g, f, none⟩) Hg.out _
                clear hrow hset hX9 q0 q1 q2 t1 HFc
                go_wp2
                go_roundw
                case rel => exact ⟨k + 1, _, by omega, by go_num, Hst.out, HO9.out, HX9.out⟩
                case measure => simp [intOf]; omega
          · obtain rfl : L = k := by omega
            have hA2 := HA.out
            rw [← HLl.out] at hA2
            have HA2 := Lib.hid (hA2.next HLm.out)
            clear hA2
            go_wp2
            go_roundw
            case rel => exact ⟨r + 1, S, by omega, by go_num, HA2.out, HO.out, HX.out⟩
            case measure => simp [intOf]; omega
      · obtain rfl : L = r := by omega
        have hA2 := HA.out
        rw [← HLl.out] at hA2
        have hfin := AtR.fin Hb.out.rec_ HLm.out hA2
        rw [← HR.out, show ((m : Int)).toNat = m from rfl] at hfin
        have k1 := (rw_at HO.out (i := m) (u := .int .i64 (S m : Nat)) (by rw [List.getElem?_map, rowS_at hmn]; rfl)).1
        rw [hfin] at k1
        have HXe := Lib.hid (HXa.out.trans (HX4.out.trans HX.out))
        have z4 : (0 : Int) ≤ (m : Int) := by omega
        have z5 : (m : Int) < (nF : Int) := by omega
        clear hA2 hfin HA HO HX
        go_wp2
        go_ret
        exact Gives.int rfl HXe.out
theorem check_bd {t : PTree} (h : (checkAns t).1 = 0) (hfr : ∀ x ∈ t.funcs, frameSz x ≤ 2032) : BdOk t (findF t mainB) := by
  have hv := check_valid h
  unfold checkAns at h
  rw [if_pos hv] at h
  obtain ⟨h1, h2⟩ := check_met h
  refine ⟨hv, hfr, ⟨h1, ?_⟩, h2⟩
  rcases findF_range t mainB with h3 | ⟨_, h3, _⟩
  · omega
  · omega
theorem bound_neg {t : PTree} (h : (checkAns t).1 ≠ 0) : boundAns t = -1 := by
  unfold boundAns
  rw [if_neg h]
theorem bound_wide {t : PTree} {x : PFunc} (hx : x ∈ t.funcs) (h : 2032 < frameSz x) : boundAns t = -1 := by
  unfold boundAns
  by_cases h0 : (checkAns t).1 = 0
  · rw [if_pos h0, if_pos ⟨x, hx, h⟩]
  · rw [if_neg h0]
theorem bound_deep {t : PTree} (h : (checkAns t).1 = 0) (hfr : ∀ x ∈ t.funcs, frameSz x ≤ 2032) : boundAns t = (deep t (findF t mainB) : Nat) := by
  unfold boundAns
  rw [if_pos h, if_neg]
  rintro ⟨x, hx, hl⟩
  have := hfr x hx
  omega
theorem sound_funcs {t : PTree} (h : (checkAns t).1 = 0) : 0 < t.funcs.length := by
  have hv := check_valid h
  unfold checkAns at h
  rw [if_pos hv] at h
  have h1 := (check_met h).1
  rcases findF_range t mainB with h3 | ⟨_, h3, _⟩
  · omega
  · omega
set_option maxRecDepth 1000000 in
set_option maxHeartbeats 4000000 in
theorem s_Bound (K : Foot) (t : PTree) (vG vF : Value) (w : World) (hG : SlGlob K w vG t.globals) (hF : SlFunc K w vF t.funcs) (hz : Small t) :
    Calls Tryz.prog 24 #[.agg #[vG, vF]] w (Gives (.int .i64 (boundAns t)) w) := by
  obtain ⟨w1, hw1⟩ : ∃ w1, w1 = w.alloc (.cells #[vG, vF] 32) := ⟨_, rfl⟩
  have X1 : Ext w w1 := by rw [hw1]; exact (Ext.refl w).alloc _
  have HFr := Lib.hid (s_Frames K t vG vF w1 (Sl.ext hG X1 (fun _ _ h => h.any)) (Sl.ext hF X1 (fun _ _ h => h.ext X1)) hz)
  have HGx : Hid (∀ w', Ext w w' → SlGlob K w' vG t.globals) := fun w' k => Sl.ext hG k (fun _ _ h => h.any)
  have HFx : Hid (∀ w', Ext w w' → SlFunc K w' vF t.funcs) := fun w' k => Sl.ext hF k (fun _ _ h => h.ext k)
  obtain ⟨aG, nG, cG, rfl⟩ := hG.shape
  obtain ⟨aF, nF, cF, rfl⟩ := hF.shape
  have BT : Blk w1 w.heap.size 32 #[.slice aG nG cG, .slice aF nF cF] := by rw [hw1]; exact Blk.alloc _ _ _
  obtain ⟨R, hR⟩ : ∃ R, R = boundAns t := ⟨_, rfl⟩
  rw [← hR]
  have HR := Lib.hid hR
  have HX1 := Lib.hid X1
  have HBT := Lib.hid BT
  have HW1 := Lib.hid hw1
  have b0 : w1.cell? ⟨w.heap.size, 0, none⟩ = some (.slice aG nG cG) := (BT.cell 0).trans rfl
  have b1 : w1.cell? ⟨w.heap.size, 1, none⟩ = some (.slice aF nF cF) := (BT.cell 1).trans rfl
  rw [hw1] at b0 b1
  clear hG hF hz hR X1 BT hw1
  go_enter Tryz.func24, Tryz.ntmps24
  go_wp2_with fail
  rw [← HW1.out]
  refine HFr.out.mono ?_
  rintro e w2 ⟨v2, rfl, ho2, hX2⟩
  have HX2 := Lib.hid (HX1.out.trans hX2)
  have t0 : w2.cell? ⟨w.heap.size, 0, none⟩ = some (.slice aG nG cG) := hX2.cell ((HBT.out.cell 0).trans rfl)
  have t1 : w2.cell? ⟨w.heap.size, 1, none⟩ = some (.slice aF nF cF) := hX2.cell ((HBT.out.cell 1).trans rfl)
  obtain ⟨a2, c2, rfl⟩ := rw_form0 ho2
  clear hX2 HFr b0 b1
  by_cases h0 : (checkAns t).1 = 0
  case neg =>
    have hl : framesAns t = [] := by unfold framesAns; rw [if_neg h0]
    have HRr : Hid (R = -1) := by
      show _ = _
      rw [HR.out]; exact bound_neg h0
    rw [hl]
    clear ho2 h0 hl
    go_wp2
    go_ret
    exact Gives.int HRr.out.symm HX2.out
  have hl : framesAns t = t.funcs.map fun x => ((frameSz x : Nat) : Int) := by unfold framesAns; rw [if_pos h0]
  rw [hl, List.length_map] at ho2
  rw [hl, List.length_map]
  obtain ⟨n, hn⟩ : ∃ n, n = t.funcs.length := ⟨_, rfl⟩
  have hn0 : 0 < n := by rw [hn]; exact sound_funcs h0
  have hn50 : n ≤ 50 := by rw [hn]; exact (valid_bounds (check_valid h0)).2.1
  rw [← hn] at ho2 ⊢
  have HO2 := Lib.hid ho2
  have Hn := Lib.hid hn
  have H0 := Lib.hid h0
  clear ho2 hn hl h0
  have q0 : ((n : Int) == 0) = false := by simp; omega
  go_wp2_with fail
  go_loop [4] (fun v4 => ∃ k : Nat, k ≤ n ∧ v4 = .int .i64 k ∧ Hid (∀ i x, i < k → t.funcs[i]? = some x → frameSz x ≤ 2032)) (fun v4 => n - (intOf v4).toNat)
  case atStart => exact ⟨0, Nat.zero_le _, rfl, fun i x h => absurd h (Nat.not_lt_zero _)⟩
  case round =>
    obtain ⟨k, hk, rfl, HA⟩ := hrel
    by_cases hlt : k < n
    · obtain ⟨x, hx⟩ : ∃ x, t.funcs[k]? = some x := ⟨t.funcs[k]'(by have := Hn.out; omega), List.getElem?_eq_getElem _⟩
      obtain ⟨g, c', e', _, _, _, _⟩ := rw_form HO2.out (by omega)
      obtain ⟨rfl, rfl⟩ : a2 = some ⟨g, 0, none⟩ ∧ c' = c2 := by cases e'; exact ⟨rfl, rfl⟩
      have k0 := (rw_at HO2.out (i := k) (u := .int .i64 (frameSz x : Nat)) (by rw [List.map_map, List.getElem?_map, hx]; rfl)).1
      obtain ⟨fz, hfz⟩ : ∃ fz, fz = frameSz x := ⟨_, rfl⟩
      rw [← hfz] at k0
      have z0 : (0 : Int) ≤ (k : Int) := by omega
      have z1 : (k : Int) < (n : Int) := by omega
      by_cases hb : (2032 : Int) < (fz : Int)
      · have HRr : Hid (R = -1) := by
          show _ = _
          rw [HR.out]; exact bound_wide (List.mem_of_getElem? hx) (by omega)
        clear hx hfz e'
        go_wp2
        go_ret
        exact Gives.int HRr.out.symm HX2.out
      · have HA2 : Hid (∀ i x, i < k + 1 → t.funcs[i]? = some x → frameSz x ≤ 2032) := fun i y hi hy => by
          by_cases hik : i < k
          · exact HA.out i y hik hy
          · obtain rfl : k = i := by omega
            obtain rfl : x = y := Option.some.inj (hx.symm.trans hy)
            omega
        clear hx hfz e'
        go_wp2
        go_round
        case rel => exact ⟨k + 1, by omega, by go_num, HA2.out⟩
        case measure => simp [intOf]; omega
    · obtain rfl : n = k := by omega
      have hall : ∀ x ∈ t.funcs, frameSz x ≤ 2032 := fun x hx => by
        obtain ⟨i, hi, e⟩ := List.getElem_of_mem hx
        exact HA.out i x (by have := Hn.out; omega) (by rw [List.getElem?_eq_getElem hi, e])
      have hbd := check_bd H0.out hall
      have hR2 := bound_deep H0.out hall
      obtain ⟨m, hm⟩ : ∃ m : Nat, findF t mainB = m := ⟨(findF t mainB).toNat, by have := hbd.rg; omega⟩
      rw [hm] at hbd hR2
      have HRr : Hid (R = (deep t (m : Int) : Nat)) := by
        show _ = _
        rw [HR.out]; exact hR2
      have HFn : Hid (∀ w', Ext w w' → Calls Tryz.prog 46 #[.agg #[.slice aG nG cG, .slice aF nF cF], .string mainB] w' (Gives (.int .i64 (m : Int)) w')) := fun w' hX => by
        have := s_l3Func K t _ _ mainB w' (HGx.out w' hX) (HFx.out w' hX)
        rw [hm] at this
        exact this
      have HDp : Hid (∀ w', Ext w w' → Calls Tryz.prog 55 #[.agg #[.slice aG nG cG, .slice aF nF cF], .int .i64 (m : Int)] w' (Gives (.int .i64 (deep t (m : Int) : Nat)) w')) := fun w' hX => s_l6Deep K t _ _ m w' (HGx.out w' hX) (HFx.out w' hX) hbd
      clear hall hbd hR2 hm
      go_wp2_with fail
      refine start_ (n := 5) (S := fun w' => w'.cell? ⟨w.heap.size, 0, none⟩ = some (.slice aG nG cG) ∧ w'.cell? ⟨w.heap.size, 1, none⟩ = some (.slice aF nF cF)) (ds := []) #[false, false, false, false, false] (by kernel_rfl) rfl rfl ?hS (fun hHeld => ?_)
      case hS => exact ⟨by simpa using t0, by simpa using t1⟩
      refine take_ (i := 0) (N := some 21) (v := ?_) (a' := ?_) #[true, false, false, false, false] rfl rfl (by kernel_rfl) (fun _ _ _ h => h) (Or.inl ⟨by rfl, ?_⟩) hHeld ?_ ?_
      rotate_left
      · rintro w' ⟨s0, s1⟩
        go_simp
        with_reducible rfl
      rotate_left
      · simp only [Act.put, List.setIfInBounds_toArray, List.set_cons_zero, List.set_cons_succ, i64_w, i32_w]
        rfl
      refine take_ (i := 1) (N := some 22) (v := ?_) (a' := ?_) #[true, true, false, false, false] rfl rfl (by kernel_rfl) (fun _ _ _ h => h) (Or.inl ⟨by rfl, ?_⟩) hHeld ?_ ?_
      rotate_left
      · rintro w' ⟨s0, s1⟩
        go_simp
        with_reducible rfl
      rotate_left
      · simp only [Act.put, List.setIfInBounds_toArray, List.set_cons_zero, List.set_cons_succ, i64_w, i32_w]
        rfl
      refine one_ (i := 2) (N := some 23) #[true, true, true, false, false] rfl rfl (by kernel_rfl) (by decide) (fun K hK => ?_)
      refine goes_ (N := some 23) Tryz.func46 (by kernel_rfl) rfl #[.agg #[.slice aG nG cG, .slice aF nF cF], .string mainB] (by rfl) rfl rfl (by simp [Act.eval, mainB]) ?_
      refine (HFn.out _ (HX2.out.drew)).mono ?_
      rintro e w5 ⟨rfl, hX5⟩
      refine ⟨_, rfl, ?_⟩
      have hX25 : Ext w2 w5 := ((Ext.refl w2).drew).trans hX5
      refine hK.out _ _ ⟨hX25.cell t0, hX25.cell t1⟩ (fun hHeld => ?_)
      clear hK K
      refine norm_ (a' := ?_) ?_ ?_
      rotate_left
      · show Act.put _ (some 23) _ = _
        simp only [Act.put, List.setIfInBounds_toArray, List.set_cons_zero, List.set_cons_succ, i64_w, i32_w]
        rfl
      refine one_ (i := 3) (N := some 24) #[true, true, true, true, false] rfl rfl (by kernel_rfl) (by decide) (fun K hK => ?_)
      refine goes_ (N := some 24) Tryz.func55 (by kernel_rfl) rfl #[.agg #[.slice aG nG cG, .slice aF nF cF], .int .i64 (m : Int)] (by rfl) rfl rfl (by simp [Act.eval]) ?_
      refine (HDp.out _ (HX2.out.trans hX25)).mono ?_
      rintro e w6 ⟨rfl, hX6⟩
      refine ⟨_, rfl, ?_⟩
      have hX26 := hX25.trans hX6
      refine hK.out _ _ ⟨hX26.cell t0, hX26.cell t1⟩ (fun hHeld => ?_)
      clear hK K
      refine norm_ (a' := ?_) ?_ ?_
      rotate_left
      · show Act.put _ (some 24) _ = _
        simp only [Act.put, List.setIfInBounds_toArray, List.set_cons_zero, List.set_cons_succ, i64_w, i32_w]
        rfl
      refine pure_ (i := 4) (N := some 2) (v := ?_) (a' := ?_) #[true, true, true, true, true] rfl rfl (by kernel_rfl) (fun _ _ _ h => h) (Or.inl ⟨by rfl, ?_⟩) ?_ ?_
      rotate_left
      · intro w'
        go_simp
        with_reducible rfl
      rotate_left
      · simp only [Act.put, List.setIfInBounds_toArray, List.set_cons_zero, List.set_cons_succ, i64_w, i32_w]
        rfl
      refine done_ (by kernel_rfl) ?_
      clear hHeld
      go_wp2
      go_ret
      exact Gives.int HRr.out.symm (HX2.out.trans hX26)
end Go.Proofs.YtcfggjmdcaoecaaGreatDoor
