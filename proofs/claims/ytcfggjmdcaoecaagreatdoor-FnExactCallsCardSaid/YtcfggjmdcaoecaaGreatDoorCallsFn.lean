/- The reference's Calls and the program's Calls answer as the model. -/
import Derived.Test.YtcfggjmdcaoecaaGreatDoorSpecCalls
import Derived.Test.YtcfggjmdcaoecaaGreatDoorSpecValid
import Derived.Test.YtcfggjmdcaoecaaGreatDoorImplCkC
import Derived.Test.YtcfggjmdcaoecaaGreatDoorTreeW
import Derived.IntWalk
set_option linter.unusedVariables false
set_option linter.unusedSimpArgs false
namespace Go.Proofs.YtcfggjmdcaoecaaGreatDoor
open Go Go.RowKit Md

def bodyAt (t : PTree) (f : Int) : List PStmt := (t.funcs[f.toNat]?.map fun x : PFunc => x.body).getD []
/-- What Calls answers. -/
def callsAns (t : PTree) (f : Int) : List Int := if valid t = true ∧ 0 ≤ f ∧ f < t.funcs.length then callsL t (bodyAt t f) else []
theorem valid_bounds {t : PTree} (h : valid t = true) : t.globals.length ≤ 50 ∧ t.funcs.length ≤ 50 ∧ ∀ x ∈ t.funcs, x.params.length ≤ 6 ∧ x.body.length ≤ 500 ∧ nodes x.body ≤ 2000 := by
  unfold valid at h
  simp only [Bool.and_eq_true, decide_eq_true_eq, List.all_eq_true] at h
  refine ⟨h.1.1.1, h.1.1.2, fun x hx => ?_⟩
  have := h.2 x hx
  unfold okFunc at this
  simp only [Bool.and_eq_true, decide_eq_true_eq] at this
  exact ⟨this.1.1.1.1.2, this.1.1.2, this.1.2⟩
theorem nodes_mem {l : List PStmt} {s : PStmt} (h : s ∈ l) : s.e.length + s.f.length ≤ nodes l := by
  induction l with
  | nil => cases h
  | cons a r ih =>
    have e : nodes (a :: r) = (a.e.length + a.f.length) + nodes r := by simp [nodes]
    rcases List.mem_cons.1 h with rfl | h
    · omega
    · have := ih h; omega
theorem outL_nodes (t : PTree) (l : List PStmt) : (outL t l).length ≤ nodes l := by
  induction l with
  | nil => simp [outL]
  | cons a r ih =>
    have e : nodes (a :: r) = (a.e.length + a.f.length) + nodes r := by simp [nodes]
    have h1 : outL t (a :: r) = outS t a ++ outL t r := rfl
    have h2 : (outS t a).length ≤ a.e.length + a.f.length := by
      unfold outS
      have := List.length_filterMap_le (callN t) (a.e ++ a.f)
      rw [List.length_append] at this
      exact this
    rw [h1, List.length_append]
    omega
theorem callsL_len (t : PTree) (l : List PStmt) : (callsL t l).length ≤ t.funcs.length := upTo_len (outL t l) t.funcs.length
theorem callsAns_len (t : PTree) (f : Int) : (callsAns t f).length ≤ t.funcs.length := by
  unfold callsAns
  split
  · exact callsL_len t _
  · simp
theorem callsAns_at {t : PTree} {f : Nat} {x : PFunc} (hv : valid t = true) (hx : t.funcs[f]? = some x) : callsAns t (f : Int) = callsL t x.body := by
  have := (List.getElem?_eq_some_iff.1 hx).1
  unfold callsAns
  rw [if_pos ⟨hv, by omega, by omega⟩]
  unfold bodyAt
  simp [hx]

set_option maxRecDepth 100000 in
set_option maxHeartbeats 2000000 in
theorem s_Calls (K : Foot) (t : PTree) (vG vF : Value) (f : Int) (w : World) (hG : SlGlob K w vG t.globals) (hF : SlFunc K w vF t.funcs) (hz : Small t) (hf : -9223372036854775808 ≤ f ∧ f ≤ 9223372036854775807) :
    Calls Tryz.prog 10 #[.agg #[vG, vF], .int .i64 f] w (Listed64 w (callsAns t f)) := by
  obtain ⟨aG, nG, cG, rfl⟩ := hG.shape
  obtain ⟨aF, nF, cF, rfl⟩ := hF.shape
  have hlF : t.funcs.length = nF := sl_len hF
  have hE : Ext w (w.alloc (.cells #[.slice aG nG cG, .slice aF nF cF] 32)) := (Ext.refl w).alloc _
  have hX := Blk.alloc w 32 #[.slice aG nG cG, .slice aF nF cF]
  have HV := Lib.hid (s_ValidTree K t _ _ _ (Sl.ext hG hE (fun _ _ h => h.any)) (Sl.ext hF hE (fun _ _ h => h.ext hE)) hz)
  have HG := Lib.hid hG
  have HF := Lib.hid hF
  obtain ⟨R, hR⟩ : ∃ R, R = callsAns t f := ⟨_, rfl⟩
  rw [← hR]
  have HR := Lib.hid hR
  have HlF := Lib.hid hlF
  clear hG hF hz hlF hR
  go_enter Tryz.func10, Tryz.ntmps10
  by_cases hv : valid t = true
  · rw [hv] at HV
    by_cases hin : 0 ≤ f ∧ f < nF
    · obtain ⟨g, rfl⟩ : ∃ g : Nat, f = g := ⟨f.toNat, by omega⟩
      obtain ⟨x, hx⟩ : ∃ x, t.funcs[g]? = some x := ⟨t.funcs[g]'(by have := HlF.out; omega), List.getElem?_eq_getElem _⟩
      have hb := (valid_bounds hv).2.2 x (List.mem_of_getElem? hx)
      have hbs : ∀ s ∈ x.body, s.e.length ≤ 1048576 ∧ s.f.length ≤ 1048576 := fun s hs => by
        have := nodes_mem hs; omega
      have HC : Hid (∀ w', Ext w w' → Calls Tryz.prog 35 #[.agg #[.slice aG nG cG, .slice aF nF cF], .int .i64 (g : Int)] w' (Listed64 w' R)) := fun w' hX' => by
        have := s_l3Calls K t _ _ g (g : Int) rfl x w' (Sl.ext HG.out hX' (fun _ _ h => h.any)) (Sl.ext HF.out hX' (fun _ _ h => h.ext hX')) hx (by have := (valid_bounds hv).2.1; omega) ⟨by omega, hbs⟩
        rw [HR.out, callsAns_at hv hx]
        exact this
      have HIn : Hid (∀ w', Calls Tryz.prog 34 #[.int .i64 (g : Int), .int .i64 0, .int .i64 ((nF : Int) - 1)] w' (Same (.bool true) w')) := fun w' => by
        have := s_l1In (g : Int) 0 ((nF : Int) - 1) w'
        rw [show (decide ((0 : Int) ≤ (g : Int)) && decide ((g : Int) ≤ (nF : Int) - 1)) = true by simp; omega] at this
        exact this
      have hw : wrap64 ((nF : Int) - 1) = (nF : Int) - 1 := by
        have := (valid_bounds hv).2.1
        have := HlF.out
        unfold Go.RowKit.wrap64; omega
      clear hx hb hbs hv hin
      have b0 := (hX.cell 0).trans (show _ = some (Value.slice aG nG cG) from rfl)
      have b1 := (hX.cell 1).trans (show _ = some (Value.slice aF nF cF) from rfl)
      go_wp2_with fail
      refine HV.out.mono ?_
      rintro e w2 ⟨rfl, hX2⟩
      have b0 := hX2.cell b0
      have b1 := hX2.cell b1
      go_wp2_with fail
      refine (HIn.out _).mono ?_
      rintro e w3 ⟨rfl, rfl⟩
      go_wp2_with fail
      refine (HC.out _ (hE.trans hX2)).mono ?_
      rintro e w4 ⟨v, rfl, ho, hX4⟩
      have HO := Lib.hid ho
      go_wp2
      go_ret
      exact ⟨_, rfl, rw_base HO.out (hE.trans hX2).size, (hE.trans hX2).trans hX4⟩
    · have hq : (decide ((0 : Int) ≤ f) && decide (f ≤ (nF : Int) - 1)) = false := by
        simp only [Bool.and_eq_false_iff, decide_eq_false_iff_not]
        omega
      have HIn : Hid (∀ w', Calls Tryz.prog 34 #[.int .i64 f, .int .i64 0, .int .i64 ((nF : Int) - 1)] w' (Same (.bool false) w')) := fun w' => by
        have := s_l1In f 0 ((nF : Int) - 1) w'
        rw [hq] at this
        exact this
      have hw : wrap64 ((nF : Int) - 1) = (nF : Int) - 1 := by
        have := (valid_bounds hv).2.1
        have := HlF.out
        unfold Go.RowKit.wrap64; omega
      have HR2 : Hid (R = []) := by
        show _ = _
        rw [HR.out]
        unfold callsAns
        rw [if_neg (fun h => hin ⟨h.2.1, by have := HlF.out; omega⟩)]
      clear hq hv hin
      have b0 := (hX.cell 0).trans (show _ = some (Value.slice aG nG cG) from rfl)
      have b1 := (hX.cell 1).trans (show _ = some (Value.slice aF nF cF) from rfl)
      go_wp2_with fail
      refine HV.out.mono ?_
      rintro e w2 ⟨rfl, hX2⟩
      have b0 := hX2.cell b0
      have b1 := hX2.cell b1
      go_wp2_with fail
      refine (HIn.out _).mono ?_
      rintro e w3 ⟨rfl, rfl⟩
      go_wp2
      go_ret
      exact ⟨_, rfl, by rw [HR2.out]; exact rw_new0 w2 w.heap.size _ 1 (hE.trans hX2).size, (hE.trans hX2).alloc _⟩
  · have hq : valid t = false := by simpa using hv
    rw [hq] at HV
    have HR2 : Hid (R = []) := by
      show _ = _
      rw [HR.out]
      unfold callsAns
      rw [if_neg (fun h => hv h.1)]
    clear hq hv
    go_wp2_with fail
    refine HV.out.mono ?_
    rintro e w2 ⟨rfl, hX2⟩
    go_wp2
    go_ret
    exact ⟨_, rfl, by rw [HR2.out]; exact rw_new0 w2 w.heap.size _ 1 (hE.trans hX2).size, (hE.trans hX2).alloc _⟩

set_option maxRecDepth 100000 in
set_option maxHeartbeats 2000000 in
theorem i_Calls (K : Foot) (t : PTree) (vG vF : Value) (f : Int) (w : World) (hG : SlGlob K w vG t.globals) (hF : SlFunc K w vF t.funcs) (hz : Small t) (hres : Res w) (hf : -9223372036854775808 ≤ f ∧ f ≤ 9223372036854775807) :
    Calls Tryz.prog 12 #[.agg #[vG, vF], .int .i64 f] w (Listed64 w (callsAns t f)) := by
  have HU := Lib.hid (i_unit _ t vG vF (w.alloc (.cells #[vG, vF] 32)) ((SlGlob.bound hG).ext ((Ext.refl w).alloc _) (fun _ _ h => h.any)) ((SlFunc.bound hF).ext ((Ext.refl w).alloc _) (fun _ _ h => h.ext ((Ext.refl w).alloc _))) hz (hres.ext ((Ext.refl w).alloc _)) (fun b hb => Nat.lt_of_lt_of_le hb.2 ((Ext.refl w).alloc _).size))
  obtain ⟨aG, nG, cG, rfl⟩ := hG.shape
  obtain ⟨aF, nF, cF, rfl⟩ := hF.shape
  have hlF : t.funcs.length = nF := sl_len hF
  have hE : Ext w (w.alloc (.cells #[.slice aG nG cG, .slice aF nF cF] 32)) := (Ext.refl w).alloc _
  have hX := Blk.alloc w 32 #[.slice aG nG cG, .slice aF nF cF]
  obtain ⟨i1, hi1, hy0, hy1, hy2⟩ := info_parts info_int64
  have HAppI : Hid (∀ (w0 wr : World) (v : Value) (n : Nat) (xs : List Int) (y : Int), Ext w0 wr → wr.ownsRow w0.heap.size 2 1 v n (xs.map (Value.int .i64)) → n ≤ 2000000 →
      ∃ v' w', (Builtin.append_ #[27, 27] 27 #[v, .slice (some ⟨wr.heap.size, 0, none⟩) 1 1]).run Tryz.prog (wr.alloc (.cells #[.int .i64 y] 2)) = .ok v' w' ∧ w'.ownsRow w0.heap.size 2 1 v' (n + 1) ((xs ++ [y]).map (Value.int .i64)) ∧ Ext w0 w') :=
    fun w0 wr v n xs y hX ho hl => app_one (P := Tryz.prog) (Value.int .i64) (fun _ => rfl) Tryz.underlying27 hi1 hy0 hy1 hy2 rfl 27 hX ho y (by omega) (by omega)
  obtain ⟨R, hR⟩ : ∃ R, R = callsAns t f := ⟨_, rfl⟩
  rw [← hR]
  have HR := Lib.hid hR
  have HlF := Lib.hid hlF
  clear hG hF hz hlF hR hres
  go_enter Tryz.func12, Tryz.ntmps12
  go_wp2_with fail
  refine HU.out.mono ?_
  rintro e w2 (⟨hv, fs, v, hb, rfl, hu, hX2⟩ | ⟨hv, rfl, hX2⟩)
  · have hvb := valid_bounds hv
    have hnF : nF ≤ 50 := by have := HlF.out; omega
    have b0 := (hX.ext hX2).cell 0 |>.trans (show _ = some (Value.slice aG nG cG) from rfl)
    have b1 := (hX.ext hX2).cell 1 |>.trans (show _ = some (Value.slice aF nF cF) from rfl)
    have HX2 := Lib.hid (hE.trans hX2)
    have HUA := Lib.hid hu
    obtain ⟨ub, _, _, _, _, rfl, _⟩ := hu
    by_cases hin : 0 ≤ f ∧ f < nF
    · obtain ⟨g, rfl⟩ : ∃ g : Nat, f = g := ⟨f.toNat, by omega⟩
      obtain ⟨x, hx⟩ : ∃ x, t.funcs[g]? = some x := ⟨t.funcs[g]'(by have := HlF.out; omega), List.getElem?_eq_getElem _⟩
      have hxb := hvb.2.2 x (List.mem_of_getElem? hx)
      have HC := Lib.hid (i_calls _ t fs _ g (g : Int) rfl x w2 HUA.out hx (by omega) (by omega) (fun s hs => by have := nodes_mem hs; omega) (by have := outL_nodes t x.body; omega))
      have hRx : callsL t x.body = R := by rw [HR.out, callsAns_at hv hx]
      rw [hRx] at HC
      have hRl : R.length ≤ 50 := by rw [← hRx]; have := callsL_len t x.body; omega
      have g0 : ¬ ((g : Int) < 0) := by omega
      have g1 : ¬ ((g : Int) ≥ (nF : Int)) := by omega
      clear hx hxb hRx hvb hv hb HU HUA hX hX2
      go_wp2_with fail
      refine HC.out.mono ?_
      rintro e w3 ⟨v, rfl, ho, hX3⟩
      obtain ⟨a, c, rfl⟩ := rw_form0 ho
      have HO := Lib.hid ho
      have HX3 := Lib.hid hX3
      obtain ⟨nR, hnR⟩ : ∃ nR, nR = R.length := ⟨_, rfl⟩
      rw [← hnR] at HO
      have HnR := Lib.hid hnR
      have hle : nR ≤ 50 := by omega
      clear ho hX3 hRl
      try rw [← hnR]
      clear hnR
      go_wp2
      go_loopw [6, 28] (fun v i wr => ∃ k : Nat, k ≤ nR ∧ i = .int .i64 k ∧ Hid (wr.ownsRow w3.heap.size 2 1 v k ((R.take k).map (Value.int .i64))) ∧ Ext w3 wr) (fun _ i _ => nR - (intOf i).toNat)
      case atStart => exact ⟨0, Nat.zero_le _, rfl, World.ownsRow_nil _ _ _ _, Ext.refl _⟩
      case round =>
        obtain ⟨k, hk, rfl, HQ, hX⟩ := hrel
        by_cases hlt : k < nR
        · obtain ⟨gA, cT, eB, _, _, hlT, hcT⟩ := rw_form HO.out (by omega)
          obtain ⟨rfl, rfl⟩ : some ⟨gA, 0, none⟩ = a ∧ cT = c := by cases eB; exact ⟨rfl, rfl⟩
          obtain ⟨y, hy⟩ : ∃ y, R[k]? = some y := ⟨R[k]'(by have := HnR.out; omega), List.getElem?_eq_getElem _⟩
          have c0 := hX.cell (rw_at HO.out (i := k) (u := .int .i64 y) (by rw [List.getElem?_map, hy]; rfl)).1
          obtain ⟨a', c', rfl⟩ := rw_form0 HQ.out
          obtain ⟨v', w', r1, r2, r3⟩ := HAppI.out w3 wr _ k _ y hX HQ.out (by omega)
          rw [← take_snoc hy] at r2
          have HR1 := Lib.hid r1
          have HO3 := Lib.hid r2
          have g2 : (0 : Int) ≤ (k : Int) := by omega
          have g3 : (k : Int) < (nR : Int) := by omega
          clear r1 r2 hy eB
          go_wp2_with (at_builtin; refine Lib.wpList_append_run _ rfl _ _ _ _ rfl _ _ rfl rfl _ _ HR1.out ?_)
          go_roundw
          case rel => exact ⟨k + 1, by omega, by go_num, HO3.out, r3⟩
          case measure => simp [intOf]; omega
        · have hke : R.take k = R := List.take_of_length_le (by have := HnR.out; omega)
          have hO := HQ.out
          rw [hke] at hO
          obtain rfl : nR = k := by omega
          have HO3 := Lib.hid hO
          obtain ⟨a', c', rfl⟩ := rw_form0 HQ.out
          clear hke hO hk hlt
          go_wp2
          go_ret
          refine ⟨_, rfl, ?_, (HX2.out.trans HX3.out).trans hX⟩
          have h1 := rw_base HO3.out (HX2.out.trans HX3.out).size
          rw [HnR.out] at h1
          rw [HnR.out]
          exact h1
    · have HR2 : Hid (R = []) := by
        show _ = _
        rw [HR.out]
        unfold callsAns
        rw [if_neg (fun h => hin ⟨h.2.1, by have := HlF.out; omega⟩)]
      clear hvb hv hb HU HUA hX hX2
      by_cases h0 : f < 0
      · clear hin
        go_wp2
        go_ret
        exact ⟨_, rfl, by rw [HR2.out]; exact World.ownsRow_nil _ _ _ _, HX2.out⟩
      · have g1 : f ≥ (nF : Int) := by omega
        clear hin
        go_wp2
        go_ret
        exact ⟨_, rfl, by rw [HR2.out]; exact World.ownsRow_nil _ _ _ _, HX2.out⟩
  · have HR2 : Hid (R = []) := by
      show _ = _
      rw [HR.out]
      unfold callsAns
      rw [if_neg (fun h => by rw [hv] at h; exact absurd h.1 (by simp))]
    have HX2 := Lib.hid (hE.trans hX2)
    clear hX hX2 hv
    go_wp2
    go_ret
    exact ⟨_, rfl, by rw [HR2.out]; exact World.ownsRow_nil _ _ _ _, HX2.out⟩
end Go.Proofs.YtcfggjmdcaoecaaGreatDoor
