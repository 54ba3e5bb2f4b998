/- slices.Clone over pointers, and impl.grow: a list of nodes becomes the model's tree; conditions: the list's length. -/
import Derived.Test.YtolbngbedncemaaGreatDoorArity
import Derived.Test.YtolbngbedncemaaGreatDoorPtr
import Derived.Test.YtolbngbedncemaaGreatDoorCuts
import Derived.WalkSpells
import Derived.Lib.SliceRun
import Derived.ArgAppend
import Derived.OwnWalk
import Derived.Deep.RegionLaw
import Derived.Deep.RegionLawGrows
import Derived.Deep.DrawnRows
set_option linter.unusedVariables false
set_option linter.unusedSimpArgs false
namespace Go.Proofs.YtolbngbedncemaaGreatDoor
open Go Go.RowKit Md

theorem info_expr : (Tryz.prog.info? 140).map (fun i => (i.zero, i.size, i.bytes)) = some (some (.pointer none), 1, 8) := by kernel_rfl

theorem SlV.nil_of_none {K : Foot} {w : World} {n c : Nat} {vs : List Value} (h : SlV K w (.slice none n c) vs) : vs = [] := by
  obtain ⟨a', cap, e, h1, h2, h3⟩ := h
  simp only [Value.slice.injEq] at e
  obtain ⟨rfl, rfl, rfl⟩ := e
  refine List.eq_nil_of_length_eq_zero (Nat.eq_zero_of_not_pos fun hp => ?_)
  obtain ⟨b, o, e, _⟩ := h3 hp
  cases e
theorem SlV.empty (K : Foot) (w : World) (a : Option Addr) (c : Nat) (hc : c ≤ 9223372036854775807) : SlV K w (.slice a 0 c) [] := ⟨a, c, rfl, Nat.zero_le _, by unfold maxLen; omega, fun hp => absurd hp (by simp)⟩
theorem ext_of_grown_new {w w2 w1 : World} {g : Nat} (h : w2.grownBy w1 (some g)) (hE : Ext w w2) (hg : w.heap.size ≤ g) : Ext w w1 :=
  Below.grown hE h hE.size (fun k hk => by cases hk; exact hg)
def Cloned (K : Foot) (w : World) (vs : List Value) (e : Ending) (w' : World) : Prop := ∃ v, e = .returned v ∧ SlV K w' v vs ∧ Ext w w'
set_option maxRecDepth 1000000 in
theorem g_ClonePtr (K : Foot) (v : Value) (vs : List Value) (w : World) (hv : SlV K w v vs) (hl : vs.length ≤ 1048576) (h1 : ∀ u ∈ vs, u.oneCell' = true) :
    Calls Tryz.prog 156 #[v] w (Cloned (New w) w vs) := by
  obtain ⟨a, n, c, rfl⟩ := hv.shape
  obtain ⟨hn, hc, hm⟩ := hv.len
  have HN := Lib.hid hn
  have HC := Lib.hid hv.cells
  have HV := Lib.hid hv
  clear hv hn
  obtain ⟨i0, hi, hz0, hz1, hz2⟩ := info_parts info_expr
  have heq := fun (w : World) (a : Option Addr) (n c n2 c2 : Nat) => Lib.run_eql_slice_nil (P := Tryz.prog) w 219 140 a n c n2 c2 Tryz.underlying219
  go_enter Tryz.func156, Tryz.ntmps156
  cases a with
  | none =>
    go_wp2
    go_ret
    obtain rfl := HV.out.nil_of_none
    exact ⟨_, rfl, Sl.nil _ _ _ _, Ext.refl _⟩
  | some ad =>
    by_cases h0 : n = 0
    · subst h0
      obtain rfl : vs = [] := List.eq_nil_of_length_eq_zero HN.out
      have hown : (w.alloc (.cells #[] 140)).ownsRow w.heap.size 140 1 (.slice (some ⟨w.heap.size, 0, none⟩) 0 0) 0 [] :=
        ⟨rfl, .inr ⟨w.heap.size, 0, #[], rfl, Nat.le_refl _, heap_alloc_new _ _, Nat.le_refl _, by simp [maxLen], rfl, rfl⟩⟩
      go_wp2_with (at_builtin; refine wpList_append_fits_any _ rfl _ _ 219 rfl w.heap.size 140 i0 1 Tryz.underlying219 hi hz1 w.heap.size 0 0 [] (by rfl) hown (some ad) 0 c [] (by rfl) rfl (fun h => by cases h) (fun _ _ j u hj => by simp at hj) (fun u hu => by cases hu) (Nat.le_refl _) ?_; intro w1 hown1 hg1)
      go_wp2
      go_ret
      refine ⟨_, rfl, sl_of_own hown1 (fun _ hg => hg), ext_of_grown_new hg1 ((Ext.refl w).alloc (.cells #[] 140)) (Nat.le_refl _)⟩
    · have hfull : 0 < 0 + n := by omega
      have a1 : vs.length = n * 1 := by rw [Nat.mul_one]; exact HN.out
      have a2 : ∀ j u, vs[j]? = some u → (w.alloc (.cells #[] 140)).cell? (ad.add j) = some u := fun j u hj => ((Ext.refl w).alloc _).cell (HC.out ad rfl j u hj)
      have A1 := Lib.hid a1
      have A2 := Lib.hid a2
      have A3 : 0 + n ≤ maxLen := by unfold maxLen; omega
      have A4 : (0 + n) * 8 ≤ 140737488355328 := by have := HN.out; omega
      clear a1 a2
      go_wp2_with (at_builtin; refine wpList_append_grows _ rfl _ _ 219 rfl 140 i0 (.pointer none) 1 8 Tryz.underlying219 hi hz0 hz1 hz2 rfl (by decide) (some ⟨w.heap.size, 0, none⟩) 0 0 [] (by rfl) (fun h => by cases h) rfl (fun _ _ j u hj => by simp at hj) ad n c vs (by rfl) A1.out A2.out h1 hfull A3 A4 ?_; intro v1 w1 hown1 hg1)
      go_wp2
      go_ret
      rw [List.nil_append] at hown1
      exact ⟨_, rfl, sl_of_own hown1 (fun g hg => Nat.le_trans ((Ext.refl w).alloc _).size hg), Ext.trans ((Ext.refl w).alloc (.cells #[] 140)) (ext_of_grown hg1)⟩
/-! ### grow -/
theorem ExAt.one {K : Foot} {w : World} {v : Value} {x : Ex} (h : ExAt K w v x) : v.oneCell' = true := by
  cases h
  rfl
theorem All2.one {K : Foot} {w : World} {vs : List Value} {xs : List Ex} (h : All2 (ExAt K w) vs xs) : ∀ u ∈ vs, u.oneCell' = true := by
  intro u hu
  obtain ⟨i, hi, e⟩ := List.mem_iff_getElem.1 hu
  have hl := h.1
  exact (h.2 i u xs[i] (by rw [List.getElem?_eq_getElem hi, e]) (List.getElem?_eq_getElem (by omega))).one
def Grown (e : List PNode) (w : World) (r : Ending) (w' : World) : Prop := ∃ v, r = .returned v ∧ ExOpt (New w) w' v (Md.grow e) ∧ Ext w w'
theorem push_len {n : PNode} {st st' : List Ex} (h : push n st = some st') : st'.length ≤ st.length + 1 := by
  unfold push at h
  split at h
  · cases h
  · split at h
    · cases h
      simp
    · cases h
theorem grows_snoc {e : List PNode} {k : Nat} {n : PNode} {st : List Ex} (h : grows (e.take k) [] = some st) (hn : e[k]? = some n) : grows (e.take (k + 1)) [] = push n st := by
  rw [take_snoc hn, grows_append, h]
  simp only [Option.bind_some, grows]
  cases push n st <;> rfl
theorem grows_none {e : List PNode} {k : Nat} (h : grows (e.take k) [] = none) : Md.grow e = none := by
  unfold Md.grow
  have : grows e [] = none := by
    rw [← List.take_append_drop k e, grows_append, h]; rfl
  rw [this]

theorem news1 (w : World) (o : Obj) (v : Value) (t : TypeId) : ∀ (j : Nat) u, [v][j]? = some u → ((w.alloc o).alloc (.cells #[v] t)).cell? ((⟨w.heap.size + 1, 0, none⟩ : Addr).add j) = some u := by
  intro j u hj
  have h0 : j = 0 := by
    have := (List.getElem?_eq_some_iff.1 hj).1
    simp at this; omega
  subst h0
  have := (Blk.alloc (w.alloc o) t #[v]).cell 0
  simp at hj
  subst hj
  simp [Addr.add]
set_option maxRecDepth 1000000 in
set_option maxHeartbeats 2000000 in
theorem i_grow (K : Foot) (e : List PNode) (vE : Value) (w : World) (hE : SlNode K w vE e) (hl : e.length ≤ 1048576) (hres : Res w) : Calls Tryz.prog 118 #[vE] w (Grown e w) := by
  obtain ⟨aE, len, cE, rfl, HlE, hlcE, hcmE, helE⟩ := hE.op
  rw [HlE.out] at hl
  clear hE
  obtain ⟨i0, hi, hz0, hz1, hz2⟩ := info_parts info_expr
  go_enter Tryz.func118, Tryz.ntmps118
  go_wp2
  go_loopw [3, 10] (fun s i wr => ∃ (k : Nat) (vs : List Value) (st : List Ex), k ≤ len ∧ i = .int .i64 k ∧ SlV (New w) wr s vs ∧ All2 (ExAt (New w) wr) vs st ∧ st.length ≤ k ∧ Hid (grows (e.take k) [] = some st) ∧ Ext w wr) (fun _ i _ => len - (intOf i).toNat)
  case atStart => exact ⟨0, [], [], Nat.zero_le _, rfl, Sl.nil _ _ _ _, All2.nil _, Nat.le_refl _, rfl, Ext.refl _⟩
  case round =>
    obtain ⟨k, vs, st, hk, rfl, hS, hA, hst, hG, hEx⟩ := hrel
    obtain ⟨aS, nS, cS, rfl⟩ := hS.shape
    obtain ⟨hn, hc, hm⟩ := hS.len
    obtain rfl : nS = st.length := by rw [← hn, hA.1]
    have HS := Lib.hid hS
    have HA := Lib.hid hA
    clear hS hA hn
    by_cases hlt : k < len
    · obtain ⟨b, o, rfl, _, hel⟩ := helE (by omega)
      obtain ⟨x, cs, hx, _, hC, hcs⟩ := hel k hlt
      obtain ⟨rfl, q1, q2, q3⟩ := hC
      have c0 := hEx.cell (hcs.z rfl)
      have c1 := hEx.cell (hcs 1 _ rfl)
      have c2 := hEx.cell (hcs 2 _ rfl)
      have Hx := Lib.hid hx
      have hres1 : Res (wr.alloc (.cells #[.int .i64 x.kind, .int .i64 x.val, .string x.name] 56)) := (hres.ext hEx).ext ((Ext.refl _).alloc _)
      have HR1 := Lib.hid hres1
      clear hel hcs hx hres1
      have g0 : (0 : Int) ≤ (k : Int) := by omega
      have g1 : (k : Int) < (len : Int) := by omega
      go_wp2_with fail
      refine (i_arity x _ q3 HR1.out).mono ?_
      rintro _ w2 ⟨rfl, hX2⟩
      have hEx2 : Ext wr w2 := Ext.of_alloc hX2
      have hE2 : Ext w w2 := hEx.trans hEx2
      have hB2 : Blk w2 wr.heap.size 56 #[.int .i64 x.kind, .int .i64 x.val, .string x.name] := (Blk.alloc wr _ _).ext hX2
      cases har : arity x with
      | none =>
        have HF : Hid (Md.grow e = none) := grows_none (k := k + 1) (by rw [grows_snoc hG.out Hx.out, push, har])
        rw [show arI x = -1 by unfold arI; rw [har]]
        go_wp2
        go_ret
        exact ⟨_, rfl, by rw [HF.out]; rfl, hE2⟩
      | some m =>
        have HAr := Lib.hid har
        rw [show arI x = m by unfold arI; rw [har]]
        clear har
        by_cases hm2 : st.length < m
        · have HF : Hid (Md.grow e = none) := grows_none (k := k + 1) (by rw [grows_snoc hG.out Hx.out, push, HAr.out]; simp only; rw [if_neg (by omega)])
          go_wp2
          go_ret
          exact ⟨_, rfl, by rw [HF.out]; rfl, hE2⟩
        · have HP : Hid (push x st = some (st.take (st.length - m) ++ [.mk x (st.drop (st.length - m))])) := by
            show push x st = _
            rw [push, HAr.out]
            simp only
            rw [if_pos (by omega)]
          have s1 : (st.length : Int) - (m : Int) = ((st.length - m : Nat) : Int) := by omega
          obtain ⟨cut, hcut⟩ : ∃ cut, cut = st.length - m := ⟨_, rfl⟩
          rw [← hcut] at HP s1
          have hle : cut ≤ st.length := by omega
          go_wp2
          clear s1
          have n0 := hB2.cell 0
          have n1 := hB2.cell 1
          have n2 := hB2.cell 2
          have g2 : (0 : Int) ≤ (cut : Int) := by omega
          have g3 : (cut : Int) ≤ (st.length : Int) := by omega
          have g4 : (st.length : Int) ≤ (cS : Int) := by omega
          have g5 : (cut : Int) ≤ (cS : Int) := by omega
          have HN := Lib.hid hm2
          have HE2 := Lib.hid hE2
          obtain ⟨a1, hs1, k1⟩ := cut_to Tryz.underlying219 hi hz1 aS st.length cS cut (by omega)
          obtain ⟨a2, hs2, k2⟩ := cut_from Tryz.underlying219 hi hz1 aS st.length cS cut (by omega) (by omega)
          have hvl : vs.length = st.length := HA.out.1
          have HT : Hid (SlV (New w) w2 (.slice a1 cut cut) (vs.take cut)) := by
            have := Sl.cutAt (SlV.ext HS.out hEx2) 0 cut (by omega) (Nat.le_refl _) (by omega) k1
            rw [List.drop_zero] at this
            exact this
          have HD : Hid (SlV (New w) w2 (.slice a2 (st.length - cut) (cS - cut)) (vs.drop cut)) := by
            have := Sl.cutAt (SlV.ext HS.out hEx2) cut (st.length - cut) (c := cS - cut) (by omega) (by omega) (by omega) k2
            rw [List.take_of_length_le (by rw [List.length_drop]; omega)] at this
            exact this
          have HA2 : Hid (All2 (ExAt (New w) w2) vs st) := HA.out.exExt hEx2
          have HN1 : Hid (a1 = none → cut = 0 ∧ cut = 0) := fun h => by
            subst h
            have h1 := HT.out.nil_of_none
            have : (vs.take cut).length = 0 := by rw [h1]; rfl
            rw [List.length_take] at this
            omega
          have D1 : (vs.drop cut).length ≤ 1048576 := by rw [List.length_drop]; omega
          have D2 := Lib.hid (HA2.out.drop cut).one
          have T1 : Hid ((vs.take cut).length = cut * 1) := by show _ = _; rw [List.length_take]; omega
          clear k1 k2 HS HA hvl
          have HX2 := Lib.hid hEx2
          have B3 : cut + 1 ≤ maxLen := by unfold maxLen; omega
          have B4 : (cut + 1) * 8 ≤ 140737488355328 := by omega
          have HCut := Lib.hid hcut
          have HLe := Lib.hid hle
          clear c0 c1 c2 hX2 hB2 hm2 helE hE2 hEx2 hEx hcut hle g3 g5
          rw [← HCut.out]
          go_region_held3 (fun w' => w'.cell? ⟨wr.heap.size, 0, none⟩ = some (.int .i64 x.kind) ∧ w'.cell? ⟨wr.heap.size, 1, none⟩ = some (.int .i64 x.val) ∧ w'.cell? ⟨wr.heap.size, 2, none⟩ = some (.string x.name))
            (first | go_keep | (refine ⟨(ext_of_grown hg4).cell ((((Ext.refl w3).alloc _).alloc _).cell (hX3.cell ?_)), (ext_of_grown hg4).cell ((((Ext.refl w3).alloc _).alloc _).cell (hX3.cell ?_)), (ext_of_grown hg4).cell ((((Ext.refl w3).alloc _).alloc _).cell (hX3.cell ?_))⟩ <;> simp [*]) | (refine ⟨hX3.cell ?_, hX3.cell ?_, hX3.cell ?_⟩ <;> simp [*]))
            (first
              | (go_at_call 156; refine (g_ClonePtr (New w) _ (vs.drop cut) _ (SlV.ext HD.out ((Ext.refl w2).drew)) D1 D2.out).mono ?_; rintro e3 w3 ⟨v3, rfl, hV3, hX3⟩; obtain ⟨a3, n3, c3, rfl⟩ := hV3.shape)
              | ((refine step_append_grows rfl (.tmp 31) (.tmp 39) 219 rfl 140 i0 (.pointer none) 1 8 Tryz.underlying219 hi hz0 hz1 hz2 rfl (by decide) a1 cut cut (vs.take cut) (by rfl) HN1.out T1.out (SlV.cells (SlV.ext (SlV.ext HT.out (((Ext.refl w2).drew).trans hX3)) (((Ext.refl w3).alloc _).alloc _))) ⟨w3.heap.size + 1, 0, none⟩ 1 1 [.pointer (some ⟨w3.heap.size, 0, none⟩)] (by rfl) rfl (news1 _ _ _ _) (by simp [Value.oneCell']) (by omega) B3 B4 ?_; intro v4 w4 hown4 hg4)))
          have hX4 : Ext w3 w4 := (((Ext.refl w3).alloc _).alloc _).trans (ext_of_grown hg4)
          have hE4 : Ext w2 w4 := (((Ext.refl w2).drew).trans hX3).trans hX4
          have hB4 : Blk w4 w3.heap.size 222 #[.int .i64 x.kind, .int .i64 x.val, .string x.name, .slice a3 n3 c3] := ((Blk.alloc w3 _ _).ext ((Ext.refl _).alloc _)).ext (ext_of_grown hg4)
          have hsz2 : w.heap.size ≤ w2.heap.size := HE2.out.size
          have hsz3 : w2.heap.size ≤ w3.heap.size := ((Ext.refl w2).drew.trans hX3).size
          have hnew : ExAt (New w) w4 (.pointer (some ⟨w3.heap.size, 0, none⟩)) (.mk x (st.drop cut)) :=
              .mk w3.heap.size x _ (vs.drop cut) _ (Nat.le_trans hsz2 hsz3) (fun i v hv => by rw [Nat.zero_add, hB4.cell]; simpa using hv) q1 q2 q3 (SlV.keep hV3 (hX4.keep _) (fun b hb => Nat.le_trans hsz2 (Nat.le_trans ((Ext.refl w2).drew).size hb))) (HA2.out.drop cut).1 ((HA2.out.drop cut).exExt hE4).2
          have HNew := Lib.hid hnew
          have HSl := Lib.hid (sl_of_own (K := New w) hown4 (fun g hg => Nat.le_trans hsz2 (Nat.le_trans hsz3 (Nat.le_trans (((Ext.refl w3).alloc _).alloc _).size hg))))
          have HE4 := Lib.hid hE4
          clear hnew hB4 hX4 hX3 hV3 hown4 hg4 hE4
          go_wp2
          go_roundw
          case rel => exact ⟨k + 1, vs.take cut ++ [.pointer (some ⟨w3.heap.size, 0, none⟩)], st.take cut ++ [.mk x (st.drop cut)], by omega, by go_num, HSl.out, ((HA2.out.take cut).exExt HE4.out).snoc HNew.out, (by simp; have := HLe.out; omega), (by show _ = _; rw [grows_snoc hG.out Hx.out, HP.out]), HE2.out.trans HE4.out⟩
          case measure => simp [intOf]; omega
    · have hke : k = len := by omega
      have HGw : Hid (grows e [] = some st) := by
        have := hG.out
        rw [take_all (show Hid (e.length = k) from (by rw [HlE.out]; exact hke.symm))] at this
        exact this
      by_cases h1 : st.length = 1
      · have ⟨y, hy⟩ : ∃ y, st = [y] := by
          match st, h1 with
          | [y], _ => exact ⟨y, rfl⟩
        subst hy
        have HF : Hid (Md.grow e = some y) := by
          show Md.grow e = _
          unfold Md.grow
          rw [HGw.out]
        obtain ⟨v, hv, hvx⟩ := HA.out.get (i := 0) (x := y) rfl
        obtain ⟨b, o, rfl, _, hcl⟩ := SlV.at_ HS.out (by simp)
        have c0 := hcl 0 v hv
        rw [Nat.add_zero] at c0
        clear hcl hv
        obtain ⟨bx, va, ws, rfl, _⟩ := hvx.op
        have HV := Lib.hid hvx
        clear hvx
        have hk0 : ¬ (k < len) := hlt
        have hl1 : ([y] : List Ex).length = 1 := rfl
        rw [hl1] at *
        go_wp2
        go_ret
        exact ⟨_, rfl, by rw [HF.out]; exact HV.out, hEx⟩
      · have HF : Hid (Md.grow e = none) := by
          show Md.grow e = _
          unfold Md.grow
          rw [HGw.out]
          match st, h1 with
          | [], _ => rfl
          | [_], h => exact absurd rfl h
          | _ :: _ :: _, _ => rfl
        have h1' : ((st.length : Int) == 1) = false := by simp; omega
        go_wp2
        go_ret
        exact ⟨_, rfl, by rw [HF.out]; rfl, hEx⟩
end Go.Proofs.YtolbngbedncemaaGreatDoor
