/- slices.ContainsFunc over a list of strings, with the program's literal 'is no name'. -/
import Derived.Test.YtolbngbedncemaaGreatDoorImplName
import Derived.Test.YtolbngbedncemaaGreatDoorBlocks
import Derived.Test.YtolbngbedncemaaGreatDoorUnitB
import Derived.Test.YtolbngbedncemaaGreatDoorSpecValid
import Derived.Deep.AppendLies
import Derived.Test.YtolbngbedncemaaGreatDoorWLast
set_option linter.unusedVariables false
set_option linter.unusedSimpArgs false
namespace Go.Proofs.YtolbngbedncemaaGreatDoor
open Go Go.RowKit Md

theorem i_unit1 (s : ByteArray) (w : World) (hs : s.size ≤ maxLen) (hres : Res w) : Calls Tryz.prog 66 #[.string s] w (Same (.bool (!isName s)) w) := by
  have HC := Lib.hid (i_isName s w hs hres)
  go_enter Tryz.func66, Tryz.ntmps66
  go_wp2_with fail
  refine HC.out.mono ?_; rintro e w' ⟨rfl, rfl⟩
  go_wp2
  go_ret
  exact Same.bool rfl
/-- The first that is no name. -/
def idxN : List ByteArray → Nat → Int
  | [], _ => -1
  | x :: r, i => if isName x then idxN r (i + 1) else (i : Int)
theorem idxN_all (l : List ByteArray) : ∀ i : Nat, decide (0 ≤ idxN l i) = !l.all isName := by
  induction l with
  | nil => intro i; rfl
  | cons x r ih =>
    intro i
    unfold idxN
    rw [List.all_cons]
    cases h : isName x
    · rw [if_neg (by simp), decide_eq_true (by omega)]; rfl
    · rw [if_pos rfl, ih]; rfl
theorem idxN_lt (l : List ByteArray) : ∀ i : Nat, idxN l i < (i + l.length : Nat) ∧ -1 ≤ idxN l i := by
  induction l with
  | nil => intro i; unfold idxN; simp; omega
  | cons x r ih =>
    intro i
    unfold idxN
    have := ih (i + 1)
    split <;> simp only [List.length_cons] <;> omega
set_option maxRecDepth 1000000 in
theorem g_IndexFunc (K : Foot) (l : List ByteArray) (v : Value) (w : World) (hv : SlStr K w v l) (hres : Res w) :
    Calls Tryz.prog 117 #[v, .func (.func 66) #[] #[]] w (Same (.int .i64 (idxN l 0)) w) := by
  obtain ⟨R, hR⟩ : ∃ R : Int, R = idxN l 0 := ⟨_, rfl⟩
  rw [← hR]
  have HR := Lib.hid hR
  have HS := Lib.hid hres
  clear hR hres
  obtain ⟨a, len, cap, rfl, Hlen, hlc, hcm, hel⟩ := hv.op
  clear hv
  go_enter Tryz.func117, Tryz.ntmps117
  go_wp2
  go_loop [8] (fun i => ∃ k : Nat, k ≤ len ∧ i = .int .i64 k ∧ Hid (R = idxN (l.drop k) k)) (fun i => len - (intOf i).toNat)
  case atStart => exact ⟨0, Nat.zero_le _, rfl, HR.out⟩
  case round =>
    obtain ⟨k, hk, rfl, hA⟩ := hrel
    by_cases hlt : k < len
    · obtain ⟨b, o, rfl, _, hel⟩ := hel (by omega)
      obtain ⟨x, cs, hx, _, hC, hcs⟩ := hel k hlt
      obtain ⟨rfl, hx2⟩ := hC
      have c0 := hcs.z rfl
      rw [Nat.mul_one] at c0
      have HA2 : Hid (R = if isName x then idxN (l.drop (k + 1)) (k + 1) else (k : Int)) := by
        show R = _
        rw [hA.out, drop_get hx]; rfl
      have HC := Lib.hid (i_unit1 x w hx2 HS.out)
      clear hel hcs hx hA
      have g0 : (0 : Int) ≤ (k : Int) := by omega
      have g1 : (k : Int) < (len : Int) := by omega
      go_wp2_with fail
      refine HC.out.mono ?_; rintro e w' ⟨rfl, rfl⟩
      cases hsx : isName x
      · go_wp2
        go_ret
        exact Same.int (by have := HA2.out; rw [if_neg (by rw [hsx]; simp)] at this; exact this.symm)
      · go_wp2
        go_round
        case rel => exact ⟨k + 1, by omega, by go_num, by have := HA2.out; rw [if_pos hsx] at this; exact this⟩
        case measure => simp [intOf]; omega
    · go_wp2
      go_ret
      exact Same.int (by
        rw [hA.out, List.drop_eq_nil_of_le (by rw [Hlen.out]; omega)]; rfl)
theorem g_ContainsFunc (K : Foot) (l : List ByteArray) (v : Value) (w : World) (hv : SlStr K w v l) (hres : Res w) :
    Calls Tryz.prog 65 #[v, .func (.func 66) #[] #[]] w (Same (.bool (!l.all isName)) w) := by
  rw [← idxN_all l 0]
  obtain ⟨a, len, cap, e, _⟩ := hv.op
  subst e
  obtain ⟨R, hR⟩ : ∃ R : Int, R = idxN l 0 := ⟨_, rfl⟩
  have H := g_IndexFunc K l _ w hv hres
  rw [← hR] at H ⊢
  clear hR hres
  go_enter Tryz.func65, Tryz.ntmps65
  go_wp2_with fail
  refine H.mono ?_; rintro _ _ ⟨rfl, rfl⟩
  go_wp2
  go_ret
  exact Same.bool rfl
end Go.Proofs.YtolbngbedncemaaGreatDoor

/- impl's Tree.unit: a tree becomes the model's unit, or nil; conditions: bounds of sizes. -/
set_option linter.unusedVariables false
set_option linter.unusedSimpArgs false
namespace Go.Proofs.YtolbngbedncemaaGreatDoor
open Go Go.RowKit Md Go.Proofs.YtolbngbedncemaaGreatDoorW.PrintLast

theorem info_fnp : (Tryz.prog.info? 79).map (fun i => (i.zero, i.size, i.bytes)) = some (some (.pointer none), 1, 8) := by kernel_rfl
theorem okFunc_parts (f : PFunc) : okFunc f = (isName f.name && decide (f.params.length ≤ 6) && decide (f.body.length ≤ 500) && f.params.all isName && ((Md.blocks f.body 0).isSome && decide (nodes f.body ≤ 2000))) := by
  rw [okFunc]
  generalize isName f.name = a
  generalize decide (f.params.length ≤ 6) = b
  generalize decide (f.body.length ≤ 500) = c
  generalize f.params.all isName = d
  generalize decide (nodes f.body ≤ 2000) = e
  generalize (Md.blocks f.body 0).isSome = g
  cases a <;> cases b <;> cases c <;> cases d <;> cases e <;> cases g <;> rfl

set_option maxRecDepth 1000000 in
set_option maxHeartbeats 8000000 in
theorem i_unit (K : Foot) (t : PTree) (vG vF : Value) (w : World) (hG : SlGlob K w vG t.globals) (hF : SlFunc K w vF t.funcs) (hz : Small t) (hres : Res w) (hK : ∀ b, K b → b < w.heap.size) :
    Calls Tryz.prog 34 #[.agg #[vG, vF]] w (UnitPost K t w) := by
  obtain ⟨globals, funcs⟩ := t
  have HV := Lib.hid (valid_eq ⟨globals, funcs⟩)
  unfold Small at hz
  simp only at *
  obtain ⟨aG, nG, zG, rfl, HlG, hlcG, hcmG, helG⟩ := hG.op
  obtain ⟨aF, nF, zF, rfl, HlF, hlcF, hcmF, helF⟩ := hF.op
  rw [HlG.out, HlF.out] at HV
  have HZ := Lib.hid hz
  have HRs := Lib.hid hres
  have HK := Lib.hid hK
  have HSG := Lib.hid hG
  have HSF := Lib.hid hF
  obtain ⟨i0, hi, hz0, hz1, hz2⟩ := info_parts info_fnp
  clear hG hF hz hres hK
  have hEx : Ext w (w.alloc (.cells #[.slice aG nG zG, .slice aF nF zF] 32)) := (Ext.refl _).alloc _
  have hX := Blk.alloc w 32 #[.slice aG nG zG, .slice aF nF zF]
  go_enter Tryz.func34, Tryz.ntmps34
  by_cases h1 : 50 < nG
  · have d1 := Lib.hid (show decide (nG ≤ 50) = false from decide_eq_false (by omega))
    go_wp2
    go_ret
    exact Or.inr ⟨by rw [HV.out, d1.out]; rfl, rfl, hEx⟩
  have d1 := Lib.hid (show decide (nG ≤ 50) = true from decide_eq_true (by omega))
  by_cases h2 : 50 < nF
  · have d2 := Lib.hid (show decide (nF ≤ 50) = false from decide_eq_false (by omega))
    go_wp2
    go_ret
    exact Or.inr ⟨by rw [HV.out, d1.out, d2.out]; rfl, rfl, hEx⟩
  have d2 := Lib.hid (show decide (nF ≤ 50) = true from decide_eq_true (by omega))
  have HQ : Hid (valid ⟨globals, funcs⟩ = (globals.all okGlob && funcs.all okFunc)) := by
    show _ = _
    rw [HV.out, d1.out, d2.out]; rfl
  clear HV d1 d2
  go_wp2
  go_loopw [26] (fun i wr => ∃ k : Nat, k ≤ nG ∧ i = .int .i64 k ∧ Hid (∀ n ∈ globals.take k, okGlob n = true) ∧ Ext (w.alloc (.cells #[.slice aG nG zG, .slice aF nF zF] 32)) wr) (fun i _ => nG - (intOf i).toNat)
  case atStart => exact ⟨0, Nat.zero_le _, rfl, by intro n hn; simp at hn, Ext.refl _⟩
  case round =>
    obtain ⟨k, hk, rfl, hA, hE⟩ := hrel
    have hE0 := hEx.trans hE
    by_cases hlt : k < nG
    · obtain ⟨b, o, rfl, _, hel⟩ := helG (by omega)
      obtain ⟨x, cs, hx, _, hC, hcs⟩ := hel k (by omega)
      obtain ⟨rfl, hn1, hn2⟩ := hC
      have c0 := hE0.cell (hcs.z rfl)
      have c1 := hE0.cell (hcs 1 _ rfl)
      have Hx := Lib.hid hx
      have HN := fun o => Lib.hid (i_isName x.name _ hn2 ((HRs.out.ext hE0).ext ((Ext.refl wr).alloc o)))
      have hfalse : okGlob x = false → Hid (valid ⟨globals, funcs⟩ = false) := fun h => by
        show _ = _
        rw [HQ.out, show globals.all okGlob = false from List.all_eq_false.2 ⟨x, List.mem_of_getElem? Hx.out, by rw [h]; simp⟩]; rfl
      have HFa := Lib.hid hfalse
      have HE0 := Lib.hid hE0
      clear hel hcs hx hfalse hE0
      have g0 : (0 : Int) ≤ (k : Int) := by omega
      have g1 : (k : Int) < (nG : Int) := by omega
      go_wp2_with fail
      refine (HN _).out.mono ?_; rintro _ _ ⟨rfl, rfl⟩
      cases ha : isName x.name
      · have Ha := Lib.hid ha
        go_wp2
        go_ret
        exact Or.inr ⟨(HFa.out (by unfold okGlob; rw [Ha.out]; rfl)).out, rfl, HE0.out.alloc _⟩
      · have Ha := Lib.hid ha
        by_cases hs0 : x.size < 0
        · have Hd : Hid (okGlob x = false) := by show _ = _; unfold okGlob; rw [decide_eq_false (show ¬ 0 ≤ x.size by omega)]; simp
          go_wp2
          go_ret
          exact Or.inr ⟨(HFa.out Hd.out).out, rfl, HE0.out.alloc _⟩
        · by_cases hs1 : 4000 < x.size
          · have Hd : Hid (okGlob x = false) := by show _ = _; unfold okGlob; rw [decide_eq_false (show ¬ x.size ≤ 4000 by omega)]; simp
            go_wp2
            go_ret
            exact Or.inr ⟨(HFa.out Hd.out).out, rfl, HE0.out.alloc _⟩
          · have Hd : Hid (okGlob x = true) := by show _ = _; unfold okGlob; rw [Ha.out, decide_eq_true (show 0 ≤ x.size by omega), decide_eq_true (show x.size ≤ 4000 by omega)]; rfl
            go_wp2
            go_roundw
            case rel => exact ⟨k + 1, by omega, by go_num, (by
              intro n hn
              rw [take_snoc Hx.out] at hn
              rcases List.mem_append.1 hn with hn | hn
              · exact hA.out n hn
              · rw [List.mem_singleton.1 hn]; exact Hd.out), hE.alloc _⟩
            case measure => simp [intOf]; omega
    · have HA : Hid (globals.all okGlob = true) := by
        have h3 := hA.out
        rw [take_all (show Hid (globals.length = k) from (by rw [HlG.out]; exact (show nG = k by omega)))] at h3
        exact List.all_eq_true.2 h3
      have HQ2 : Hid (valid ⟨globals, funcs⟩ = funcs.all okFunc) := by
        show _ = _
        rw [HQ.out, HA.out]; rfl
      have cA : wr.cell? ⟨w.heap.size, 0, none⟩ = some (.slice aG nG zG) := (hX.ext hE).cell 0
      have cB : wr.cell? ⟨w.heap.size, 1, none⟩ = some (.slice aF nF zF) := (hX.ext hE).cell 1
      have hlt0 : w.heap.size < wr.heap.size := (hX.ext hE).lt
      have HE0 := Lib.hid hE0
      clear hA HA HQ hE hE0 helG
      go_wp2
      obtain ⟨U, hU⟩ : ∃ U, U = wr.heap.size := ⟨_, rfl⟩
      obtain ⟨w2, hw2⟩ : ∃ w2, w2 = wr.alloc (.cells #[.slice aG nG zG, .slice aF nF zF, .slice none 0 0] 78) := ⟨_, rfl⟩
      rw [← hw2, ← hU]
      have hb2 : Blk w2 U 78 #[.slice aG nG zG, .slice aF nF zF, .slice none 0 0] := by rw [hw2, hU]; exact Blk.alloc _ _ _
      have hE2 : Ext w w2 := by rw [hw2]; exact HE0.out.alloc _
      have hUw : w.heap.size ≤ U := by rw [hU]; exact HE0.out.size
      clear hw2 hU cA cB hlt0 hX hEx HE0
      go_loopw [51] (fun i wq => ∃ (k : Nat) (vs : List Value) (fs : List Fn) (aR : Option Addr) (cR : Nat), k ≤ nF ∧ i = .int .i64 k ∧ Hid (Blk wq U 78 #[.slice aG nG zG, .slice aF nF zF, .slice aR vs.length cR]) ∧ Hid (wq.ownsRow w.heap.size 79 1 (.slice aR vs.length cR) vs.length vs) ∧
        Hid (All2 (FnAt (ApartU K w U (.slice aR vs.length cR)) wq) vs fs) ∧ Hid (Bodies (funcs.take k) fs) ∧ Hid (∀ f ∈ funcs.take k, okFunc f = true) ∧ Hid (Ext w wq)) (fun i _ => nF - (intOf i).toNat)
      case atStart => exact ⟨0, [], [], none, 0, Nat.zero_le _, rfl, hb2, World.ownsRow_nil _ _ _ _, All2.nil _, ⟨rfl, by simp⟩, by intro f hf; simp at hf, hE2⟩
      case round =>
        obtain ⟨wq, rfl⟩ : ∃ wq : World, wq = wr := ⟨_, rfl⟩
        obtain ⟨k, vs, fs, aR, cR, hk, rfl, HB, HO, HA, HBo, HOk, HE⟩ := hrel
        by_cases hlt : k < nF
        · obtain ⟨b, o, rfl, _, hel⟩ := helF (by omega)
          obtain ⟨x, cs, hx, _, hC, hcs⟩ := hel k (by omega)
          obtain ⟨vP, vB, rfl, sP, sB, q4⟩ := hC
          have hE := HE.out
          have c0 := hE.cell (hcs.z rfl)
          have c1 := hE.cell (hcs 1 _ rfl)
          have c2 := hE.cell (hcs 2 _ rfl)
          have Hx := Lib.hid hx
          have Hz := Lib.hid (HZ.out x (List.mem_of_getElem? hx))
          obtain ⟨aP, nP, zP, rfl, HlP, hlcP, hcmP, _⟩ := sP.op
          obtain ⟨aB, nB, zB, rfl, HlB, hlcB, hcmB, helB⟩ := sB.op
          have HSP := fun o => Lib.hid ((sP.ext hE (fun _ _ h => h.any)).ext ((Ext.refl wq).alloc o) (fun _ _ h => h.any))
          have HSB := Lib.hid (sB.ext hE (fun _ _ h => h.ext hE))
          have HSPq := Lib.hid (sP.ext hE (fun _ _ h => h.any))
          have HR1 := fun o => Lib.hid ((HRs.out.ext hE).ext ((Ext.refl wq).alloc o))
          have HN := fun o => Lib.hid (i_isName x.name _ q4 (HR1 o).out)
          have HCF := fun o => Lib.hid (g_ContainsFunc K x.params _ _ (HSP o).out (HR1 o).out)
          have hfalse : okFunc x = false → Hid (valid ⟨globals, funcs⟩ = false) := fun h => by
            show _ = _
            rw [HQ2.out, show funcs.all okFunc = false from List.all_eq_false.2 ⟨x, List.mem_of_getElem? Hx.out, by rw [h]; simp⟩]
          have HFa := Lib.hid hfalse
          have HOf := Lib.hid (okFunc_parts x)
          clear hel hcs hx hfalse hE sP sB helF
          have g0 : (0 : Int) ≤ (k : Int) := by omega
          have g1 : (k : Int) < (nF : Int) := by omega
          go_wp2_with fail
          refine (HN _).out.mono ?_; rintro _ _ ⟨rfl, rfl⟩
          cases ha : isName x.name
          · have Ha := Lib.hid ha
            go_wp2
            go_ret
            exact Or.inr ⟨(HFa.out (by rw [HOf.out, Ha.out]; rfl)).out, rfl, HE.out.alloc _⟩
          have Ha := Lib.hid ha
          by_cases hp : 6 < nP
          · have Hd : Hid (okFunc x = false) := by show _ = _; rw [HOf.out, HlP.out, decide_eq_false (show ¬ nP ≤ 6 by omega)]; simp
            go_wp2
            go_ret
            exact Or.inr ⟨(HFa.out Hd.out).out, rfl, HE.out.alloc _⟩
          by_cases hb5 : 500 < nB
          · have Hd : Hid (okFunc x = false) := by show _ = _; rw [HOf.out, HlB.out, decide_eq_false (show ¬ nB ≤ 500 by omega)]; simp
            go_wp2
            go_ret
            exact Or.inr ⟨(HFa.out Hd.out).out, rfl, HE.out.alloc _⟩
          have Hp := Lib.hid (show decide (nP ≤ 6) = true from decide_eq_true (by omega))
          have Hb5 := Lib.hid (show decide (nB ≤ 500) = true from decide_eq_true (by omega))
          go_wp2_with fail
          refine (HCF _).out.mono ?_; rintro _ _ ⟨rfl, rfl⟩
          cases hap : x.params.all isName
          · have Hap := Lib.hid hap
            go_wp2
            go_ret
            exact Or.inr ⟨(HFa.out (by rw [HOf.out, Hap.out]; simp)).out, rfl, HE.out.alloc _⟩
          have Hap := Lib.hid hap
          clear ha hap
          go_wp2
          obtain ⟨F, hF⟩ : ∃ F, F = wq.heap.size := ⟨_, rfl⟩
          obtain ⟨w3, hw3⟩ : ∃ w3, w3 = wq.alloc (.cells #[.string x.name, .slice aP nP zP, .slice aB nB zB] 51) := ⟨_, rfl⟩
          rw [← hw3, ← hF]
          have hb3 : Blk w3 F 51 #[.string x.name, .slice aP nP zP, .slice aB nB zB] := by rw [hw3, hF]; exact Blk.alloc _ _ _
          have hE3 : Ext wq w3 := by rw [hw3]; exact (Ext.refl _).alloc _
          have HE3 := Lib.hid hE3
          have hFw : w.heap.size ≤ F := by rw [hF]; exact HE.out.size
          have HFq : Hid (F = wq.heap.size) := hF
          clear hw3 hE3 hF
          have hzb : ∀ (j : Nat) (s : PStmt), x.body[j]? = some s → s.e.length ≤ 1048576 ∧ s.f.length ≤ 1048576 := fun j s hs => Hz.out s (List.mem_of_getElem? hs)
          have HZb := Lib.hid hzb
          have HelB := Lib.hid helB
          clear hzb helB
          go_loopw [8, 79] (fun n i wr => ∃ j : Nat, j ≤ nB ∧ i = .int .i64 j ∧ n = .int .i64 (nodes (x.body.take j) : Nat) ∧ nodes (x.body.take j) ≤ j * 2097152 ∧ Ext w3 wr) (fun _ i _ => nB - (intOf i).toNat)
          case atStart => exact ⟨0, Nat.zero_le _, rfl, rfl, by simp [nodes], Ext.refl _⟩
          case round =>
            obtain ⟨j, hj, rfl, rfl, hN, hEl⟩ := hrel
            by_cases hlt2 : j < nB
            · obtain ⟨b', o', rfl, _, hel⟩ := HelB.out (by omega)
              obtain ⟨y, cs, hy, _, hC, hcs⟩ := hel j (by omega)
              obtain ⟨vE, vF, rfl, sE, sF, _, _, _, q4'⟩ := hC
              have hEw := (HE.out.trans HE3.out).trans hEl
              have c0 := hEw.cell (hcs.z rfl)
              have c1 := hEw.cell (hcs 1 _ rfl)
              have c2 := hEw.cell (hcs 2 _ rfl)
              have c3 := hEw.cell (hcs 3 _ rfl)
              have c4 := hEw.cell (hcs 4 _ rfl)
              have c5 := hEw.cell (hcs 5 _ rfl)
              obtain ⟨aE, nE, zE, rfl, HlE, hlcE, hcmE, _⟩ := sE.op
              obtain ⟨aF2, nF2, zF2, rfl, HlF2, hlcF2, hcmF2, _⟩ := sF.op
              have hzx := HZb.out j y hy
              rw [HlE.out, HlF2.out] at hzx
              obtain ⟨hz1', hz2'⟩ := hzx
              have hnt := nodes_take hy
              rw [HlE.out, HlF2.out] at hnt
              obtain ⟨N, eN⟩ : ∃ N, N = nodes (x.body.take j) := ⟨_, rfl⟩
              rw [← eN] at hnt hN ⊢
              have HNt := Lib.hid hnt
              clear hel hcs hy hnt eN sE sF hEw
              have g0 : (0 : Int) ≤ (j : Int) := by omega
              have g1 : (j : Int) < (nB : Int) := by omega
              go_wp2
              go_roundw
              case rel => exact ⟨j + 1, by omega, by go_num, by rw [HNt.out]; go_num, by rw [HNt.out]; omega, hEl.alloc _⟩
              case measure => simp [intOf]; omega
            · have hje : j = nB := by omega
              have hNb : Hid (nodes x.body = nodes (x.body.take j)) := by
                show _ = _
                rw [take_all (show Hid (x.body.length = j) from (by rw [HlB.out]; exact hje.symm))]
              have cF : wr.cell? ⟨F, 2, none⟩ = some (.slice aB nB zB) := (hb3.ext hEl).cell 2
              have cF0 : wr.cell? ⟨F, 0, none⟩ = some (.string x.name) := (hb3.ext hEl).cell 0
              have cF1 : wr.cell? ⟨F, 1, none⟩ = some (.slice aP nP zP) := (hb3.ext hEl).cell 1
              have HEl := Lib.hid (HE3.out.trans hEl)
              have HbFl := Lib.hid (hb3.ext hEl)
              obtain ⟨N, eN⟩ : ∃ N, N = nodes (x.body.take j) := ⟨_, rfl⟩
              rw [← eN] at hNb hN ⊢
              clear eN hEl
              go_wp2_with fail
              refine (i_blocks K x.body.length x.body 0 0 rfl _ _ (HSB.out.ext HEl.out (fun _ _ h => h.ext HEl.out)) rfl (by rw [HlB.out]; omega) (by rw [HlB.out]; omega) Hz.out (HRs.out.ext (HE.out.trans HEl.out)) (fun c hc => Nat.lt_of_lt_of_le (HK.out c hc) (HE.out.trans HEl.out).size)).mono ?_
              rintro e5 w5 hbl5
              obtain ⟨a5, n5, c5, ok5, rfl, HBl5, hX5⟩ := hbl5.open_
              have HBs5 := Lib.hid HBl5
              have HX5 := Lib.hid hX5
              clear HBl5 hX5
              rcases HBs5.out with ⟨hok5, ts5, hbk5, vs5, hS5, hA5⟩ | ⟨hok5, hbk5⟩
              rotate_left
              · subst hok5
                have Hd : Hid (okFunc x = false) := by show _ = _; rw [HOf.out, hbk5]; simp
                clear hbk5
                go_wp2
                go_ret
                exact Or.inr ⟨(HFa.out Hd.out).out, rfl, (HE.out.trans HEl.out).trans HX5.out⟩
              subst hok5
              by_cases hN2 : 2000 < N
              · have Hd : Hid (okFunc x = false) := by show _ = _; rw [HOf.out, hNb.out, decide_eq_false (show ¬ N ≤ 2000 by omega)]; simp
                clear hbk5 hS5 hA5
                go_wp2
                go_ret
                exact Or.inr ⟨(HFa.out Hd.out).out, rfl, (HE.out.trans HEl.out).trans HX5.out⟩
              have HokF : Hid (okFunc x = true) := by
                show _ = _
                rw [HOf.out, Ha.out, HlP.out, HlB.out, Hp.out, Hb5.out, Hap.out, hbk5, hNb.out, decide_eq_true (show N ≤ 2000 by omega)]; rfl
              have H5 := Lib.hid (show _ ∧ _ ∧ _ from ⟨hbk5, hS5, hA5⟩)
              have hE5 : Ext wq w5 := HEl.out.trans HX5.out
              have u2 : w5.cell? ⟨U, 2, none⟩ = some (.slice aR vs.length cR) := (HB.out.ext hE5).cell 2
              have e0 := HX5.out.cell cF0
              have e1 := HX5.out.cell cF1
              have e2 := HX5.out.cell cF
              have HE5 := Lib.hid hE5
              have HbF5 : Hid (Blk w5 F 51 #[.string x.name, .slice aP nP zP, .slice aB nB zB]) := HbFl.out.ext HX5.out
              clear hbk5 hS5 hA5 hE5 cF cF0 cF1
              go_wp2_with fail
              refine start_ (n := 14) (S := fun w' => w'.cell? ⟨U, 2, none⟩ = some (.slice aR vs.length cR) ∧ w'.cell? ⟨F, 0, none⟩ = some (.string x.name) ∧ w'.cell? ⟨F, 1, none⟩ = some (.slice aP nP zP) ∧ w'.cell? ⟨F, 2, none⟩ = some (.slice aB nB zB)) (ds := [13]) #[false, false, false, false, false, false, false, false, false, false, false, false, false, false] (by kernel_rfl) rfl rfl ?hS (fun hHeld => ?_)
              case hS => exact ⟨by simpa using u2, by simpa using e0, by simpa using e1, by simpa using e2⟩
              refine pure_ (i := 0) (N := some 105) (v := ?_) (a' := ?_) #[true, false, false, false, false, false, false, false, false, false, false, false, false, false] rfl rfl (by kernel_rfl) (fun _ _ _ h => h) (Or.inl ⟨by rfl, ?_⟩) ?_ ?_
              rotate_left
              · intro w'
                go_simp
                with_reducible rfl
              rotate_left
              · simp only [Act.put, List.setIfInBounds_toArray, List.set_cons_zero, List.set_cons_succ, i64_w, i32_w]
                rfl
              refine pure_ (i := 1) (N := some 106) (v := ?_) (a' := ?_) #[true, true, false, false, false, false, false, false, false, false, false, false, false, false] rfl rfl (by kernel_rfl) (fun _ _ _ h => h) (Or.inl ⟨by rfl, ?_⟩) ?_ ?_
              rotate_left
              · intro w'
                go_simp
                with_reducible rfl
              rotate_left
              · simp only [Act.put, List.setIfInBounds_toArray, List.set_cons_zero, List.set_cons_succ, i64_w, i32_w]
                rfl
              refine pure_ (i := 2) (N := some 107) (v := ?_) (a' := ?_) #[true, true, true, false, false, false, false, false, false, false, false, false, false, false] rfl rfl (by kernel_rfl) (fun _ _ _ h => h) (Or.inl ⟨by rfl, ?_⟩) ?_ ?_
              rotate_left
              · intro w'
                go_simp
                with_reducible rfl
              rotate_left
              · simp only [Act.put, List.setIfInBounds_toArray, List.set_cons_zero, List.set_cons_succ, i64_w, i32_w]
                rfl
              refine pure_ (i := 3) (N := some 108) (v := ?_) (a' := ?_) #[true, true, true, true, false, false, false, false, false, false, false, false, false, false] rfl rfl (by kernel_rfl) (fun _ _ _ h => h) (Or.inl ⟨by rfl, ?_⟩) ?_ ?_
              rotate_left
              · intro w'
                go_simp
                with_reducible rfl
              rotate_left
              · simp only [Act.put, List.setIfInBounds_toArray, List.set_cons_zero, List.set_cons_succ, i64_w, i32_w]
                rfl
              refine take_ (i := 4) (N := some 109) (v := ?_) (a' := ?_) #[true, true, true, true, true, false, false, false, false, false, false, false, false, false] rfl rfl (by kernel_rfl) (fun _ _ _ h => h) (Or.inl ⟨by rfl, ?_⟩) hHeld ?_ ?_
              rotate_left
              · rintro w' ⟨s0, s1, s2, s3⟩
                go_simp
                with_reducible rfl
              rotate_left
              · simp only [Act.put, List.setIfInBounds_toArray, List.set_cons_zero, List.set_cons_succ, i64_w, i32_w]
                rfl
              refine take_ (i := 5) (N := some 110) (v := ?_) (a' := ?_) #[true, true, true, true, true, true, false, false, false, false, false, false, false, false] rfl rfl (by kernel_rfl) (fun _ _ _ h => h) (Or.inl ⟨by rfl, ?_⟩) hHeld ?_ ?_
              rotate_left
              · rintro w' ⟨s0, s1, s2, s3⟩
                go_simp
                with_reducible rfl
              rotate_left
              · simp only [Act.put, List.setIfInBounds_toArray, List.set_cons_zero, List.set_cons_succ, i64_w, i32_w]
                rfl
              refine pure_ (i := 6) (N := some 111) (v := ?_) (a' := ?_) #[true, true, true, true, true, true, true, false, false, false, false, false, false, false] rfl rfl (by kernel_rfl) (fun _ _ _ h => h) (Or.inl ⟨by rfl, ?_⟩) ?_ ?_
              rotate_left
              · intro w'
                go_simp
                with_reducible rfl
              rotate_left
              · simp only [Act.put, List.setIfInBounds_toArray, List.set_cons_zero, List.set_cons_succ, i64_w, i32_w]
                rfl
              refine pure_ (i := 7) (N := some 112) (v := ?_) (a' := ?_) #[true, true, true, true, true, true, true, true, false, false, false, false, false, false] rfl rfl (by kernel_rfl) (fun _ _ _ h => h) (Or.inl ⟨by rfl, ?_⟩) ?_ ?_
              rotate_left
              · intro w'
                go_simp
                with_reducible rfl
              rotate_left
              · simp only [Act.put, List.setIfInBounds_toArray, List.set_cons_zero, List.set_cons_succ, i64_w, i32_w]
                rfl
              refine one_ (i := 8) (N := some 113) #[true, true, true, true, true, true, true, true, true, false, false, false, false, false] rfl rfl (by kernel_rfl) (by decide) (fun K hK => ?_)
              refine value_ (w1 := ?_) (v := ?_) (by rfl) rfl ?_ ?_
              rotate_left 2
              · go_simp
                constructor
                · rfl
                · rfl
              have x1 : Ext w5 (w5.drew.alloc (.cells #[.string x.name, .slice aP nP zP, .slice aB nB zB, .slice a5 n5 c5] 82)) := ((Ext.refl w5).drew).alloc _
              have xA : Ext w5 ((w5.drew.alloc (.cells #[.string x.name, .slice aP nP zP, .slice aB nB zB, .slice a5 n5 c5] 82)).alloc (.cells #[.pointer (some ⟨w5.heap.size, 0, none⟩)] 79)) := x1.alloc _
              refine hK.out _ _ ⟨x1.cell u2, x1.cell e0, x1.cell e1, x1.cell e2⟩ (fun hHeld => ?_)
              clear hK K
              refine norm_ (a' := ?_) ?_ ?_
              rotate_left
              · show Act.put _ (some 113) _ = _
                simp only [Act.put, List.setIfInBounds_toArray, List.set_cons_zero, List.set_cons_succ, i64_w, i32_w]
                rfl
              refine one_ (i := 9) (N := some 114) #[true, true, true, true, true, true, true, true, true, true, false, false, false, false] rfl rfl (by kernel_rfl) (by decide) (fun K hK => ?_)
              refine value_ (w1 := ?_) (v := ?_) (by rfl) rfl ?_ ?_
              rotate_left 2
              · go_simp
                constructor
                · rfl
                · rfl
              refine hK.out _ _ ⟨xA.cell u2, xA.cell e0, xA.cell e1, xA.cell e2⟩ (fun hHeld => ?_)
              clear hK K
              refine norm_ (a' := ?_) ?_ ?_
              rotate_left
              · show Act.put _ (some 114) _ = _
                simp only [Act.put, List.setIfInBounds_toArray, List.set_cons_zero, List.set_cons_succ, i64_w, i32_w]
                rfl
              refine one_ (i := 10) (N := some 115) #[true, true, true, true, true, true, true, true, true, true, true, false, false, false] rfl rfl (by kernel_rfl) (by decide) (fun K hK => ?_)
              have hbU : Blk ((w5.drew.alloc (.cells #[.string x.name, .slice aP nP zP, .slice aB nB zB, .slice a5 n5 c5] 82)).alloc (.cells #[.pointer (some ⟨w5.heap.size, 0, none⟩)] 79)) U 78 #[.slice aG nG zG, .slice (some ⟨b, o, none⟩) nF zF, .slice aR vs.length cR] := (HB.out.ext HE5.out).ext xA
              have hbF : Blk ((w5.drew.alloc (.cells #[.string x.name, .slice aP nP zP, .slice aB nB zB, .slice a5 n5 c5] 82)).alloc (.cells #[.pointer (some ⟨w5.heap.size, 0, none⟩)] 79)) F 51 #[.string x.name, .slice aP nP zP, .slice aB nB zB] := HbF5.out.ext xA
              have hOA : ((w5.drew.alloc (.cells #[.string x.name, .slice aP nP zP, .slice aB nB zB, .slice a5 n5 c5] 82)).alloc (.cells #[.pointer (some ⟨w5.heap.size, 0, none⟩)] 79)).ownsRow w.heap.size 79 1 (.slice aR vs.length cR) vs.length vs := own_moved HO.out (HE5.out.trans xA)
              have hUr := own_ne_blk hOA hbU (by decide)
              have hFr := own_ne_blk hOA hbF (by decide)
              have hvl := HA.out.1
              have hfl : fs.length = k := by
                have h1 := congrArg List.length HBo.out.1
                rw [List.length_map, List.length_take, HlF.out] at h1
                omega
              have A1 : vs.length + 1 ≤ maxLen := by unfold maxLen; omega
              have A2 : (vs.length + 1) * 8 ≤ 140737488355328 := by omega
              have A3 : w.heap.size ≤ ((w5.drew.alloc (.cells #[.string x.name, .slice aP nP zP, .slice aB nB zB, .slice a5 n5 c5] 82)).alloc (.cells #[.pointer (some ⟨w5.heap.size, 0, none⟩)] 79)).heap.size := ((HE.out.trans HE5.out).trans xA).size
              clear hvl hfl
              refine step_append_lies _ rfl (.tmp 109) (.tmp 114) 76 rfl w.heap.size 79 i0 (.pointer none) 1 8 Tryz.underlying76 hi hz0 hz1 hz2 rfl (by decide) (.slice aR vs.length cR) vs.length vs (by rfl) hOA ⟨w5.heap.size + 1, 0, none⟩ 1 1 [.pointer (some ⟨w5.heap.size, 0, none⟩)] (by rfl) rfl (news0 (w5.drew.alloc (.cells #[.string x.name, .slice aP nP zP, .slice aB nB zB, .slice a5 n5 c5] 82)) _ _ (by simp)) (by simp [Value.oneCell']) (by decide) A1 A2 A3 (w5.heap.size + 1 + 1) (by simp) ?_
              intro g cap w' hown' hg' hat' hlt'
              have hbU' := blk_grownBy hbU hg' hUr
              have hbF' := blk_grownBy hbF hg' hFr
              refine hK.out _ _ ⟨hbU'.cell 2, hbF'.cell 0, hbF'.cell 1, hbF'.cell 2⟩ (fun hHeld => ?_)
              clear hK K
              refine norm_ (a' := ?_) ?_ ?_
              rotate_left
              · show Act.put _ (some 115) _ = _
                simp only [Act.put, List.setIfInBounds_toArray, List.set_cons_zero, List.set_cons_succ, i64_w, i32_w]
                rfl
              refine pure_ (i := 11) (N := some 116) (v := ?_) (a' := ?_) #[true, true, true, true, true, true, true, true, true, true, true, true, false, false] rfl rfl (by kernel_rfl) (fun _ _ _ h => h) (Or.inl ⟨by rfl, ?_⟩) ?_ ?_
              rotate_left
              · intro w'
                go_simp
                with_reducible rfl
              rotate_left
              · simp only [Act.put, List.setIfInBounds_toArray, List.set_cons_zero, List.set_cons_succ, i64_w, i32_w]
                rfl
              refine pure_ (i := 12) (N := some 117) (v := ?_) (a' := ?_) #[true, true, true, true, true, true, true, true, true, true, true, true, true, false] rfl rfl (by kernel_rfl) (fun _ _ _ h => h) (Or.inl ⟨by rfl, ?_⟩) ?_ ?_
              rotate_left
              · intro w'
                go_simp
                with_reducible rfl
              rotate_left
              · simp only [Act.put, List.setIfInBounds_toArray, List.set_cons_zero, List.set_cons_succ, i64_w, i32_w]
                rfl
              refine last_ (i := 13) (N := none) #[true, true, true, true, true, true, true, true, true, true, true, true, true, true] rfl rfl (by kernel_rfl) (by decide) (fun K hK => ?_)
              have q2 : w'.cell? ⟨U, 2, none⟩ = some (.slice aR vs.length cR) := hbU'.cell 2
              have q2' : w'.frozen? ⟨U, 2, none⟩ = false := hbU'.frozen 2
              go_simp
              refine hK.out _ _ ?_
              clear hK K
              refine done_ (by kernel_rfl) ?_
              have HbU := Lib.hid hbU'
              have HOn := Lib.hid hown'
              have HG := Lib.hid hg'
              have HAt := Lib.hid hat'
              have HUr := Lib.hid hUr
              have HOA := Lib.hid hOA
              clear hbU' hbF' hbU hbF hown' hg' hat' hlt' hUr hFr hOA q2 q2' u2 e0 e1 e2 x1 xA hHeld
              go_wp2
              go_roundw
              case rel =>
                obtain ⟨hbk5, hS5, hA5⟩ := H5.out
                have hUl : U < wq.heap.size := HB.out.lt
                have x1 : Ext w5 (w5.drew.alloc (.cells #[.string x.name, .slice aP nP zP, .slice aB nB zB, .slice a5 n5 c5] 82)) := ((Ext.refl w5).drew).alloc _
                have xA : Ext w5 ((w5.drew.alloc (.cells #[.string x.name, .slice aP nP zP, .slice aB nB zB, .slice a5 n5 c5] 82)).alloc (.cells #[.pointer (some ⟨w5.heap.size, 0, none⟩)] 79)) := x1.alloc _
                have sA : ((w5.drew.alloc (.cells #[.string x.name, .slice aP nP zP, .slice aB nB zB, .slice a5 n5 c5] 82)).alloc (.cells #[.pointer (some ⟨w5.heap.size, 0, none⟩)] 79)).heap.size = w5.heap.size + 1 + 1 := by simp
                have s5 : wq.heap.size ≤ w5.heap.size := HE5.out.size
                have hat : (Value.slice (some ⟨g, 0, none⟩) (vs.length + 1) cap).ownBlock = (Value.slice aR vs.length cR).ownBlock ∨ (Value.slice (some ⟨g, 0, none⟩) (vs.length + 1) cap).ownBlock = some ((w5.drew.alloc (.cells #[.string x.name, .slice aP nP zP, .slice aB nB zB, .slice a5 n5 c5] 82)).alloc (.cells #[.pointer (some ⟨w5.heap.size, 0, none⟩)] 79)).heap.size := by
                  rcases HAt.out with h | h
                  · exact .inl (by rw [h]; rfl)
                  · exact .inr (by rw [sA, ← h]; rfl)
                have hUn : some U ≠ (Value.slice (some ⟨g, 0, none⟩) (vs.length + 1) cap).ownBlock := by
                  rcases hat with h | h
                  · rw [h]; exact HUr.out
                  · rw [h, sA]
                    intro e
                    cases e
                    omega
                have hnew : FnAt (fun c => K c ∨ wq.heap.size ≤ c) (w5.drew.alloc (.cells #[.string x.name, .slice aP nP zP, .slice aB nB zB, .slice a5 n5 c5] 82)) (.pointer (some ⟨w5.heap.size, 0, none⟩)) (x, ts5) := by
                  have e5 := HE5.out
                  refine ⟨w5.heap.size, .slice aP nP zP, .slice aB nB zB, .slice a5 n5 c5, vs5, rfl, .inr s5, ?_, ?_, ?_, q4, ?_, ?_⟩
                  · have := (Blk.alloc w5.drew 82 #[.string x.name, .slice aP nP zP, .slice aB nB zB, .slice a5 n5 c5]).cells
                    simpa using this
                  · exact Sl.keep HSPq.out ((e5.trans x1).keep K) (fun _ _ _ h => h.any) (fun c hc => .inl hc)
                  · exact Sl.keep HSB.out ((e5.trans x1).keep K) (fun _ _ _ h => h.keep ((e5.trans x1).keep K) (fun c hc => .inl hc)) (fun c hc => .inl hc)
                  · exact hS5.keep (x1.keep _) (fun c hc => .inr (Nat.le_trans HEl.out.size hc))
                  · exact hA5.stKeep (x1.keep _) (fun c hc => by
                      rcases hc with hc | hc
                      · exact .inl hc
                      · exact .inr (Nat.le_trans HEl.out.size hc))
                have hset : Keep (fun c => c ≠ U) w' (w'.setCell ⟨U, 2, none⟩ (.slice (some ⟨g, 0, none⟩) (vs.length + 1) cap)) := keep_set (Ext.refl _) _
                refine ⟨k + 1, vs ++ [.pointer (some ⟨w5.heap.size, 0, none⟩)], fs ++ [(x, ts5)], some ⟨g, 0, none⟩, cap, by omega, by go_num, ?_, ?_, ?_, HBo.out.snoc Hx.out hbk5, ?_, ?_⟩
                · show Blk _ _ _ _
                  rw [List.length_append, List.length_singleton]
                  exact HbU.out.set 2 _
                · show World.ownsRow _ _ _ _ _ _ _
                  rw [List.length_append, List.length_singleton]
                  exact own_set HOn.out hUn
                · rw [List.length_append, List.length_singleton]
                  have h1 := (fn_next HA.out ((HE5.out.trans xA).keep _) (HE5.out.trans xA).size HG.out hat).snoc (fn_new HK.out hnew ((Ext.refl _).alloc _) (HE5.out.trans x1).size HE.out.size ⟨hUw, hUl⟩ (own_block HO.out) HG.out hat)
                  exact h1.mono fun _ _ _ h => h.keep (hset.mono (fun c hc => hc.2.1)) (fun _ h => h)
                · intro f hf
                  rw [take_snoc Hx.out] at hf
                  rcases List.mem_append.1 hf with hf | hf
                  · exact HOk.out f hf
                  · rw [List.mem_singleton.1 hf]; exact HokF.out
                · refine Ext.setCell (Below.grown ((HE.out.trans HE5.out).trans xA) HG.out ((HE.out.trans HE5.out).trans xA).size (fun c hc => (own_block HOA.out c hc).1)) hUw _
              case measure => simp [intOf]; omega
        · have HAl : Hid (funcs.all okFunc = true) := by
            have h3 := HOk.out
            rw [take_all (show Hid (funcs.length = k) from (by rw [HlF.out]; exact (show nF = k by omega)))] at h3
            exact List.all_eq_true.2 h3
          have HBf : Hid (Bodies funcs fs) := by
            have h3 := HBo.out
            rw [take_all (show Hid (funcs.length = k) from (by rw [HlF.out]; exact (show nF = k by omega)))] at h3
            exact h3
          go_wp2
          go_ret
          have hE := HE.out
          refine Or.inl ⟨by rw [HQ2.out, HAl.out], fs, _, HBf.out, rfl, ⟨U, .slice aG nG zG, .slice aF nF zF, .slice aR vs.length cR, vs, rfl, .inr hUw, HB.out.cells, ?_, ?_, ?_, ?_⟩, hE⟩
          · exact Sl.keep HSG.out (hE.keep K) (fun _ _ _ h => h.any) (fun c hc => .inl hc)
          · exact Sl.keep HSF.out (hE.keep K) (fun _ _ _ h => h.keep (hE.keep K) (fun c hc => .inl hc)) (fun c hc => .inl hc)
          · exact sl_of_own HO.out (fun g hg => .inr hg)
          · exact HA.out.mono fun _ _ _ h => h.mono (fun c hc => hc.1)
end Go.Proofs.YtolbngbedncemaaGreatDoor
