/- The reference's ValidTree answers as the model. -/
import Derived.Test.YtolbngbedncemaaGreatDoorSpecStmt
import Derived.Test.YtolbngbedncemaaGreatDoorSpecShape
set_option linter.unusedVariables false
set_option linter.unusedSimpArgs false
namespace Go.Proofs.YtolbngbedncemaaGreatDoor
open Go Go.RowKit Md

/-- The function test in the order of the reference. -/
theorem okFunc_eq (f : PFunc) : okFunc f = (isName f.name && decide (f.params.length ≤ 6) && decide (f.body.length ≤ 500) && f.params.all isName && (decide (nodes f.body ≤ 2000) && f.body.all stOk) && shaped f.body) := by
  rw [okFunc, blocks_some _ _ _ (Nat.le_refl _)]
  generalize isName f.name = a
  generalize decide (f.params.length ≤ 6) = b
  generalize decide (f.body.length ≤ 500) = c
  generalize f.params.all isName = d
  generalize decide (nodes f.body ≤ 2000) = e
  generalize f.body.all stOk = g
  generalize shaped f.body = h
  cases a <;> cases b <;> cases c <;> cases d <;> cases e <;> cases g <;> cases h <;> rfl
theorem nodes_take {b : List PStmt} {k : Nat} {x : PStmt} (h : b[k]? = some x) : nodes (b.take (k + 1)) = nodes (b.take k) + x.e.length + x.f.length := by
  rw [take_snoc h, nodes, List.map_append, List.sum_append]
  simp [nodes, Nat.add_assoc]
theorem nodes_take_le (b : List PStmt) (k : Nat) : nodes (b.take k) ≤ nodes b := by
  conv => rhs; rw [← List.take_append_drop k b, nodes, List.map_append, List.sum_append]
  exact Nat.le_add_right _ _
theorem stOk_nonneg {s : PStmt} (h : stOk s = true) : 0 ≤ s.thn ∧ 0 ≤ s.els := by
  simp only [stOk, Bool.and_eq_true, decide_eq_true_eq] at h
  exact ⟨h.1.1.1.1.2, h.1.1.1.2⟩

set_option maxRecDepth 1000000 in
theorem s_l2GoodFunc (K : Foot) (x : PFunc) (vP vB : Value) (w : World) (hP : SlStr K w vP x.params) (hB : SlStmt K w vB x.body) (hs : x.name.size ≤ maxLen) (hz : ∀ s ∈ x.body, s.e.length ≤ 1048576 ∧ s.f.length ≤ 1048576) :
    Calls Tryz.prog 57 #[.agg #[.string x.name, vP, vB]] w (Gives (.bool (okFunc x)) w) := by
  obtain ⟨name, params, body⟩ := x
  obtain ⟨R, hR⟩ : ∃ R, R = okFunc ⟨name, params, body⟩ := ⟨_, rfl⟩
  rw [← hR]
  rw [okFunc_eq] at hR
  simp only at *
  obtain ⟨aP, nP, zP, rfl, HlP, hlcP, hcmP, helP⟩ := hP.op
  obtain ⟨aB, nB, zB, rfl, HlB, hlcB, hcmB, helB⟩ := hB.op
  rw [HlP.out, HlB.out] at hR
  have HR := Lib.hid hR
  have HB := Lib.hid hB
  have HZ := Lib.hid hz
  clear hP hB hR hz
  have hX := Blk.alloc w 51 #[.string name, .slice aP nP zP, .slice aB nB zB]
  have hEx : Ext w (w.alloc (.cells #[.string name, .slice aP nP zP, .slice aB nB zB] 51)) := (Ext.refl _).alloc _
  go_enter Tryz.func57, Tryz.ntmps57
  go_wp2_with fail
  refine (s_l2Name name _ hs).mono ?_; rintro _ _ ⟨rfl, rfl⟩
  cases hn : isName name
  · have HN := Lib.hid hn
    clear hn
    go_wp2
    go_ret
    exact Gives.bool (by rw [HR.out, HN.out]; rfl) hEx
  have HN := Lib.hid hn
  clear hn
  by_cases h1 : 6 < nP
  · have d1 := Lib.hid (show decide (nP ≤ 6) = false from decide_eq_false (by omega))
    go_wp2
    go_ret
    exact Gives.bool (by rw [HR.out, HN.out, d1.out]; rfl) hEx
  have d1 := Lib.hid (show decide (nP ≤ 6) = true from decide_eq_true (by omega))
  by_cases h2 : 500 < nB
  · have d2 := Lib.hid (show decide (nB ≤ 500) = false from decide_eq_false (by omega))
    go_wp2
    go_ret
    exact Gives.bool (by rw [HR.out, HN.out, d1.out, d2.out]; rfl) hEx
  have d2 := Lib.hid (show decide (nB ≤ 500) = true from decide_eq_true (by omega))
  have HQ : Hid (R = (params.all isName && (decide (nodes body ≤ 2000) && body.all stOk) && shaped body)) := by
    show R = _
    rw [HR.out, HN.out, d1.out, d2.out]; rfl
  clear HR HN d1 d2
  go_wp2
  go_loopw [3] (fun i wr => ∃ k : Nat, k ≤ nP ∧ i = .int .i64 k ∧ Hid (∀ n ∈ params.take k, isName n = true) ∧ wr = w.alloc (.cells #[.string name, .slice aP nP zP, .slice aB nB zB] 51)) (fun i _ => nP - (intOf i).toNat)
  case atStart => exact ⟨0, Nat.zero_le _, rfl, by intro n hn; simp at hn, rfl⟩
  case round =>
    obtain ⟨k, hk, rfl, hA, rfl⟩ := hrel
    by_cases hlt : k < nP
    · obtain ⟨b, o, rfl, _, hel⟩ := helP (by omega)
      obtain ⟨x, cs, hx, _, hC, hcs⟩ := hel k (by omega)
      obtain ⟨rfl, hn2⟩ := hC
      have c0 := hEx.cell (hcs.z rfl)
      rw [Nat.mul_one] at c0
      have Hx := Lib.hid hx
      clear hel hcs hx
      have g0 : (0 : Int) ≤ (k : Int) := by omega
      have g1 : (k : Int) < (nP : Int) := by omega
      go_wp2_with fail
      refine (s_l2Name x _ hn2).mono ?_; rintro _ _ ⟨rfl, rfl⟩
      cases ha : isName x
      · have Ha := Lib.hid ha
        clear ha
        go_wp2
        go_ret
        exact Gives.bool (by
          rw [HQ.out, show params.all isName = false from List.all_eq_false.2 ⟨x, List.mem_of_getElem? Hx.out, by rw [Ha.out]; simp⟩]; rfl) hEx
      · have Ha := Lib.hid ha
        clear ha
        go_wp2
        go_roundw
        case rel => exact ⟨k + 1, by omega, by go_num, (by
          intro n hn
          rw [take_snoc Hx.out] at hn
          rcases List.mem_append.1 hn with hn | hn
          · exact hA.out n hn
          · rw [List.mem_singleton.1 hn]; exact Ha.out), trivial⟩
        case measure => simp [intOf]; omega
    · have HA : Hid (params.all isName = true) := by
        have h3 := hA.out
        rw [take_all (show Hid (params.length = k) from (by rw [HlP.out]; exact (show nP = k by omega)))] at h3
        exact List.all_eq_true.2 h3
      have HQ2 : Hid (R = (decide (nodes body ≤ 2000) && body.all stOk && shaped body)) := by
        show R = _
        rw [HQ.out, HA.out]; rfl
      clear hA HA HQ
      go_wp2
      go_loopw [4, 5] (fun n i wr => ∃ k : Nat, k ≤ nB ∧ i = .int .i64 k ∧ n = .int .i64 (nodes (body.take k) : Nat) ∧ Hid (∀ s ∈ body.take k, stOk s = true) ∧ nodes (body.take k) ≤ 2000 ∧ Ext (w.alloc (.cells #[.string name, .slice aP nP zP, .slice aB nB zB] 51)) wr) (fun _ i _ => nB - (intOf i).toNat)
      case atStart => exact ⟨0, Nat.zero_le _, rfl, rfl, by intro n hn; simp at hn, by simp [nodes], Ext.refl _⟩
      case round =>
        obtain ⟨k, hk, rfl, rfl, hA, hN, hE⟩ := hrel
        have cB : wr.cell? ⟨w.heap.size, 2, none⟩ = some (.slice aB nB zB) := (hX.ext hE).cell 2
        by_cases hlt : k < nB
        · obtain ⟨b, o, rfl, _, hel⟩ := helB (by omega)
          obtain ⟨x, cs, hx, _, hC, hcs⟩ := hel k (by omega)
          obtain ⟨vE, vF, rfl, sE, sF, q1, q2, q3, q4⟩ := hC
          have hE0 := hEx.trans hE
          have c0 := hE0.cell (hcs.z rfl)
          have c1 := hE0.cell (hcs 1 _ rfl)
          have c2 := hE0.cell (hcs 2 _ rfl)
          have c3 := hE0.cell (hcs 3 _ rfl)
          have c4 := hE0.cell (hcs 4 _ rfl)
          have c5 := hE0.cell (hcs 5 _ rfl)
          have HE := Lib.hid (sE.ext hE0 (fun _ _ h => h.any))
          have HF := Lib.hid (sF.ext hE0 (fun _ _ h => h.any))
          obtain ⟨aE, nE, zE, rfl, HlE, hlcE, hcmE, _⟩ := sE.op
          obtain ⟨aF, nF, zF, rfl, HlF, hlcF, hcmF, _⟩ := sF.op
          have hzx := HZ.out x (List.mem_of_getElem? hx)
          rw [HlE.out, HlF.out] at hzx
          obtain ⟨hz1, hz2⟩ := hzx
          have hnt := nodes_take hx
          rw [HlE.out, HlF.out] at hnt
          obtain ⟨N, eN⟩ : ∃ N, N = nodes (body.take k) := ⟨_, rfl⟩
          rw [← eN] at hnt hN ⊢
          have Hx := Lib.hid hx
          have HN := Lib.hid hnt
          have HeN := Lib.hid eN
          clear hel hcs hx hnt eN sE sF
          have g0 : (0 : Int) ≤ (k : Int) := by omega
          have g1 : (k : Int) < (nB : Int) := by omega
          have s1 : IntKind.i64.wrap ((N : Int) + (nE : Int)) = N + nE := IntWalk.i64_in _ (by omega)
          have s2 : IntKind.i64.wrap ((N : Int) + (nE : Int) + (nF : Int)) = N + nE + nF := IntWalk.i64_in _ (by omega)
          go_wp2_with fail
          go_quiet (fail)
          clear s1 s2
          have s3 : ((N : Int) + (nE : Int) + (nF : Int)) = ((N + nE + nF : Nat) : Int) := by omega
          rw [s3]
          obtain ⟨M, hM⟩ : ∃ M, M = N + nE + nF := ⟨_, rfl⟩
          rw [← hM]
          clear s3
          by_cases hM2 : 2000 < M
          · have d1 : Hid (decide (nodes body ≤ 2000) = false) := decide_eq_false (by
              have h1 := nodes_take_le body (k + 1)
              have h2 := HN.out
              omega)
            go_wp2
            go_ret
            exact Gives.bool (by rw [HQ2.out, d1.out]; rfl) (hEx.trans (hE.trans (drewN_ext _ _)))
          · go_wp2_with fail
            refine (s_l2GoodStmt K x _ _ _ (HE.out.ext (drewN_ext _ _) (fun _ _ h => h.any)) (HF.out.ext (drewN_ext _ _) (fun _ _ h => h.any)) q4 (by rw [HlE.out]; omega) (by rw [HlF.out]; omega)).mono ?_
            rintro _ w3 ⟨rfl, hX3⟩
            have hE3 := (hE.trans (drewN_ext wr _)).trans hX3
            cases hst : stOk x
            · have Hst := Lib.hid hst
              clear hst
              go_wp2
              go_ret
              exact Gives.bool (by
                rw [HQ2.out, show body.all stOk = false from List.all_eq_false.2 ⟨x, List.mem_of_getElem? Hx.out, by rw [Hst.out]; simp⟩, Bool.and_false]; rfl) (hEx.trans hE3)
            · have Hst := Lib.hid hst
              clear hst
              go_wp2
              go_roundw
              case rel => exact ⟨k + 1, by omega, by go_num, (by rw [HN.out]; go_num), (by
                intro n hn
                rw [take_snoc Hx.out] at hn
                rcases List.mem_append.1 hn with hn | hn
                · exact hA.out n hn
                · rw [List.mem_singleton.1 hn]; exact Hst.out), (by rw [HN.out]; omega), hE3⟩
              case measure => simp [intOf]; omega
        · have HA : Hid (body.all stOk = true) := by
            have h3 := hA.out
            rw [take_all (show Hid (body.length = k) from (by rw [HlB.out]; exact (show nB = k by omega)))] at h3
            exact List.all_eq_true.2 h3
          have HQ3 : Hid (R = shaped body) := by
            show R = _
            rw [HQ2.out, HA.out, decide_eq_true (by
              have h3 := hN
              rw [take_all (show Hid (body.length = k) from (by rw [HlB.out]; exact (show nB = k by omega)))] at h3
              exact h3)]; rfl
          go_wp2_with fail
          refine (s_l2Shaped K body.length body _ _ (HB.out.ext (hEx.trans hE) (fun _ _ h => h.ext (hEx.trans hE))) rfl (by rw [HlB.out]; omega) (fun s hs => stOk_nonneg (List.all_eq_true.1 HA.out s hs))).mono ?_
          rintro _ w3 ⟨rfl, hX3⟩
          go_wp2
          go_ret
          exact Gives.bool HQ3.out.symm ((hEx.trans hE).trans hX3)

/-- The bounds that the laws' reckoning of sizes gives. -/
def Small (t : PTree) : Prop := ∀ f ∈ t.funcs, ∀ s ∈ f.body, s.e.length ≤ 1048576 ∧ s.f.length ≤ 1048576
theorem valid_eq (t : PTree) : valid t = (decide (t.globals.length ≤ 50) && decide (t.funcs.length ≤ 50) && t.globals.all okGlob && t.funcs.all okFunc) := rfl

set_option maxRecDepth 1000000 in
theorem s_ValidTree (K : Foot) (x : PTree) (vG vF : Value) (w : World) (hG : SlGlob K w vG x.globals) (hF : SlFunc K w vF x.funcs) (hz : Small x) :
    Calls Tryz.prog 24 #[.agg #[vG, vF]] w (Gives (.bool (valid x)) w) := by
  obtain ⟨globals, funcs⟩ := x
  obtain ⟨R, hR⟩ : ∃ R, R = valid ⟨globals, funcs⟩ := ⟨_, rfl⟩
  rw [← hR]
  rw [valid_eq] at hR
  unfold Small at hz
  simp only at *
  obtain ⟨aG, nG, zG, rfl, HlG, hlcG, hcmG, helG⟩ := hG.op
  obtain ⟨aF, nF, zF, rfl, HlF, hlcF, hcmF, helF⟩ := hF.op
  rw [HlG.out, HlF.out] at hR
  have HR := Lib.hid hR
  have HZ := Lib.hid hz
  clear hG hF hR hz
  have hX := Blk.alloc w 32 #[.slice aG nG zG, .slice aF nF zF]
  have hEx : Ext w (w.alloc (.cells #[.slice aG nG zG, .slice aF nF zF] 32)) := (Ext.refl _).alloc _
  go_enter Tryz.func24, Tryz.ntmps24
  by_cases h1 : 50 < nG
  · have d1 := Lib.hid (show decide (nG ≤ 50) = false from decide_eq_false (by omega))
    go_wp2
    go_ret
    exact Gives.bool (by rw [HR.out, d1.out]; rfl) hEx
  have d1 := Lib.hid (show decide (nG ≤ 50) = true from decide_eq_true (by omega))
  by_cases h2 : 50 < nF
  · have d2 := Lib.hid (show decide (nF ≤ 50) = false from decide_eq_false (by omega))
    go_wp2
    go_ret
    exact Gives.bool (by rw [HR.out, d1.out, d2.out]; rfl) hEx
  have d2 := Lib.hid (show decide (nF ≤ 50) = true from decide_eq_true (by omega))
  have HQ : Hid (R = (globals.all okGlob && funcs.all okFunc)) := by
    show R = _
    rw [HR.out, d1.out, d2.out]; rfl
  clear HR d1 d2
  go_wp2
  go_loopw [3] (fun i wr => ∃ k : Nat, k ≤ nG ∧ i = .int .i64 k ∧ Hid (∀ n ∈ globals.take k, okGlob n = true) ∧ wr = w.alloc (.cells #[.slice aG nG zG, .slice aF nF zF] 32)) (fun i _ => nG - (intOf i).toNat)
  case atStart => exact ⟨0, Nat.zero_le _, rfl, by intro n hn; simp at hn, rfl⟩
  case round =>
    obtain ⟨k, hk, rfl, hA, rfl⟩ := hrel
    by_cases hlt : k < nG
    · obtain ⟨b, o, rfl, _, hel⟩ := helG (by omega)
      obtain ⟨x, cs, hx, _, hC, hcs⟩ := hel k (by omega)
      obtain ⟨rfl, hn1, hn2⟩ := hC
      have c0 := hEx.cell (hcs.z rfl)
      have c1 := hEx.cell (hcs 1 _ rfl)
      have Hx := Lib.hid hx
      clear hel hcs hx
      have g0 : (0 : Int) ≤ (k : Int) := by omega
      have g1 : (k : Int) < (nG : Int) := by omega
      have hfalse : okGlob x = false → Hid (false = R) := fun h => by
        show false = R
        rw [HQ.out, show globals.all okGlob = false from List.all_eq_false.2 ⟨x, List.mem_of_getElem? Hx.out, by rw [h]; simp⟩]; rfl
      have HFa := Lib.hid hfalse
      clear hfalse
      go_wp2_with fail
      refine (s_l2Name x.name _ hn2).mono ?_; rintro _ _ ⟨rfl, rfl⟩
      cases ha : isName x.name
      · have Ha := Lib.hid ha
        clear ha
        go_wp2
        go_ret
        exact Gives.bool (HFa.out (by unfold okGlob; rw [Ha.out]; rfl)).out hEx
      · have Ha := Lib.hid ha
        clear ha
        go_wp2_with fail
        refine (s_l1In x.size 0 4000 _).mono ?_; rintro _ _ ⟨rfl, rfl⟩
        cases hd : (decide (0 ≤ x.size) && decide (x.size ≤ 4000))
        · have Hd := Lib.hid hd
          clear hd
          go_wp2
          go_ret
          exact Gives.bool (HFa.out (by unfold okGlob; rw [Ha.out, Bool.true_and, Hd.out])).out hEx
        · have Hd := Lib.hid hd
          clear hd
          go_wp2
          go_roundw
          case rel => exact ⟨k + 1, by omega, by go_num, (by
            intro n hn
            rw [take_snoc Hx.out] at hn
            rcases List.mem_append.1 hn with hn | hn
            · exact hA.out n hn
            · rw [List.mem_singleton.1 hn]; unfold okGlob; rw [Ha.out, Bool.true_and, Hd.out]), trivial⟩
          case measure => simp [intOf]; omega
    · have HA : Hid (globals.all okGlob = true) := by
        have h3 := hA.out
        rw [take_all (show Hid (globals.length = k) from (by rw [HlG.out]; exact (show nG = k by omega)))] at h3
        exact List.all_eq_true.2 h3
      have HQ2 : Hid (R = funcs.all okFunc) := by
        show R = _
        rw [HQ.out, HA.out]; rfl
      clear hA HA HQ
      go_wp2
      go_loopw [4] (fun i wr => ∃ k : Nat, k ≤ nF ∧ i = .int .i64 k ∧ Hid (∀ s ∈ funcs.take k, okFunc s = true) ∧ Ext (w.alloc (.cells #[.slice aG nG zG, .slice aF nF zF] 32)) wr) (fun i _ => nF - (intOf i).toNat)
      case atStart => exact ⟨0, Nat.zero_le _, rfl, by intro n hn; simp at hn, Ext.refl _⟩
      case round =>
        obtain ⟨k, hk, rfl, hA, hE⟩ := hrel
        have cB : wr.cell? ⟨w.heap.size, 1, none⟩ = some (.slice aF nF zF) := (hX.ext hE).cell 1
        have hE0 := hEx.trans hE
        by_cases hlt : k < nF
        · obtain ⟨b, o, rfl, _, hel⟩ := helF (by omega)
          obtain ⟨x, cs, hx, _, hC, hcs⟩ := hel k (by omega)
          obtain ⟨vP, vB, rfl, sP, sB, q4⟩ := hC
          have c0 := hE0.cell (hcs.z rfl)
          have c1 := hE0.cell (hcs 1 _ rfl)
          have c2 := hE0.cell (hcs 2 _ rfl)
          have HP := Lib.hid (sP.ext hE0 (fun _ _ h => h.any))
          have HB := Lib.hid (sB.ext hE0 (fun _ _ h => h.ext hE0))
          have Hx := Lib.hid hx
          clear hel hcs hx sP sB
          have g0 : (0 : Int) ≤ (k : Int) := by omega
          have g1 : (k : Int) < (nF : Int) := by omega
          go_wp2_with fail
          refine (s_l2GoodFunc K x _ _ _ HP.out HB.out q4 (HZ.out x (List.mem_of_getElem? Hx.out))).mono ?_
          rintro _ w3 ⟨rfl, hX3⟩
          have hE3 := hE.trans hX3
          cases hst : okFunc x
          · have Hst := Lib.hid hst
            clear hst
            go_wp2
            go_ret
            exact Gives.bool (by
              rw [HQ2.out, show funcs.all okFunc = false from List.all_eq_false.2 ⟨x, List.mem_of_getElem? Hx.out, by rw [Hst.out]; simp⟩]) (hEx.trans hE3)
          · have Hst := Lib.hid hst
            clear hst
            go_wp2
            go_roundw
            case rel => exact ⟨k + 1, by omega, by go_num, (by
              intro n hn
              rw [take_snoc Hx.out] at hn
              rcases List.mem_append.1 hn with hn | hn
              · exact hA.out n hn
              · rw [List.mem_singleton.1 hn]; exact Hst.out), hE3⟩
            case measure => simp [intOf]; omega
        · have HA : Hid (funcs.all okFunc = true) := by
            have h3 := hA.out
            rw [take_all (show Hid (funcs.length = k) from (by rw [HlF.out]; exact (show nF = k by omega)))] at h3
            exact List.all_eq_true.2 h3
          go_wp2
          go_ret
          exact Gives.bool (by rw [HQ2.out, HA.out]) hE0
end Go.Proofs.YtolbngbedncemaaGreatDoor
