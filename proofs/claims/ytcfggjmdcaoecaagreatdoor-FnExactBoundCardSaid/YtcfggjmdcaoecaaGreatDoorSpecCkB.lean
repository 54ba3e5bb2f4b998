/- The reference's l3Expr answers as the model. -/
import Derived.Test.YtcfggjmdcaoecaaGreatDoorSpecCkA
set_option linter.unusedVariables false
set_option linter.unusedSimpArgs false
namespace Go.Proofs.YtcfggjmdcaoecaaGreatDoor
open Go Go.RowKit Md

theorem exprE_drop {t : PTree} {sc : List ByteArray} {l : List PNode} {k : Nat} {x : PNode} (h : l[k]? = some x) : exprE t sc (l.drop k) = if nodeE t sc x = 0 then exprE t sc (l.drop (k + 1)) else nodeE t sc x := by
  obtain ⟨hk, e⟩ := List.getElem?_eq_some_iff.1 h
  rw [List.drop_eq_getElem_cons hk, e, exprE]
set_option maxHeartbeats 2000000 in
theorem s_l3Expr (K Ks Ke : Foot) (t : PTree) (vG vF vS vE : Value) (sc : List ByteArray) (l : List PNode) (w : World) (hG : SlGlob K w vG t.globals) (hF : SlFunc K w vF t.funcs) (hS : SlStr Ks w vS sc) (hE : SlNode Ke w vE l) :
    Calls Tryz.prog 125 #[.agg #[vG, vF], vS, vE] w (Gives (.int .i64 (exprE t sc l)) w) := by
  obtain ⟨aG, nG, cG, rfl⟩ := hG.shape
  obtain ⟨aS, nS, cS, rfl⟩ := hS.shape
  obtain ⟨aF, nF, cF, rfl, HlF, hlcF, hcmF, helF⟩ := hF.op
  obtain ⟨a, len, cap, rfl, Hlen, hlc, hcm, hel⟩ := hE.op
  obtain ⟨R, hR⟩ : ∃ R, R = exprE t sc l := ⟨_, rfl⟩
  have HR := Lib.hid hR
  rw [← hR]
  have X0 : Ext w (w.alloc (.cells #[.slice aG nG cG, .slice aF nF cF] 32)) := (Ext.refl w).alloc _
  have HG := Lib.hid hG
  have HF := Lib.hid hF
  have HS := Lib.hid hS
  have BT : Blk (w.alloc (.cells #[.slice aG nG cG, .slice aF nF cF] 32)) w.heap.size 32 #[.slice aG nG cG, .slice aF nF cF] := Blk.alloc _ _ _
  have HU : ∀ (s : ByteArray) (arr : Bool) (w' : World), Ext w w' → Calls Tryz.prog 126 #[.agg #[.slice aG nG cG, .slice aF nF cF], .slice aS nS cS, .string s, .bool arr] w' (Gives (.int .i64 (useE t sc s arr)) w') := fun s arr w' hX =>
    s_l3Use K Ks t _ _ _ sc s arr w' (Sl.ext hG hX (fun _ _ h => h.any)) (Sl.ext hF hX (fun _ _ h => h.ext hX)) (Sl.ext hS hX (fun _ _ h => h.any))
  have HFn : ∀ (s : ByteArray) (w' : World), Ext w w' → Calls Tryz.prog 46 #[.agg #[.slice aG nG cG, .slice aF nF cF], .string s] w' (Gives (.int .i64 (findF t s)) w') := fun s w' hX =>
    s_l3Func K t _ _ s w' (Sl.ext hG hX (fun _ _ h => h.any)) (Sl.ext hF hX (fun _ _ h => h.ext hX))
  have HU := Lib.hid HU
  have HFn := Lib.hid HFn
  clear hG hF hS hE hR
  go_enter Tryz.func125, Tryz.ntmps125
  go_wp2
  go_loopw [7] (fun i wr => ∃ k : Nat, k ≤ len ∧ i = .int .i64 k ∧ Hid (R = exprE t sc (l.drop k)) ∧ Ext (w.alloc (.cells #[.slice aG nG cG, .slice aF nF cF] 32)) wr) (fun i _ => len - (intOf i).toNat)
  case atStart => exact ⟨0, Nat.zero_le _, rfl, HR.out, Ext.refl _⟩
  case round =>
    obtain ⟨k, hk, rfl, hA, hX⟩ := hrel
    by_cases hlt : k < len
    · obtain ⟨b, o, rfl, _, hel⟩ := hel (by omega)
      obtain ⟨x, cs, hx, _, hC, hcs⟩ := hel k (by omega)
      obtain ⟨rfl, _, _, hn⟩ := hC
      have c0 := (X0.trans hX).cell (hcs.z rfl)
      have c1 := (X0.trans hX).cell (hcs 1 _ rfl)
      have c2 := (X0.trans hX).cell (hcs 2 _ rfl)
      have Hx := Lib.hid (exprE_drop (t := t) (sc := sc) hx)
      clear hel hcs hx
      have g0 : (0 : Int) ≤ (k : Int) := by omega
      have g1 : (k : Int) < (len : Int) := by omega
      obtain ⟨kind, val, name⟩ := x
      simp only at c0 c1 c2 Hx hn
      have BX : Blk (wr.alloc (.cells #[.int .i64 kind, .int .i64 val, .string name] 104)) wr.heap.size 104 #[.int .i64 kind, .int .i64 val, .string name] := Blk.alloc _ _ _
      have hX1 : Ext wr (wr.alloc (.cells #[.int .i64 kind, .int .i64 val, .string name] 104)) := (Ext.refl wr).alloc _
      have BT1 := (BT.ext hX).ext hX1
      have t0 : (wr.alloc (.cells #[.int .i64 kind, .int .i64 val, .string name] 104)).cell? ⟨w.heap.size, 0, none⟩ = some (.slice aG nG cG) := (BT1.cell 0).trans rfl
      have t1 : (wr.alloc (.cells #[.int .i64 kind, .int .i64 val, .string name] 104)).cell? ⟨w.heap.size, 1, none⟩ = some (.slice aF nF cF) := (BT1.cell 1).trans rfl
      by_cases h2 : kind = 2
      · subst h2
        have HN : Hid (nodeE t sc ⟨2, val, name⟩ = useE t sc name false) := rfl
        rw [HN.out] at Hx
        have HU2 := Lib.hid (fun w' hX' => HU.out name false w' hX')
        clear HN
        generalize useE t sc name false = u at Hx HU2
        go_wp2_with fail
        refine (HU2.out _ ((X0.trans hX).trans hX1)).mono ?_
        rintro e w2 ⟨rfl, hX2⟩
        have BX2 := BX.ext hX2
        have d0 : w2.cell? ⟨wr.heap.size, 0, none⟩ = some (.int .i64 2) := (BX2.cell 0).trans rfl
        clear t0 t1
        by_cases hu : u = 0
        · subst hu
          go_wp2
          go_roundw
          case rel => exact ⟨k + 1, by omega, by go_num, hA.out.trans (Hx.out.trans (by simp)), (hX.trans hX1).trans hX2⟩
          case measure => simp [intOf]; omega
        · go_wp2
          go_ret
          exact Gives.int (by rw [hA.out, Hx.out, if_neg hu]) ((X0.trans (hX.trans hX1)).trans hX2)
      by_cases h3 : kind = 3
      · subst h3
        have HN : Hid (nodeE t sc ⟨3, val, name⟩ = useE t sc name true) := rfl
        rw [HN.out] at Hx
        have HU2 := Lib.hid (fun w' hX' => HU.out name true w' hX')
        clear HN
        generalize useE t sc name true = u at Hx HU2
        go_wp2_with fail
        refine (HU2.out _ ((X0.trans hX).trans hX1)).mono ?_
        rintro e w2 ⟨rfl, hX2⟩
        have BX2 := BX.ext hX2
        have d0 : w2.cell? ⟨wr.heap.size, 0, none⟩ = some (.int .i64 3) := (BX2.cell 0).trans rfl
        clear t0 t1
        by_cases hu : u = 0
        · subst hu
          go_wp2
          go_roundw
          case rel => exact ⟨k + 1, by omega, by go_num, hA.out.trans (Hx.out.trans (by simp)), (hX.trans hX1).trans hX2⟩
          case measure => simp [intOf]; omega
        · go_wp2
          go_ret
          exact Gives.int (by rw [hA.out, Hx.out, if_neg hu]) ((X0.trans (hX.trans hX1)).trans hX2)
      by_cases h4 : kind = 4
      · subst h4
        have HN : Hid (nodeE t sc ⟨4, val, name⟩ = if findF t name < 0 then 4 else if arityF t (findF t name) = val then 0 else 6) := rfl
        rw [HN.out] at Hx
        have HU2 := Lib.hid (fun w' hX' => HFn.out name w' hX')
        have hr := findF_range t name
        clear HN
        generalize findF t name = u at Hx HU2 hr
        go_wp2_with fail
        refine (HU2.out _ ((X0.trans hX).trans hX1)).mono ?_
        rintro e w2 ⟨rfl, hX2⟩
        have BX2 := BX.ext hX2
        have d1 : w2.cell? ⟨wr.heap.size, 1, none⟩ = some (.int .i64 val) := (BX2.cell 1).trans rfl
        have BT2 := BT1.ext hX2
        have t1 : w2.cell? ⟨w.heap.size, 1, none⟩ = some (.slice aF nF cF) := (BT2.cell 1).trans rfl
        clear t0
        rcases hr with rfl | ⟨u0, u1, f, hf, _⟩
        · go_wp2
          go_ret
          exact Gives.int (by rw [hA.out, Hx.out]; rfl) ((X0.trans (hX.trans hX1)).trans hX2)
        · obtain ⟨n, rfl⟩ := Int.eq_ofNat_of_zero_le u0
          rw [Int.toNat_natCast] at hf
          have hnF : n < nF := by have := HlF.out; omega
          obtain ⟨bF, oF, rfl, _, helF⟩ := helF (by omega)
          obtain ⟨f', csF, hf', _, hCF, hcsF⟩ := helF n hnF
          obtain rfl : f = f' := Option.some.inj (hf.symm.trans hf')
          obtain ⟨vP, vB, rfl, hP, _, _⟩ := hCF
          obtain ⟨aP, nP, cP, rfl, HlP, hlcP, hcmP, _⟩ := hP.op
          have hX3 := (X0.trans (hX.trans hX1)).trans hX2
          have e1 := hX3.cell (hcsF 1 _ rfl)
          have Har : Hid (arityF t (n : Int) = (nP : Int)) := by
            show _ = _
            unfold arityF
            rw [Int.toNat_natCast, hf, ← HlP.out]
          have HX3 := Lib.hid hX3
          have HX4 := Lib.hid ((hX.trans hX1).trans hX2)
          rw [if_neg (show ¬ ((n : Int) < 0) by omega), Har.out] at Hx
          clear helF hcsF hf hf' hP Har u1 hX3
          have g2 : (0 : Int) ≤ (n : Int) := by omega
          have g3 : (n : Int) < (nF : Int) := by omega
          by_cases hq : (nP : Int) = val
          · have hne : (((nP : Int)) != val) = false := by rw [hq]; simp
            have HQ := Lib.hid hq
            clear hq
            go_wp2_with fail
            go_quiet (fail)
            go_wp2
            go_roundw
            case rel => exact ⟨k + 1, by omega, by go_num, hA.out.trans (Hx.out.trans (by rw [if_pos HQ.out]; simp)), HX4.out.trans (drewN_ext _ _)⟩
            case measure => simp [intOf]; omega
          · have hne : (((nP : Int)) != val) = true := by simpa using hq
            have HQ := Lib.hid hq
            clear hq
            go_wp2_with fail
            go_quiet (fail)
            go_wp2
            go_ret
            exact Gives.int (by rw [hA.out, Hx.out, if_neg HQ.out]; rfl) (HX3.out.trans (drewN_ext _ _))
      · have Hx0 : Hid (R = exprE t sc (l.drop (k + 1))) := by
          show _ = _
          rw [hA.out, Hx.out]
          simp [nodeE, h2, h3, h4]
        have q2 : (kind == 2) = false := by simpa using h2
        have q3 : (kind == 3) = false := by simpa using h3
        have q4 : (kind == 4) = false := by simpa using h4
        clear h2 h3 h4
        go_wp2
        go_roundw
        case rel => exact ⟨k + 1, by omega, by go_num, Hx0, hX.trans hX1⟩
        case measure => simp [intOf]; omega
    · go_wp2
      go_ret
      exact Gives.int (by rw [hA.out, List.drop_eq_nil_of_le (by rw [Hlen.out]; omega)]; rfl) (X0.trans hX)
end Go.Proofs.YtcfggjmdcaoecaaGreatDoor
