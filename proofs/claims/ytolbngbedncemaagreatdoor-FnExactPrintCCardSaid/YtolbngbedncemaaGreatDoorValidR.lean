/- The program's test of a statement's own fields, where its kind is none of 1, 2, 3. PRINTED by gen_valid.py of this repo. -/
import Derived.Test.YtolbngbedncemaaGreatDoorValidA
set_option linter.unusedVariables false
set_option linter.unusedSimpArgs false
namespace Go.Proofs.YtolbngbedncemaaGreatDoor
open Go Go.RowKit Md

set_option maxRecDepth 1000000 in
set_option maxHeartbeats 8000000 in
theorem i_validR (K : Foot) (s : PStmt) (b p nF : Nat) (vE ve vf vt vu : Value) (aF : Option Addr) (cF : Nat) (R : Bool) (HR : Hid (R = stOk s)) (w : World) (hc : Cells w b 0 [.int .i64 s.kind, .string s.name, vE, .slice aF nF cF, .int .i64 s.thn, .int .i64 s.els, .int .i64 p, ve, vf, vt, vu])
    (hs : s.name.size ≤ maxLen) (hres : Res w) (he : ExOpt K w ve (grow s.e)) (hf : ExOpt K w vf (if s.kind = 3 then grow s.f else none)) (HF : Hid (s.f.length = nF)) (hk : ¬ (s.kind = 1 ∨ s.kind = 2 ∨ s.kind = 3)) :
    Calls Tryz.prog 119 #[.pointer (some ⟨b, 0, none⟩)] w (Drew (.bool R) w) := by
  have c0 := hc 0 _ rfl
  have c1 := hc 1 _ rfl
  have c3 := hc 3 _ rfl
  have c4 := hc 4 _ rfl
  have c5 := hc 5 _ rfl
  have c7 := hc 7 _ rfl
  have c8 := hc 8 _ rfl
  simp only [Nat.zero_add] at c0 c1 c3 c4 c5 c7 c8
  obtain ⟨kind, name, se, sf, thn, els⟩ := s
  simp only at *
  rw [if_neg (by omega)] at hf
  have hvf : vf = .pointer none := hf
  subst hvf
  clear hf
  obtain ⟨oE, hoE⟩ : ∃ o, o = grow se := ⟨_, rfl⟩
  rw [← hoE] at he
  have HoE := Lib.hid hoE
  have HN := fun n => Lib.hid (Same.quiet (n := n) (i_isName name _ hs (hres.ext (drewN_ext w n))))
  have gF : (0 : Int) ≤ (nF : Int) := by omega
  clear hc hres hoE
  have HK := Lib.hid hk
  have n1 : (kind == 1) = false := by simp; omega
  have n2 : (kind == 2) = false := by simp; omega
  have n3 : (kind == 3) = false := by simp; omega
  have m3 : (kind != 3) = true := by simp; omega
  go_enter Tryz.func119, Tryz.ntmps119
  go_wp2
  cases hn : (name.toList == [])
  · have Hn := Lib.hid hn
    go_quiet (fail)
    go_wp2
    all_goals first | (exfalso; omega) | (go_ret; exact Drew.bool (by rw [HR.out]; exact (stOk_c4 (by rw [cN4_plain HK.out]; exact Hn.out)).symm) _)
  · have Hn := Lib.hid hn
    have H4 : Hid (cN4 kind name = true) := by show _ = true; rw [cN4_plain HK.out]; exact Hn.out
    cases oE with
    | none =>
      have hve : ve = .pointer none := he
      subst hve
      go_quiet (fail)
      go_wp2
      all_goals first | (exfalso; omega) | (go_ret; exact Drew.bool (by rw [HR.out]; exact (stOk_c3 HoE.out.symm).symm) _)
    | some x =>
      obtain ⟨bx, va, ws, rfl, hcx, _⟩ := he.op
      have d0 := hcx 0 _ rfl
      simp only [Nat.zero_add] at d0
      clear hcx he
      by_cases hF0 : 0 < nF
      · have hF1 : (0 : Int) < (nF : Int) := by omega
        go_quiet (fail)
        go_wp2
        all_goals first | (exfalso; omega) | (go_ret; exact Drew.bool (by rw [HR.out]; exact (stOk_c5 (by rw [cF5_no (by have := HK.out; omega) HF.out]; simp; omega)).symm) _)
      · have hF1 : ¬ (0 : Int) < (nF : Int) := by omega
        have hF2 : decide ((0 : Int) < (nF : Int)) = false := decide_eq_false hF1
        have H5 : Hid (cF5 kind sf = true) := by show _ = true; rw [cF5_no (by have := HK.out; omega) HF.out]; simp; omega
        go_quiet (fail)
        by_cases h4 : kind = 4
        · subst h4
          by_cases ht : thn < 0
          · skip
            go_wp2
            all_goals first | (exfalso; omega) | (go_ret; exact Drew.bool (by rw [HR.out]; exact (stOk_c6 (by omega)).symm) _)
          · by_cases hu : els < 0
            · skip
              go_wp2
              all_goals first | (exfalso; omega) | (go_ret; exact Drew.bool (by rw [HR.out]; exact (stOk_c6 (by omega)).symm) _)
            · skip
              go_wp2
              all_goals first | (exfalso; omega) | (go_ret; exact Drew.bool (by rw [HR.out]; exact (stOk_true (x := x) HoE.out.symm H4.out H5.out (by omega) (by omega) (by omega) (by omega) (fun h => absurd h (by simp))).symm) _)
        by_cases h5 : kind = 5
        · subst h5
          by_cases hel : els = 0
          · subst hel
            by_cases ht : thn < 0
            · skip
              go_wp2
              all_goals first | (exfalso; omega) | (go_ret; exact Drew.bool (by rw [HR.out]; exact (stOk_c6 (by omega)).symm) _)
            · skip
              go_wp2
              all_goals first | (exfalso; omega) | (go_ret; exact Drew.bool (by rw [HR.out]; exact (stOk_true (x := x) HoE.out.symm H4.out H5.out (by omega) (by omega) (by omega) (by omega) (fun h => absurd h (by simp))).symm) _)
          · have e1 : (els != 0) = true := by simp [hel]
            have e2 : (els == 0) = false := by simp [hel]
            go_wp2
            all_goals first | (exfalso; omega) | (go_ret; exact Drew.bool (by rw [HR.out]; exact (stOk_c9 hel (by omega)).symm) _)
        have n4 : (kind == 4) = false := by simp; omega
        have n5 : (kind == 5) = false := by simp; omega
        have m4 : (kind != 4) = true := by simp; omega
        have m5 : (kind != 5) = true := by simp; omega
        by_cases hel : els = 0
        · subst hel
          by_cases htn : thn = 0
          · subst htn
            by_cases hk1 : 1 ≤ kind
            · by_cases hk8 : kind ≤ 8
              · by_cases h8 : kind = 8
                · subst h8
                  cases hx : (x.node.kind == 4)
                  · have Hx := Lib.hid hx
                    go_wp2
                    all_goals first | (exfalso; omega) | (go_ret; exact Drew.bool (by rw [HR.out]; exact (stOk_c10 rfl HoE.out.symm Hx.out).symm) _)
                  · have Hx := Lib.hid hx
                    go_wp2
                    all_goals first | (exfalso; omega) | (go_ret; exact Drew.bool (by rw [HR.out]; exact (stOk_true (x := x) HoE.out.symm H4.out H5.out (by omega) (by omega) (by omega) (by omega) (fun _ => Hx.out)).symm) _)
                · have n8 : (kind != 8) = true := by simp [h8]
                  have Hk8 := Lib.hid h8
                  go_wp2
                  all_goals first | (exfalso; omega) | (go_ret; exact Drew.bool (by rw [HR.out]; exact (stOk_true (x := x) HoE.out.symm H4.out H5.out (by omega) (by omega) (by omega) (by omega) (fun h => absurd h Hk8.out)).symm) _)
              · skip
                go_wp2
                all_goals first | (exfalso; omega) | (go_ret; exact Drew.bool (by rw [HR.out]; exact (stOk_c1 (by omega)).symm) _)
            · skip
              go_wp2
              all_goals first | (exfalso; omega) | (go_ret; exact Drew.bool (by rw [HR.out]; exact (stOk_c1 (by omega)).symm) _)
          · have e1 : (thn != 0) = true := by simp [htn]
            have e2 : (thn == 0) = false := by simp [htn]
            go_wp2
            all_goals first | (exfalso; omega) | (go_ret; exact Drew.bool (by rw [HR.out]; exact (stOk_c8 htn (by omega) (by omega)).symm) _)
        · have e1 : (els != 0) = true := by simp [hel]
          have e2 : (els == 0) = false := by simp [hel]
          go_wp2
          all_goals first | (exfalso; omega) | (go_ret; exact Drew.bool (by rw [HR.out]; exact (stOk_c9 hel (by omega)).symm) _)
end Go.Proofs.YtolbngbedncemaaGreatDoor
