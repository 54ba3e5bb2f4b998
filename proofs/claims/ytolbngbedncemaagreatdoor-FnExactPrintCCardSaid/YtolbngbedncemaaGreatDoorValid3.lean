/- The program's test of a statement's own fields, where its kind is 3. PRINTED by gen_valid.py of this repo. -/
import Derived.Test.YtolbngbedncemaaGreatDoorValidA
set_option linter.unusedVariables false
set_option linter.unusedSimpArgs false
namespace Go.Proofs.YtolbngbedncemaaGreatDoor
open Go Go.RowKit Md

set_option maxRecDepth 1000000 in
set_option maxHeartbeats 8000000 in
theorem i_valid3 (K : Foot) (s : PStmt) (b p nF : Nat) (vE ve vf vt vu : Value) (aF : Option Addr) (cF : Nat) (R : Bool) (HR : Hid (R = stOk s)) (w : World) (hc : Cells w b 0 [.int .i64 s.kind, .string s.name, vE, .slice aF nF cF, .int .i64 s.thn, .int .i64 s.els, .int .i64 p, ve, vf, vt, vu])
    (hs : s.name.size ≤ maxLen) (hres : Res w) (he : ExOpt K w ve (grow s.e)) (hf : ExOpt K w vf (if s.kind = 3 then grow s.f else none)) (HF : Hid (s.f.length = nF)) (hk : s.kind = 3) :
    Calls Tryz.prog 119 #[.pointer (some ⟨b, 0, none⟩)] w (Drew (.bool R) w) := by
  have c0 := hc 0 _ rfl
  have c1 := hc 1 _ rfl
  have c3 := hc 3 _ rfl
  have c4 := hc 4 _ rfl
  have c5 := hc 5 _ rfl
  have c7 := hc 7 _ rfl
  have c8 := hc 8 _ rfl
  simp only [Nat.zero_add] at c0 c1 c3 c4 c5 c7 c8
  obtain ⟨kind, name, se, sf, thn, els⟩ := s
  simp only at *
  subst hk
  rw [if_pos rfl] at hf
  obtain ⟨oF, hoF⟩ : ∃ o, o = grow sf := ⟨_, rfl⟩
  rw [← hoF] at hf
  have HoF := Lib.hid hoF
  clear hoF
  obtain ⟨oE, hoE⟩ : ∃ o, o = grow se := ⟨_, rfl⟩
  rw [← hoE] at he
  have HoE := Lib.hid hoE
  have HN := fun n => Lib.hid (Same.quiet (n := n) (i_isName name _ hs (hres.ext (drewN_ext w n))))
  have gF : (0 : Int) ≤ (nF : Int) := by omega
  clear hc hres hoE
  go_enter Tryz.func119, Tryz.ntmps119
  go_wp2
  cases hn : (name.toList == [])
  · cases hm : isName name
    · have Hm := Lib.hid hm
      go_quiet ((go_at_call 64; exact (HN _).out))
      go_wp2
      all_goals first | (exfalso; omega) | (go_ret; exact Drew.bool (by rw [HR.out]; exact (stOk_c4 (by rw [cN4_named (by omega)]; exact Hm.out)).symm) _)
    · have Hm := Lib.hid hm
      have H4 : Hid (cN4 3 name = true) := by show _ = true; rw [cN4_named (by omega)]; exact Hm.out
      cases oE with
      | none =>
        have hve : ve = .pointer none := he
        subst hve
        go_quiet ((go_at_call 64; exact (HN _).out))
        go_wp2
        all_goals first | (exfalso; omega) | (go_ret; exact Drew.bool (by rw [HR.out]; exact (stOk_c3 HoE.out.symm).symm) _)
      | some x =>
        obtain ⟨bx, va, ws, rfl, hcx, _⟩ := he.op
        have d0 := hcx 0 _ rfl
        simp only [Nat.zero_add] at d0
        clear hcx he
        cases oF with
        | none =>
          have hvf : vf = .pointer none := hf
          subst hvf
          go_quiet ((go_at_call 64; exact (HN _).out))
          go_wp2
          all_goals first | (exfalso; omega) | (go_ret; exact Drew.bool (by rw [HR.out]; exact (stOk_c5 (by rw [cF5_3, ← HoF.out]; rfl)).symm) _)
        | some y =>
          obtain ⟨by_, vb, wb, rfl, _⟩ := hf.op
          clear hf
          have H5 : Hid (cF5 3 sf = true) := by show _ = true; rw [cF5_3, ← HoF.out]; rfl
          go_quiet ((go_at_call 64; exact (HN _).out))
          by_cases hel : els = 0
          · subst hel
            by_cases htn : thn = 0
            · subst htn
              go_wp2
              all_goals first | (exfalso; omega) | (go_ret; exact Drew.bool (by rw [HR.out]; exact (stOk_true (x := x) HoE.out.symm H4.out H5.out (by omega) (by omega) (by omega) (by omega) (fun h => absurd h (by simp))).symm) _)
            · have e1 : (thn != 0) = true := by simp [htn]
              have e2 : (thn == 0) = false := by simp [htn]
              go_wp2
              all_goals first | (exfalso; omega) | (go_ret; exact Drew.bool (by rw [HR.out]; exact (stOk_c8 htn (by omega) (by omega)).symm) _)
          · have e1 : (els != 0) = true := by simp [hel]
            have e2 : (els == 0) = false := by simp [hel]
            go_wp2
            all_goals first | (exfalso; omega) | (go_ret; exact Drew.bool (by rw [HR.out]; exact (stOk_c9 hel (by omega)).symm) _)
  · have Hn := Lib.hid hn
    go_quiet ((go_at_call 64; exact (HN _).out))
    go_wp2
    all_goals first | (exfalso; omega) | (go_ret; exact Drew.bool (by rw [HR.out]; exact (stOk_c4 (by rw [cN4_named (by omega)]; exact isName_empty Hn.out)).symm) _)
end Go.Proofs.YtolbngbedncemaaGreatDoor
