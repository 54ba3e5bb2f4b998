/- The program's Node.arity answers as the model. -/
import Derived.Test.YtolbngbedncemaaGreatDoorImplName
import Derived.Test.YtolbngbedncemaaGreatDoorSpecExpr
set_option linter.unusedVariables false
set_option linter.unusedSimpArgs false
namespace Go.Proofs.YtolbngbedncemaaGreatDoor
open Go Go.RowKit Md

theorem i_isWord (v : Int) (w : World) : Calls Tryz.prog 190 #[.int .i64 v] w (Same (.bool (isWord v)) w) := by
  go_enter Tryz.func190, Tryz.ntmps190
  by_cases h : -2147483648 ≤ v
  · go_wp2
    go_ret
    exact Same.bool (by unfold isWord; simp <;> omega)
  · go_wp2
    go_ret
    exact Same.bool (by unfold isWord; simp <;> omega)

def arI (x : PNode) : Int := match arity x with | some k => k | none => -1
theorem arI_named (k v : Int) (m : ByteArray) (hk : k = 2 ∨ k = 3 ∨ k = 4) (hn : isName m = true) : arI ⟨k, v, m⟩ = if k = 4 then (if 0 ≤ v ∧ v ≤ 6 then v else -1) else if v = 0 then (if k = 2 then 0 else 1) else -1 := by
  unfold arI arity
  rw [if_pos hk, if_pos hn]
  rcases hk with rfl | rfl | rfl
  · by_cases h : v = 0 <;> simp [h]
  · by_cases h : v = 0 <;> simp [h]
  · by_cases h : 0 ≤ v ∧ v ≤ 6
    · simp [h]; omega
    · simp [h]
theorem arI_bad (k v : Int) (m : ByteArray) (hk : k = 2 ∨ k = 3 ∨ k = 4) (hn : isName m = false) : arI ⟨k, v, m⟩ = -1 := by
  unfold arI arity
  rw [if_pos hk, if_neg (by simp [hn])]
theorem arI_bad2 (k v : Int) (m : ByteArray) (hk : ¬ (k = 2 ∨ k = 3 ∨ k = 4)) (hn : (m.toList == []) = false) : arI ⟨k, v, m⟩ = -1 := by
  rw [toList_nil] at hn
  unfold arI arity
  rw [if_neg hk, if_neg (by simpa using hn)]
theorem arI_plain (k v : Int) (m : ByteArray) (hk : ¬ (k = 2 ∨ k = 3 ∨ k = 4)) (hn : (m.toList == []) = true) :
    arI ⟨k, v, m⟩ = if k = 1 then (if isWord v then 0 else -1) else if k = 5 then (if v = 0 then 0 else -1) else if k = 6 then (if 0 ≤ v ∧ v ≤ 2 then 1 else -1) else if k = 7 then (if 0 ≤ v ∧ v ≤ 15 then 2 else -1) else if k = 8 ∨ k = 9 then (if v = 0 then 2 else -1) else -1 := by
  rw [toList_nil] at hn
  have hz : m.size = 0 := beq_iff_eq.1 hn
  unfold arI arity
  simp only [if_neg hk, if_pos hz]
  by_cases h1 : k = 1
  · by_cases h : isWord v = true <;> simp [h1, h]
  by_cases h5 : k = 5
  · by_cases h : v = 0 <;> simp [h1, h5, h]
  by_cases h6 : k = 6
  · by_cases h : 0 ≤ v ∧ v ≤ 2 <;> simp [h1, h5, h6, h]
  by_cases h7 : k = 7
  · by_cases h : 0 ≤ v ∧ v ≤ 15 <;> simp [h1, h5, h6, h7, h]
  by_cases h8 : k = 8 ∨ k = 9
  · by_cases h : v = 0 <;> simp only [if_neg h1, if_neg h5, if_neg h6, if_neg h7, if_pos h8, h] <;> simp
  · simp only [if_neg h1, if_neg h5, if_neg h6, if_neg h7, if_neg h8]
theorem isName_empty {m : ByteArray} (h : (m.toList == []) = true) : isName m = false := by
  rw [toList_nil] at h
  rw [isName_eq, decide_eq_false (by have := beq_iff_eq.1 h; omega)]; rfl

set_option maxHeartbeats 4000000 in
theorem i_arity (x : PNode) (w : World) (hs : x.name.size ≤ maxLen) (hres : Res w) : Calls Tryz.prog 155 #[.agg #[.int .i64 x.kind, .int .i64 x.val, .string x.name]] w (Gives (.int .i64 (arI x)) w) := by
  obtain ⟨kind, val, name⟩ := x
  simp only at *
  obtain ⟨R, hR⟩ : ∃ R, R = arI ⟨kind, val, name⟩ := ⟨_, rfl⟩
  rw [← hR]
  have HR := Lib.hid hR
  clear hR
  have hEx := fun o => (Ext.refl w).alloc o
  have HN := fun o => Lib.hid (i_isName name _ hs (hres.ext (hEx o)))
  have HX := Lib.hid hEx
  clear hres hEx
  go_enter Tryz.func155, Tryz.ntmps155
  by_cases h234 : kind = 2 ∨ kind = 3 ∨ kind = 4
  · cases hn : (name.toList == [])
    · cases hm : isName name
      · have Hm := Lib.hid hm
        rcases h234 with rfl | rfl | rfl <;> (
          go_wp2_with fail
          refine (HN _).out.mono ?_; rintro e w' ⟨rfl, rfl⟩
          go_wp2
          go_ret
          exact Gives.int (by rw [HR.out, arI_bad _ _ _ (by omega) Hm.out]) (HX.out _))
      · have Hm := Lib.hid hm
        rcases h234 with rfl | rfl | rfl
        · by_cases hv : val = 0
          · subst hv
            go_wp2_with fail
            refine (HN _).out.mono ?_; rintro e w' ⟨rfl, rfl⟩
            go_wp2
            go_ret
            exact Gives.int (by rw [HR.out, arI_named _ _ _ (by omega) Hm.out]; rfl) (HX.out _)
          · have hv2 : (val == 0) = false := by simp [hv]
            go_wp2_with fail
            refine (HN _).out.mono ?_; rintro e w' ⟨rfl, rfl⟩
            go_wp2
            go_ret
            exact Gives.int (by rw [HR.out, arI_named _ _ _ (by omega) Hm.out, if_neg (by omega), if_neg hv]) (HX.out _)
        · by_cases hv : val = 0
          · subst hv
            go_wp2_with fail
            refine (HN _).out.mono ?_; rintro e w' ⟨rfl, rfl⟩
            go_wp2
            go_ret
            exact Gives.int (by rw [HR.out, arI_named _ _ _ (by omega) Hm.out]; rfl) (HX.out _)
          · have hv2 : (val == 0) = false := by simp [hv]
            go_wp2_with fail
            refine (HN _).out.mono ?_; rintro e w' ⟨rfl, rfl⟩
            go_wp2
            go_ret
            exact Gives.int (by rw [HR.out, arI_named _ _ _ (by omega) Hm.out, if_neg (by omega), if_neg hv]) (HX.out _)
        · by_cases hv : 0 ≤ val
          · by_cases hv2 : val ≤ 6 <;> (
              go_wp2_with fail
              refine (HN _).out.mono ?_; rintro e w' ⟨rfl, rfl⟩
              go_wp2
              go_ret
              exact Gives.int (by rw [HR.out, arI_named _ _ _ (by omega) Hm.out, if_pos rfl]; first | rw [if_pos (by omega)] | rw [if_neg (by omega)]) (HX.out _))
          · go_wp2_with fail
            refine (HN _).out.mono ?_; rintro e w' ⟨rfl, rfl⟩
            go_wp2
            go_ret
            exact Gives.int (by rw [HR.out, arI_named _ _ _ (by omega) Hm.out, if_pos rfl, if_neg (by omega)]) (HX.out _)
    · have Hn := Lib.hid hn
      rcases h234 with rfl | rfl | rfl <;> (
        go_wp2
        go_ret
        exact Gives.int (by rw [HR.out, arI_bad _ _ _ (by omega) (isName_empty Hn.out)]) (HX.out _))
  · have H234 := Lib.hid h234
    have n2 : (kind == 2) = false := by simp; omega
    have n3 : (kind == 3) = false := by simp; omega
    have n4 : (kind == 4) = false := by simp; omega
    cases hn : (name.toList == [])
    · have Hn := Lib.hid hn
      go_wp2
      go_ret
      exact Gives.int (by rw [HR.out, arI_bad2 _ _ _ H234.out Hn.out]) (HX.out _)
    · have Hn := Lib.hid hn
      have HP := Lib.hid (arI_plain kind val name h234 hn)
      by_cases h1 : kind = 1
      · subst h1
        cases hv : isWord val <;> (
          have Hv := Lib.hid hv
          go_wp2_with fail
          refine (i_isWord _ _).mono ?_; rintro e w' ⟨rfl, rfl⟩
          go_wp2
          go_ret
          exact Gives.int (by rw [HR.out, HP.out, Hv.out]; rfl) (HX.out _))
      by_cases h5 : kind = 5
      · subst h5
        by_cases hv : val = 0
        · subst hv
          go_wp2
          go_ret
          exact Gives.int (by rw [HR.out, HP.out]; rfl) (HX.out _)
        · have hv2 : (val == 0) = false := by simp [hv]
          go_wp2
          go_ret
          exact Gives.int (by rw [HR.out, HP.out]; simp [hv]) (HX.out _)
      by_cases h6 : kind = 6
      · subst h6
        by_cases hv : 0 ≤ val
        · by_cases hv2 : val ≤ 2 <;> (
            go_wp2
            go_ret
            exact Gives.int (by rw [HR.out, HP.out]; simp; omega) (HX.out _))
        · go_wp2
          go_ret
          exact Gives.int (by rw [HR.out, HP.out]; simp; omega) (HX.out _)
      by_cases h7 : kind = 7
      · subst h7
        by_cases hv : 0 ≤ val
        · by_cases hv2 : val ≤ 15 <;> (
            go_wp2
            go_ret
            exact Gives.int (by rw [HR.out, HP.out]; simp; omega) (HX.out _))
        · go_wp2
          go_ret
          exact Gives.int (by rw [HR.out, HP.out]; simp; omega) (HX.out _)
      by_cases h89 : kind = 8 ∨ kind = 9
      · rcases h89 with rfl | rfl <;> (
          by_cases hv : val = 0
          · subst hv
            go_wp2
            go_ret
            exact Gives.int (by rw [HR.out, HP.out]; rfl) (HX.out _)
          · have hv2 : (val == 0) = false := by simp [hv]
            go_wp2
            go_ret
            exact Gives.int (by rw [HR.out, HP.out]; simp [hv]) (HX.out _))
      · have HF : Hid (R = -1) := by
          show R = -1
          rw [HR.out, HP.out, if_neg h1, if_neg h5, if_neg h6, if_neg h7, if_neg h89]
        have f1 : (kind == 1) = false := by simp; omega
        have f5 : (kind == 5) = false := by simp; omega
        have f6 : (kind == 6) = false := by simp; omega
        have f7 : (kind == 7) = false := by simp; omega
        have f8 : (kind == 8) = false := by simp; omega
        have f9 : (kind == 9) = false := by simp; omega
        go_wp2
        go_ret
        exact Gives.int HF.out.symm (HX.out _)
end Go.Proofs.YtolbngbedncemaaGreatDoor
