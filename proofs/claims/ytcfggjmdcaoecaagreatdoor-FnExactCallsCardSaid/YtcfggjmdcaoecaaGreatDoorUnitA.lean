/- slices.ContainsFunc over a list of strings, with the program's literal 'is no name'. -/
import Derived.Test.YtcfggjmdcaoecaaGreatDoorImplName
set_option linter.unusedVariables false
set_option linter.unusedSimpArgs false
namespace Go.Proofs.YtcfggjmdcaoecaaGreatDoor
open Go Go.RowKit Md

theorem i_unit1 (s : ByteArray) (w : World) (hs : s.size ≤ maxLen) (hres : Res w) : Calls Tryz.prog 71 #[.string s] w (Same (.bool (!isName s)) w) := by
  have HC := Lib.hid (i_isName s w hs hres)
  go_enter Tryz.func71, Tryz.ntmps71
  go_wp2_with fail
  refine HC.out.mono ?_; rintro e w' ⟨rfl, rfl⟩
  go_wp2
  go_ret
  exact Same.bool rfl
/-- The first that is no name. -/
def idxN : List ByteArray → Nat → Int
  | [], _ => -1
  | x :: r, i => if isName x then idxN r (i + 1) else (i : Int)
theorem idxN_all (l : List ByteArray) : ∀ i : Nat, decide (0 ≤ idxN l i) = !l.all isName := by
  induction l with
  | nil => intro i; rfl
  | cons x r ih =>
    intro i
    unfold idxN
    rw [List.all_cons]
    cases h : isName x
    · rw [if_neg (by simp), decide_eq_true (by omega)]; rfl
    · rw [if_pos rfl, ih]; rfl
theorem idxN_lt (l : List ByteArray) : ∀ i : Nat, idxN l i < (i + l.length : Nat) ∧ -1 ≤ idxN l i := by
  induction l with
  | nil => intro i; unfold idxN; simp; omega
  | cons x r ih =>
    intro i
    unfold idxN
    have := ih (i + 1)
    split <;> simp only [List.length_cons] <;> omega
set_option maxRecDepth 1000000 in
theorem g_IndexFunc (K : Foot) (l : List ByteArray) (v : Value) (w : World) (hv : SlStr K w v l) (hres : Res w) :
    Calls Tryz.prog 114 #[v, .func (.func 71) #[] #[]] w (Same (.int .i64 (idxN l 0)) w) := by
  obtain ⟨R, hR⟩ : ∃ R : Int, R = idxN l 0 := ⟨_, rfl⟩
  rw [← hR]
  have HR := Lib.hid hR
  have HS := Lib.hid hres
  clear hR hres
  obtain ⟨a, len, cap, rfl, Hlen, hlc, hcm, hel⟩ := hv.op
  clear hv
  go_enter Tryz.func114, Tryz.ntmps114
  go_wp2
  go_loop [8] (fun i => ∃ k : Nat, k ≤ len ∧ i = .int .i64 k ∧ Hid (R = idxN (l.drop k) k)) (fun i => len - (intOf i).toNat)
  case atStart => exact ⟨0, Nat.zero_le _, rfl, HR.out⟩
  case round =>
    obtain ⟨k, hk, rfl, hA⟩ := hrel
    by_cases hlt : k < len
    · obtain ⟨b, o, rfl, _, hel⟩ := hel (by omega)
      obtain ⟨x, cs, hx, _, hC, hcs⟩ := hel k hlt
      obtain ⟨rfl, hx2⟩ := hC
      have c0 := hcs.z rfl
      rw [Nat.mul_one] at c0
      have HA2 : Hid (R = if isName x then idxN (l.drop (k + 1)) (k + 1) else (k : Int)) := by
        show R = _
        rw [hA.out, drop_get hx]; rfl
      have HC := Lib.hid (i_unit1 x w hx2 HS.out)
      clear hel hcs hx hA
      have g0 : (0 : Int) ≤ (k : Int) := by omega
      have g1 : (k : Int) < (len : Int) := by omega
      go_wp2_with fail
      refine HC.out.mono ?_; rintro e w' ⟨rfl, rfl⟩
      cases hsx : isName x
      · go_wp2
        go_ret
        exact Same.int (by have := HA2.out; rw [if_neg (by rw [hsx]; simp)] at this; exact this.symm)
      · go_wp2
        go_round
        case rel => exact ⟨k + 1, by omega, by go_num, by have := HA2.out; rw [if_pos hsx] at this; exact this⟩
        case measure => simp [intOf]; omega
    · go_wp2
      go_ret
      exact Same.int (by
        rw [hA.out, List.drop_eq_nil_of_le (by rw [Hlen.out]; omega)]; rfl)
theorem g_ContainsFunc (K : Foot) (l : List ByteArray) (v : Value) (w : World) (hv : SlStr K w v l) (hres : Res w) :
    Calls Tryz.prog 70 #[v, .func (.func 71) #[] #[]] w (Same (.bool (!l.all isName)) w) := by
  rw [← idxN_all l 0]
  obtain ⟨a, len, cap, e, _⟩ := hv.op
  subst e
  obtain ⟨R, hR⟩ : ∃ R : Int, R = idxN l 0 := ⟨_, rfl⟩
  have H := g_IndexFunc K l _ w hv hres
  rw [← hR] at H ⊢
  clear hR hres
  go_enter Tryz.func70, Tryz.ntmps70
  go_wp2_with fail
  refine H.mono ?_; rintro _ _ ⟨rfl, rfl⟩
  go_wp2
  go_ret
  exact Same.bool rfl
end Go.Proofs.YtcfggjmdcaoecaaGreatDoor
