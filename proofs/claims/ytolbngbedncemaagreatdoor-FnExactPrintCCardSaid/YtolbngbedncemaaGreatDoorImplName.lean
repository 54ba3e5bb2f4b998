/- The program's words on names: letter, digit, isName answer as the model (impl.reserved as the program's text lays it). -/
import Derived.Test.YtolbngbedncemaaGreatDoorName
set_option linter.unusedVariables false
set_option linter.unusedSimpArgs false
namespace Go.Proofs.YtolbngbedncemaaGreatDoor
open Go Go.RowKit Md

theorem i_letter (c : Nat) (w : World) : Calls Tryz.prog 114 #[.int .u8 c] w (Same (.bool (isLetter c)) w) := by
  go_enter Tryz.func114, Tryz.ntmps114
  by_cases h1 : 97 ≤ c <;> by_cases h2 : c ≤ 122 <;> by_cases h3 : c = 95 <;> first | omega | skip
  all_goals go_wp2
  all_goals go_ret
  all_goals exact Same.bool (by unfold isLetter; first | (simp; omega) | (simp [*]; done) | (rw [Bool.eq_iff_iff]; simp; omega))
theorem i_digit (c : Nat) (w : World) : Calls Tryz.prog 116 #[.int .u8 c] w (Same (.bool (isDigit c)) w) := by
  go_enter Tryz.func116, Tryz.ntmps116
  by_cases h1 : 48 ≤ c <;> by_cases h2 : c ≤ 57 <;> first | omega | skip
  all_goals go_wp2
  all_goals go_ret
  all_goals exact Same.bool (by unfold isDigit; simp [*] <;> omega)

def idxS (s : ByteArray) : List ByteArray → Nat → Int
  | [], _ => -1
  | x :: r, i => if s.toList == x.toList then (i : Int) else idxS s r (i + 1)
def hasS (s : ByteArray) (l : List ByteArray) : Bool := l.any fun x => s.toList == x.toList
theorem idxS_has (s : ByteArray) (l : List ByteArray) : ∀ i : Nat, decide (0 ≤ idxS s l i) = hasS s l := by
  induction l with
  | nil => intro i; rfl
  | cons x r ih =>
    intro i
    unfold idxS hasS
    rw [List.any_cons]
    cases h : s.toList == x.toList
    · rw [if_neg (by simp), ih]; rfl
    · rw [if_pos rfl, decide_eq_true (by omega)]; rfl
theorem idxS_lt (s : ByteArray) (l : List ByteArray) : ∀ i : Nat, idxS s l i < (i + l.length : Nat) ∧ -1 ≤ idxS s l i := by
  induction l with
  | nil => intro i; unfold idxS; simp; omega
  | cons x r ih =>
    intro i
    unfold idxS
    have := ih (i + 1)
    split <;> simp only [List.length_cons] <;> omega
theorem drop_get {α : Type} {l : List α} {k : Nat} {x : α} (h : l[k]? = some x) : l.drop k = x :: l.drop (k + 1) := by
  obtain ⟨hk, e⟩ := List.getElem?_eq_some_iff.1 h
  rw [List.drop_eq_getElem_cons hk, e]

set_option maxRecDepth 1000000 in
theorem g_Index (K : Foot) (l : List ByteArray) (v : Value) (s : ByteArray) (w : World) (hv : SlStr K w v l) :
    Calls Tryz.prog 154 #[v, .string s] w (Same (.int .i64 (idxS s l 0)) w) := by
  obtain ⟨R, hR⟩ : ∃ R : Int, R = idxS s l 0 := ⟨_, rfl⟩
  rw [← hR]
  have HR := Lib.hid hR
  clear hR
  obtain ⟨a, len, cap, rfl, Hlen, hlc, hcm, hel⟩ := hv.op
  clear hv
  go_enter Tryz.func154, Tryz.ntmps154
  go_wp2
  go_loop [8] (fun i => ∃ k : Nat, k ≤ len ∧ i = .int .i64 k ∧ Hid (R = idxS s (l.drop k) k)) (fun i => len - (intOf i).toNat)
  case atStart => exact ⟨0, Nat.zero_le _, rfl, HR.out⟩
  case round =>
    obtain ⟨k, hk, rfl, hA⟩ := hrel
    by_cases hlt : k < len
    · obtain ⟨b, o, rfl, _, hel⟩ := hel (by omega)
      obtain ⟨x, cs, hx, _, hC, hcs⟩ := hel k hlt
      obtain ⟨rfl, hx2⟩ := hC
      have c0 := hcs.z rfl
      rw [Nat.mul_one] at c0
      have HA2 : Hid (R = if s.toList == x.toList then (k : Int) else idxS s (l.drop (k + 1)) (k + 1)) := by
        show R = _
        rw [hA.out, drop_get hx]; rfl
      clear hel hcs hx hA
      have g0 : (0 : Int) ≤ (k : Int) := by omega
      have g1 : (k : Int) < (len : Int) := by omega
      cases hsx : s.toList == x.toList
      · go_wp2
        go_round
        case rel => exact ⟨k + 1, by omega, by go_num, by have := HA2.out; rw [if_neg (by simp only [hsx]; simp)] at this; exact this⟩
        case measure => simp [intOf]; omega
      · go_wp2
        go_ret
        exact Same.int (by have := HA2.out; rw [if_pos hsx] at this; exact this.symm)
    · go_wp2
      go_ret
      exact Same.int (by
        rw [hA.out, List.drop_eq_nil_of_le (by rw [Hlen.out]; omega)]; rfl)
theorem g_Contains (K : Foot) (l : List ByteArray) (v : Value) (s : ByteArray) (w : World) (hv : SlStr K w v l) :
    Calls Tryz.prog 115 #[v, .string s] w (Same (.bool (hasS s l)) w) := by
  rw [← idxS_has s l 0]
  obtain ⟨a, len, cap, e, _⟩ := hv.op
  subst e
  obtain ⟨R, hR⟩ : ∃ R : Int, R = idxS s l 0 := ⟨_, rfl⟩
  have H := g_Index K l _ s w hv
  rw [← hR] at H ⊢
  clear hR
  go_enter Tryz.func115, Tryz.ntmps115
  go_wp2_with fail
  refine H.mono ?_; rintro _ _ ⟨rfl, rfl⟩
  go_wp2
  go_ret
  exact Same.bool rfl

/-- impl.reserved as the program's text lays it. -/
def Res (w : World) : Prop := ∃ v l, w.cell? ⟨0, 0, none⟩ = some v ∧ SlStr AnyB w v l ∧ l.map ByteArray.toList = resL
theorem Res.ext {w w' : World} (h : Res w) (k : Ext w w') : Res w' := by
  obtain ⟨v, l, hc, hv, hl⟩ := h
  exact ⟨v, l, k.cell hc, hv.ext k (fun _ _ h => h.any), hl⟩
theorem hasS_res {l : List ByteArray} (h : l.map ByteArray.toList = resL) (s : ByteArray) : hasS s l = isReserved s := by
  unfold isReserved hasS
  rw [← h]
  rw [Bool.eq_iff_iff]
  simp [List.any_eq_true]
  constructor
  · rintro ⟨x, h1, h2⟩; exact ⟨x, h1, h2.symm⟩
  · rintro ⟨x, h1, h2⟩; exact ⟨x, h1, h2.symm⟩

theorem i_isName (s : ByteArray) (w : World) (hs : s.size ≤ maxLen) (hres : Res w) : Calls Tryz.prog 64 #[.string s] w (Same (.bool (isName s)) w) := by
  unfold maxLen at hs
  obtain ⟨v, l, cg, hv, hl⟩ := hres
  have HC := Lib.hid (g_Contains AnyB l v s w hv)
  have HH := Lib.hid (hasS_res hl s)
  clear hv hl
  go_enter Tryz.func64, Tryz.ntmps64
  by_cases h1 : s.size < 1
  · go_wp2
    go_ret
    exact Same.bool (by rw [isName_eq, decide_eq_false (by omega)]; rfl)
  · by_cases h2 : 20 < s.size
    · go_wp2
      go_ret
      exact Same.bool (by rw [isName_eq, decide_eq_true (show 1 ≤ s.size by omega), decide_eq_false (show ¬ s.size ≤ 20 by omega)]; rfl)
    · go_wp2_with fail
      rw [bAt_get s 0 (by omega)]
      refine (i_letter _ _).mono ?_; rintro e w' ⟨rfl, rfl⟩
      cases hF : isLetter (bAt s 0)
      · go_wp2
        go_ret
        exact Same.bool (by rw [isName_eq, hF, Bool.and_false]; rfl)
      · go_wp2_with fail
        refine HC.out.mono ?_; rintro e w' ⟨rfl, rfl⟩
        rw [HH.out]
        cases hR : isReserved s
        · have hN : isName s = (List.range s.size).all fun i => isLetter (bAt s i) || isDigit (bAt s i) := by
            rw [isName_eq, hF, hR, decide_eq_true (show 1 ≤ s.size by omega), decide_eq_true (show s.size ≤ 20 by omega)]; rfl
          have HN := Lib.hid hN
          clear hN
          go_wp2
          go_loopw [25] (fun i wr => ∃ k : Nat, k ≤ s.size ∧ i = .int .i64 k ∧ Hid (∀ j, j < k → (isLetter (bAt s j) || isDigit (bAt s j)) = true) ∧ w = wr) (fun i _ => s.size - (intOf i).toNat)
          case atStart => exact ⟨0, Nat.zero_le _, rfl, fun j hj => absurd hj (by omega), rfl⟩
          case round =>
            obtain ⟨k, hk, rfl, hA, rfl⟩ := hrel
            by_cases hlt : k < s.size
            · have g0 : (0 : Int) ≤ (k : Int) := by omega
              have g1 : (k : Int) < (s.size : Int) := by omega
              go_wp2_with fail
              rw [bAt_get s k hlt]
              refine (i_letter _ _).mono ?_; rintro e w' ⟨rfl, rfl⟩
              cases hL : isLetter (bAt s k)
              · go_wp2_with fail
                rw [bAt_get s k hlt]
                refine (i_digit _ _).mono ?_; rintro e w' ⟨rfl, rfl⟩
                cases hD : isDigit (bAt s k)
                · go_wp2
                  go_ret
                  exact Same.bool (by
                    rw [HN.out]
                    exact (List.all_eq_false.2 ⟨k, List.mem_range.2 hlt, by rw [hL, hD]; simp⟩).symm)
                · go_wp2
                  go_roundw
                  case rel => exact ⟨k + 1, by omega, by go_num, fun j hj => by
                    by_cases hjk : j = k
                    · rw [hjk, hL, hD]; rfl
                    · exact hA.out j (by omega), trivial⟩
                  case measure => simp [intOf]; omega
              · go_wp2
                go_roundw
                case rel => exact ⟨k + 1, by omega, by go_num, fun j hj => by
                  by_cases hjk : j = k
                  · rw [hjk, hL]; rfl
                  · exact hA.out j (by omega), trivial⟩
                case measure => simp [intOf]; omega
            · go_wp2
              go_ret
              exact Same.bool (by
                rw [HN.out]
                exact (List.all_eq_true.2 fun j hj => hA.out j (by have := List.mem_range.1 hj; omega)).symm)
        · go_wp2
          go_ret
          exact Same.bool (by rw [isName_eq, hR, Bool.not_true, Bool.and_false]; rfl)
end Go.Proofs.YtolbngbedncemaaGreatDoor
