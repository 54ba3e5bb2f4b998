/- The reference's small functions of chapter 3 answer as the model: l3Func, l3Global, l3In, l3Use. -/
import Derived.Test.YtcfggjmdcaoecaaGreatDoorSpecTree
import Derived.Test.YtcfggjmdcaoecaaGreatDoorMdCheck
set_option linter.unusedVariables false
set_option linter.unusedSimpArgs false
namespace Go.Proofs.YtcfggjmdcaoecaaGreatDoor
open Go Go.RowKit Md

theorem str_eq {a b : ByteArray} : (a.toList == b.toList) = decide (a = b) := by
  by_cases h : a = b
  · subst h; simp
  · rw [decide_eq_false h]
    exact beq_eq_false_iff_ne.2 (fun e => h (toList_inj e))

theorem s_l3In (K : Foot) (l : List ByteArray) (v : Value) (s : ByteArray) (w : World) (hv : SlStr K w v l) :
    Calls Tryz.prog 82 #[v, .string s] w (Same (.bool (decide (s ∈ l))) w) := by
  obtain ⟨a, len, cap, rfl, Hlen, hlc, hcm, hel⟩ := hv.op
  clear hv
  go_enter Tryz.func82, Tryz.ntmps82
  go_wp2
  go_loop [5] (fun i => ∃ k : Nat, k ≤ len ∧ i = .int .i64 k ∧ Hid (¬ s ∈ l.take k)) (fun i => len - (intOf i).toNat)
  case atStart => exact ⟨0, Nat.zero_le _, rfl, by intro h; simp at h⟩
  case round =>
    obtain ⟨k, hk, rfl, hA⟩ := hrel
    by_cases hlt : k < len
    · obtain ⟨b, o, rfl, _, hel⟩ := hel (by omega)
      obtain ⟨x, cs, hx, _, hC, hcs⟩ := hel k (by omega)
      obtain ⟨rfl, _⟩ := hC
      have c0 := hcs.z rfl
      rw [Nat.mul_one] at c0
      have Hx := Lib.hid hx
      clear hel hcs hx
      have g0 : (0 : Int) ≤ (k : Int) := by omega
      have g1 : (k : Int) < (len : Int) := by omega
      by_cases he : x = s
      · subst he
        go_wp2
        go_ret
        exact Same.bool (by rw [decide_eq_true (List.mem_of_getElem? Hx.out)])
      · have hq : (x.toList == s.toList) = false := by rw [str_eq, decide_eq_false he]
        go_wp2
        go_round
        case rel =>
          refine ⟨k + 1, by omega, by go_num, ?_⟩
          rw [take_snoc Hx.out]
          intro h
          rcases List.mem_append.1 h with h | h
          · exact hA.out h
          · exact he (List.mem_singleton.1 h).symm
        case measure => simp [intOf]; omega
    · go_wp2
      go_ret
      exact Same.bool (by
        have := hA.out
        rw [List.take_of_length_le (by rw [Hlen.out]; omega)] at this
        rw [decide_eq_false this])
theorem findFrom_drop {l : List PFunc} {s : ByteArray} {k : Nat} {x : PFunc} (h : l[k]? = some x) : findFrom (l.drop k) s k = if x.name = s then (k : Int) else findFrom (l.drop (k + 1)) s (k + 1) := by
  obtain ⟨hk, e⟩ := List.getElem?_eq_some_iff.1 h
  rw [List.drop_eq_getElem_cons hk, e, findFrom]
theorem gsizeL_drop {l : List PGlob} {s : ByteArray} {k : Nat} {x : PGlob} (h : l[k]? = some x) : gsizeL (l.drop k) s = if x.name = s then x.size else gsizeL (l.drop (k + 1)) s := by
  obtain ⟨hk, e⟩ := List.getElem?_eq_some_iff.1 h
  rw [List.drop_eq_getElem_cons hk, e, gsizeL]
theorem s_l3Func (K : Foot) (t : PTree) (vG vF : Value) (s : ByteArray) (w : World) (hG : SlGlob K w vG t.globals) (hF : SlFunc K w vF t.funcs) :
    Calls Tryz.prog 46 #[.agg #[vG, vF], .string s] w (Gives (.int .i64 (findF t s)) w) := by
  obtain ⟨aG, nG, cG, rfl⟩ := hG.shape
  obtain ⟨a, len, cap, rfl, Hlen, hlc, hcm, hel⟩ := hF.op
  obtain ⟨R, hR⟩ : ∃ R, R = findF t s := ⟨_, rfl⟩
  have HR := Lib.hid hR
  rw [← hR]
  have hE : Ext w (w.alloc (.cells #[.slice aG nG cG, .slice a len cap] 32)) := (Ext.refl w).alloc _
  clear hG hF hR
  go_enter Tryz.func46, Tryz.ntmps46
  go_wp2
  go_loop [5] (fun i => ∃ k : Nat, k ≤ len ∧ i = .int .i64 k ∧ Hid (R = findFrom (t.funcs.drop k) s k)) (fun i => len - (intOf i).toNat)
  case atStart => exact ⟨0, Nat.zero_le _, rfl, HR.out⟩
  case round =>
    obtain ⟨k, hk, rfl, hA⟩ := hrel
    by_cases hlt : k < len
    · obtain ⟨b, o, rfl, _, hel⟩ := hel (by omega)
      obtain ⟨x, cs, hx, _, hC, hcs⟩ := hel k (by omega)
      obtain ⟨vP, vB, rfl, _, _, _⟩ := hC
      have c0 := hE.cell (hcs.z rfl)
      have Hx := Lib.hid (findFrom_drop (s := s) hx)
      clear hel hcs hx
      have g0 : (0 : Int) ≤ (k : Int) := by omega
      have g1 : (k : Int) < (len : Int) := by omega
      by_cases he : x.name = s
      · have HE := Lib.hid he
        have hq : (x.name.toList == s.toList) = true := by rw [str_eq, decide_eq_true he]
        clear he
        go_wp2
        go_ret
        exact Gives.int (by rw [hA.out, Hx.out, if_pos HE.out]) ((Ext.refl w).alloc _)
      · have hq : (x.name.toList == s.toList) = false := by rw [str_eq, decide_eq_false he]
        go_wp2
        go_round
        case rel => exact ⟨k + 1, by omega, by go_num, by rw [hA.out, Hx.out, if_neg he]; exact rfl⟩
        case measure => simp [intOf]; omega
    · go_wp2
      go_ret
      exact Gives.int (by rw [hA.out, List.drop_eq_nil_of_le (by rw [Hlen.out]; omega)]; rfl) ((Ext.refl w).alloc _)
theorem s_l3Global (K : Foot) (t : PTree) (vG vF : Value) (s : ByteArray) (w : World) (hG : SlGlob K w vG t.globals) (hF : SlFunc K w vF t.funcs) :
    Calls Tryz.prog 83 #[.agg #[vG, vF], .string s] w (Gives (.int .i64 (gsize t s)) w) := by
  obtain ⟨aG, nG, cG, rfl⟩ := hF.shape
  obtain ⟨a, len, cap, rfl, Hlen, hlc, hcm, hel⟩ := hG.op
  obtain ⟨R, hR⟩ : ∃ R, R = gsize t s := ⟨_, rfl⟩
  have HR := Lib.hid hR
  rw [← hR]
  have hE : Ext w (w.alloc (.cells #[.slice a len cap, .slice aG nG cG] 32)) := (Ext.refl w).alloc _
  clear hG hF hR
  go_enter Tryz.func83, Tryz.ntmps83
  go_wp2
  go_loop [5] (fun i => ∃ k : Nat, k ≤ len ∧ i = .int .i64 k ∧ Hid (R = gsizeL (t.globals.drop k) s)) (fun i => len - (intOf i).toNat)
  case atStart => exact ⟨0, Nat.zero_le _, rfl, HR.out⟩
  case round =>
    obtain ⟨k, hk, rfl, hA⟩ := hrel
    by_cases hlt : k < len
    · obtain ⟨b, o, rfl, _, hel⟩ := hel (by omega)
      obtain ⟨x, cs, hx, _, hC, hcs⟩ := hel k (by omega)
      obtain ⟨rfl, _⟩ := hC
      have c0 := hE.cell (hcs.z rfl)
      have c1 := hE.cell (hcs 1 _ rfl)
      have Hx := Lib.hid (gsizeL_drop (s := s) hx)
      clear hel hcs hx
      have g0 : (0 : Int) ≤ (k : Int) := by omega
      have g1 : (k : Int) < (len : Int) := by omega
      by_cases he : x.name = s
      · have HE := Lib.hid he
        have hq : (x.name.toList == s.toList) = true := by rw [str_eq, decide_eq_true he]
        clear he
        go_wp2
        go_ret
        exact Gives.int (by rw [hA.out, Hx.out, if_pos HE.out]) ((Ext.refl w).alloc _)
      · have hq : (x.name.toList == s.toList) = false := by rw [str_eq, decide_eq_false he]
        go_wp2
        go_round
        case rel => exact ⟨k + 1, by omega, by go_num, by rw [hA.out, Hx.out, if_neg he]; exact rfl⟩
        case measure => simp [intOf]; omega
    · go_wp2
      go_ret
      exact Gives.int (by rw [hA.out, List.drop_eq_nil_of_le (by rw [Hlen.out]; omega)]; rfl) ((Ext.refl w).alloc _)
theorem gsizeL_ge {l : List PGlob} (h : ∀ g ∈ l, 0 ≤ g.size) (s : ByteArray) : -1 ≤ gsizeL l s := by
  induction l with
  | nil => simp [gsizeL]
  | cons g r ih =>
    unfold gsizeL
    split
    · have := h g (List.mem_cons_self ..); omega
    · exact ih (fun g hg => h g (List.mem_cons_of_mem _ hg))
theorem s_l3Use (K Ks : Foot) (t : PTree) (vG vF vS : Value) (sc : List ByteArray) (s : ByteArray) (arr : Bool) (w : World) (hG : SlGlob K w vG t.globals) (hF : SlFunc K w vF t.funcs) (hS : SlStr Ks w vS sc) :
    Calls Tryz.prog 126 #[.agg #[vG, vF], vS, .string s, .bool arr] w (Gives (.int .i64 (useE t sc s arr)) w) := by
  obtain ⟨aG, nG, cG, rfl⟩ := hG.shape
  obtain ⟨aF, nF, cF, rfl⟩ := hF.shape
  obtain ⟨aS, nS, cS, rfl⟩ := hS.shape
  have hE : Ext w (w.alloc (.cells #[.slice aG nG cG, .slice aF nF cF] 32)) := (Ext.refl w).alloc _
  have HS := Lib.hid (s_l3In Ks sc _ s _ (Sl.ext hS hE (fun _ _ h => h.any)))
  have HG := Lib.hid (s_l3Global K t _ _ s _ (Sl.ext hG hE (fun _ _ h => h.any)) (Sl.ext hF hE (fun _ _ h => h.ext hE)))
  clear hG hF hS
  obtain ⟨R, hR⟩ : ∃ R, R = useE t sc s arr := ⟨_, rfl⟩
  rw [← hR]
  unfold useE at hR
  by_cases hin : s ∈ sc
  · rw [if_pos hin] at hR
    have hq : decide (s ∈ sc) = true := decide_eq_true hin
    have HR := Lib.hid hR
    rw [hq] at HS
    clear hin hq hR HG
    go_enter Tryz.func126, Tryz.ntmps126
    go_wp2_with fail
    refine HS.out.mono ?_
    rintro e w' ⟨rfl, rfl⟩
    cases arr
    · go_wp2
      go_ret
      exact Gives.int (by rw [HR.out]; rfl) hE
    · go_wp2
      go_ret
      exact Gives.int (by rw [HR.out]; rfl) hE
  · rw [if_neg hin] at hR
    have hq : decide (s ∈ sc) = false := decide_eq_false hin
    obtain ⟨z, hz⟩ : ∃ z, z = gsize t s := ⟨_, rfl⟩
    rw [← hz] at hR HG
    have HR := Lib.hid hR
    rw [hq] at HS
    clear hin hq hR hz
    go_enter Tryz.func126, Tryz.ntmps126
    go_wp2_with fail
    refine HS.out.mono ?_
    rintro e w' ⟨rfl, rfl⟩
    go_wp2_with fail
    refine HG.out.mono ?_
    rintro e w' ⟨rfl, hX⟩
    by_cases h0 : z < 0
    · go_wp2
      go_ret
      exact Gives.int (by rw [HR.out, if_pos (by omega)]) (hE.trans hX)
    · by_cases h1 : 0 < z
      · have hd : decide (0 < z) = true := decide_eq_true h1
        cases arr
        · go_wp2
          go_ret
          exact Gives.int (by rw [HR.out, if_neg (by omega), decide_eq_true (show 0 < z by omega)]; rfl) (hE.trans hX)
        · go_wp2
          go_ret
          exact Gives.int (by rw [HR.out, if_neg (by omega), decide_eq_true (show 0 < z by omega)]; rfl) (hE.trans hX)
      · have hd : decide (0 < z) = false := decide_eq_false h1
        cases arr
        · go_wp2
          go_ret
          exact Gives.int (by rw [HR.out, if_neg (by omega), decide_eq_false (show ¬ 0 < z by omega)]; rfl) (hE.trans hX)
        · go_wp2
          go_ret
          exact Gives.int (by rw [HR.out, if_neg (by omega), decide_eq_false (show ¬ 0 < z by omega)]; rfl) (hE.trans hX)
end Go.Proofs.YtcfggjmdcaoecaaGreatDoor
