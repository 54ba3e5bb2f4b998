/- Where the reference says that the last expression of a list begins; whether a list is an expression. Conditions: nodes whose operands are few, bounds of lengths. -/
import Derived.Test.YtolbngbedncemaaGreatDoorSpecTree
set_option linter.unusedVariables false
set_option linter.unusedSimpArgs false
namespace Go.Proofs.YtolbngbedncemaaGreatDoor
open Go Go.RowKit Md

theorem Ext.set {w w' : World} (h : Ext w w') {b : Nat} (hb : w.heap.size ≤ b) (o : Nat) (v : Value) : Ext w (w'.setCell ⟨b, o, none⟩ v) := Below.setCell h (p := ⟨b, o, none⟩) hb v

/-! ### Where the last expression of a list begins -/
def ArOk (l : List PNode) : Prop := ∀ n ∈ l, 0 ≤ ar n ∧ ar n ≤ 6
theorem ArOk.of_isSome {n : PNode} (h : (arity n).isSome = true) : 0 ≤ ar n ∧ ar n ≤ 6 := by
  obtain ⟨k, hk⟩ := Option.isSome_iff_exists.1 h
  rw [ar_of_arity hk]
  unfold arity at hk
  repeat' split at hk
  all_goals first | (cases hk; done) | (simp only [Option.some.injEq] at hk; omega)
theorem fromL_stop (e : List PNode) (i : Nat) (need : Int) (h : need ≤ 0) : fromL e i need = i := by unfold fromL; rw [if_pos h]
theorem fromL_end (e : List PNode) (need : Int) (h : ¬ need ≤ 0) : fromL e 0 need = -1 := by unfold fromL; rw [if_neg h]
theorem fromL_step (e : List PNode) (i : Nat) (need : Int) {x : PNode} (h : ¬ need ≤ 0) (hx : e[i]? = some x) : fromL e (i + 1) need = fromL e i (need - 1 + ar x) := by
  conv => lhs; unfold fromL
  rw [if_neg h]
  simp only [hx]

theorem s_l2From (K : Foot) (l : List PNode) (v : Value) (w : World) (hv : SlNode K w v l) (ha : ArOk l) (hl : l.length ≤ 1000000) :
    Calls Tryz.prog 151 #[v] w (Gives (.int .i64 (fromL l l.length 1)) w) := by
  obtain ⟨a, len, cap, rfl, Hlen, hlc, hcm, hel⟩ := hv.op
  have hlm : len ≤ 1000000 := by have := Hlen.out; omega
  rw [Hlen.out]
  obtain ⟨r, hr⟩ : ∃ r, r = fromL l len 1 := ⟨_, rfl⟩
  rw [← hr]
  have Hr := Lib.hid hr
  have Ha := Lib.hid ha
  clear hv hr ha
  go_enter Tryz.func151, Tryz.ntmps151
  go_wp2
  go_loopw [3, 4] (fun nd i wr => ∃ (k : Nat) (need : Int), k ≤ len ∧ i = .int .i64 k ∧ nd = .int .i64 need ∧ 0 ≤ need ∧ need ≤ 1 + 6 * ((len : Int) - k) ∧ Hid (r = fromL l k need) ∧ Ext w wr) (fun _ i _ => (intOf i).toNat)
  case atStart => exact ⟨len, 1, Nat.le_refl _, rfl, rfl, by omega, by omega, Hr, Ext.refl _⟩
  case round =>
    obtain ⟨k, need, hk, rfl, rfl, hn0, hn1, hF, hE⟩ := hrel
    by_cases hz : need ≤ 0
    · go_wp2
      go_ret
      exact Gives.int (by rw [hF.out, fromL_stop _ _ _ (by omega)]) hE
    · by_cases hk0 : k = 0
      · subst hk0
        go_wp2
        go_ret
        exact Gives.int (by rw [hF.out, fromL_end _ _ (by omega)]) hE
      · obtain ⟨k, rfl⟩ : ∃ k', k = k' + 1 := ⟨k - 1, by omega⟩
        obtain ⟨b, o, rfl, _, hel⟩ := hel (by omega)
        obtain ⟨x, cs, hx, _, hC, hcs⟩ := hel k (by omega)
        obtain ⟨rfl, _, _, hn⟩ := hC
        have c0 := hE.cell (hcs.z rfl)
        have c1 := hE.cell (hcs 1 _ rfl)
        have c2 := hE.cell (hcs 2 _ rfl)
        have hax := Ha.out x (List.mem_of_getElem? hx)
        have hF2 : Hid (r = fromL l k (need - 1 + ar x)) := by rw [hF.out, fromL_step _ _ _ hz hx]; exact rfl
        obtain ⟨ax, hax'⟩ : ∃ ax, ax = ar x := ⟨_, rfl⟩
        rw [← hax'] at hax hF2
        have Hx := Lib.hid hax'
        clear hel hcs hx hax'
        have g0 : (0 : Int) ≤ (k : Int) := by omega
        have g1 : (k : Int) < (len : Int) := by omega
        go_wp2_with fail
        refine (s_l2Arity x _).mono ?_
        rintro e w1 ⟨rfl, hX⟩
        have hE1 := hE.trans hX
        rw [← Hx.out]
        go_wp2
        go_roundw
        case rel => exact ⟨k, need - 1 + ax, by omega, by go_num, by go_num, by omega, by omega, hF2, hE1⟩
        case measure => simp [intOf]

set_option maxRecDepth 1000000 in
theorem s_l2Root (K : Foot) (l : List PNode) (v : Value) (x : PNode) (w : World) (hv : SlNode K w v l) (hx : l.getLast? = some x) :
    Calls Tryz.prog 107 #[v] w (Gives (.agg #[.int .i64 x.kind, .int .i64 x.val, .string x.name]) w) := by
  obtain ⟨a, len, cap, rfl, Hlen, hlc, hcm, hel⟩ := hv.op
  have hp : 0 < len := by
    have := Hlen.out
    cases l with
    | nil => simp at hx
    | cons y l => simp at this; omega
  obtain ⟨len, rfl⟩ : ∃ n, len = n + 1 := ⟨len - 1, by omega⟩
  obtain ⟨b, o, rfl, _, hel⟩ := hel (by omega)
  obtain ⟨y, cs, hy, _, hC, hcs⟩ := hel len (by omega)
  obtain rfl : x = y := by
    rw [List.getLast?_eq_getElem?, Hlen.out, Nat.add_sub_cancel, hy] at hx
    exact (Option.some.inj hx).symm
  obtain ⟨rfl, _, _, hn⟩ := hC
  have hE : Ext w (w.alloc (.cells #[.int .i64 0, .int .i64 0, .string ⟨#[]⟩] 56)) := (Ext.refl w).alloc _
  have c0 := hE.cell (hcs.z rfl)
  have c1 := hE.cell (hcs 1 _ rfl)
  have c2 := hE.cell (hcs 2 _ rfl)
  clear hel hcs hx hy hv
  go_enter Tryz.func107, Tryz.ntmps107
  go_wp2
  all_goals
    refine bodyPost_ret (v := .agg #[.int .i64 x.kind, .int .i64 x.val, .string x.name]) (by simp [results, Tryz.results107, go_sem]) rfl ?_
    refine ⟨rfl, ?_⟩
    clear hE c0 c1 c2
    (repeat' (first | assumption | exact Ext.refl _ | refine Ext.drew ?_ | refine Ext.alloc ?_ _ | refine Ext.set ?_ (by first | omega | (simp; done) | (simp; omega)) _ _))

theorem s_l2GoodExpr (K : Foot) (l : List PNode) (v : Value) (w : World) (hv : SlNode K w v l) :
    Calls Tryz.prog 148 #[v] w (Gives (.bool (decide (l.length ≤ 2000) && goodExpr l)) w) := by
  obtain ⟨a, len, cap, rfl, Hlen, hlc, hcm, hel⟩ := hv.op
  rw [Hlen.out]
  have Hv := Lib.hid hv
  clear hv
  go_enter Tryz.func148, Tryz.ntmps148
  by_cases hb : 2000 < len
  · go_wp2
    go_ret
    exact Gives.bool (by rw [decide_eq_false (by omega)]; rfl) (Ext.refl _)
  · rw [decide_eq_true (show len ≤ 2000 by omega), Bool.true_and]
    go_wp2
    go_loopw [3] (fun i wr => ∃ k : Nat, k ≤ len ∧ i = .int .i64 k ∧ Hid (∀ n ∈ l.take k, (arity n).isSome = true) ∧ Ext w wr) (fun i _ => len - (intOf i).toNat)
    case atStart => exact ⟨0, Nat.zero_le _, rfl, by intro n hn; simp at hn, Ext.refl _⟩
    case round =>
      obtain ⟨k, hk, rfl, hA, hE⟩ := hrel
      by_cases hlt : k < len
      · obtain ⟨b, o, rfl, _, hel⟩ := hel (by omega)
        obtain ⟨x, cs, hx, _, hC, hcs⟩ := hel k (by omega)
        obtain ⟨rfl, _, _, hn⟩ := hC
        have c0 := hE.cell (hcs.z rfl)
        have c1 := hE.cell (hcs 1 _ rfl)
        have c2 := hE.cell (hcs 2 _ rfl)
        have Hx := Lib.hid hx
        clear hel hcs hx
        have g0 : (0 : Int) ≤ (k : Int) := by omega
        have g1 : (k : Int) < (len : Int) := by omega
        go_wp2_with fail
        refine (s_l2GoodNode x _ hn).mono ?_
        rintro e w1 ⟨rfl, hX⟩
        have hE1 := hE.trans hX
        cases ha : (arity x).isSome
        · go_wp2
          go_ret
          exact Gives.bool (by
            have : (l.all fun n => (arity n).isSome) = false := List.all_eq_false.2 ⟨x, List.mem_of_getElem? Hx.out, by rw [ha]; simp⟩
            rw [goodExpr, this]; rfl) hE1
        · go_wp2
          go_roundw
          case rel => exact ⟨k + 1, by omega, by go_num, (by
            intro n hn
            rw [take_snoc Hx.out] at hn
            rcases List.mem_append.1 hn with hn | hn
            · exact hA.out n hn
            · rw [List.mem_singleton.1 hn]; exact ha), hE1⟩
          case measure => simp [intOf]; omega
      · have hall : ∀ n ∈ l, (arity n).isSome = true := by
          have := hA.out
          rwa [take_all (show Hid (l.length = k) from (by rw [Hlen.out]; exact (show len = k by omega)))] at this
        have hall2 : (l.all fun n => (arity n).isSome) = true := List.all_eq_true.2 hall
        have HA := Lib.hid hall
        have HA2 := Lib.hid hall2
        clear hall hall2
        by_cases hp : 0 < len
        · go_wp2_with fail
          refine (s_l2From K l _ _ (Hv.out.ext hE (fun _ _ h => h.any)) (fun n hn => ArOk.of_isSome (HA.out n hn)) (by have := Hlen.out; omega)).mono ?_
          rintro e w1 ⟨rfl, hX⟩
          go_wp2
          go_ret
          exact Gives.bool (by rw [goodExpr, HA2.out, Hlen.out, decide_eq_true hp]; rfl) (hE.trans hX)
        · go_wp2
          go_ret
          exact Gives.bool (by rw [goodExpr, HA2.out, Hlen.out, decide_eq_false hp]; rfl) hE
end Go.Proofs.YtolbngbedncemaaGreatDoor
