/- The laws' size counts: what is left, or -1; no condition but bounds. PRINTED by gen_sz.py of this repo. -/
import Derived.Test.YtolbngbedncemaaGreatDoorRep
set_option linter.unusedVariables false
set_option linter.unusedSimpArgs false
namespace Go.Proofs.YtolbngbedncemaaGreatDoor
open Go Go.RowKit Md

/-- What is left of 'left' behind n, or -1. -/
def lft (left : Int) (n : Nat) : Int := if left < n then -1 else left - n
theorem lft_neg {left : Int} {n : Nat} (h : left < n) : lft left n = -1 := if_pos h
theorem lft_pos {left : Int} {n : Nat} (h : ¬ left < n) : lft left n = left - n := if_neg h
theorem lft_lft {left : Int} {a b : Nat} (h : ¬ left < a) : lft (left - a) b = lft left (a + b) := by
  unfold lft
  split <;> split <;> omega
def sumSz {α : Type} (f : α → Nat) (l : List α) : Nat := (l.map f).sum
theorem sumSz_snoc {α : Type} (f : α → Nat) {l : List α} {k : Nat} {x : α} (h : l[k]? = some x) : sumSz f (l.take (k + 1)) = sumSz f (l.take k) + f x := by
  unfold sumSz; rw [take_snoc h, List.map_append, List.sum_append]; simp
theorem sumSz_le {α : Type} (f : α → Nat) (l : List α) (k : Nat) : sumSz f (l.take k) ≤ sumSz f l := by
  unfold sumSz
  conv => rhs; rw [← List.take_append_drop k l, List.map_append, List.sum_append]
  omega
/-- A slice's size. -/
def szL {α : Type} (f : α → Nat) (l : List α) : Nat := l.length + sumSz f l
def szNode (x : PNode) : Nat := x.name.size
def szGlobal (x : PGlob) : Nat := x.name.size
def szStmt (x : PStmt) : Nat := x.name.size + szL szNode x.e + szL szNode x.f
def szStr (x : ByteArray) : Nat := x.size
def szFunc (x : PFunc) : Nat := x.name.size + szL szStr x.params + szL szStmt x.body
def szTree (x : PTree) : Nat := szL szGlobal x.globals + szL szFunc x.funcs


theorem c_szNode (x : PNode) (left : Int) (w : World) (h0 : 0 ≤ left) (h1 : left ≤ 1048576) (hn : x.name.size ≤ maxLen) :
    Calls Tryz.prog 213 #[.agg #[.int .i64 x.kind, .int .i64 x.val, .string x.name], .int .i64 left] w (Gives (.int .i64 (lft left (szNode x))) w) := by
  unfold maxLen at hn
  unfold szNode
  go_enter Tryz.func213, Tryz.ntmps213
  by_cases h : left - (x.name.size : Int) < 0
  · go_wp2
    go_ret
    exact Gives.int (lft_neg (by omega)).symm ((Ext.refl _).alloc _)
  · go_wp2
    go_ret
    exact Gives.int (lft_pos (by omega)).symm ((Ext.refl _).alloc _)


theorem c_szNodeS (K : Foot) (v : Value) (l : List PNode) (left : Int) (w : World) (hv : SlNode K w v l) (h0 : 0 ≤ left) (h1 : left ≤ 1048576) :
    Calls Tryz.prog 188 #[v, .int .i64 left] w (Gives (.int .i64 (lft left (szL szNode l))) w) := by
  obtain ⟨a, len, cap, rfl, Hlen, hlc, hcm, hel⟩ := hv.op
  clear hv
  go_enter Tryz.func188, Tryz.ntmps188
  by_cases h : left - (len : Int) < 0
  · go_wp2
    go_ret
    exact Gives.int (lft_neg (by unfold szL; have := Hlen.out; omega)).symm (Ext.refl _)
  · go_wp2
    go_loopw [1, 5] (fun y i wr => ∃ k s : Nat, k ≤ len ∧ i = .int .i64 k ∧ Hid (s = sumSz szNode (l.take k)) ∧ (len : Int) + s ≤ left ∧ y = .int .i64 (left - (len : Int) - (s : Int)) ∧ Ext w wr) (fun _ i _ => len - (intOf i).toNat)
    case atStart => exact ⟨0, 0, Nat.zero_le _, rfl, rfl, by omega, by simp, Ext.refl _⟩
    case round =>
      obtain ⟨k, s, hk, rfl, Hs, hs, rfl, hEx⟩ := hrel
      by_cases hlt : k < len
      · obtain ⟨b, o, rfl, _, hel⟩ := hel (by omega)
        obtain ⟨x, cs, hx, _, hC, hcs⟩ := hel k hlt
        obtain ⟨rfl, _, _, hn⟩ := hC
        have c0 := hEx.cell (hcs.z rfl)
        have c1 := hEx.cell (hcs 1 _ rfl)
        have c2 := hEx.cell (hcs 2 _ rfl)
        have Hx := Lib.hid hx
        clear hel hcs hx
        have g0 : (0 : Int) ≤ (k : Int) := by omega
        have g1 : (k : Int) < (len : Int) := by omega
        obtain ⟨q, hq⟩ : ∃ q : Nat, q = szNode x := ⟨_, rfl⟩
        have Hq := Lib.hid hq
        clear hq
        go_wp2_with fail
        refine (c_szNode x _ _ (by omega) (by omega) hn).mono ?_
        rw [← Hq.out]
        rintro e w1 ⟨rfl, hE1⟩
        have hEx := hEx.trans hE1
        by_cases hb : left - (len : Int) - (s : Int) < q
        · rw [lft_neg hb]
          have hfin : left < szL szNode l := by
            have := sumSz_le szNode l (k + 1)
            have := sumSz_snoc szNode Hx.out
            have := Hs.out
            have := Hlen.out
            have := Hq.out
            unfold szL
            omega
          go_wp2
          go_ret
          exact Gives.int (lft_neg hfin).symm hEx
        · rw [lft_pos hb]
          have hb2 : ¬ left - (len : Int) - (s : Int) - (q : Int) < 0 := by omega
          go_wp2
          go_roundw
          case rel => exact ⟨k + 1, s + q, by omega, by go_num, Lib.hid (by rw [sumSz_snoc szNode Hx.out, Hs.out, Hq.out]), by omega, by go_num, hEx⟩
          case measure => simp [intOf]; omega
      · go_wp2
        go_ret
        have hfin : lft left (szL szNode l) = left - (len : Int) - (s : Int) := by
          have hs2 := Hs.out
          rw [show k = len by omega, take_all Hlen] at hs2
          have := Hlen.out
          rw [lft_pos]
          · unfold szL; omega
          · unfold szL; omega
        exact Gives.int hfin.symm hEx


theorem c_szGlobal (x : PGlob) (left : Int) (w : World) (h0 : 0 ≤ left) (h1 : left ≤ 1048576) (hn : x.name.size ≤ maxLen) :
    Calls Tryz.prog 59 #[.agg #[.string x.name, .int .i64 x.size], .int .i64 left] w (Gives (.int .i64 (lft left (szGlobal x))) w) := by
  unfold maxLen at hn
  unfold szGlobal
  go_enter Tryz.func59, Tryz.ntmps59
  by_cases h : left - (x.name.size : Int) < 0
  · go_wp2
    go_ret
    exact Gives.int (lft_neg (by omega)).symm ((Ext.refl _).alloc _)
  · go_wp2
    go_ret
    exact Gives.int (lft_pos (by omega)).symm ((Ext.refl _).alloc _)


theorem c_szGlobalS (K : Foot) (v : Value) (l : List PGlob) (left : Int) (w : World) (hv : SlGlob K w v l) (h0 : 0 ≤ left) (h1 : left ≤ 1048576) :
    Calls Tryz.prog 28 #[v, .int .i64 left] w (Gives (.int .i64 (lft left (szL szGlobal l))) w) := by
  obtain ⟨a, len, cap, rfl, Hlen, hlc, hcm, hel⟩ := hv.op
  clear hv
  go_enter Tryz.func28, Tryz.ntmps28
  by_cases h : left - (len : Int) < 0
  · go_wp2
    go_ret
    exact Gives.int (lft_neg (by unfold szL; have := Hlen.out; omega)).symm (Ext.refl _)
  · go_wp2
    go_loopw [1, 5] (fun y i wr => ∃ k s : Nat, k ≤ len ∧ i = .int .i64 k ∧ Hid (s = sumSz szGlobal (l.take k)) ∧ (len : Int) + s ≤ left ∧ y = .int .i64 (left - (len : Int) - (s : Int)) ∧ Ext w wr) (fun _ i _ => len - (intOf i).toNat)
    case atStart => exact ⟨0, 0, Nat.zero_le _, rfl, rfl, by omega, by simp, Ext.refl _⟩
    case round =>
      obtain ⟨k, s, hk, rfl, Hs, hs, rfl, hEx⟩ := hrel
      by_cases hlt : k < len
      · obtain ⟨b, o, rfl, _, hel⟩ := hel (by omega)
        obtain ⟨x, cs, hx, _, hC, hcs⟩ := hel k hlt
        obtain ⟨rfl, _, hn⟩ := hC
        have c0 := hEx.cell (hcs.z rfl)
        have c1 := hEx.cell (hcs 1 _ rfl)
        have Hx := Lib.hid hx
        clear hel hcs hx
        have g0 : (0 : Int) ≤ (k : Int) := by omega
        have g1 : (k : Int) < (len : Int) := by omega
        obtain ⟨q, hq⟩ : ∃ q : Nat, q = szGlobal x := ⟨_, rfl⟩
        have Hq := Lib.hid hq
        clear hq
        go_wp2_with fail
        refine (c_szGlobal x _ _ (by omega) (by omega) hn).mono ?_
        rw [← Hq.out]
        rintro e w1 ⟨rfl, hE1⟩
        have hEx := hEx.trans hE1
        by_cases hb : left - (len : Int) - (s : Int) < q
        · rw [lft_neg hb]
          have hfin : left < szL szGlobal l := by
            have := sumSz_le szGlobal l (k + 1)
            have := sumSz_snoc szGlobal Hx.out
            have := Hs.out
            have := Hlen.out
            have := Hq.out
            unfold szL
            omega
          go_wp2
          go_ret
          exact Gives.int (lft_neg hfin).symm hEx
        · rw [lft_pos hb]
          have hb2 : ¬ left - (len : Int) - (s : Int) - (q : Int) < 0 := by omega
          go_wp2
          go_roundw
          case rel => exact ⟨k + 1, s + q, by omega, by go_num, Lib.hid (by rw [sumSz_snoc szGlobal Hx.out, Hs.out, Hq.out]), by omega, by go_num, hEx⟩
          case measure => simp [intOf]; omega
      · go_wp2
        go_ret
        have hfin : lft left (szL szGlobal l) = left - (len : Int) - (s : Int) := by
          have hs2 := Hs.out
          rw [show k = len by omega, take_all Hlen] at hs2
          have := Hlen.out
          rw [lft_pos]
          · unfold szL; omega
          · unfold szL; omega
        exact Gives.int hfin.symm hEx


theorem c_szStringS (K : Foot) (v : Value) (l : List ByteArray) (left : Int) (w : World) (hv : SlStr K w v l) (h0 : 0 ≤ left) (h1 : left ≤ 1048576) :
    Calls Tryz.prog 105 #[v, .int .i64 left] w (Gives (.int .i64 (lft left (szL szStr l))) w) := by
  obtain ⟨a, len, cap, rfl, Hlen, hlc, hcm, hel⟩ := hv.op
  clear hv
  go_enter Tryz.func105, Tryz.ntmps105
  by_cases h : left - (len : Int) < 0
  · go_wp2
    go_ret
    exact Gives.int (lft_neg (by unfold szL; have := Hlen.out; omega)).symm (Ext.refl _)
  · go_wp2
    go_loopw [1, 5] (fun y i wr => ∃ k s : Nat, k ≤ len ∧ i = .int .i64 k ∧ Hid (s = sumSz szStr (l.take k)) ∧ (len : Int) + s ≤ left ∧ y = .int .i64 (left - (len : Int) - (s : Int)) ∧ Ext w wr) (fun _ i _ => len - (intOf i).toNat)
    case atStart => exact ⟨0, 0, Nat.zero_le _, rfl, rfl, by omega, by simp, Ext.refl _⟩
    case round =>
      obtain ⟨k, s, hk, rfl, Hs, hs, rfl, hEx⟩ := hrel
      by_cases hlt : k < len
      · obtain ⟨b, o, rfl, _, hel⟩ := hel (by omega)
        obtain ⟨x, cs, hx, _, hC, hcs⟩ := hel k hlt
        obtain ⟨rfl, hn⟩ := hC
        have c0 := hEx.cell (hcs.z rfl)
        rw [Nat.mul_one] at c0
        have Hx := Lib.hid hx
        clear hel hcs hx
        have g0 : (0 : Int) ≤ (k : Int) := by omega
        have g1 : (k : Int) < (len : Int) := by omega
        obtain ⟨q, hq⟩ : ∃ q : Nat, q = szStr x := ⟨_, rfl⟩
        have Hq := Lib.hid hq
        clear hq
        unfold maxLen at hn
        by_cases hb : left - (len : Int) - (s : Int) - (x.size : Int) < 0
        · have Hq2 : q = x.size := Hq.out
          have hfin : left < szL szStr l := by
            have := sumSz_le szStr l (k + 1)
            have := sumSz_snoc szStr Hx.out
            have := Hs.out
            have := Hlen.out
            have := Hq.out
            unfold szL
            omega
          go_wp2
          go_ret
          exact Gives.int (lft_neg hfin).symm hEx
        · have Hq2 := Lib.hid (show q = x.size from Hq.out)
          have hs2 : (len : Int) + (s + x.size : Nat) ≤ left := by omega
          go_wp2
          go_roundw
          case rel => exact ⟨k + 1, s + x.size, by omega, by go_num, Lib.hid (by rw [sumSz_snoc szStr Hx.out, Hs.out]; rfl), by omega, by go_num, hEx⟩
          case measure => simp [intOf]; omega
      · go_wp2
        go_ret
        have hfin : lft left (szL szStr l) = left - (len : Int) - (s : Int) := by
          have hs2 := Hs.out
          rw [show k = len by omega, take_all Hlen] at hs2
          have := Hlen.out
          rw [lft_pos]
          · unfold szL; omega
          · unfold szL; omega
        exact Gives.int hfin.symm hEx


theorem c_szStmt (K : Foot) (x : PStmt) (vE vF : Value) (left : Int) (w : World) (h0 : 0 ≤ left) (h1 : left ≤ 1048576) (hE : SlNode K w vE x.e) (hF : SlNode K w vF x.f) (hn : x.name.size ≤ maxLen) :
    Calls Tryz.prog 149 #[.agg #[.int .i64 x.kind, .string x.name, vE, vF, .int .i64 x.thn, .int .i64 x.els], .int .i64 left] w (Gives (.int .i64 (lft left (szStmt x))) w) := by
  unfold maxLen at hn
  unfold szStmt
  go_enter Tryz.func149, Tryz.ntmps149
  by_cases h : left - (x.name.size : Int) < 0
  · go_wp2
    go_ret
    exact Gives.int (lft_neg (by omega)).symm ((Ext.refl _).alloc _)
  · have h' : ¬ left < (x.name.size : Int) := by omega
    go_wp2_with fail
    obtain ⟨n1, Hn1⟩ : ∃ n1 : Nat, Hid (n1 = x.name.size + szL szNode x.e) := ⟨_, rfl⟩
    refine (c_szNodeS _ _ _ _ _ (hE.ext ((Ext.refl _).alloc _) (fun _ _ h => h.any)) (by omega) (by omega)).mono ?_
    rintro e w1 ⟨rfl, hX1⟩
    have e1 : lft (left - (x.name.size : Nat)) (szL szNode x.e) = lft left n1 := by rw [Hn1.out, lft_lft (by omega)]
    rw [e1]
    clear e1
    have hE1 := Ext.of_alloc hX1
    have hB1 := (Blk.alloc w 213 #[.int .i64 x.kind, .string x.name, vE, vF, .int .i64 x.thn, .int .i64 x.els]).ext hX1
    have hc1 : w1.cell? ⟨w.heap.size, 3, none⟩ = some vF := hB1.cell 3
    by_cases hb1 : left < (n1 : Int)
    · rw [lft_neg hb1]
      go_wp2
      go_ret
      exact Gives.int (lft_neg (by have := Hn1.out; omega)).symm hE1
    · rw [lft_pos hb1]
      have hn1 : ¬ left - (n1 : Int) < 0 := by omega
      go_wp2_with fail
      obtain ⟨n2, Hn2⟩ : ∃ n2 : Nat, Hid (n2 = n1 + szL szNode x.f) := ⟨_, rfl⟩
      refine (c_szNodeS _ _ _ _ _ (hF.ext hE1 (fun _ _ h => h.any)) (by omega) (by omega)).mono ?_
      rintro e w2 ⟨rfl, hX2⟩
      have e2 : lft (left - (n1 : Nat)) (szL szNode x.f) = lft left n2 := by rw [Hn2.out, lft_lft (by omega), Hn1.out]
      rw [e2]
      clear e2
      have hE2 := hE1.trans hX2
      by_cases hb2 : left < (n2 : Int)
      · rw [lft_neg hb2]
        go_wp2
        go_ret
        exact Gives.int (lft_neg (by have := Hn1.out; have := Hn2.out; omega)).symm hE2
      · rw [lft_pos hb2]
        have hn2 : ¬ left - (n2 : Int) < 0 := by omega
        go_wp2
        go_ret
        exact Gives.int (by have := Hn1.out; have := Hn2.out; rw [lft_pos (by omega)]; omega) hE2


theorem c_szStmtS (K : Foot) (v : Value) (l : List PStmt) (left : Int) (w : World) (hv : SlStmt K w v l) (h0 : 0 ≤ left) (h1 : left ≤ 1048576) :
    Calls Tryz.prog 106 #[v, .int .i64 left] w (Gives (.int .i64 (lft left (szL szStmt l))) w) := by
  obtain ⟨a, len, cap, rfl, Hlen, hlc, hcm, hel⟩ := hv.op
  clear hv
  go_enter Tryz.func106, Tryz.ntmps106
  by_cases h : left - (len : Int) < 0
  · go_wp2
    go_ret
    exact Gives.int (lft_neg (by unfold szL; have := Hlen.out; omega)).symm (Ext.refl _)
  · go_wp2
    go_loopw [1, 5] (fun y i wr => ∃ k s : Nat, k ≤ len ∧ i = .int .i64 k ∧ Hid (s = sumSz szStmt (l.take k)) ∧ (len : Int) + s ≤ left ∧ y = .int .i64 (left - (len : Int) - (s : Int)) ∧ Ext w wr) (fun _ i _ => len - (intOf i).toNat)
    case atStart => exact ⟨0, 0, Nat.zero_le _, rfl, rfl, by omega, by simp, Ext.refl _⟩
    case round =>
      obtain ⟨k, s, hk, rfl, Hs, hs, rfl, hEx⟩ := hrel
      by_cases hlt : k < len
      · obtain ⟨b, o, rfl, _, hel⟩ := hel (by omega)
        obtain ⟨x, cs, hx, _, hC, hcs⟩ := hel k hlt
        obtain ⟨vE, vF, rfl, hE, hF, _, _, _, hn⟩ := hC
        have c0 := hEx.cell (hcs.z rfl)
        have c1 := hEx.cell (hcs 1 _ rfl)
        have c2 := hEx.cell (hcs 2 _ rfl)
        have c3 := hEx.cell (hcs 3 _ rfl)
        have c4 := hEx.cell (hcs 4 _ rfl)
        have c5 := hEx.cell (hcs 5 _ rfl)
        have Hx := Lib.hid hx
        clear hel hcs hx
        have g0 : (0 : Int) ≤ (k : Int) := by omega
        have g1 : (k : Int) < (len : Int) := by omega
        obtain ⟨q, hq⟩ : ∃ q : Nat, q = szStmt x := ⟨_, rfl⟩
        have Hq := Lib.hid hq
        clear hq
        go_wp2_with fail
        refine (c_szStmt K x vE vF _ _ (by omega) (by omega) (hE.ext hEx (fun _ _ h => h.any)) (hF.ext hEx (fun _ _ h => h.any)) hn).mono ?_
        rw [← Hq.out]
        rintro e w1 ⟨rfl, hE1⟩
        have hEx := hEx.trans hE1
        by_cases hb : left - (len : Int) - (s : Int) < q
        · rw [lft_neg hb]
          have hfin : left < szL szStmt l := by
            have := sumSz_le szStmt l (k + 1)
            have := sumSz_snoc szStmt Hx.out
            have := Hs.out
            have := Hlen.out
            have := Hq.out
            unfold szL
            omega
          go_wp2
          go_ret
          exact Gives.int (lft_neg hfin).symm hEx
        · rw [lft_pos hb]
          have hb2 : ¬ left - (len : Int) - (s : Int) - (q : Int) < 0 := by omega
          go_wp2
          go_roundw
          case rel => exact ⟨k + 1, s + q, by omega, by go_num, Lib.hid (by rw [sumSz_snoc szStmt Hx.out, Hs.out, Hq.out]), by omega, by go_num, hEx⟩
          case measure => simp [intOf]; omega
      · go_wp2
        go_ret
        have hfin : lft left (szL szStmt l) = left - (len : Int) - (s : Int) := by
          have hs2 := Hs.out
          rw [show k = len by omega, take_all Hlen] at hs2
          have := Hlen.out
          rw [lft_pos]
          · unfold szL; omega
          · unfold szL; omega
        exact Gives.int hfin.symm hEx


theorem c_szFunc (K : Foot) (x : PFunc) (vP vB : Value) (left : Int) (w : World) (h0 : 0 ≤ left) (h1 : left ≤ 1048576) (hP : SlStr K w vP x.params) (hB : SlStmt K w vB x.body) (hn : x.name.size ≤ maxLen) :
    Calls Tryz.prog 60 #[.agg #[.string x.name, vP, vB], .int .i64 left] w (Gives (.int .i64 (lft left (szFunc x))) w) := by
  unfold maxLen at hn
  unfold szFunc
  go_enter Tryz.func60, Tryz.ntmps60
  by_cases h : left - (x.name.size : Int) < 0
  · go_wp2
    go_ret
    exact Gives.int (lft_neg (by omega)).symm ((Ext.refl _).alloc _)
  · have h' : ¬ left < (x.name.size : Int) := by omega
    go_wp2_with fail
    obtain ⟨n1, Hn1⟩ : ∃ n1 : Nat, Hid (n1 = x.name.size + szL szStr x.params) := ⟨_, rfl⟩
    refine (c_szStringS _ _ _ _ _ (hP.ext ((Ext.refl _).alloc _) (fun _ _ h => h.any)) (by omega) (by omega)).mono ?_
    rintro e w1 ⟨rfl, hX1⟩
    have e1 : lft (left - (x.name.size : Nat)) (szL szStr x.params) = lft left n1 := by rw [Hn1.out, lft_lft (by omega)]
    rw [e1]
    clear e1
    have hE1 := Ext.of_alloc hX1
    have hB1 := (Blk.alloc w 124 #[.string x.name, vP, vB]).ext hX1
    have hc1 : w1.cell? ⟨w.heap.size, 2, none⟩ = some vB := hB1.cell 2
    by_cases hb1 : left < (n1 : Int)
    · rw [lft_neg hb1]
      go_wp2
      go_ret
      exact Gives.int (lft_neg (by have := Hn1.out; omega)).symm hE1
    · rw [lft_pos hb1]
      have hn1 : ¬ left - (n1 : Int) < 0 := by omega
      go_wp2_with fail
      obtain ⟨n2, Hn2⟩ : ∃ n2 : Nat, Hid (n2 = n1 + szL szStmt x.body) := ⟨_, rfl⟩
      refine (c_szStmtS _ _ _ _ _ (hB.ext hE1 (fun _ _ h => h.ext hE1)) (by omega) (by omega)).mono ?_
      rintro e w2 ⟨rfl, hX2⟩
      have e2 : lft (left - (n1 : Nat)) (szL szStmt x.body) = lft left n2 := by rw [Hn2.out, lft_lft (by omega), Hn1.out]
      rw [e2]
      clear e2
      have hE2 := hE1.trans hX2
      by_cases hb2 : left < (n2 : Int)
      · rw [lft_neg hb2]
        go_wp2
        go_ret
        exact Gives.int (lft_neg (by have := Hn1.out; have := Hn2.out; omega)).symm hE2
      · rw [lft_pos hb2]
        have hn2 : ¬ left - (n2 : Int) < 0 := by omega
        go_wp2
        go_ret
        exact Gives.int (by have := Hn1.out; have := Hn2.out; rw [lft_pos (by omega)]; omega) hE2


theorem c_szFuncS (K : Foot) (v : Value) (l : List PFunc) (left : Int) (w : World) (hv : SlFunc K w v l) (h0 : 0 ≤ left) (h1 : left ≤ 1048576) :
    Calls Tryz.prog 29 #[v, .int .i64 left] w (Gives (.int .i64 (lft left (szL szFunc l))) w) := by
  obtain ⟨a, len, cap, rfl, Hlen, hlc, hcm, hel⟩ := hv.op
  clear hv
  go_enter Tryz.func29, Tryz.ntmps29
  by_cases h : left - (len : Int) < 0
  · go_wp2
    go_ret
    exact Gives.int (lft_neg (by unfold szL; have := Hlen.out; omega)).symm (Ext.refl _)
  · go_wp2
    go_loopw [1, 5] (fun y i wr => ∃ k s : Nat, k ≤ len ∧ i = .int .i64 k ∧ Hid (s = sumSz szFunc (l.take k)) ∧ (len : Int) + s ≤ left ∧ y = .int .i64 (left - (len : Int) - (s : Int)) ∧ Ext w wr) (fun _ i _ => len - (intOf i).toNat)
    case atStart => exact ⟨0, 0, Nat.zero_le _, rfl, rfl, by omega, by simp, Ext.refl _⟩
    case round =>
      obtain ⟨k, s, hk, rfl, Hs, hs, rfl, hEx⟩ := hrel
      by_cases hlt : k < len
      · obtain ⟨b, o, rfl, _, hel⟩ := hel (by omega)
        obtain ⟨x, cs, hx, _, hC, hcs⟩ := hel k hlt
        obtain ⟨vP, vB, rfl, hP, hB, hn⟩ := hC
        have c0 := hEx.cell (hcs.z rfl)
        have c1 := hEx.cell (hcs 1 _ rfl)
        have c2 := hEx.cell (hcs 2 _ rfl)
        have Hx := Lib.hid hx
        clear hel hcs hx
        have g0 : (0 : Int) ≤ (k : Int) := by omega
        have g1 : (k : Int) < (len : Int) := by omega
        obtain ⟨q, hq⟩ : ∃ q : Nat, q = szFunc x := ⟨_, rfl⟩
        have Hq := Lib.hid hq
        clear hq
        go_wp2_with fail
        refine (c_szFunc K x vP vB _ _ (by omega) (by omega) (hP.ext hEx (fun _ _ h => h.any)) (hB.ext hEx (fun _ _ h => h.ext hEx)) hn).mono ?_
        rw [← Hq.out]
        rintro e w1 ⟨rfl, hE1⟩
        have hEx := hEx.trans hE1
        by_cases hb : left - (len : Int) - (s : Int) < q
        · rw [lft_neg hb]
          have hfin : left < szL szFunc l := by
            have := sumSz_le szFunc l (k + 1)
            have := sumSz_snoc szFunc Hx.out
            have := Hs.out
            have := Hlen.out
            have := Hq.out
            unfold szL
            omega
          go_wp2
          go_ret
          exact Gives.int (lft_neg hfin).symm hEx
        · rw [lft_pos hb]
          have hb2 : ¬ left - (len : Int) - (s : Int) - (q : Int) < 0 := by omega
          go_wp2
          go_roundw
          case rel => exact ⟨k + 1, s + q, by omega, by go_num, Lib.hid (by rw [sumSz_snoc szFunc Hx.out, Hs.out, Hq.out]), by omega, by go_num, hEx⟩
          case measure => simp [intOf]; omega
      · go_wp2
        go_ret
        have hfin : lft left (szL szFunc l) = left - (len : Int) - (s : Int) := by
          have hs2 := Hs.out
          rw [show k = len by omega, take_all Hlen] at hs2
          have := Hlen.out
          rw [lft_pos]
          · unfold szL; omega
          · unfold szL; omega
        exact Gives.int hfin.symm hEx


theorem c_szTree (K : Foot) (x : PTree) (vG vF : Value) (left : Int) (w : World) (h0 : 0 ≤ left) (h1 : left ≤ 1048576) (hG : SlGlob K w vG x.globals) (hF : SlFunc K w vF x.funcs) :
    Calls Tryz.prog 7 #[.agg #[vG, vF], .int .i64 left] w (Gives (.int .i64 (lft left (szTree x))) w) := by
  unfold szTree
  obtain ⟨n1, Hn1⟩ : ∃ n1 : Nat, Hid (n1 = szL szGlobal x.globals) := ⟨_, rfl⟩
  go_enter Tryz.func7, Tryz.ntmps7
  go_wp2_with fail
  refine (c_szGlobalS _ _ _ _ _ (hG.ext ((Ext.refl _).alloc _) (fun _ _ h => h.any)) (by omega) (by omega)).mono ?_
  rintro e w1 ⟨rfl, hX1⟩
  rw [← Hn1.out]
  have hE1 := Ext.of_alloc hX1
  have hB1 := (Blk.alloc w 25 #[vG, vF]).ext hX1
  have hc1 : w1.cell? ⟨w.heap.size, 1, none⟩ = some vF := hB1.cell 1
  by_cases hb1 : left < (n1 : Int)
  · rw [lft_neg hb1]
    go_wp2
    go_ret
    exact Gives.int (lft_neg (by have := Hn1.out; omega)).symm hE1
  · rw [lft_pos hb1]
    have hn1 : ¬ left - (n1 : Int) < 0 := by omega
    obtain ⟨n2, Hn2⟩ : ∃ n2 : Nat, Hid (n2 = n1 + szL szFunc x.funcs) := ⟨_, rfl⟩
    go_wp2_with fail
    refine (c_szFuncS _ _ _ _ _ (hF.ext hE1 (fun _ _ h => h.ext hE1)) (by omega) (by omega)).mono ?_
    rintro e w2 ⟨rfl, hX2⟩
    have e2 : lft (left - (n1 : Nat)) (szL szFunc x.funcs) = lft left n2 := by rw [Hn2.out, lft_lft (by omega)]
    rw [e2]
    clear e2
    have hE2 := hE1.trans hX2
    by_cases hb2 : left < (n2 : Int)
    · rw [lft_neg hb2]
      go_wp2
      go_ret
      exact Gives.int (lft_neg (by have := Hn1.out; have := Hn2.out; omega)).symm hE2
    · rw [lft_pos hb2]
      have hn2 : ¬ left - (n2 : Int) < 0 := by omega
      go_wp2
      go_ret
      exact Gives.int (by have := Hn1.out; have := Hn2.out; rw [lft_pos (by omega)]; omega) hE2

end Go.Proofs.YtolbngbedncemaaGreatDoor
