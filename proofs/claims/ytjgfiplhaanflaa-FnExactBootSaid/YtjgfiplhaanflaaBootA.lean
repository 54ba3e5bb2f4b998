/- The program's words on lists of integers: isWord, words, slices.ContainsFunc, slices.Clone. -/
import Derived.Test.YtjgfiplhaanflaaKd
import Derived.Test.YtjgfiplhaanflaaRep
import Derived.WalkSpells
import Derived.Lib.SliceRun
import Derived.ArgAppend
import Derived.OwnWalk
set_option linter.unusedVariables false
set_option linter.unusedSimpArgs false
namespace Go.Proofs.Ytjgfiplhaanflaa
open Go Go.RowKit Md Go.Proofs.YtjgfiplhaanflaaW.PrintWords

theorem b_isWord (v : Int) (w : World) : Calls Try.prog 35 #[.int .i64 v] w (Same (.bool (isWord v)) w) := by
  go_enter Try.func35, Try.ntmps35
  by_cases h : -2147483648 ≤ v
  · go_wp2
    go_ret
    exact Same.bool (by unfold isWord; simp <;> omega)
  · go_wp2
    go_ret
    exact Same.bool (by unfold isWord; simp <;> omega)
theorem b_words1 (v : Int) (w : World) : Calls Try.prog 34 #[.int .i64 v] w (Same (.bool (!isWord v)) w) := by
  go_enter Try.func34, Try.ntmps34
  go_wp2_with fail
  refine (b_isWord v _).mono ?_; rintro e w' ⟨rfl, rfl⟩
  go_wp2
  go_ret
  exact Same.bool rfl
def idxW : List Int → Nat → Int
  | [], _ => -1
  | x :: r, i => if isWord x then idxW r (i + 1) else (i : Int)
theorem idxW_all (l : List Int) : ∀ i : Nat, decide (0 ≤ idxW l i) = !l.all isWord := by
  induction l with
  | nil => intro i; rfl
  | cons x r ih =>
    intro i
    unfold idxW
    rw [List.all_cons]
    cases h : isWord x
    · rw [if_neg (by simp), decide_eq_true (by omega)]; rfl
    · rw [if_pos rfl, ih]; rfl
theorem drop_getW {α : Type} {l : List α} {k : Nat} {x : α} (h : l[k]? = some x) : l.drop k = x :: l.drop (k + 1) := by
  obtain ⟨hk, e⟩ := List.getElem?_eq_some_iff.1 h
  rw [List.drop_eq_getElem_cons hk, e]
set_option maxRecDepth 1000000 in
theorem b_IndexFunc (K : Foot) (l : List Int) (v : Value) (w : World) (hv : SlInt .i64 K w v l) :
    Calls Try.prog 36 #[v, .func (.func 34) #[] #[]] w (Same (.int .i64 (idxW l 0)) w) := by
  obtain ⟨R, hR⟩ : ∃ R : Int, R = idxW l 0 := ⟨_, rfl⟩
  rw [← hR]
  have HR := Lib.hid hR
  clear hR
  obtain ⟨a, len, cap, rfl, Hlen, hlc, hcm, hel⟩ := hv.op
  clear hv
  go_enter Try.func36, Try.ntmps36
  go_wp2
  go_loop [8] (fun i => ∃ k : Nat, k ≤ len ∧ i = .int .i64 k ∧ Hid (R = idxW (l.drop k) k)) (fun i => len - (intOf i).toNat)
  case atStart => exact ⟨0, Nat.zero_le _, rfl, HR.out⟩
  case round =>
    obtain ⟨k, hk, rfl, hA⟩ := hrel
    by_cases hlt : k < len
    · obtain ⟨b, o, rfl, _, hel⟩ := hel (by omega)
      obtain ⟨x, cs, hx, _, hC, hcs⟩ := hel k hlt
      obtain ⟨rfl, hx2⟩ := hC
      have c0 := hcs.z rfl
      rw [Nat.mul_one] at c0
      have HA2 : Hid (R = if isWord x then idxW (l.drop (k + 1)) (k + 1) else (k : Int)) := by
        show R = _
        rw [hA.out, drop_getW hx]; rfl
      clear hel hcs hx hA hx2
      have g0 : (0 : Int) ≤ (k : Int) := by omega
      have g1 : (k : Int) < (len : Int) := by omega
      go_wp2_with fail
      refine (b_words1 x _).mono ?_; rintro e w' ⟨rfl, rfl⟩
      cases hsx : isWord x
      · go_wp2
        go_ret
        exact Same.int (by have := HA2.out; rw [if_neg (by rw [hsx]; simp)] at this; exact this.symm)
      · go_wp2
        go_round
        case rel => exact ⟨k + 1, by omega, by go_num, by have := HA2.out; rw [if_pos hsx] at this; exact this⟩
        case measure => simp [intOf]; omega
    · go_wp2
      go_ret
      exact Same.int (by
        rw [hA.out, List.drop_eq_nil_of_le (by rw [Hlen.out]; omega)]; rfl)
theorem b_ContainsFunc (K : Foot) (l : List Int) (v : Value) (w : World) (hv : SlInt .i64 K w v l) :
    Calls Try.prog 33 #[v, .func (.func 34) #[] #[]] w (Same (.bool (!l.all isWord)) w) := by
  rw [← idxW_all l 0]
  obtain ⟨a, len, cap, e, _⟩ := hv.op
  subst e
  obtain ⟨R, hR⟩ : ∃ R : Int, R = idxW l 0 := ⟨_, rfl⟩
  have H := b_IndexFunc K l _ w hv
  rw [← hR] at H ⊢
  clear hR
  go_enter Try.func33, Try.ntmps33
  go_wp2_with fail
  refine H.mono ?_; rintro _ _ ⟨rfl, rfl⟩
  go_wp2
  go_ret
  exact Same.bool rfl
theorem b_words (K : Foot) (l : List Int) (v : Value) (w : World) (hv : SlInt .i64 K w v l) : Calls Try.prog 24 #[v] w (Same (.bool (l.all isWord)) w) := by
  have HC := Lib.hid (b_ContainsFunc K l v w hv)
  obtain ⟨a, len, cap, e, _⟩ := hv.op
  subst e
  clear hv
  go_enter Try.func24, Try.ntmps24
  go_wp2_with fail
  refine HC.out.mono ?_; rintro _ _ ⟨rfl, rfl⟩
  go_wp2
  go_ret
  exact Same.bool (by simp)

/-! ### Clone -/
theorem info_i64 : (Try.prog.info? 2).map (fun i => (i.zero, i.size, i.bytes)) = some (some (.int .i64 0), 1, 8) := by kernel_rfl
theorem SlInt.cells {k : IntKind} {K : Foot} {w : World} {a : Option Addr} {n c : Nat} {l : List Int} (h : SlInt k K w (.slice a n c) l) : ∀ ad, a = some ad → ∀ (j : Nat) u, (l.map fun x => Value.int k x)[j]? = some u → w.cell? (ad.add j) = some u := by
  intro ad ha j u hu
  obtain ⟨a', cap, e, h1, h2, h3⟩ := h
  simp only [Value.slice.injEq] at e
  obtain ⟨rfl, rfl, rfl⟩ := e
  have hj : j < l.length := by
    have := (List.getElem?_eq_some_iff.1 hu).1
    simpa using this
  obtain ⟨b, o, e1, _, e3⟩ := h3 (by omega)
  rw [ha] at e1
  cases e1
  obtain ⟨cs, c1, c2, c3⟩ := e3 j hj
  obtain ⟨rfl, _⟩ := c2
  have := c3 0 _ rfl
  rw [add_none, show o + j = o + j * 1 + 0 by omega, this]
  rw [List.getElem?_map, List.getElem?_eq_getElem hj] at hu
  exact hu
theorem SlInt.len {k : IntKind} {K : Foot} {w : World} {a : Option Addr} {n c : Nat} {l : List Int} (h : SlInt k K w (.slice a n c) l) : l.length = n ∧ n ≤ c ∧ (a = none → n = 0) := by
  obtain ⟨a', cap, e, h1, h2, h3⟩ := h
  simp only [Value.slice.injEq] at e
  obtain ⟨rfl, rfl, rfl⟩ := e
  refine ⟨rfl, h1, fun h => ?_⟩
  rcases Nat.eq_zero_or_pos l.length with h0 | h0
  · exact h0
  · obtain ⟨b, o, e, _⟩ := h3 h0
    rw [h] at e
    cases e
theorem own_weakB {w : World} {b b' e sz n : Nat} {v : Value} {xs : List Value} (h : w.ownsRow b e sz v n xs) (hb : b' ≤ b) : w.ownsRow b' e sz v n xs := by
  obtain ⟨h1, h2⟩ := h
  refine ⟨h1, ?_⟩
  rcases h2 with h2 | ⟨g, cap, cur, rfl, hg, r⟩
  · exact .inl h2
  · exact .inr ⟨g, cap, cur, rfl, Nat.le_trans hb hg, r⟩
def Row64 (w : World) (l : List Int) (e : Ending) (w' : World) : Prop := ∃ v, e = .returned v ∧ w'.ownsRow w.heap.size 2 1 v l.length (l.map fun x => .int .i64 x) ∧ Ext w w'
set_option maxRecDepth 1000000 in
theorem b_Clone (K : Foot) (v : Value) (l : List Int) (w : World) (hv : SlInt .i64 K w v l) (hl : l.length ≤ 1048576) :
    Calls Try.prog 25 #[v] w (Row64 w l) := by
  obtain ⟨a, n, c, rfl⟩ := hv.shape
  obtain ⟨hn, hc, hnn⟩ := hv.len
  have HN := Lib.hid hn
  have HNN := Lib.hid hnn
  have HC := Lib.hid hv.cells
  clear hv hn hnn
  obtain ⟨i0, hi, hz0, hz1, hz2⟩ := info_parts info_i64
  have heq := fun (w : World) (a : Option Addr) (n c n2 c2 : Nat) => Lib.run_eql_slice_nil (P := Try.prog) w 31 2 a n c n2 c2 Try.underlying31
  go_enter Try.func25, Try.ntmps25
  cases a with
  | none =>
    have H0 := Lib.hid (HNN.out rfl)
    go_wp2
    go_ret
    have h0 := H0.out
    obtain rfl : l = [] := List.eq_nil_of_length_eq_zero (by rw [HN.out]; exact h0)
    exact ⟨_, rfl, ⟨rfl, .inl ⟨rfl, rfl⟩⟩, Ext.refl _⟩
  | some ad =>
    by_cases h0 : n = 0
    · subst h0
      obtain rfl : l = [] := List.eq_nil_of_length_eq_zero HN.out
      have hown : (w.alloc (.cells #[] 2)).ownsRow w.heap.size 2 1 (.slice (some ⟨w.heap.size, 0, none⟩) 0 0) 0 [] :=
        ⟨rfl, .inr ⟨w.heap.size, 0, #[], rfl, Nat.le_refl _, heap_alloc_new _ _, Nat.le_refl _, by simp [maxLen], rfl, rfl⟩⟩
      go_wp2_with (at_builtin; refine wpList_append_fits_any _ rfl _ _ 31 rfl w.heap.size 2 i0 1 Try.underlying31 hi hz1 w.heap.size 0 0 [] (by rfl) hown (some ad) 0 c [] (by rfl) rfl (fun h => by cases h) (fun _ _ j u hj => by simp at hj) (fun u hu => by cases hu) (Nat.le_refl _) ?_; intro w1 hown1 hg1)
      go_wp2
      go_ret
      exact ⟨_, rfl, hown1, Below.grown ((Ext.refl w).alloc (.cells #[] 2)) hg1 ((Ext.refl w).alloc (.cells #[] 2)).size (fun k hk => by cases hk; exact Nat.le_refl _)⟩
    · have hfull : 0 < 0 + n := by omega
      have a1 : (l.map fun x => Value.int .i64 x).length = n * 1 := by rw [Nat.mul_one, List.length_map]; exact HN.out
      have a2 : ∀ j u, (l.map fun x => Value.int .i64 x)[j]? = some u → (w.alloc (.cells #[] 2)).cell? (ad.add j) = some u := fun j u hj => ((Ext.refl w).alloc _).cell (HC.out ad rfl j u hj)
      have A1 := Lib.hid a1
      have A2 := Lib.hid a2
      have A3 : 0 + n ≤ maxLen := by have := HN.out; unfold maxLen; omega
      have A4 : (0 + n) * 8 ≤ 140737488355328 := by have := HN.out; omega
      have A5 : Hid (∀ u ∈ (l.map fun x => Value.int .i64 x), u.oneCell' = true) := fun u hu => by
        obtain ⟨x, _, rfl⟩ := List.mem_map.1 hu
        rfl
      clear a1 a2
      go_wp2_with (at_builtin; refine wpList_append_grows _ rfl _ _ 31 rfl 2 i0 (.int .i64 0) 1 8 Try.underlying31 hi hz0 hz1 hz2 rfl (by decide) (some ⟨w.heap.size, 0, none⟩) 0 0 [] (by rfl) (fun h => by cases h) rfl (fun _ _ j u hj => by simp at hj) ad n c (l.map fun x => Value.int .i64 x) (by rfl) A1.out A2.out A5.out hfull A3 A4 ?_; intro v1 w1 hown1 hg1)
      go_wp2
      go_ret
      rw [List.nil_append, Nat.zero_add, ← HN.out] at hown1
      exact ⟨_, rfl, own_weakB hown1 ((Ext.refl w).alloc (.cells #[] 2)).size, Ext.trans ((Ext.refl w).alloc (.cells #[] 2)) ⟨hg1.os, hg1.tape, hg1.output, hg1.size, fun k hk => hg1.block k hk (by simp)⟩⟩
end Go.Proofs.Ytjgfiplhaanflaa
