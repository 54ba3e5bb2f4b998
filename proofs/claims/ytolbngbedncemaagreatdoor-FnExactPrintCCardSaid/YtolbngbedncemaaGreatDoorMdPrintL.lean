/- How long the texts of PrintC's plain model can be. No program in sight. -/
import Derived.Test.YtolbngbedncemaaGreatDoorMdPrint
set_option linter.unusedVariables false
namespace Go.Proofs.YtolbngbedncemaaGreatDoor.Md

theorem getD_len {ls : List (List UInt8)} {k : Nat} (h : ∀ l ∈ ls, l.length ≤ k) (i : Nat) : (ls.getD i []).length ≤ k := by
  rw [List.getD_eq_getElem?_getD]
  cases hi : ls[i]? with
  | none => simp
  | some l => exact h l (List.mem_of_getElem? hi)
theorem opWord_len (n : PNode) : (opWord n).length ≤ 2 := by
  unfold opWord
  split
  · decide
  · split
    · decide
    · exact getD_len (by decide) _
theorem unWord_len (n : PNode) : (unWord n).length ≤ 1 := getD_len (by decide) _
theorem heldT_len (s : List UInt8) (b : Bool) : (heldT s b).length ≤ s.length + 2 := by
  unfold heldT
  split <;> simp
theorem commas_len : ∀ ls : List (List UInt8), (commas ls).length ≤ (ls.map List.length).sum + 2 * ls.length
  | [] => by simp [commas]
  | [s] => by simp [commas]
  | s :: t :: r => by
    rw [commas]
    · have := commas_len (t :: r)
      simp only [List.length_append, List.map_cons, List.sum_cons, List.length_cons] at this ⊢
      simp only [List.length_nil]
      omega
    · simp
theorem digN_len14 {n : Nat} (h : n < 100000000000000) : (digN n).length ≤ 14 := digN_len 13 n (by
  have e : (10 : Nat) ^ (13 + 1) = 100000000000000 := by decide
  omega)
theorem dig_len {x : Int} (h : isWord x = true) : (dig x).length ≤ 16 := by
  unfold isWord at h
  simp only [Bool.and_eq_true, decide_eq_true_eq] at h
  unfold dig
  split
  · have := digN_len14 (n := (-x).toNat) (by omega)
    simp
    omega
  · have := digN_len14 (n := x.toNat) (by omega)
    omega
theorem name_len {s : ByteArray} (h : isName s = true) : s.data.toList.length ≤ 20 := by
  unfold isName at h
  simp only [Bool.and_eq_true, decide_eq_true_eq] at h
  have e : s.data.toList.length = s.size := rfl
  omega
theorem ar_name {n : PNode} {k : Nat} (h : arity n = some k) (hk : n.kind = 2 ∨ n.kind = 3 ∨ n.kind = 4) : isName n.name = true := by
  unfold arity at h
  rw [if_pos hk] at h
  by_cases hn : isName n.name = true
  · exact hn
  · rw [if_neg hn] at h
    cases h
theorem ar_word {n : PNode} {k : Nat} (h : arity n = some k) (hk : n.kind = 1) : isWord n.val = true := by
  unfold arity at h
  rw [if_neg (by omega)] at h
  by_cases h0 : n.name.size = 0
  · rw [if_pos h0, if_pos hk] at h
    by_cases hw : isWord n.val = true
    · exact hw
    · rw [if_neg hw] at h
      cases h
  · rw [if_neg h0] at h
    cases h
theorem ar_six {n : PNode} {k : Nat} (h : arity n = some k) : k ≤ 6 := by
  have := ar_of_arity h
  unfold ar at this
  unfold arity at h
  by_cases h4 : n.kind = 4
  · rw [if_pos (by omega)] at h
    by_cases hn : isName n.name = true
    · rw [if_pos hn, if_neg (by omega), if_neg (by omega)] at h
      by_cases h6 : 0 ≤ n.val ∧ n.val ≤ 6
      · rw [if_pos h6] at h
        cases h
        omega
      · rw [if_neg h6] at h
        cases h
    · rw [if_neg hn] at h
      cases h
  · rw [if_neg h4] at this
    split at this
    · omega
    · split at this <;> omega
/-- What a node's text adds to its operands'. -/
theorem showN_len {n : PNode} {ks : List (Nat × List UInt8)} (h : arity n = some ks.length) : (showN n ks).length ≤ 64 + (ks.map fun p => p.2.length).sum := by
  have h6 := ar_six h
  unfold showN
  split
  · rename_i hk
    have := dig_len (ar_word h hk)
    omega
  · split
    · rename_i hk
      have := name_len (ar_name h (.inl hk))
      omega
    · split
      · simp
        omega
      · split
        · rename_i hk
          have h1 := name_len (ar_name h (.inr (.inr hk)))
          have h2 := commas_len (ks.map Prod.snd)
          rw [List.map_map, List.length_map] at h2
          have e : (ks.map (List.length ∘ Prod.snd)) = ks.map fun p => p.2.length := rfl
          rw [e] at h2
          simp only [List.length_append, List.length_cons, List.length_nil]
          omega
        · match ks, h with
          | [], _ => simp
          | [a], h =>
            simp only [List.map_cons, List.map_nil, List.sum_cons, List.sum_nil]
            split
            · rename_i hk
              have h1 := name_len (ar_name h (.inr (.inl hk)))
              simp only [List.length_append, List.length_cons, List.length_nil]
              omega
            · have h1 := unWord_len n
              have h2 := heldT_len a.2 (decide (a.1 < 11))
              simp only [List.length_append]
              omega
          | [a, b], h =>
            have h1 := opWord_len n
            have h2 := heldT_len a.2 (decide (a.1 < strong n))
            have h3 := heldT_len b.2 (decide (b.1 ≤ strong n))
            simp only [List.map_cons, List.map_nil, List.sum_cons, List.sum_nil, List.length_append, List.length_cons, List.length_nil]
            omega
          | _ :: _ :: _ :: _, h => simp
theorem showE_len (x : Ex) : x.ok → (showE x).length ≤ 64 * x.list.length := by
  refine Ex.ind (P := fun x => x.ok → (showE x).length ≤ 64 * x.list.length) (fun n args ih => ?_) x
  intro hx
  have hok := (Ex.ok_mk n args).1 hx
  rw [showE_mk, Ex.list_mk]
  have h1 := showN_len (n := n) (ks := args.map fun a => (strong a.node, showE a)) (by rw [List.length_map]; exact hok.1)
  rw [List.map_map] at h1
  have h2 : ∀ l : List Ex, (∀ a ∈ l, (showE a).length ≤ 64 * a.list.length) → (l.map ((fun p : Nat × List UInt8 => p.2.length) ∘ fun a => (strong a.node, showE a))).sum ≤ 64 * (l.flatMap Ex.list).length := by
    intro l
    induction l with
    | nil => intro _; simp
    | cons a r ihr =>
      intro hl
      have g1 := hl a List.mem_cons_self
      have g2 := ihr (fun b hb => hl b (List.mem_cons_of_mem _ hb))
      simp only [List.map_cons, List.sum_cons, List.flatMap_cons, List.length_append, Function.comp] at g2 ⊢
      omega
  have h3 := h2 args (fun a ha => ih a ha (hok.2 a ha))
  rw [List.length_append, List.length_singleton]
  omega
end Go.Proofs.YtolbngbedncemaaGreatDoor.Md
