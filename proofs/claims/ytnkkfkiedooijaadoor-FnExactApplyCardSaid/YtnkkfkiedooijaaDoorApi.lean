import Derived.Test.YtnkkfkiedooijaaDoorApp
set_option linter.unusedVariables false
set_option linter.unusedSimpArgs false
namespace Go.Proofs.YtnkkfkiedooijaaDoor
open Go Go.RowKit

/-! ### The program -/
theorem i_wrap (x : Int) (w : World) : Calls Tryd.prog 27 #[.int .i64 x] w (Same (.int .i64 (w32 x)) w) := by
  go_enter Tryd.func27, Tryd.ntmps27
  go_wp2
  go_ret
  have := w32_range x
  exact Same.int (by exact w64_id ⟨by unfold w32 at this; omega, by unfold w32 at this; omega⟩)
theorem i_number (x : Bool) (w : World) : Calls Tryd.prog 28 #[.bool x] w (Same (.int .i64 (b01 x)) w) := by
  go_enter Tryd.func28, Tryd.ntmps28
  cases x <;> go_wp2 <;> go_ret <;> exact Same.int rfl
theorem i_truth (x : Bool) (w : World) : Calls Tryd.prog 59 #[.bool x] w (Same (.int .u32 (b01 x)) w) := by
  go_enter Tryd.func59, Tryd.ntmps59
  cases x <;> go_wp2 <;> go_ret <;> exact Same.int rfl

def u32 (x : Int) : Int := x % 4294967296
/-- What the machine's op gives is, as a word, what the operator gives. -/
def AluPost (op a b : Int) (w : World) (e : Ending) (w' : World) : Prop := ∃ r, e = .returned (.int .u32 r) ∧ w32 r = apW op a b ∧ w = w'
theorem AluPost.mk {op a b r : Int} {w : World} (h : w32 r = apW op a b) : AluPost op a b w (.returned (.int .u32 r)) w := ⟨r, rfl, h, rfl⟩
theorem u32_range (a : Int) : 0 ≤ u32 a ∧ u32 a < 4294967296 := by unfold u32; omega
theorem w32_u32 {a : Int} (h : -2147483648 ≤ a ∧ a ≤ 2147483647) : wrap32 (u32 a) = a := by unfold wrap32 u32; omega
theorem w32_mod (x : Int) : w32 (x % 4294967296) = w32 x := by unfold w32 wrap32; omega
theorem w32_mul {a b : Int} : w32 (u32 a * u32 b) = w32 (a * b) := by
  unfold w32 wrap32
  have : (u32 a * u32 b) % 4294967296 = (a * b) % 4294967296 := by unfold u32; rw [← Int.mul_emod]
  omega
theorem w32_pow {a : Int} (n : Nat) : w32 (u32 a * 2 ^ n) = w32 (a * 2 ^ n) := by
  unfold w32 wrap32
  have : (u32 a * 2 ^ n) % 4294967296 = (a * 2 ^ n) % 4294967296 := by unfold u32; rw [Int.mul_emod, Int.emod_emod_of_dvd _ (Int.dvd_refl _), ← Int.mul_emod]
  omega
theorem ofInt_u32 (a : Int) : BitVec.ofInt 32 (u32 a) = BitVec.ofInt 32 a := by
  apply BitVec.eq_of_toInt_eq
  rw [BitVec.toInt_ofInt, BitVec.toInt_ofInt]
  simp only [Int.bmod, u32]
  omega
theorem back_u32 (r : BitVec 32) : w32 (IntKind.u32.wrap (r.toNat : Int)) = r.toInt := by
  have h := r.isLt
  have : IntKind.u32.wrap (r.toNat : Int) = r.toNat := by simp [IntKind.wrap, IntKind.bits, IntKind.signed]; omega
  rw [this]; exact back32 r
theorem and_u32 (a b : Int) : w32 (bits .and .u32 (u32 a) (u32 b)) = andI a b := by
  show w32 (IntKind.u32.wrap ((BitVec.ofInt 32 (u32 a) &&& BitVec.ofInt 32 (u32 b)).toNat : Int)) = _
  rw [ofInt_u32, ofInt_u32, back_u32]; rfl
theorem xor_u32 (a b : Int) : w32 (bits .xor .u32 (u32 a) (u32 b)) = xorI a b := by
  show w32 (IntKind.u32.wrap ((BitVec.ofInt 32 (u32 a) ^^^ BitVec.ofInt 32 (u32 b)).toNat : Int)) = _
  rw [ofInt_u32, ofInt_u32, back_u32]; rfl
theorem or_u32 (a b : Int) : w32 (bits .or .u32 (u32 a) (u32 b)) = orI a b := by
  show w32 (IntKind.u32.wrap ((BitVec.ofInt 32 (u32 a) ||| BitVec.ofInt 32 (u32 b)).toNat : Int)) = _
  rw [ofInt_u32, ofInt_u32, back_u32]; rfl

theorem i_alu (op rv a b : Int) (w : World) (ra : -2147483648 ≤ a ∧ a ≤ 2147483647) (rb : -2147483648 ≤ b ∧ b ≤ 2147483647)
    (h : (op, rv) ∈ [((0 : Int), (31 : Int)), (3, 21), (4, 22), (7, 24), (13, 30), (14, 26), (15, 29)]) :
    Calls Tryd.prog 29 #[.int .i64 rv, .int .u32 (u32 a), .int .u32 (u32 b)] w (AluPost op a b w) := by
  obtain ⟨ua1, ua2⟩ := u32_range a
  obtain ⟨ub1, ub2⟩ := u32_range b
  have ha := w32_u32 ra
  have hb := w32_u32 rb
  go_enter Tryd.func29, Tryd.ntmps29
  simp only [List.mem_cons, Prod.mk.injEq, List.not_mem_nil, or_false] at h
  rcases h with ⟨rfl, rfl⟩ | ⟨rfl, rfl⟩ | ⟨rfl, rfl⟩ | ⟨rfl, rfl⟩ | ⟨rfl, rfl⟩ | ⟨rfl, rfl⟩ | ⟨rfl, rfl⟩ <;>
    go_wp2_with (go_at_call 59; refine (i_truth _ _).mono ?_; rintro e w' ⟨rfl, rfl⟩)
  all_goals go_ret
  all_goals refine AluPost.mk ?_
  all_goals simp [apW, w32_mod, w32_mul, and_u32, xor_u32, or_u32]
  all_goals first
    | (unfold w32 wrap32 u32; omega)
    | (rw [w32_id]; unfold b01; split <;> omega)
theorem tmod_word {a b : Int} (h : -2147483648 ≤ a ∧ a ≤ 2147483647) : -2147483648 ≤ a.tmod b ∧ a.tmod b ≤ 2147483647 := by
  have h1 := Int.natAbs_tmod a b
  have h2 : a.natAbs % b.natAbs ≤ a.natAbs := Nat.mod_le _ _
  rcases Int.lt_or_le a 0 with h3 | h3
  · have h4 : 0 ≤ (-a).tmod b := Int.tmod_nonneg _ (by omega)
    rw [Int.neg_tmod] at h4
    omega
  · have h4 : 0 ≤ a.tmod b := Int.tmod_nonneg _ h3
    omega
theorem u32_small (n : Nat) (h : n < 4294967296) : IntKind.u32.wrap (n : Int) = n := by simp [IntKind.wrap, IntKind.bits, IntKind.signed]; omega
theorem i_alu_div (op rv a b : Int) (w : World) (ra : -2147483648 ≤ a ∧ a ≤ 2147483647) (rb : -2147483648 ≤ b ∧ b ≤ 2147483647)
    (h : (op, rv) ∈ [((1 : Int), (32 : Int)), (2, 33)]) :
    Calls Tryd.prog 29 #[.int .i64 rv, .int .u32 (u32 a), .int .u32 (u32 b)] w (AluPost op a b w) := by
  obtain ⟨ua1, ua2⟩ := u32_range a
  obtain ⟨ub1, ub2⟩ := u32_range b
  have ha := w32_u32 ra
  have hb := w32_u32 rb
  simp only [List.mem_cons, Prod.mk.injEq, List.not_mem_nil, or_false] at h
  by_cases h0 : b = 0
  · have hB : u32 b = 0 := by subst h0; rfl
    rw [hB] at *
    go_enter Tryd.func29, Tryd.ntmps29
    rcases h with ⟨rfl, rfl⟩ | ⟨rfl, rfl⟩ <;> go_wp2
    all_goals go_ret
    all_goals refine AluPost.mk ?_
    all_goals simp [apW, h0]
    · unfold w32 wrap32; omega
    · exact ha
  · by_cases h1 : b = -1
    · have hB : u32 b = 4294967295 := by subst h1; rfl
      rw [hB] at *
      go_enter Tryd.func29, Tryd.ntmps29
      rcases h with ⟨rfl, rfl⟩ | ⟨rfl, rfl⟩ <;> go_wp2
      all_goals go_ret
      all_goals refine AluPost.mk ?_
      all_goals simp [apW, h1, w32_mod]
      · unfold w32 wrap32 u32; omega
      · unfold w32 wrap32; omega
    · have hB0 : (u32 b == 0) = false := by rw [beq_eq_false_iff_ne]; unfold u32; omega
      have hB1 : (u32 b == 4294967295) = false := by rw [beq_eq_false_iff_ne]; unfold u32; omega
      go_enter Tryd.func29, Tryd.ntmps29
      rcases h with ⟨rfl, rfl⟩ | ⟨rfl, rfl⟩ <;> go_wp2
      all_goals go_ret
      all_goals refine AluPost.mk ?_
      all_goals simp [apW, h0, w32_mod]
      · show w32 (w32 _) = _
        exact w32_id (w32_range _)
      · exact w32_id (tmod_word ra)
theorem shr_word {a : Int} (h : -2147483648 ≤ a ∧ a ≤ 2147483647) (n : Nat) : -2147483648 ≤ a / 2 ^ n ∧ a / 2 ^ n ≤ 2147483647 := by
  obtain ⟨p, hp⟩ : ∃ p : Int, p = 2 ^ n := ⟨_, rfl⟩
  have hp1 : 1 ≤ p := by
    have h2 : (0 : Int) < 2 ^ n := Int.pow_pos (by omega)
    omega
  rw [← hp]
  have e : p = 1 + (p - 1) := by omega
  constructor
  · refine Int.le_ediv_of_mul_le (by omega) ?_
    rw [e, Int.mul_add]
    omega
  · have : a / p < 2147483648 := by
      refine Int.ediv_lt_of_lt_mul (by omega) ?_
      rw [e, Int.mul_add]
      omega
    omega
theorem and31 (b : Int) : bits .and .u32 (u32 b) 31 = u32 b % 32 := by
  show IntKind.u32.wrap ((BitVec.ofInt 32 (u32 b) &&& BitVec.ofInt 32 31).toNat : Int) = _
  have h31 : (BitVec.ofInt 32 31).toNat = 2 ^ 5 - 1 := rfl
  have := u32_range b
  rw [BitVec.toNat_and, h31, Nat.and_two_pow_sub_one_eq_mod, u32_small _ (by omega), BitVec.toNat_ofInt]
  omega
theorem i_alu_sh (op rv a b : Int) (w : World) (ra : -2147483648 ≤ a ∧ a ≤ 2147483647) (rb : -2147483648 ≤ b ∧ b ≤ 2147483647)
    (h : (op, rv) ∈ [((5 : Int), (23 : Int)), (6, 28)]) :
    Calls Tryd.prog 29 #[.int .i64 rv, .int .u32 (u32 a), .int .u32 (u32 b)] w (AluPost op a b w) := by
  obtain ⟨ua1, ua2⟩ := u32_range a
  obtain ⟨ub1, ub2⟩ := u32_range b
  have ha := w32_u32 ra
  obtain ⟨n, hn⟩ : ∃ n : Nat, u32 b % 32 = (n : Int) := ⟨(u32 b % 32).toNat, by omega⟩
  have hs : shN b = n := by unfold shN; unfold u32 at hn; omega
  have hn2 : n < 32 := by omega
  have hn3 : bits .and .u32 (u32 b) 31 = (n : Int) := by rw [and31, hn]
  have Hs := Lib.hid hs
  clear hs
  simp only [List.mem_cons, Prod.mk.injEq, List.not_mem_nil, or_false] at h
  go_enter Tryd.func29, Tryd.ntmps29
  rcases h with ⟨rfl, rfl⟩ | ⟨rfl, rfl⟩ <;> go_wp2
  all_goals go_ret
  all_goals refine AluPost.mk ?_
  all_goals simp [apW, w32_mod, w32_pow, Hs.out]
  exact w32_id (shr_word ra n)

/-! ### The table of the machine's ops -/
def rvOf (op : Int) : Int := if op = 0 then 31 else if op = 1 then 32 else if op = 2 then 33 else if op = 3 then 21 else if op = 4 then 22 else if op = 5 then 23 else if op = 6 then 28 else if op = 7 then 24 else if op = 13 then 30 else if op = 14 then 26 else if op = 15 then 29 else 0
def rvHas (op : Int) : Bool := decide ((0 ≤ op ∧ op ≤ 7) ∨ (13 ≤ op ∧ op ≤ 15))
/-- impl.binRv holds its table: in every world in which that map is as it is here. -/
def BinRv (w : World) : Prop := ∃ bm es clock, w.cell? ⟨0, 0, none⟩ = some (.map (some bm)) ∧ w.heap[bm]? = some (.map es clock) ∧
  ∀ w' : World, w'.heap[bm]? = some (.map es clock) → ∀ op : Int, (Lit.int .i64 op).wf = true →
    (Instr.lookup 67 (.map (some bm)) (.int .i64 op) true).run Tryd.prog w' = .ok (.tuple #[.int .i64 (rvOf op), .bool (rvHas op)]) w'
theorem BinRv.ext {w w' : World} (h : BinRv w) (k : Ext w w') : BinRv w' := by
  obtain ⟨bm, es, clock, h1, h2, h3⟩ := h
  exact ⟨bm, es, clock, k.cell h1, by rw [k.block bm (Array.getElem?_eq_some_iff.1 h2).1]; exact h2, h3⟩
theorem i_Apply (op x y : Int) (w : World) (hM : BinRv w) (hop : (Lit.int .i64 op).wf = true) :
    Calls Tryd.prog 8 #[.int .i64 op, .int .i64 x, .int .i64 y] w (Same (.int .i64 (apM op x y)) w) := by
  obtain ⟨bm, es, clock, hc, hb, hl⟩ := hM
  have hrun := hl w hb op hop
  clear hl hb hop
  have ra := w32_range x
  have rb := w32_range y
  unfold apM
  go_enter Tryd.func8, Tryd.ntmps8
  go_wp2_with fail
  refine (i_wrap _ _).mono ?_; rintro e w' ⟨rfl, rfl⟩
  go_wp2_with fail
  refine (i_wrap _ _).mono ?_; rintro e w' ⟨rfl, rfl⟩
  generalize w32 x = a at *
  generalize w32 y = b at *
  have hcast : ∀ z : Int, -2147483648 ≤ z ∧ z ≤ 2147483647 → IntKind.u32.wrap z = u32 z := fun z _ => by simp [IntKind.wrap, IntKind.bits, IntKind.signed, u32]
  have rap := ra
  obtain ⟨ra1, ra2⟩ := ra
  have rbp := rb
  obtain ⟨rb1, rb2⟩ := rb
  by_cases hm : 8 ≤ op ∧ op ≤ 12
  · clear hrun
    obtain ⟨m1, m2⟩ := hm
    obtain ⟨k, rfl⟩ := Int.eq_ofNat_of_zero_le (show 0 ≤ op by omega)
    have : 8 ≤ k ∧ k ≤ 12 := by omega
    clear m1 m2
    match k, this with
    | 0, h | 1, h | 2, h | 3, h | 4, h | 5, h | 6, h | 7, h => omega
    | 8, _ | 9, _ | 10, _ | 11, _ | 12, _ =>
      go_wp2_with (go_at_call 28; refine (i_number _ _).mono ?_; rintro e w' ⟨rfl, rfl⟩)
      all_goals go_ret
      all_goals refine Same.int ?_
      all_goals simp [apW, b01, *]
    | k + 13, h => omega
  · have n8 : (op == 8) = false := by rw [beq_eq_false_iff_ne]; omega
    have n9 : (op == 9) = false := by rw [beq_eq_false_iff_ne]; omega
    have n10 : (op == 10) = false := by rw [beq_eq_false_iff_ne]; omega
    have n11 : (op == 11) = false := by rw [beq_eq_false_iff_ne]; omega
    have n12 : (op == 12) = false := by rw [beq_eq_false_iff_ne]; omega
    by_cases hh : rvHas op = true
    · rw [hh] at hrun
      have rv : (op, rvOf op) ∈ [((0 : Int), (31 : Int)), (3, 21), (4, 22), (7, 24), (13, 30), (14, 26), (15, 29)] ∨ (op, rvOf op) ∈ [((1 : Int), (32 : Int)), (2, 33)] ∨ (op, rvOf op) ∈ [((5 : Int), (23 : Int)), (6, 28)] := by
        have h2 := of_decide_eq_true hh
        have h3 : op = 0 ∨ op = 1 ∨ op = 2 ∨ op = 3 ∨ op = 4 ∨ op = 5 ∨ op = 6 ∨ op = 7 ∨ op = 13 ∨ op = 14 ∨ op = 15 := by omega
        rcases h3 with rfl | rfl | rfl | rfl | rfl | rfl | rfl | rfl | rfl | rfl | rfl <;> decide
      have hal : Calls Tryd.prog 29 #[.int .i64 (rvOf op), .int .u32 (u32 a), .int .u32 (u32 b)] w (AluPost op a b w) := by
        rcases rv with h | h | h
        · exact i_alu _ _ _ _ _ rap rbp h
        · exact i_alu_div _ _ _ _ _ rap rbp h
        · exact i_alu_sh _ _ _ _ _ rap rbp h
      have Hal := Lib.hid hal
      have ca := hcast a rap
      have cb := hcast b rbp
      clear hal rv hh hm hcast rap rbp
      go_wp2_with fail
      refine (Hal.out).mono ?_
      rintro e w' ⟨r, rfl, hr, rfl⟩
      have Hr := Lib.hid hr
      clear hr
      go_wp2
      go_ret
      refine Same.int ?_
      rw [← Hr.out]
      have := w32_range r
      exact w64_id ⟨by unfold w32 at this; omega, by unfold w32 at this; omega⟩
    · have hf : rvHas op = false := by simpa using hh
      rw [hf] at hrun
      have hz : apW op a b = 0 := by
        have h2 : ¬ ((0 ≤ op ∧ op ≤ 7) ∨ (13 ≤ op ∧ op ≤ 15)) := of_decide_eq_false hf
        unfold apW
        repeat rw [if_neg (by omega)]
      have Hz := Lib.hid hz
      clear hz hh hf hcast hm
      go_wp2
      go_ret
      exact Same.int Hz.out.symm

end Go.Proofs.YtnkkfkiedooijaaDoor
