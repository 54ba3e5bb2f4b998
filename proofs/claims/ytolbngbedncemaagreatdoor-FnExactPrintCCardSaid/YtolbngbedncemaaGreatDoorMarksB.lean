/- The laws' eqByteS, markByteS, heldByteS. -/
import Derived.Test.YtolbngbedncemaaGreatDoorMarksT
import Derived.Test.YtolbngbedncemaaGreatDoorImPC
set_option linter.unusedVariables false
set_option linter.unusedSimpArgs false
namespace Go.Proofs.YtolbngbedncemaaGreatDoor
open Go Go.RowKit Md

theorem RowB.at_ {w : World} {base g c n : Nat} {xs : List UInt8} (h : w.ownsRow base 5 1 (.slice (some ⟨g, 0, none⟩) n c) n (Lib.byteCells xs)) {i : Nat} {x : UInt8} (hi : xs[i]? = some x) : w.cell? ⟨g, i, none⟩ = some (.int .u8 x.toNat) ∧ w.frozen? ⟨g, i, none⟩ = false :=
  rw_at h (by rw [Lib.byteCells, List.getElem?_map, hi]; rfl)
theorem RowB.sl {w : World} {base : Nat} {v : Value} {xs : List UInt8} (h : RowB w base v xs) : SlB w v xs := by
  obtain ⟨h1, h2⟩ := h
  rcases h2 with ⟨rfl, h3⟩ | ⟨g, cap, cur, rfl, hg, hh, h4, h5, h6, h7⟩
  · obtain rfl : xs = [] := List.eq_nil_of_length_eq_zero h3
    exact Sl.nil _ _ _ _
  · refine ⟨some ⟨g, 0, none⟩, cap, rfl, by omega, by omega, fun hp => ⟨g, 0, rfl, trivial, fun i hi => ⟨[.int .u8 xs[i].toNat], rfl, rfl, fun q u hu => ?_⟩⟩⟩
    have hq : q = 0 := by
      have := (List.getElem?_eq_some_iff.1 hu).1
      simp at this; omega
    subst hq
    simp only [List.getElem?_cons_zero, Option.some.injEq] at hu
    subst hu
    have := (RowB.at_ (w := w) (base := base) (g := g) (c := cap) (n := xs.length) ⟨h1, .inr ⟨g, cap, cur, rfl, hg, hh, h4, h5, h6, h7⟩⟩ (List.getElem?_eq_getElem hi)).1
    simpa using this
set_option maxHeartbeats 1000000 in
theorem e_Byte (xs : List UInt8) (v0 v1 : Value) (w : World) (h0 : SlB w v0 xs) (h1 : SlB w v1 xs) :
    Calls Tryz.prog 11 #[v0, v1] w (Gives (.bool true) w) := by
  obtain ⟨a0, n, c0, rfl, HN, hl0, hc0, hel0⟩ := h0.op
  obtain ⟨a1, n1, c1, rfl, HN1, hl1, hc1, hel1⟩ := h1.op
  obtain rfl : n1 = n := by have := HN.out; have := HN1.out; omega
  clear h0 h1
  go_enter Tryz.func11, Tryz.ntmps11
  go_wp2
  go_loopw [5] (fun i wr => ∃ k : Nat, k ≤ n1 ∧ i = .int .i64 k ∧ Ext w wr) (fun i _ => n1 - (intOf i).toNat)
  case atStart => exact ⟨0, Nat.zero_le _, rfl, Ext.refl w⟩
  case round =>
    obtain ⟨k, hk, rfl, hX⟩ := hrel
    by_cases hlt : k < n1
    · obtain ⟨b0, o0, rfl, _, he0⟩ := hel0 (by omega)
      obtain ⟨b1, o1, rfl, _, he1⟩ := hel1 (by omega)
      obtain ⟨x, cs, hx, _, rfl, hcs⟩ := he0 k hlt
      obtain ⟨x', cs', hx', _, rfl, hcs'⟩ := he1 k hlt
      obtain rfl : x = x' := Option.some.inj (hx.symm.trans hx')
      have q0 := hX.cell (hcs.z rfl)
      have q1 := hX.cell (hcs'.z rfl)
      simp only [Nat.mul_one] at q0 q1
      have z0 : (0 : Int) ≤ (k : Int) := by omega
      have z1 : (k : Int) < (n1 : Int) := by omega
      clear hx hx' he0 he1 hcs hcs'
      go_wp2_with fail
      go_quiet (fail)
      go_wp2
      go_roundw
      case rel => exact ⟨k + 1, by omega, by go_num, hX.trans (drewN_ext _ _)⟩
      case measure => simp [intOf]; omega
    · go_wp2
      go_ret
      exact Gives.bool rfl hX
theorem u8wrap (m : Nat) : IntKind.u8.wrap (m : Int) = ((UInt8.ofNat m).toNat : Int) := by
  have h : (UInt8.ofNat m).toNat = m % 256 := by simp
  rw [IntKind.wrap_u8, h]
  omega
/-- k, k + 1, .. as bytes -/
def marksB (k n : Nat) : List UInt8 := (List.range n).map fun i => UInt8.ofNat (k + i)
theorem marksB_at {k n i : Nat} (h : i < n) : (marksB k n)[i]? = some (UInt8.ofNat (k + i)) := by simp [marksB, h]
/-- The first q marked. -/
def markedB (k q : Nat) (xs : List UInt8) : List UInt8 := marksB k q ++ xs.drop q
theorem markedB_len {k q : Nat} {xs : List UInt8} (h : q ≤ xs.length) : (markedB k q xs).length = xs.length := by simp [markedB, marksB]; omega
theorem markedB_set {k q : Nat} {xs : List UInt8} (h : q < xs.length) : (markedB k q xs).set q (UInt8.ofNat (k + q)) = markedB k (q + 1) xs := by
  have hl : (marksB k q).length = q := by simp [marksB]
  have e1 : marksB k (q + 1) = marksB k q ++ [UInt8.ofNat (k + q)] := by simp [marksB, List.range_succ]
  unfold markedB
  rw [e1, List.set_append_right _ _ (by omega), hl, Nat.sub_self, List.drop_eq_getElem_cons h, List.set_cons_zero, List.append_assoc]
  rfl
theorem markedB_all {k : Nat} {xs : List UInt8} : markedB k xs.length xs = marksB k xs.length := by simp [markedB]

set_option maxHeartbeats 1000000 in
theorem m_Byte (xs : List UInt8) (v : Value) (base k : Nat) (ki : Int) (hki : ki = k) (w : World) (h : RowB w base v xs) (hk : k + xs.length ≤ 1000000000) :
    Calls Tryz.prog 14 #[v, .int .i64 ki] w (fun e w' => e = .returned (.int .i64 ((k + xs.length : Nat) : Int)) ∧ RowB w' base v (marksB k xs.length) ∧ Below base w w') := by
  subst hki
  obtain ⟨n, hn⟩ : ∃ n, n = xs.length := ⟨_, rfl⟩
  have hRet : ∀ w', RowB w' base v (marksB k xs.length) ↔ w'.ownsRow base 5 1 v n (Lib.byteCells (marksB k n)) := fun w' => by
    have : (marksB k xs.length).length = xs.length := by simp [marksB]
    unfold RowB
    rw [this, ← hn]
  have HR := Lib.hid hRet
  rw [RowB, ← hn] at h
  obtain ⟨a, c, rfl⟩ := rw_form0 h
  have H0 := Lib.hid h
  have HN := Lib.hid hn
  have HK : Hid (k + n ≤ 1000000000) := by rw [hn]; exact hk
  clear h hn hk hRet
  go_enter Tryz.func14, Tryz.ntmps14
  go_wp2
  go_loopw [1, 5] (fun m i wr => ∃ q J : Nat, q ≤ n ∧ m = .int .i64 (J : Int) ∧ Hid (J = k + q) ∧ i = .int .i64 q ∧ Hid (wr.ownsRow base 5 1 (.slice a n c) n (Lib.byteCells (markedB k q xs))) ∧ Below base w wr) (fun _ i _ => n - (intOf i).toNat)
  case atStart => exact ⟨0, k, Nat.zero_le _, rfl, rfl, rfl, H0.out, Below.refl _ _⟩
  case round =>
    obtain ⟨q, J, hq, rfl, HJ, rfl, HO, hB⟩ := hrel
    by_cases hlt : q < n
    · obtain ⟨g0, d0, e0, hg, _, hl0, hm0⟩ := rw_form HO.out (by omega)
      obtain ⟨rfl, rfl⟩ : some ⟨g0, 0, none⟩ = a ∧ d0 = c := by cases e0; exact ⟨rfl, rfl⟩
      have hql : q < xs.length := by have := HN.out; omega
      obtain ⟨y, hy⟩ : ∃ y, (markedB k q xs)[q]? = some y := ⟨(markedB k q xs)[q]'(by rw [markedB_len (by omega)]; exact hql), List.getElem?_eq_getElem _⟩
      obtain ⟨q0, q1⟩ := RowB.at_ HO.out hy
      have hS := rw_set HO.out hlt (.int .u8 ((UInt8.ofNat (k + q)).toNat : Int))
      have hmap : (Lib.byteCells (markedB k q xs)).set q (.int .u8 ((UInt8.ofNat (k + q)).toNat : Int)) = Lib.byteCells (markedB k (q + 1) xs) := by
        rw [← markedB_set hql, Lib.byteCells, Lib.byteCells, List.map_set]
      rw [hmap] at hS
      have hby : IntKind.u8.wrap (J : Int) = ((UInt8.ofNat (k + q)).toNat : Int) := by
        rw [HJ.out]
        exact u8wrap _
      have HS := Lib.hid hS
      have HBl := Lib.hid (Below.setCell hB (p := ⟨g0, q, none⟩) hg (.int .u8 ((UInt8.ofNat (k + q)).toNat : Int)))
      have z0 : (0 : Int) ≤ (q : Int) := by omega
      have z1 : (q : Int) < (n : Int) := by omega
      obtain ⟨J1, hJ1⟩ : ∃ J1 : Nat, J1 = J + 1 := ⟨_, rfl⟩
      have p0 := nx hJ1 (by have := HJ.out; have := HK.out; omega)
      have HJ1 := Lib.hid hJ1
      clear e0 hy hS hJ1 hql hmap
      go_wp2
      go_roundw
      case rel => exact ⟨q + 1, J1, by omega, by rw [p0], by have := HJ.out; have := HJ1.out; show _ = _; omega, by go_num, HS.out, HBl.out⟩
      case measure => simp [intOf]; omega
    · obtain rfl : n = q := by omega
      have h1 : markedB k n xs = marksB k n := by rw [HN.out]; exact markedB_all
      have hO := HO.out
      rw [h1] at hO
      have HO2 := Lib.hid hO
      clear h1 hO
      go_wp2
      go_ret
      exact ⟨by rw [HJ.out, HN.out]; rfl, (HR.out _).2 HO2.out, hB⟩

set_option maxHeartbeats 1000000 in
theorem h_Byte (n : Nat) (v : Value) (base k : Nat) (ki : Int) (hki : ki = k) (w : World) (h : RowB w base v (marksB k n)) (hk : k + n ≤ 1000000000) :
    Calls Tryz.prog 15 #[v, .int .i64 ki] w (Gives (.int .i64 ((k + n : Nat) : Int)) w) := by
  subst hki
  have hl : (marksB k n).length = n := by simp [marksB]
  rw [RowB, hl] at h
  obtain ⟨a, c, rfl⟩ := rw_form0 h
  have H0 := Lib.hid h
  have HK := Lib.hid hk
  clear h hl hk
  go_enter Tryz.func15, Tryz.ntmps15
  go_wp2
  go_loopw [1, 5] (fun m i wr => ∃ q J : Nat, q ≤ n ∧ m = .int .i64 (J : Int) ∧ Hid (J = k + q) ∧ i = .int .i64 q ∧ Ext w wr) (fun _ i _ => n - (intOf i).toNat)
  case atStart => exact ⟨0, k, Nat.zero_le _, rfl, rfl, rfl, Ext.refl _⟩
  case round =>
    obtain ⟨q, J, hq, rfl, HJ, rfl, hX⟩ := hrel
    by_cases hlt : q < n
    · obtain ⟨g0, d0, e0, hg, _, hl0, hm0⟩ := rw_form H0.out (by omega)
      obtain ⟨rfl, rfl⟩ : some ⟨g0, 0, none⟩ = a ∧ d0 = c := by cases e0; exact ⟨rfl, rfl⟩
      have q0 := hX.cell (RowB.at_ H0.out (marksB_at hlt)).1
      have hby : IntKind.u8.wrap (J : Int) = ((UInt8.ofNat (k + q)).toNat : Int) := by
        rw [HJ.out]
        exact u8wrap _
      have z0 : (0 : Int) ≤ (q : Int) := by omega
      have z1 : (q : Int) < (n : Int) := by omega
      obtain ⟨J1, hJ1⟩ : ∃ J1 : Nat, J1 = J + 1 := ⟨_, rfl⟩
      have p0 := nx hJ1 (by have := HJ.out; have := HK.out; omega)
      have HJ1 := Lib.hid hJ1
      clear e0 hJ1
      go_wp2
      go_roundw
      case rel => exact ⟨q + 1, J1, by omega, by rw [p0], by have := HJ.out; have := HJ1.out; show _ = _; omega, by go_num, hX⟩
      case measure => simp [intOf]; omega
    · obtain rfl : n = q := by omega
      go_wp2
      go_ret
      exact ⟨by rw [HJ.out]; rfl, hX⟩
end Go.Proofs.YtolbngbedncemaaGreatDoor
