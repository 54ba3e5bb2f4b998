/- The reference's l2Held, l2Strength, l2Word answer as the model. -/
import Derived.Test.YtolbngbedncemaaGreatDoorSpecKids
import Derived.Test.YtolbngbedncemaaGreatDoorSpDig
import Derived.Test.YtolbngbedncemaaGreatDoorMdPrintL
set_option linter.unusedVariables false
set_option linter.unusedSimpArgs false
namespace Go.Proofs.YtolbngbedncemaaGreatDoor
open Go Go.RowKit Md Go.Proofs.YtolbngbedncemaaGreatDoorW.PrintLast

theorem str_size (l : List UInt8) : (str l).size = l.length := rfl
theorem str_data (s : ByteArray) : str s.data.toList = s := by
  unfold str
  apply ByteArray.ext
  simp
set_option maxRecDepth 1000000 in
theorem c_l2Held (l : List UInt8) (b : Bool) (w : World) (hl : l.length ≤ 1000000) : Calls Tryz.prog 109 #[.string (str l), .bool b] w (Same (.string (str (heldT l b))) w) := by
  obtain ⟨s, hs⟩ : ∃ s, s = str l := ⟨_, rfl⟩
  have hz : s.size ≤ 1000000 := by rw [hs, str_size]; exact hl
  cases b with
  | true =>
    have Hf : Hid (str [40] ++ s ++ str [41] = str (heldT l true)) := by
      show _ = _
      rw [hs, str_append, str_append]
      rfl
    rw [← hs]
    have h1 : ¬ 9223372036854775807 < 1 + s.size := by omega
    have h2 : ¬ 9223372036854775807 < 1 + s.size + 1 := by omega
    clear hs
    go_enter Tryz.func109, Tryz.ntmps109
    go_wp2
    go_ret
    exact ⟨by show Ending.returned (Value.string _) = _; rw [← Hf.out]; rfl, rfl⟩
  | false =>
    have Hf : Hid (s = str (heldT l false)) := hs
    rw [← hs]
    clear hs
    go_enter Tryz.func109, Tryz.ntmps109
    go_wp2
    go_ret
    exact ⟨by show Ending.returned (Value.string _) = _; rw [← Hf.out], rfl⟩
set_option maxRecDepth 1000000 in
set_option maxHeartbeats 8000000 in
theorem c_l2Strength (n : PNode) (w : World) (h : n.kind = 7 → 0 ≤ n.val ∧ n.val ≤ 15) : Calls Tryz.prog 110 #[.agg #[.int .i64 n.kind, .int .i64 n.val, .string n.name]] w (Gives (.int .i64 (strong n : Nat)) w) := by
  obtain ⟨k, v, nm⟩ := n
  simp only at h ⊢
  obtain ⟨R, hR⟩ : ∃ R, R = strong ⟨k, v, nm⟩ := ⟨_, rfl⟩
  rw [← hR]
  unfold strong at hR
  simp only at hR
  have HR := Lib.hid hR
  clear hR
  by_cases h9 : k = 9
  · subst h9
    have HR2 : Hid (R = 1) := HR.out
    clear HR h
    go_enter Tryz.func110, Tryz.ntmps110
    go_wp2
    go_ret
    exact Gives.int (by rw [HR2.out]; rfl) ((Ext.refl w).alloc _)
  by_cases h8 : k = 8
  · subst h8
    have HR2 : Hid (R = 2) := HR.out
    clear HR h
    go_enter Tryz.func110, Tryz.ntmps110
    go_wp2
    go_ret
    exact Gives.int (by rw [HR2.out]; rfl) ((Ext.refl w).alloc _)
  by_cases h7 : k = 7
  · subst h7
    have hv : v = 0 ∨ v = 1 ∨ v = 2 ∨ v = 3 ∨ v = 4 ∨ v = 5 ∨ v = 6 ∨ v = 7 ∨ v = 8 ∨ v = 9 ∨ v = 10 ∨ v = 11 ∨ v = 12 ∨ v = 13 ∨ v = 14 ∨ v = 15 := by have := h rfl; omega
    clear h
    rcases hv with rfl | rfl | rfl | rfl | rfl | rfl | rfl | rfl | rfl | rfl | rfl | rfl | rfl | rfl | rfl | rfl
    all_goals
      go_enter Tryz.func110, Tryz.ntmps110
      go_wp2
      go_ret
      exact Gives.int (by rw [HR.out]; rfl) (((Ext.refl w).alloc _).alloc _)
  · have HR2 : Hid (R = 11) := by
      show _ = _
      rw [HR.out, if_neg h9, if_neg h8, if_neg h7]
    clear HR h
    go_enter Tryz.func110, Tryz.ntmps110
    go_wp2
    go_ret
    exact Gives.int (by rw [HR2.out]; rfl) ((Ext.refl w).alloc _)
set_option maxRecDepth 1000000 in
theorem c_l2Ops (w : World) : Calls Tryz.prog 152 #[] w (fun e w' => e = .returned (.slice (some ⟨w.heap.size, 0, none⟩) 16 16) ∧ w' = w.alloc (.cells #[.string ⟨#[42]⟩, .string ⟨#[47]⟩, .string ⟨#[37]⟩, .string ⟨#[43]⟩, .string ⟨#[45]⟩, .string ⟨#[60, 60]⟩, .string ⟨#[62, 62]⟩, .string ⟨#[60]⟩, .string ⟨#[60, 61]⟩, .string ⟨#[62]⟩, .string ⟨#[62, 61]⟩, .string ⟨#[61, 61]⟩, .string ⟨#[33, 61]⟩, .string ⟨#[38]⟩, .string ⟨#[94]⟩, .string ⟨#[124]⟩] 9)) := by
  go_enter Tryz.func152, Tryz.ntmps152
  go_wp2
  go_ret
  exact ⟨rfl, rfl⟩
set_option maxRecDepth 1000000 in
set_option maxHeartbeats 16000000 in
theorem c_l2Word (n : PNode) (w : World) (h : n.kind = 7 ∨ n.kind = 8 ∨ n.kind = 9) (hv : n.kind = 7 → 0 ≤ n.val ∧ n.val ≤ 15) : Calls Tryz.prog 111 #[.agg #[.int .i64 n.kind, .int .i64 n.val, .string n.name]] w (Gives (.string (str (opWord n))) w) := by
  obtain ⟨k, v, nm⟩ := n
  simp only at h hv
  obtain ⟨R, hR⟩ : ∃ R, R = str (opWord ⟨k, v, nm⟩) := ⟨_, rfl⟩
  rw [← hR]
  have HR := Lib.hid hR
  clear hR
  rcases h with rfl | rfl | rfl
  · have h16 : v = 0 ∨ v = 1 ∨ v = 2 ∨ v = 3 ∨ v = 4 ∨ v = 5 ∨ v = 6 ∨ v = 7 ∨ v = 8 ∨ v = 9 ∨ v = 10 ∨ v = 11 ∨ v = 12 ∨ v = 13 ∨ v = 14 ∨ v = 15 := by have := hv rfl; omega
    clear hv
    have BN := Blk.alloc w 56 #[.int .i64 7, .int .i64 v, .string nm]
    have X1 : Ext w (w.alloc (.cells #[.int .i64 7, .int .i64 v, .string nm] 56)) := (Ext.refl w).alloc _
    generalize hw1 : w.alloc (.cells #[.int .i64 7, .int .i64 v, .string nm] 56) = w1 at BN X1
    have b0 : w1.cell? ⟨w.heap.size, 0, none⟩ = some (.int .i64 7) := (BN.cell 0).trans rfl
    have b1 : w1.cell? ⟨w.heap.size, 1, none⟩ = some (.int .i64 v) := (BN.cell 1).trans rfl
    have HX1 := Lib.hid X1
    have Xd : Ext w1 w1.drew := (Ext.refl w1).drew
    go_enter Tryz.func111, Tryz.ntmps111
    go_wp2_with fail
    clear hw1
    refine start_ (n := 6) (S := fun w' => w'.cell? ⟨w.heap.size, 1, none⟩ = some (.int .i64 v)) (ds := []) #[false, false, false, false, false, false] (by kernel_rfl) rfl rfl ?hS (fun hHeld => ?_)
    case hS => exact Xd.cell b1
    refine pure_ (i := 1) (N := some 10) (v := ?_) (a' := ?_) #[false, true, false, false, false, false] rfl rfl (by kernel_rfl) (fun _ _ _ h => h) (Or.inl ⟨by rfl, ?_⟩) ?_ ?_
    rotate_left
    · intro w'
      go_simp
      with_reducible rfl
    rotate_left
    · simp only [Act.put, List.setIfInBounds_toArray, List.set_cons_zero, List.set_cons_succ, i64_w, i32_w]
      rfl
    refine take_ (i := 2) (N := some 11) (v := ?_) (a' := ?_) #[false, true, true, false, false, false] rfl rfl (by kernel_rfl) (fun _ _ _ h => h) (Or.inl ⟨by rfl, ?_⟩) hHeld ?_ ?_
    rotate_left
    · rintro w' s0
      go_simp
      with_reducible rfl
    rotate_left
    · simp only [Act.put, List.setIfInBounds_toArray, List.set_cons_zero, List.set_cons_succ, i64_w, i32_w]
      rfl
    generalize w1.drew = wd at Xd hHeld ⊢
    refine one_ (i := 0) (N := some 9) #[true, true, true, false, false, false] rfl rfl (by kernel_rfl) (by decide) (fun K hK => ?_)
    refine goes_ (N := some 9) Tryz.func152 (by kernel_rfl) rfl #[] (by rfl) rfl rfl (by simp [Act.eval]) ?_
    refine (c_l2Ops wd).mono ?_
    rintro e w2 ⟨rfl, rfl⟩
    refine ⟨_, rfl, ?_⟩
    have X2 : Ext wd (wd.alloc (.cells #[.string ⟨#[42]⟩, .string ⟨#[47]⟩, .string ⟨#[37]⟩, .string ⟨#[43]⟩, .string ⟨#[45]⟩, .string ⟨#[60, 60]⟩, .string ⟨#[62, 62]⟩, .string ⟨#[60]⟩, .string ⟨#[60, 61]⟩, .string ⟨#[62]⟩, .string ⟨#[62, 61]⟩, .string ⟨#[61, 61]⟩, .string ⟨#[33, 61]⟩, .string ⟨#[38]⟩, .string ⟨#[94]⟩, .string ⟨#[124]⟩] 9)) := (Ext.refl wd).alloc _
    have BO := Blk.alloc wd 9 #[.string ⟨#[42]⟩, .string ⟨#[47]⟩, .string ⟨#[37]⟩, .string ⟨#[43]⟩, .string ⟨#[45]⟩, .string ⟨#[60, 60]⟩, .string ⟨#[62, 62]⟩, .string ⟨#[60]⟩, .string ⟨#[60, 61]⟩, .string ⟨#[62]⟩, .string ⟨#[62, 61]⟩, .string ⟨#[61, 61]⟩, .string ⟨#[33, 61]⟩, .string ⟨#[38]⟩, .string ⟨#[94]⟩, .string ⟨#[124]⟩]
    refine hK.out _ _ (X2.cell hHeld) (fun hHeld => ?_)
    clear hK K
    refine norm_ (a' := ?_) ?_ ?_
    rotate_left
    · show Act.put _ (some 9) _ = _
      simp only [Act.put, List.setIfInBounds_toArray, List.set_cons_zero, List.set_cons_succ, i64_w, i32_w]
      rfl
    generalize wd.alloc (.cells #[.string ⟨#[42]⟩, .string ⟨#[47]⟩, .string ⟨#[37]⟩, .string ⟨#[43]⟩, .string ⟨#[45]⟩, .string ⟨#[60, 60]⟩, .string ⟨#[62, 62]⟩, .string ⟨#[60]⟩, .string ⟨#[60, 61]⟩, .string ⟨#[62]⟩, .string ⟨#[62, 61]⟩, .string ⟨#[61, 61]⟩, .string ⟨#[33, 61]⟩, .string ⟨#[38]⟩, .string ⟨#[94]⟩, .string ⟨#[124]⟩] 9) = w2 at X2 BO hHeld ⊢
    have HX2 : Hid (Ext w w2) := HX1.out.trans (Xd.trans X2)
    clear X2 b0 b1 X1 Xd BN
    rcases h16 with rfl | rfl | rfl | rfl | rfl | rfl | rfl | rfl | rfl | rfl | rfl | rfl | rfl | rfl | rfl | rfl
    all_goals
      refine pure_ (i := 3) (N := some 12) (v := ?_) (a' := ?_) #[true, true, true, true, false, false] rfl rfl (by kernel_rfl) (fun _ _ _ h => h) (Or.inl ⟨by rfl, ?_⟩) ?_ ?_
      rotate_left
      · intro w'
        go_simp
        with_reducible rfl
      rotate_left
      · simp only [Act.put, List.setIfInBounds_toArray, List.set_cons_zero, List.set_cons_succ, i64_w, i32_w]
        rfl
      refine one_ (i := 4) (N := some 13) #[true, true, true, true, true, false] rfl rfl (by kernel_rfl) (by decide) (fun K hK => ?_)
      refine value_ (w1 := w2) (v := .string R) (by rfl) rfl (by
        rw [HR.out]
        go_simp
        rw [BO.cell]
        rfl) ?_
      refine hK.out _ _ hHeld (fun hHeld => ?_)
      clear hK K
      refine norm_ (a' := ?_) ?_ ?_
      rotate_left
      · show Act.put _ (some 13) _ = _
        simp only [Act.put, List.setIfInBounds_toArray, List.set_cons_zero, List.set_cons_succ, i64_w, i32_w]
        rfl
      refine pure_ (i := 5) (N := some 2) (v := ?_) (a' := ?_) #[true, true, true, true, true, true] rfl rfl (by kernel_rfl) (fun _ _ _ h => h) (Or.inl ⟨by rfl, ?_⟩) ?_ ?_
      rotate_left
      · intro w'
        go_simp
        with_reducible rfl
      rotate_left
      · simp only [Act.put, List.setIfInBounds_toArray, List.set_cons_zero, List.set_cons_succ, i64_w, i32_w]
        rfl
      refine done_ (by kernel_rfl) ?_
      clear hHeld BO
      go_wp2
      go_ret
      exact ⟨rfl, HX2.out⟩
  · go_enter Tryz.func111, Tryz.ntmps111
    go_wp2
    go_ret
    exact ⟨by rw [HR.out]; rfl, (Ext.refl w).alloc _⟩
  · go_enter Tryz.func111, Tryz.ntmps111
    go_wp2
    go_ret
    exact ⟨by rw [HR.out]; rfl, (Ext.refl w).alloc _⟩
end Go.Proofs.YtolbngbedncemaaGreatDoor
