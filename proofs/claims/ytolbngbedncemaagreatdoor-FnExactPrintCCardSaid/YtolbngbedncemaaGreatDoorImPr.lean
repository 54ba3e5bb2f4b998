/- The program's printer of expressions: binOf, strength, print, text answer as the model. -/
import Derived.Test.YtolbngbedncemaaGreatDoorLibC
import Derived.Test.YtolbngbedncemaaGreatDoorMdPrI
import Derived.Test.YtolbngbedncemaaGreatDoorPtr
import Derived.Test.YtolbngbedncemaaGreatDoorSpPrint
import Derived.Defers
set_option linter.unusedVariables false
set_option linter.unusedSimpArgs false
namespace Go.Proofs.YtolbngbedncemaaGreatDoor
open Go Go.RowKit Md Go.Proofs.YtolbngbedncemaaGreatDoorW.PrintLast

def encOp (o : Op3) : List Value := [.string (str o.sign), .int .i64 o.str, .int .i64 o.kind, .int .i64 o.val, .string ⟨#[]⟩]
/-- impl.binOps and impl.unSigns as the program's text lays them. -/
def OpsAt (w : World) : Prop := ∃ b o c, w.cell? ⟨5, 0, none⟩ = some (.slice (some ⟨b, o, none⟩) 18 c) ∧ 18 ≤ c ∧ c ≤ 9223372036854775807 ∧ ∀ j x, opTab[j]? = some x → Cells w b (o + j * 5) (encOp x)
def UnAtG (w : World) : Prop := Cells w 3 0 [.string ⟨#[45]⟩, .string ⟨#[33]⟩, .string ⟨#[126]⟩]
theorem OpsAt.ext {w w' : World} (h : OpsAt w) (k : Ext w w') : OpsAt w' := by
  obtain ⟨b, o, c, h1, h2, h3, h4⟩ := h
  exact ⟨b, o, c, k.cell h1, h2, h3, fun j x hx => (h4 j x hx).ext k⟩
theorem opTab_len : opTab.length = 18 := rfl
theorem ifRes (b : Bool) (w : World) : (if b = true then Result.ok (Next.value (Value.bool true)) w else Result.ok (Next.value (Value.bool false)) w) = Result.ok (Next.value (Value.bool b)) w := by cases b <;> rfl
theorem eqRes {α : Type} (n : PNode) (x : Op3) (a b : α) : (if x.kind = n.kind then if x.val = n.val then if n.name.toList = [] then a else b else b else b) = if opIs n x = true then a else b := by
  have h := toList_nil n.name
  have e : n.name.toList = [] ↔ n.name.size = 0 := by rw [← beq_iff_eq (a := n.name.size), ← h, beq_iff_eq]
  unfold opIs
  by_cases h1 : x.kind = n.kind <;> by_cases h2 : x.val = n.val <;> by_cases h3 : n.name.size = 0 <;> simp [h1, h2, h3, e]
set_option maxRecDepth 100000 in
theorem pr_strength (n : PNode) (b bx : Nat) (w : World) (hx : w.cell? ⟨bx, 0, none⟩ = some (.pointer (some ⟨b, 0, none⟩))) (h0 : w.cell? ⟨b, 0, none⟩ = some (.int .i64 n.kind)) (h1 : w.cell? ⟨b, 1, none⟩ = some (.int .i64 n.val)) (h2 : w.cell? ⟨b, 2, none⟩ = some (.string n.name)) :
    PredBelow Tryz.prog 193 #[.pointer (some ⟨bx, 0, none⟩)] (fun x => .agg (encOp x).toArray) (opIs n) w := fun W x hb => by
  have H := Ext.cell hb hx
  have H0 := Ext.cell hb h0
  have H1 := Ext.cell hb h1
  have H2 := Ext.cell hb h2
  show Calls Tryz.prog 193 #[.agg #[.string (str x.sign), .int .i64 x.str, .int .i64 x.kind, .int .i64 x.val, .string ⟨#[]⟩], .pointer (some ⟨bx, 0, none⟩)] W _
  have B1 := Blk.alloc W 234 #[.string (str x.sign), .int .i64 x.str, .int .i64 x.kind, .int .i64 x.val, .string ⟨#[]⟩]
  have X1 : Ext W (W.alloc (.cells #[.string (str x.sign), .int .i64 x.str, .int .i64 x.kind, .int .i64 x.val, .string ⟨#[]⟩] 234)) := (Ext.refl W).alloc _
  have HX := Lib.hid (hb.alloc hb.size (.cells #[.string (str x.sign), .int .i64 x.str, .int .i64 x.kind, .int .i64 x.val, .string ⟨#[]⟩] 234))
  have c2 : (W.alloc (.cells #[.string (str x.sign), .int .i64 x.str, .int .i64 x.kind, .int .i64 x.val, .string ⟨#[]⟩] 234)).cell? ⟨W.heap.size, 2, none⟩ = some (.int .i64 x.kind) := (B1.cell 2).trans rfl
  have c3 : (W.alloc (.cells #[.string (str x.sign), .int .i64 x.str, .int .i64 x.kind, .int .i64 x.val, .string ⟨#[]⟩] 234)).cell? ⟨W.heap.size, 3, none⟩ = some (.int .i64 x.val) := (B1.cell 3).trans rfl
  have c4 : (W.alloc (.cells #[.string (str x.sign), .int .i64 x.str, .int .i64 x.kind, .int .i64 x.val, .string ⟨#[]⟩] 234)).cell? ⟨W.heap.size, 4, none⟩ = some (.string ⟨#[]⟩) := (B1.cell 4).trans rfl
  replace H := X1.cell H
  replace H0 := X1.cell H0
  replace H1 := X1.cell H1
  replace H2 := X1.cell H2
  clear hb h0 h1 h2 hx B1 X1
  go_enter Tryz.func193, Tryz.ntmps193
  go_wp2_with fail
  have Xd : Ext (W.alloc (.cells #[.string (str x.sign), .int .i64 x.str, .int .i64 x.kind, .int .i64 x.val, .string ⟨#[]⟩] 234)) (W.alloc (.cells #[.string (str x.sign), .int .i64 x.str, .int .i64 x.kind, .int .i64 x.val, .string ⟨#[]⟩] 234)).drew := (Ext.refl _).drew
  refine start_ (n := 8) (S := fun w' => w'.cell? ⟨W.heap.size, 2, none⟩ = some (.int .i64 x.kind) ∧ w'.cell? ⟨W.heap.size, 3, none⟩ = some (.int .i64 x.val) ∧ w'.cell? ⟨W.heap.size, 4, none⟩ = some (.string ⟨#[]⟩) ∧ w'.cell? ⟨bx, 0, none⟩ = some (.pointer (some ⟨b, 0, none⟩)) ∧ w'.cell? ⟨b, 0, none⟩ = some (.int .i64 n.kind) ∧ w'.cell? ⟨b, 1, none⟩ = some (.int .i64 n.val) ∧ w'.cell? ⟨b, 2, none⟩ = some (.string n.name)) (ds := []) #[false, false, false, false, false, false, false, false] (by kernel_rfl) rfl rfl ?hS (fun hHeld => ?_)
  case hS => exact ⟨Xd.cell c2, Xd.cell c3, Xd.cell c4, Xd.cell H, Xd.cell H0, Xd.cell H1, Xd.cell H2⟩
  refine pure_ (i := 0) (N := some 4) (v := ?_) (a' := ?_) #[true, false, false, false, false, false, false, false] rfl rfl (by kernel_rfl) (fun _ _ _ h => h) (Or.inl ⟨by rfl, ?_⟩) ?_ ?_
  rotate_left
  · intro w'
    go_simp
    with_reducible rfl
  rotate_left
  · simp only [Act.put, List.setIfInBounds_toArray, List.set_cons_zero, List.set_cons_succ, i64_w, i32_w]
    rfl
  refine take_ (i := 1) (N := some 5) (v := ?_) (a' := ?_) #[true, true, false, false, false, false, false, false] rfl rfl (by kernel_rfl) (fun _ _ _ h => h) (Or.inl ⟨by rfl, ?_⟩) hHeld ?_ ?_
  rotate_left
  · rintro w' ⟨y0, y1, y2, y3, y4, y5, y6⟩
    go_simp
    with_reducible rfl
  rotate_left
  · simp only [Act.put, List.setIfInBounds_toArray, List.set_cons_zero, List.set_cons_succ, i64_w, i32_w]
    rfl
  refine take_ (i := 2) (N := some 6) (v := ?_) (a' := ?_) #[true, true, true, false, false, false, false, false] rfl rfl (by kernel_rfl) (fun _ _ _ h => h) (Or.inl ⟨by rfl, ?_⟩) hHeld ?_ ?_
  rotate_left
  · rintro w' ⟨y0, y1, y2, y3, y4, y5, y6⟩
    go_simp
    with_reducible rfl
  rotate_left
  · simp only [Act.put, List.setIfInBounds_toArray, List.set_cons_zero, List.set_cons_succ, i64_w, i32_w]
    rfl
  refine pure_ (i := 3) (N := some 7) (v := ?_) (a' := ?_) #[true, true, true, true, false, false, false, false] rfl rfl (by kernel_rfl) (fun _ _ _ h => h) (Or.inl ⟨by rfl, ?_⟩) ?_ ?_
  rotate_left
  · intro w'
    go_simp
    with_reducible rfl
  rotate_left
  · simp only [Act.put, List.setIfInBounds_toArray, List.set_cons_zero, List.set_cons_succ, i64_w, i32_w]
    rfl
  refine pure_ (i := 4) (N := some 8) (v := ?_) (a' := ?_) #[true, true, true, true, true, false, false, false] rfl rfl (by kernel_rfl) (fun _ _ _ h => h) (Or.inl ⟨by rfl, ?_⟩) ?_ ?_
  rotate_left
  · intro w'
    go_simp
    with_reducible rfl
  rotate_left
  · simp only [Act.put, List.setIfInBounds_toArray, List.set_cons_zero, List.set_cons_succ, i64_w, i32_w]
    rfl
  refine take_ (i := 5) (N := some 9) (v := ?_) (a' := ?_) #[true, true, true, true, true, true, false, false] rfl rfl (by kernel_rfl) (fun _ _ _ h => h) (Or.inl ⟨by rfl, ?_⟩) hHeld ?_ ?_
  rotate_left
  · rintro w' ⟨y0, y1, y2, y3, y4, y5, y6⟩
    go_simp
    with_reducible rfl
  rotate_left
  · simp only [Act.put, List.setIfInBounds_toArray, List.set_cons_zero, List.set_cons_succ, i64_w, i32_w]
    rfl
  refine pure_ (i := 6) (N := some 10) (v := ?_) (a' := ?_) #[true, true, true, true, true, true, true, false] rfl rfl (by kernel_rfl) (fun _ _ _ h => h) (Or.inl ⟨by rfl, ?_⟩) ?_ ?_
  rotate_left
  · intro w'
    (go_simp; rw [eqRes]; exact ifRes (opIs n x) w')
  rotate_left
  · simp only [Act.put, List.setIfInBounds_toArray, List.set_cons_zero, List.set_cons_succ, i64_w, i32_w]
    rfl
  refine pure_ (i := 7) (N := some 3) (v := ?_) (a' := ?_) #[true, true, true, true, true, true, true, true] rfl rfl (by kernel_rfl) (fun _ _ _ h => h) (Or.inl ⟨by rfl, ?_⟩) ?_ ?_
  rotate_left
  · intro w'
    go_simp
    with_reducible rfl
  rotate_left
  · simp only [Act.put, List.setIfInBounds_toArray, List.set_cons_zero, List.set_cons_succ, i64_w, i32_w]
    rfl
  refine done_ (by kernel_rfl) ?_
  clear hHeld
  go_wp2
  go_ret
  exact ⟨rfl, Ext.drew HX.out⟩
theorem idxBy_find {α : Type} [Inhabited α] (p : α → Bool) (l : List α) (d : α) : Lib.idxBy (fun _ y => p y) l d = if l.findIdx p < l.length then (l.findIdx p : Int) else -1 := by
  have key : ∀ (l : List α) (i : Nat), Lib.idxByFrom (fun _ y => p y) d l i = if l.findIdx p < l.length then ((i + l.findIdx p : Nat) : Int) else -1 := by
    intro l
    induction l with
    | nil => intro i; rfl
    | cons y r ih =>
      intro i
      rw [Lib.idxByFrom, List.findIdx_cons]
      cases hp : p y with
      | true => simp
      | false =>
        simp only [Bool.false_eq_true, if_false, cond_false, List.length_cons]
        rw [ih]
        by_cases h : r.findIdx p < r.length
        · rw [if_pos h, if_pos (by omega)]; congr 1; omega
        · rw [if_neg h, if_neg (by omega)]
  unfold Lib.idxBy
  rw [key l 0, Nat.zero_add]
def zeroOp : Value := .agg #[.string ⟨#[]⟩, .int .i64 0, .int .i64 0, .int .i64 0, .string ⟨#[]⟩]
def BinPost (n : PNode) (w : World) (e : Ending) (w' : World) : Prop :=
  Ext w w' ∧ ((∃ o, opTab[opPlace n]? = some o ∧ e = .returned (.tuple #[.agg (encOp o).toArray, .bool true])) ∨ (opTab.length ≤ opPlace n ∧ e = .returned (.tuple #[zeroOp, .bool false])))
theorem op_agg (w : World) : (isAgg 234).run Tryz.prog w = .ok true w := by kernel_rfl
theorem op_size (w : World) : (Go.sizeOf 234).run Tryz.prog w = .ok 5 w := by kernel_rfl
set_option maxRecDepth 100000 in
set_option maxHeartbeats 2000000 in
theorem i_binOf (n : PNode) (g : Nat) (lb : Array Value) (w : World) (hO : OpsAt w) (eg : ∀ args w, (callFunc g args).run Tryz.prog w = .ok (.enter g args) w)
    (hp : ∀ w', Ext w w' → PredBelow Tryz.prog g lb (fun x => .agg (encOp x).toArray) (opIs n) w') :
    Calls Tryz.prog 166 #[.func (.func g) #[] lb] w (BinPost n w) := by
  obtain ⟨b, o, c, hg, hc1, hc2, hcs⟩ := hO
  have B1 := Blk.alloc w 234 #[.string ⟨#[]⟩, .int .i64 0, .int .i64 0, .int .i64 0, .string ⟨#[]⟩]
  have X1 : Ext w (w.alloc (.cells #[.string ⟨#[]⟩, .int .i64 0, .int .i64 0, .int .i64 0, .string ⟨#[]⟩] 234)) := (Ext.refl w).alloc _
  have hb : b < (w.alloc (.cells #[.string ⟨#[]⟩, .int .i64 0, .int .i64 0, .int .i64 0, .string ⟨#[]⟩] 234)).heap.size :=
    World.block_lt_of_cell? _ _ (X1.cell ((hcs 0 _ rfl).z rfl))
  have HI := Lib.hid (AnyQ.slices_IndexFunc Tryz.layIndexFunc 5 op_agg op_size encOp (fun _ => rfl) (opIs n) g lb eg b o 18 c opTab _ (hp _ X1) (by decide) (by decide) hb (fun j hj i v hv => by
    have hj' : opTab[j]? = some opTab[j]! := by rw [List.getElem!_eq_getElem?_getD, List.getElem?_eq_getElem hj]; rfl
    exact X1.cell (hcs j _ hj' i v hv)))
  have hd : Lib.idxBy (fun _ y => opIs n y) (opTab.take 18) default = if opPlace n < opTab.length then (opPlace n : Int) else -1 := by
    rw [show opTab.take 18 = opTab from rfl, idxBy_find]
    rfl
  rw [hd] at HI
  have HCs := Lib.hid hcs
  have hg1 := X1.cell hg
  have HB1 := Lib.hid B1
  have HX1 := Lib.hid X1
  by_cases hlt : opPlace n < opTab.length
  · rw [if_pos hlt] at HI
    obtain ⟨x, hx⟩ : ∃ x, opTab[opPlace n]? = some x := ⟨opTab[opPlace n], List.getElem?_eq_getElem hlt⟩
    have HXX := Lib.hid hx
    have hk : opPlace n < 18 := hlt
    obtain ⟨k, hke⟩ : ∃ k, k = opPlace n := ⟨_, rfl⟩
    rw [← hke] at HI hk hx
    have HK := Lib.hid hke
    clear hcs hp hd eg hb B1 X1 hlt hke
    go_enter Tryz.func166, Tryz.ntmps166
    go_wp2_with fail
    refine HI.out.mono ?_
    rintro e w2 ⟨rfl, hX2⟩
    have HX2 := Lib.hid (HX1.out.trans hX2)
    have hg2 := Ext.cell hX2 hg1
    have h18 := HCs.out k x hx
    have e0 := HX2.out.cell (h18.z rfl)
    have e1 := HX2.out.cell (h18 1 _ rfl)
    have e2 := HX2.out.cell (h18 2 _ rfl)
    have e3 := HX2.out.cell (h18 3 _ rfl)
    have e4 := HX2.out.cell (h18 4 _ rfl)
    have hB2 := HB1.out.ext hX2
    have HB2 := Lib.hid hB2
    have b0 : w2.cell? ⟨w.heap.size, 0, none⟩ = some (.string ⟨#[]⟩) := (hB2.cell 0).trans rfl
    have f0 := hB2.frozen 0
    have b1 : w2.cell? ⟨w.heap.size, 1, none⟩ = some (.int .i64 0) := (hB2.cell 1).trans rfl
    have f1 := hB2.frozen 1
    have b2 : w2.cell? ⟨w.heap.size, 2, none⟩ = some (.int .i64 0) := (hB2.cell 2).trans rfl
    have f2 := hB2.frozen 2
    have b3 : w2.cell? ⟨w.heap.size, 3, none⟩ = some (.int .i64 0) := (hB2.cell 3).trans rfl
    have f3 := hB2.frozen 3
    have b4 : w2.cell? ⟨w.heap.size, 4, none⟩ = some (.string ⟨#[]⟩) := (hB2.cell 4).trans rfl
    have f4 := hB2.frozen 4
    have z0 : ¬ (k : Int) < 0 := by omega
    have z1 : (k : Int) < 18 := by omega
    have z2 : (0 : Int) ≤ (k : Int) := by omega
    clear hX2 hg1 h18 hx hB2
    go_wp2
    have hBf : Blk (((((w2.setCell ⟨w.heap.size, 0, none⟩ (.string (str x.sign))).setCell ⟨w.heap.size, 1, none⟩ (.int .i64 x.str)).setCell ⟨w.heap.size, 2, none⟩ (.int .i64 x.kind)).setCell ⟨w.heap.size, 3, none⟩ (.int .i64 x.val)).setCell ⟨w.heap.size, 4, none⟩ (.string ⟨#[]⟩)) w.heap.size 234 #[.string (str x.sign), .int .i64 x.str, .int .i64 x.kind, .int .i64 x.val, .string ⟨#[]⟩] := by
      have := ((((HB2.out.set 0 (.string (str x.sign))).set 1 (.int .i64 x.str)).set 2 (.int .i64 x.kind)).set 3 (.int .i64 x.val)).set 4 (.string ⟨#[]⟩)
      simpa using this
    have hXf : Ext w (((((w2.setCell ⟨w.heap.size, 0, none⟩ (.string (str x.sign))).setCell ⟨w.heap.size, 1, none⟩ (.int .i64 x.str)).setCell ⟨w.heap.size, 2, none⟩ (.int .i64 x.kind)).setCell ⟨w.heap.size, 3, none⟩ (.int .i64 x.val)).setCell ⟨w.heap.size, 4, none⟩ (.string ⟨#[]⟩)) := Below.setCell (Below.setCell (Below.setCell (Below.setCell (Below.setCell HX2.out (p := ⟨w.heap.size, 0, none⟩) (Nat.le_refl _) _) (p := ⟨w.heap.size, 1, none⟩) (Nat.le_refl _) _) (p := ⟨w.heap.size, 2, none⟩) (Nat.le_refl _) _) (p := ⟨w.heap.size, 3, none⟩) (Nat.le_refl _) _) (p := ⟨w.heap.size, 4, none⟩) (Nat.le_refl _) _
    generalize (((((w2.setCell ⟨w.heap.size, 0, none⟩ (.string (str x.sign))).setCell ⟨w.heap.size, 1, none⟩ (.int .i64 x.str)).setCell ⟨w.heap.size, 2, none⟩ (.int .i64 x.kind)).setCell ⟨w.heap.size, 3, none⟩ (.int .i64 x.val)).setCell ⟨w.heap.size, 4, none⟩ (.string ⟨#[]⟩)) = wf at hBf hXf ⊢
    have r0 : wf.cell? ⟨w.heap.size, 0, none⟩ = some (.string (str x.sign)) := (hBf.cell 0).trans rfl
    have r1 : wf.cell? ⟨w.heap.size, 1, none⟩ = some (.int .i64 x.str) := (hBf.cell 1).trans rfl
    have r2 : wf.cell? ⟨w.heap.size, 2, none⟩ = some (.int .i64 x.kind) := (hBf.cell 2).trans rfl
    have r3 : wf.cell? ⟨w.heap.size, 3, none⟩ = some (.int .i64 x.val) := (hBf.cell 3).trans rfl
    have r4 : wf.cell? ⟨w.heap.size, 4, none⟩ = some (.string ⟨#[]⟩) := (hBf.cell 4).trans rfl
    refine bodyPost_ret (v := .tuple #[.agg (encOp x).toArray, .bool true]) (by simp [results, Tryz.results166, go_sem, r0, r1, r2, r3, r4, encOp]) rfl ?_
    exact ⟨hXf, .inl ⟨x, HXX.out, rfl⟩⟩
  · rw [if_neg hlt] at HI
    have HLT := Lib.hid hlt
    clear hcs hp hd eg hb B1 X1 hlt
    go_enter Tryz.func166, Tryz.ntmps166
    go_wp2_with fail
    refine HI.out.mono ?_
    rintro e w2 ⟨rfl, hX2⟩
    have HX2 := Lib.hid (HX1.out.trans hX2)
    have hB2 := HB1.out.ext hX2
    have HB2 := Lib.hid hB2
    have b0 : w2.cell? ⟨w.heap.size, 0, none⟩ = some (.string ⟨#[]⟩) := (hB2.cell 0).trans rfl
    have f0 := hB2.frozen 0
    have b1 : w2.cell? ⟨w.heap.size, 1, none⟩ = some (.int .i64 0) := (hB2.cell 1).trans rfl
    have f1 := hB2.frozen 1
    have b2 : w2.cell? ⟨w.heap.size, 2, none⟩ = some (.int .i64 0) := (hB2.cell 2).trans rfl
    have f2 := hB2.frozen 2
    have b3 : w2.cell? ⟨w.heap.size, 3, none⟩ = some (.int .i64 0) := (hB2.cell 3).trans rfl
    have f3 := hB2.frozen 3
    have b4 : w2.cell? ⟨w.heap.size, 4, none⟩ = some (.string ⟨#[]⟩) := (hB2.cell 4).trans rfl
    have f4 := hB2.frozen 4
    clear hX2 hg1 hB2
    go_wp2
    have hBf : Blk (((((w2.setCell ⟨w.heap.size, 0, none⟩ (.string ⟨#[]⟩)).setCell ⟨w.heap.size, 1, none⟩ (.int .i64 0)).setCell ⟨w.heap.size, 2, none⟩ (.int .i64 0)).setCell ⟨w.heap.size, 3, none⟩ (.int .i64 0)).setCell ⟨w.heap.size, 4, none⟩ (.string ⟨#[]⟩)) w.heap.size 234 #[.string ⟨#[]⟩, .int .i64 0, .int .i64 0, .int .i64 0, .string ⟨#[]⟩] := by
      have := ((((HB2.out.set 0 (.string ⟨#[]⟩)).set 1 (.int .i64 0)).set 2 (.int .i64 0)).set 3 (.int .i64 0)).set 4 (.string ⟨#[]⟩)
      simpa using this
    have hXf : Ext w (((((w2.setCell ⟨w.heap.size, 0, none⟩ (.string ⟨#[]⟩)).setCell ⟨w.heap.size, 1, none⟩ (.int .i64 0)).setCell ⟨w.heap.size, 2, none⟩ (.int .i64 0)).setCell ⟨w.heap.size, 3, none⟩ (.int .i64 0)).setCell ⟨w.heap.size, 4, none⟩ (.string ⟨#[]⟩)) := Below.setCell (Below.setCell (Below.setCell (Below.setCell (Below.setCell HX2.out (p := ⟨w.heap.size, 0, none⟩) (Nat.le_refl _) _) (p := ⟨w.heap.size, 1, none⟩) (Nat.le_refl _) _) (p := ⟨w.heap.size, 2, none⟩) (Nat.le_refl _) _) (p := ⟨w.heap.size, 3, none⟩) (Nat.le_refl _) _) (p := ⟨w.heap.size, 4, none⟩) (Nat.le_refl _) _
    generalize (((((w2.setCell ⟨w.heap.size, 0, none⟩ (.string ⟨#[]⟩)).setCell ⟨w.heap.size, 1, none⟩ (.int .i64 0)).setCell ⟨w.heap.size, 2, none⟩ (.int .i64 0)).setCell ⟨w.heap.size, 3, none⟩ (.int .i64 0)).setCell ⟨w.heap.size, 4, none⟩ (.string ⟨#[]⟩)) = wf at hBf hXf ⊢
    have r0 : wf.cell? ⟨w.heap.size, 0, none⟩ = some (.string ⟨#[]⟩) := (hBf.cell 0).trans rfl
    have r1 : wf.cell? ⟨w.heap.size, 1, none⟩ = some (.int .i64 0) := (hBf.cell 1).trans rfl
    have r2 : wf.cell? ⟨w.heap.size, 2, none⟩ = some (.int .i64 0) := (hBf.cell 2).trans rfl
    have r3 : wf.cell? ⟨w.heap.size, 3, none⟩ = some (.int .i64 0) := (hBf.cell 3).trans rfl
    have r4 : wf.cell? ⟨w.heap.size, 4, none⟩ = some (.string ⟨#[]⟩) := (hBf.cell 4).trans rfl
    refine bodyPost_ret (v := .tuple #[zeroOp, .bool false]) (by simp [results, Tryz.results166, go_sem, r0, r1, r2, r3, r4, zeroOp]) rfl ?_
    exact ⟨hXf, .inr ⟨Nat.le_of_not_lt HLT.out, rfl⟩⟩
theorem mk_fn (fn : Fn) (first cap : Array Value) (w : World) : (Instr.makeFunc fn first cap).run Tryz.prog w = .ok (.func fn first cap) w := rfl
theorem enters_strength : ∀ args w, (callFunc 193 args).run Tryz.prog w = .ok (.enter 193 args) w := enters_of Tryz.func193 (by kernel_rfl) rfl
theorem enters_print : ∀ args w, (callFunc 167 args).run Tryz.prog w = .ok (.enter 167 args) w := enters_of Tryz.func167 (by kernel_rfl) rfl
set_option maxRecDepth 100000 in
set_option maxHeartbeats 2000000 in
theorem i_strength (x : Ex) (hx : x.ok) (K : Foot) (v : Value) (w : World) (h : ExAt K w v x) (hO : OpsAt w) : Calls Tryz.prog 165 #[v] w (Gives (.int .i64 (strongI x.node : Nat)) w) := by
  obtain ⟨n, args⟩ := x
  have hok := (Ex.ok_mk n args).1 hx
  obtain ⟨b, va, vs, rfl, hc, _, _, _, _, _⟩ := h.op
  simp only [Ex.node] at hc ⊢
  have a0 := hc.z rfl
  have a1 := hc 1 _ rfl
  have a2 := hc 2 _ rfl
  simp only [Nat.zero_add] at a1 a2
  have X1 : Ext w (w.alloc (.cells #[.pointer (some ⟨b, 0, none⟩)] 140)) := (Ext.refl w).alloc _
  have B1 := Blk.alloc w 140 #[.pointer (some ⟨b, 0, none⟩)]
  have p0 : (w.alloc (.cells #[.pointer (some ⟨b, 0, none⟩)] 140)).cell? ⟨w.heap.size, 0, none⟩ = some (.pointer (some ⟨b, 0, none⟩)) := (B1.cell 0).trans rfl
  have HBin := Lib.hid (i_binOf n 193 #[.pointer (some ⟨w.heap.size, 0, none⟩)] _ (hO.ext X1) enters_strength
    (fun w' hw => pr_strength n b w.heap.size w' (Ext.cell hw p0) (Ext.cell hw (X1.cell a0)) (Ext.cell hw (X1.cell a1)) (Ext.cell hw (X1.cell a2))))
  have hmf := mk_fn
  have HA0 := Lib.hid (X1.cell a0)
  have HX1 := Lib.hid X1
  have HP0 := Lib.hid p0
  have Hok := Lib.hid hok.1
  clear h hc hO X1 B1 p0 hok hx
  go_enter Tryz.func165, Tryz.ntmps165
  go_wp2_with fail
  refine HBin.out.mono ?_
  rintro e w2 ⟨hX2, ⟨o, ho, rfl⟩ | ⟨ho, rfl⟩⟩
  · have hk : n.kind = 7 ∨ n.kind = 8 ∨ n.kind = 9 := Classical.byContradiction fun hn => by
      rw [opPlace_none hn] at ho
      rw [List.getElem?_eq_none (Nat.le_refl _)] at ho
      cases ho
    obtain ⟨o', ho', hs, _⟩ := opPlace_two Hok.out hk
    obtain rfl : o = o' := Option.some.inj (ho.symm.trans ho')
    have HF : Hid ((o.str : Int) = (strongI n : Nat)) := by
      show _ = _
      unfold strongI
      rw [if_pos hk, hs]
    have HX2 := Lib.hid (HX1.out.trans hX2)
    clear ho ho' hs hk hX2
    simp only [encOp]
    go_wp2
    go_ret
    exact Gives.int HF.out (HX2.out.alloc _)
  · have hk : ¬ (n.kind = 7 ∨ n.kind = 8 ∨ n.kind = 9) := fun hk => by
      obtain ⟨o', ho', _⟩ := opPlace_two Hok.out hk
      have := (List.getElem?_eq_some_iff.1 ho').1
      omega
    have HX2 := Lib.hid (HX1.out.trans hX2)
    have p2 := Ext.cell hX2 HP0.out
    have a2 := Ext.cell hX2 HA0.out
    replace p2 := (show Ext w2 (w2.alloc (.cells #[.string ⟨#[]⟩, .int .i64 0, .int .i64 0, .int .i64 0, .string ⟨#[]⟩] 234)) from (Ext.refl w2).alloc _).cell p2
    replace a2 := (show Ext w2 (w2.alloc (.cells #[.string ⟨#[]⟩, .int .i64 0, .int .i64 0, .int .i64 0, .string ⟨#[]⟩] 234)) from (Ext.refl w2).alloc _).cell a2
    by_cases h6 : n.kind = 6
    · have HF : Hid (((11 : Nat) : Int) = (strongI n : Nat)) := by
        show _ = _
        unfold strongI
        rw [if_neg hk, if_pos h6]
      rw [h6] at a2
      clear hk hX2 ho h6
      simp only [zeroOp]
      go_wp2
      go_ret
      exact Gives.int HF.out (HX2.out.alloc _)
    · have HF : Hid (((12 : Nat) : Int) = (strongI n : Nat)) := by
        show _ = _
        unfold strongI
        rw [if_neg hk, if_neg h6]
      clear hk hX2 ho
      simp only [zeroOp]
      go_wp2
      go_ret
      exact Gives.int HF.out (HX2.out.alloc _)
end Go.Proofs.YtolbngbedncemaaGreatDoor
