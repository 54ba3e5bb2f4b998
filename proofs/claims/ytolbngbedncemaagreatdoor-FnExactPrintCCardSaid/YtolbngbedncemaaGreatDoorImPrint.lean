/- The program's expr.print and expr.text answer as the model. Conditions: the expression is in order; bounds of sizes. -/
import Derived.Test.YtolbngbedncemaaGreatDoorImW
import Derived.Lib.AppendIntMem
import Derived.Test.YtolbngbedncemaaGreatDoorSpShow
import Derived.IntWalk
set_option linter.unusedVariables false
set_option linter.unusedSimpArgs false
namespace Go.Proofs.YtolbngbedncemaaGreatDoor
open Go Go.RowKit Md Go.Proofs.YtolbngbedncemaaGreatDoorW.PrintLast

theorem itoa_dig (x : Int) : Lib.itoa x = dig x := by
  have hd : ∀ n, Lib.decDigits n = digN n := by
    intro n
    induction n using Nat.strongRecOn with
    | ind n ih =>
      rw [Lib.decDigits, digN]
      by_cases h : n < 10
      · rw [dif_pos h, if_pos h]
      · rw [dif_neg h, if_neg h, ih _ (by omega)]
  unfold Lib.itoa dig
  by_cases h : x < 0
  · rw [if_pos h, if_pos h, hd]; congr 2; omega
  · rw [if_neg h, if_neg h, hd]
/-- The tables that the printer reads, whatever is done from block B on. -/
def PrTabs (B : Nat) (w : World) : Prop := ∀ W, Below B w W → OpsAt W ∧ UnAtG W ∧ Lib.TabIs Tryz.prog W "internal/strconv.uint64pow10" .u64 Lib.pow10Tab
theorem PrTabs.below {B : Nat} {w w' : World} (h : PrTabs B w) (k : Below B w w') : PrTabs B w' := fun W hW => h W (k.trans hW)
def PrPost (B b : Nat) (L : List UInt8) (w : World) (e : Ending) (w' : World) : Prop := e = .returned (.tuple #[]) ∧ Wrote B b L w w'
theorem ex_node_at {K : Foot} {w : World} {v : Value} {n : PNode} {args : List Ex} (h : ExAt K w v (.mk n args)) :
    ∃ bX va vs, v = .pointer (some ⟨bX, 0, none⟩) ∧ K bX ∧ Cells w bX 0 [.int .i64 n.kind, .int .i64 n.val, .string n.name, va] ∧ SlV K w va vs ∧ All2 (ExAt K w) vs args := by
  cases h with
  | mk b n va vs xs hb hc hk hv hn hs hl hx => exact ⟨b, va, vs, rfl, hb, hc, hs, hl, hx⟩
theorem keep_below {B : Nat} {w W : World} (h : Below B w W) : Keep (fun c => c < B) w W := fun b hb _ => h.block b hb
theorem idx_leP {args : List Ex} : ∀ {i : Nat} {a : Ex}, args[i]? = some a → a.list.length ≤ (args.flatMap Ex.list).length := by
  intro i a h
  have hm := List.mem_of_getElem? h
  clear h
  induction args with
  | nil => cases hm
  | cons b r ih =>
    rw [List.flatMap_cons, List.length_append]
    rcases List.mem_cons.1 hm with rfl | hm
    · omega
    · have := ih hm
      omega
theorem ar_un6I {n : PNode} {k : Nat} (h : arity n = some k) (hk : n.kind = 6) : n.val = 0 ∨ n.val = 1 ∨ n.val = 2 := by
  unfold arity at h
  rw [if_neg (by omega)] at h
  by_cases hz : n.name.size = 0
  · rw [if_pos hz, if_neg (by omega), if_neg (by omega), if_pos hk] at h
    by_cases hv : 0 ≤ n.val ∧ n.val ≤ 2
    · omega
    · rw [if_neg hv] at h
      cases h
  · rw [if_neg hz] at h
    cases h
theorem PS.cast {B b : Nat} {bl : List (Nat × Nat × Array Value)} {l l' : List UInt8} {w W : World} (h : PS B b bl l w W) (e : l = l') : PS B b bl l' w W := e ▸ h
theorem wr_of {B b : Nat} {bl : List (Nat × Nat × Array Value)} {L R : List UInt8} {w W : World} (h : PS B b bl L w W) (e : R = L) : Wrote B b R w W := e ▸ ⟨h.isb, h.bel, h.oth⟩
theorem pr_len (x : Ex) (m : Nat) : (prE x m).length = (showE x).length + (if strongI x.node < m then 2 else 0) := by
  unfold prE heldT
  by_cases h : strongI x.node < m
  · simp [h]
  · simp [h]
set_option maxRecDepth 100000 in
theorem pr_print (n : PNode) (b bx : Nat) (w : World) (hx : w.cell? ⟨bx, 0, none⟩ = some (.pointer (some ⟨b, 0, none⟩))) (h0 : w.cell? ⟨b, 0, none⟩ = some (.int .i64 n.kind)) (h1 : w.cell? ⟨b, 1, none⟩ = some (.int .i64 n.val)) (h2 : w.cell? ⟨b, 2, none⟩ = some (.string n.name)) :
    PredBelow Tryz.prog 167 #[.pointer (some ⟨bx, 0, none⟩)] (fun x => .agg (encOp x).toArray) (opIs n) w := fun W x hb => by
  have H := Ext.cell hb hx
  have H0 := Ext.cell hb h0
  have H1 := Ext.cell hb h1
  have H2 := Ext.cell hb h2
  show Calls Tryz.prog 167 #[.agg #[.string (str x.sign), .int .i64 x.str, .int .i64 x.kind, .int .i64 x.val, .string ⟨#[]⟩], .pointer (some ⟨bx, 0, none⟩)] W _
  have B1 := Blk.alloc W 234 #[.string (str x.sign), .int .i64 x.str, .int .i64 x.kind, .int .i64 x.val, .string ⟨#[]⟩]
  have X1 : Ext W (W.alloc (.cells #[.string (str x.sign), .int .i64 x.str, .int .i64 x.kind, .int .i64 x.val, .string ⟨#[]⟩] 234)) := (Ext.refl W).alloc _
  have HX := Lib.hid (hb.alloc hb.size (.cells #[.string (str x.sign), .int .i64 x.str, .int .i64 x.kind, .int .i64 x.val, .string ⟨#[]⟩] 234))
  have c2 : (W.alloc (.cells #[.string (str x.sign), .int .i64 x.str, .int .i64 x.kind, .int .i64 x.val, .string ⟨#[]⟩] 234)).cell? ⟨W.heap.size, 2, none⟩ = some (.int .i64 x.kind) := (B1.cell 2).trans rfl
  have c3 : (W.alloc (.cells #[.string (str x.sign), .int .i64 x.str, .int .i64 x.kind, .int .i64 x.val, .string ⟨#[]⟩] 234)).cell? ⟨W.heap.size, 3, none⟩ = some (.int .i64 x.val) := (B1.cell 3).trans rfl
  have c4 : (W.alloc (.cells #[.string (str x.sign), .int .i64 x.str, .int .i64 x.kind, .int .i64 x.val, .string ⟨#[]⟩] 234)).cell? ⟨W.heap.size, 4, none⟩ = some (.string ⟨#[]⟩) := (B1.cell 4).trans rfl
  replace H := X1.cell H
  replace H0 := X1.cell H0
  replace H1 := X1.cell H1
  replace H2 := X1.cell H2
  clear hb h0 h1 h2 hx B1 X1
  go_enter Tryz.func167, Tryz.ntmps167
  go_wp2_with fail
  have Xd : Ext (W.alloc (.cells #[.string (str x.sign), .int .i64 x.str, .int .i64 x.kind, .int .i64 x.val, .string ⟨#[]⟩] 234)) (W.alloc (.cells #[.string (str x.sign), .int .i64 x.str, .int .i64 x.kind, .int .i64 x.val, .string ⟨#[]⟩] 234)).drew := (Ext.refl _).drew
  refine start_ (n := 8) (S := fun w' => w'.cell? ⟨W.heap.size, 2, none⟩ = some (.int .i64 x.kind) ∧ w'.cell? ⟨W.heap.size, 3, none⟩ = some (.int .i64 x.val) ∧ w'.cell? ⟨W.heap.size, 4, none⟩ = some (.string ⟨#[]⟩) ∧ w'.cell? ⟨bx, 0, none⟩ = some (.pointer (some ⟨b, 0, none⟩)) ∧ w'.cell? ⟨b, 0, none⟩ = some (.int .i64 n.kind) ∧ w'.cell? ⟨b, 1, none⟩ = some (.int .i64 n.val) ∧ w'.cell? ⟨b, 2, none⟩ = some (.string n.name)) (ds := []) #[false, false, false, false, false, false, false, false] (by kernel_rfl) rfl rfl ?hS (fun hHeld => ?_)
  case hS => exact ⟨Xd.cell c2, Xd.cell c3, Xd.cell c4, Xd.cell H, Xd.cell H0, Xd.cell H1, Xd.cell H2⟩
  refine pure_ (i := 0) (N := some 4) (v := ?_) (a' := ?_) #[true, false, false, false, false, false, false, false] rfl rfl (by kernel_rfl) (fun _ _ _ h => h) (Or.inl ⟨by rfl, ?_⟩) ?_ ?_
  rotate_left
  · intro w'
    go_simp
    with_reducible rfl
  rotate_left
  · simp only [Act.put, List.setIfInBounds_toArray, List.set_cons_zero, List.set_cons_succ, i64_w, i32_w]
    rfl
  refine take_ (i := 1) (N := some 5) (v := ?_) (a' := ?_) #[true, true, false, false, false, false, false, false] rfl rfl (by kernel_rfl) (fun _ _ _ h => h) (Or.inl ⟨by rfl, ?_⟩) hHeld ?_ ?_
  rotate_left
  · rintro w' ⟨y0, y1, y2, y3, y4, y5, y6⟩
    go_simp
    with_reducible rfl
  rotate_left
  · simp only [Act.put, List.setIfInBounds_toArray, List.set_cons_zero, List.set_cons_succ, i64_w, i32_w]
    rfl
  refine take_ (i := 2) (N := some 6) (v := ?_) (a' := ?_) #[true, true, true, false, false, false, false, false] rfl rfl (by kernel_rfl) (fun _ _ _ h => h) (Or.inl ⟨by rfl, ?_⟩) hHeld ?_ ?_
  rotate_left
  · rintro w' ⟨y0, y1, y2, y3, y4, y5, y6⟩
    go_simp
    with_reducible rfl
  rotate_left
  · simp only [Act.put, List.setIfInBounds_toArray, List.set_cons_zero, List.set_cons_succ, i64_w, i32_w]
    rfl
  refine pure_ (i := 3) (N := some 7) (v := ?_) (a' := ?_) #[true, true, true, true, false, false, false, false] rfl rfl (by kernel_rfl) (fun _ _ _ h => h) (Or.inl ⟨by rfl, ?_⟩) ?_ ?_
  rotate_left
  · intro w'
    go_simp
    with_reducible rfl
  rotate_left
  · simp only [Act.put, List.setIfInBounds_toArray, List.set_cons_zero, List.set_cons_succ, i64_w, i32_w]
    rfl
  refine pure_ (i := 4) (N := some 8) (v := ?_) (a' := ?_) #[true, true, true, true, true, false, false, false] rfl rfl (by kernel_rfl) (fun _ _ _ h => h) (Or.inl ⟨by rfl, ?_⟩) ?_ ?_
  rotate_left
  · intro w'
    go_simp
    with_reducible rfl
  rotate_left
  · simp only [Act.put, List.setIfInBounds_toArray, List.set_cons_zero, List.set_cons_succ, i64_w, i32_w]
    rfl
  refine take_ (i := 5) (N := some 9) (v := ?_) (a' := ?_) #[true, true, true, true, true, true, false, false] rfl rfl (by kernel_rfl) (fun _ _ _ h => h) (Or.inl ⟨by rfl, ?_⟩) hHeld ?_ ?_
  rotate_left
  · rintro w' ⟨y0, y1, y2, y3, y4, y5, y6⟩
    go_simp
    with_reducible rfl
  rotate_left
  · simp only [Act.put, List.setIfInBounds_toArray, List.set_cons_zero, List.set_cons_succ, i64_w, i32_w]
    rfl
  refine pure_ (i := 6) (N := some 10) (v := ?_) (a' := ?_) #[true, true, true, true, true, true, true, false] rfl rfl (by kernel_rfl) (fun _ _ _ h => h) (Or.inl ⟨by rfl, ?_⟩) ?_ ?_
  rotate_left
  · intro w'
    (go_simp; rw [eqRes]; exact ifRes (opIs n x) w')
  rotate_left
  · simp only [Act.put, List.setIfInBounds_toArray, List.set_cons_zero, List.set_cons_succ, i64_w, i32_w]
    rfl
  refine pure_ (i := 7) (N := some 3) (v := ?_) (a' := ?_) #[true, true, true, true, true, true, true, true] rfl rfl (by kernel_rfl) (fun _ _ _ h => h) (Or.inl ⟨by rfl, ?_⟩) ?_ ?_
  rotate_left
  · intro w'
    go_simp
    with_reducible rfl
  rotate_left
  · simp only [Act.put, List.setIfInBounds_toArray, List.set_cons_zero, List.set_cons_succ, i64_w, i32_w]
    rfl
  refine done_ (by kernel_rfl) ?_
  clear hHeld
  go_wp2
  go_ret
  exact ⟨rfl, Ext.drew HX.out⟩
theorem commas_mono : ∀ (l : List (List UInt8)) (k : Nat), (commas (l.take k)).length ≤ (commas l).length
  | [], k => by simp [commas]
  | [a], 0 => by simp [commas]
  | [a], k + 1 => by simp [commas]
  | a :: b :: r, 0 => by simp [commas]
  | a :: b :: r, 1 => by simp [commas]
  | a :: b :: r, k + 2 => by
    have ih := commas_mono (b :: r) (k + 1)
    have e1 : commas ((a :: b :: r).take (k + 2)) = a ++ [44, 32] ++ commas ((b :: r).take (k + 1)) := by
      simp only [List.take_succ_cons]
      rw [commas]
      simp
    have e2 : commas (a :: b :: r) = a ++ [44, 32] ++ commas (b :: r) := by rw [commas]; simp
    rw [e1, e2]
    simp only [List.length_append]
    omega
set_option maxRecDepth 1000000 in
set_option maxHeartbeats 0 in
theorem i_print (x : Ex) : x.ok → x.list.length ≤ 10000 → ∀ (m B b : Nat) (l : List UInt8) (v : Value) (w : World), m ≤ 11 → ExAt (fun c => c < B) w v x → PrTabs B w →
    Lib.IsBuilderF 136 5 B b (Lib.byteCells l) w → B ≤ w.heap.size → l.length + (prE x m).length ≤ 2000000 →
    Calls Tryz.prog 129 #[v, .pointer (some ⟨b, 0, none⟩), .int .i64 m] w (PrPost B b (l ++ prE x m) w) := by
  refine Ex.ind (P := fun x => x.ok → x.list.length ≤ 10000 → ∀ (m B b : Nat) (l : List UInt8) (v : Value) (w : World), m ≤ 11 → ExAt (fun c => c < B) w v x → PrTabs B w →
    Lib.IsBuilderF 136 5 B b (Lib.byteCells l) w → B ≤ w.heap.size → l.length + (prE x m).length ≤ 2000000 →
    Calls Tryz.prog 129 #[v, .pointer (some ⟨b, 0, none⟩), .int .i64 m] w (PrPost B b (l ++ prE x m) w)) (fun n args ih => ?_) x
  intro hx hl m B b l v w hm hv hT hb hB hsz
  have hok := (Ex.ok_mk n args).1 hx
  have hll : (args.flatMap Ex.list).length ≤ 10000 := by rw [Ex.list_mk, List.length_append] at hl; omega
  have Hv0 := Lib.hid hv
  obtain ⟨bX, va, vs, rfl, hbX, hc, hs, hall⟩ := ex_node_at hv
  obtain ⟨aA, nA, cA, rfl⟩ := hs.shape
  obtain ⟨hbw, hBb⟩ := bld_lt hb
  have HTab := Lib.hid hT
  -- what holds in every later world
  have HBX : Hid (∀ W, Below B w W → W.cell? ⟨bX, 0, none⟩ = some (.int .i64 n.kind) ∧ W.cell? ⟨bX, 1, none⟩ = some (.int .i64 n.val) ∧ W.cell? ⟨bX, 2, none⟩ = some (.string n.name) ∧ W.cell? ⟨bX, 3, none⟩ = some (.slice aA nA cA)) := fun W hW => by
    have h := hc.keep (keep_below hW) hbX
    have h0 := h 0 _ rfl
    have h1 := h 1 _ rfl
    have h2 := h 2 _ rfl
    have h3 := h 3 _ rfl
    simp only [Nat.zero_add] at h0 h1 h2 h3
    exact ⟨h0, h1, h2, h3⟩
  have hnA := (SlV.len hs).1
  have HArg : Hid (∀ i a p, args[i]? = some a → vs[i]? = some p → ∀ W, Below B w W → ExAt (fun c => c < B) W p a) := fun i a p ha hp W hW => (hall.2 i p a hp ha).keep (keep_below hW) (fun _ h => h)
  have HIH : Hid (∀ i a p, args[i]? = some a → vs[i]? = some p → ∀ (m' : Nat) (bl : List (Nat × Nat × Array Value)) (L : List UInt8) (W : World), m' ≤ 11 → PS B b bl L w W → L.length + (prE a m').length ≤ 2000000 →
      Calls Tryz.prog 129 #[p, .pointer (some ⟨b, 0, none⟩), .int .i64 m'] W (fun e W' => e = .returned (.tuple #[]) ∧ PS B b bl (L ++ prE a m') w W')) := fun i a p ha hp m' bl L W hm' hP hL => by
    have g := idx_leP ha
    refine (ih a (List.mem_of_getElem? ha) (hok.2 a (List.mem_of_getElem? ha)) (by omega) m' B b L p W hm' (HArg.out i a p ha hp W hP.bel) (HTab.out.below hP.bel) hP.isb hP.le hL).mono ?_
    rintro e W' ⟨rfl, hW⟩
    exact ⟨rfl, hP.wrote hW⟩
  have HWS : Hid (∀ (s : ByteArray) (bl : List (Nat × Nat × Array Value)) (L : List UInt8) (W : World), PS B b bl L w W → L.length + s.size ≤ 2000000 →
      Calls Tryz.prog 72 #[.pointer (some ⟨b, 0, none⟩), .string s] W (fun e W' => e = .returned (.tuple #[.int .i64 s.size, .nilIface]) ∧ PS B b bl (L ++ s.data.toList) w W')) := fun s bl L W hP hL => by
    refine (c_WS B b L s W hP.isb hP.le (by omega)).mono ?_
    rintro e W' ⟨rfl, hW⟩
    exact ⟨rfl, hP.wrote hW⟩
  have HDS : Hid (∀ (bl : List (Nat × Nat × Array Value)) (L : List UInt8) (W : World) (u : FrameMode), PS B b bl L w W → L.length ≤ 2000000 →
      CallsD Tryz.prog 72 #[.pointer (some ⟨b, 0, none⟩), .string ⟨#[41]⟩] u W (fun e u' W' => u' = u ∧ e = .returned (.tuple #[.int .i64 1, .nilIface]) ∧ Wrote B b (L ++ [41]) w W')) := fun bl L W u hP hL => by
    refine (d_WS B b L ⟨#[41]⟩ u W hP.isb hP.le (by show _ + 1 ≤ _; omega)).mono ?_
    rintro e u' W' ⟨rfl, rfl, hW⟩
    exact ⟨rfl, rfl, hW.1, hP.bel.trans hW.2.1, hP.oth.trans hW.2.2⟩
  have X1 : Ext w (w.alloc (.cells #[.pointer (some ⟨bX, 0, none⟩)] 140)) := (Ext.refl w).alloc _
  have B1 := Blk.alloc w 140 #[.pointer (some ⟨bX, 0, none⟩)]
  have hP1 : PS B b [(w.heap.size, 140, #[.pointer (some ⟨bX, 0, none⟩)])] l w (w.alloc (.cells #[.pointer (some ⟨bX, 0, none⟩)] 140)) :=
    PS.add (PS.ext ⟨hb, Below.refl _ _, Lib.OthersKept.refl _ _ _, hB, fun x hx => by cases hx⟩ X1) _ _ _ B1 (by omega) (by decide)
  have HF : Hid (∀ bl L W, PS B b bl L w W → (w.heap.size, 140, #[.pointer (some ⟨bX, 0, none⟩)]) ∈ bl → W.cell? ⟨w.heap.size, 0, none⟩ = some (.pointer (some ⟨bX, 0, none⟩))) := fun bl L W hP hi => ((hP.kept _ hi).1.cell 0).trans rfl
  have HP1 := Lib.hid hP1
  have HStr := Lib.hid (i_strength (.mk n args) hx (fun c => c < B) _ _ (Hv0.out.ext X1) (HTab.out _ hP1.bel).1)
  obtain ⟨Tx, hTx⟩ : ∃ Tx, Tx = showE (.mk n args) := ⟨_, rfl⟩
  have hpl := pr_len (.mk n args) m
  have hnode : (Ex.mk n args).node = n := rfl
  rw [hnode] at hpl HStr
  have Hpr : Hid (prE (.mk n args) m = if strongI n < m then [40] ++ Tx ++ [41] else Tx) := by
    show _ = _
    rw [hTx]
    unfold prE heldT
    rw [hnode]
    by_cases h : strongI n < m <;> simp [h]
  have HTx := Lib.hid hTx
  have Hx := Lib.hid hx
  have Hok := Lib.hid hok
  have HnA := Lib.hid hnA
  have HAll := Lib.hid hall
  have HSl := Lib.hid hs
  rw [hpl] at hsz
  obtain ⟨kd, vl, nm⟩ := n
  simp only at HBX
  obtain ⟨R, hR⟩ : ∃ R, R = l ++ prE (.mk ⟨kd, vl, nm⟩ args) m := ⟨_, rfl⟩
  rw [← hR]
  have HR : Hid (R = l ++ if strongI ⟨kd, vl, nm⟩ < m then [40] ++ Tx ++ [41] else Tx) := by show _ = _; rw [hR, Hpr.out]
  rw [← hTx] at hsz
  obtain ⟨st, hst⟩ : ∃ st, st = strongI ⟨kd, vl, nm⟩ := ⟨_, rfl⟩
  rw [← hst] at HStr HR hsz
  have p0 := HF.out _ _ _ hP1 (by simp)
  have hmf := mk_fn
  clear hv hc hs hall hb hT hP1 X1 B1 hx hok hTx hpl hl ih Hpr hR hst Hv0 hnode hnA
  go_enter_defers Tryz.func129, Tryz.ntmps129
  go_wp2_with fail
  refine HStr.out.mono ?_
  rintro e W0 ⟨rfl, hX0⟩
  have HP := Lib.hid (HP1.out.ext hX0)
  clear hX0 HP1 p0 HStr
  by_cases hlt : st < m
  focus
    have hlt' : (st : Int) < (m : Int) := by omega
    rw [if_pos hlt] at HR hsz
    go_wp2_with fail
    refine (HWS.out ⟨#[40]⟩ _ _ _ HP.out (by show _ + 1 ≤ _; omega)).mono ?_
    rintro e Wc ⟨rfl, hP⟩
    replace HP : Hid (PS B b [(w.heap.size, 140, #[.pointer (some ⟨bX, 0, none⟩)])] (l ++ [40]) w Wc) := hP
    replace HR : Hid (R = (l ++ [40]) ++ Tx ++ [41]) := by show _ = _; rw [HR.out]; simp
    replace hsz : (l ++ [40]).length + Tx.length + 1 ≤ 2000000 := by simp; omega
    obtain ⟨L, hL⟩ : ∃ L, L = l ++ [40] := ⟨_, rfl⟩
    rw [← hL] at HP HR hsz
    clear hP hlt hlt' hL
  rotate_left
  focus
    have hlt' : ¬ (st : Int) < (m : Int) := by omega
    rw [if_neg hlt] at HR hsz
    obtain ⟨Wc, rfl⟩ : ∃ Wc, Wc = W0 := ⟨_, rfl⟩
    obtain ⟨L, rfl⟩ : ∃ L, L = l := ⟨_, rfl⟩
    clear hlt
  all_goals
    by_cases h1 : kd = 1
    · subst h1
      have HT : Tx = dig vl := HTx.out.trans (by rw [showE_mk]; rfl)
      have hw := ar_word Hok.out.1 rfl
      unfold isWord at hw
      simp only [Bool.and_eq_true, decide_eq_true_eq] at hw
      have p0 := HF.out _ _ _ HP.out (by simp)
      obtain ⟨k00, k01, k02, k03⟩ := HBX.out _ HP.out.bel
      have HFm := Lib.hid (Tryz.strconv_FormatInt_10 vl (by omega) (by omega) _ ((HTab.out _ HP.out.bel).2.2))
      rw [itoa_dig, ← HT] at HFm
      have HTl := Lib.hid HT
      clear HT hw
      go_wp2_with fail
      refine HFm.out.mono ?_
      rintro e V1 ⟨rfl, hg⟩
      have hX1 : Ext Wc V1 := by obtain ⟨kq, os, rfl⟩ := hg; exact Lib.below_grow _ _ (Nat.le_refl _) _ _
      have HQ1 := Lib.hid (HP.out.ext hX1)
      clear p0 k00 k01 k02 k03 hX1 hg HFm
      go_wp2_with fail
      refine (HWS.out _ _ _ _ HQ1.out (by show _ + Tx.length ≤ _; omega)).mono ?_
      rintro e V2 ⟨rfl, hQ2⟩
      have HQ2 := Lib.hid hQ2
      clear hQ2
      go_wp2
      have HZ := Lib.hid (HQ2.out.cast (l' := L ++ Tx) rfl)
      first
        | (refine ⟨.tuple #[], results_none rfl _ _ _, ?_⟩
           exact ⟨rfl, wr_of HZ.out HR.out⟩)
        | (refine leaves_cons (f := 72) (args := #[.pointer (some ⟨b, 0, none⟩), .string ⟨#[41]⟩]) (by simp) (by simp [go_sem]) ?_
           refine (HDS.out _ _ _ _ HZ.out (by rw [List.length_append]; omega)).mono ?_
           rintro e u' W9 ⟨rfl, rfl, hW9⟩
           exact ⟨.tuple #[], results_none rfl _ _ _, rfl, by rw [HR.out]; exact hW9⟩)
    by_cases h2 : kd = 2
    · subst h2
      have HT : Tx = nm.data.toList := HTx.out.trans (by rw [showE_mk]; rfl)
      have HTl := Lib.hid HT
      have hnz : nm.size = Tx.length := by rw [HT]; rfl
      clear HT
      have p0 := HF.out _ _ _ HP.out (by simp)
      obtain ⟨k00, k01, k02, k03⟩ := HBX.out _ HP.out.bel
      go_wp2_with fail
      refine (HWS.out _ _ _ _ HP.out (by rw [hnz]; omega)).mono ?_
      rintro e V1 ⟨rfl, hQ1⟩
      have HQ1 := Lib.hid hQ1
      clear hQ1
      clear p0 k00 k01 k02 k03 
      go_wp2
      have HZ := Lib.hid (HQ1.out.cast (l' := L ++ Tx) (by rw [HTl.out]))
      first
        | (refine ⟨.tuple #[], results_none rfl _ _ _, ?_⟩
           exact ⟨rfl, wr_of HZ.out HR.out⟩)
        | (refine leaves_cons (f := 72) (args := #[.pointer (some ⟨b, 0, none⟩), .string ⟨#[41]⟩]) (by simp) (by simp [go_sem]) ?_
           refine (HDS.out _ _ _ _ HZ.out (by rw [List.length_append]; omega)).mono ?_
           rintro e u' W9 ⟨rfl, rfl, hW9⟩
           exact ⟨.tuple #[], results_none rfl _ _ _, rfl, by rw [HR.out]; exact hW9⟩)
    by_cases h5 : kd = 5
    · subst h5
      have HT : Tx = [105, 110, 40, 41] := HTx.out.trans (by rw [showE_mk]; rfl)
      have HTl := Lib.hid HT
      have hnz : Tx.length = 4 := by rw [HT]; rfl
      clear HT
      have p0 := HF.out _ _ _ HP.out (by simp)
      obtain ⟨k00, k01, k02, k03⟩ := HBX.out _ HP.out.bel
      go_wp2_with fail
      have hbd1 := HWS.out ⟨#[105, 110, 40, 41]⟩ _ _ _ HP.out (by show _ + 4 ≤ _; omega)
      refine hbd1.mono ?_
      clear hbd1
      rintro e V1 ⟨rfl, hQ1⟩
      have HQ1 := Lib.hid hQ1
      clear hQ1
      clear p0 k00 k01 k02 k03 
      go_wp2
      have HZ := Lib.hid (HQ1.out.cast (l' := L ++ Tx) (by rw [HTl.out]))
      first
        | (refine ⟨.tuple #[], results_none rfl _ _ _, ?_⟩
           exact ⟨rfl, wr_of HZ.out HR.out⟩)
        | (refine leaves_cons (f := 72) (args := #[.pointer (some ⟨b, 0, none⟩), .string ⟨#[41]⟩]) (by simp) (by simp [go_sem]) ?_
           refine (HDS.out _ _ _ _ HZ.out (by rw [List.length_append]; omega)).mono ?_
           rintro e u' W9 ⟨rfl, rfl, hW9⟩
           exact ⟨.tuple #[], results_none rfl _ _ _, rfl, by rw [HR.out]; exact hW9⟩)
    by_cases h3 : kd = 3
    · subst h3
      have har1 : args.length = 1 := by
        have h1 := ar_of_arity Hok.out.1
        have : ar ⟨3, vl, nm⟩ = 1 := by unfold ar; simp
        omega
      obtain ⟨x0, rfl⟩ : ∃ x0, args = [x0] := by
        match args, har1 with
        | [x0], _ => exact ⟨x0, rfl⟩
      have hvl : vs.length = 1 := HAll.out.1
      obtain ⟨q0, hq0⟩ : ∃ q0, vs[0]? = some q0 := ⟨vs[0]'(by omega), List.getElem?_eq_getElem _⟩
      obtain rfl : nA = 1 := by have := HnA.out; omega
      obtain ⟨bA, oA, rfl, hbA, hcA⟩ := SlV.at_ HSl.out (by omega)
      have HT : Tx = nm.data.toList ++ [91] ++ showE x0 ++ [93] := HTx.out.trans (by rw [showE_mk]; rfl)
      have HTl := Lib.hid HT
      have hnz : nm.size + 1 + (showE x0).length + 1 = Tx.length := by rw [HT]; simp; omega
      have HI0 : Hid (∀ bl L W, PS B b bl L w W → L.length + (showE x0).length ≤ 2000000 → Calls Tryz.prog 129 #[q0, .pointer (some ⟨b, 0, none⟩), .int .i64 0] W (fun e W' => e = .returned (.tuple #[]) ∧ PS B b bl (L ++ showE x0) w W')) := fun bl L W hP hL => by
        have := HIH.out 0 x0 q0 rfl hq0 0 bl L W (by omega) hP (by rw [prE_zero]; exact hL)
        rw [prE_zero] at this
        exact this
      have z1 : ¬ 9223372036854775807 < nm.size + 1 := by omega
      clear HT har1 hvl
      have p0 := HF.out _ _ _ HP.out (by simp)
      obtain ⟨k00, k01, k02, k03⟩ := HBX.out _ HP.out.bel
      go_wp2_with fail
      have hbd1 := HWS.out (nm ++ ⟨#[91]⟩) _ _ _ HP.out (by rw [ByteArray.size_append]; show _ + (nm.size + 1) ≤ _; omega)
      refine hbd1.mono ?_
      clear hbd1
      rintro e V1 ⟨rfl, hQ1⟩
      have HQ1 := Lib.hid hQ1
      clear hQ1
      clear p0 k00 k01 k02 k03 
      have p1 := HF.out _ _ _ HQ1.out (by simp)
      obtain ⟨k10, k11, k12, k13⟩ := HBX.out _ HQ1.out.bel
      have a1 := (keep_below HQ1.out.bel).cell hbA (hcA 0 _ hq0)
      simp only [Nat.add_zero, Nat.zero_add] at a1
      have hl1 : (L ++ (nm ++ ⟨#[91]⟩ : ByteArray).data.toList).length = L.length + (nm.size + 1) := by rw [List.length_append, Array.length_toList]; show L.length + (nm ++ ⟨#[91]⟩ : ByteArray).size = _; rw [ByteArray.size_append]; rfl
      have Hl1 := Lib.hid hl1
      clear hl1 z1
      go_wp2_with fail
      refine (HI0.out _ _ _ HQ1.out (by rw [Hl1.out]; omega)).mono ?_
      rintro e V2 ⟨rfl, hQ2⟩
      have HQ2 := Lib.hid hQ2
      clear hQ2
      clear p1 k10 k11 k12 k13 a1
      go_wp2_with fail
      have hbd3 := HWS.out ⟨#[93]⟩ _ _ _ HQ2.out (by rw [List.length_append, Hl1.out]; show _ + 1 ≤ _; omega)
      refine hbd3.mono ?_
      clear hbd3
      rintro e V3 ⟨rfl, hQ3⟩
      have HQ3 := Lib.hid hQ3
      clear hQ3
      go_wp2
      have HZ := Lib.hid (HQ3.out.cast (l' := L ++ Tx) (by rw [HTl.out]; simp [ByteArray.data_append]))
      first
        | (refine ⟨.tuple #[], results_none rfl _ _ _, ?_⟩
           exact ⟨rfl, wr_of HZ.out HR.out⟩)
        | (refine leaves_cons (f := 72) (args := #[.pointer (some ⟨b, 0, none⟩), .string ⟨#[41]⟩]) (by simp) (by simp [go_sem]) ?_
           refine (HDS.out _ _ _ _ HZ.out (by rw [List.length_append]; omega)).mono ?_
           rintro e u' W9 ⟨rfl, rfl, hW9⟩
           exact ⟨.tuple #[], results_none rfl _ _ _, rfl, by rw [HR.out]; exact hW9⟩)
    by_cases h6 : kd = 6
    · subst h6
      have har1 : args.length = 1 := by
        have h1 := ar_of_arity Hok.out.1
        have : ar ⟨6, vl, nm⟩ = 1 := by unfold ar; simp
        omega
      obtain ⟨x0, rfl⟩ : ∃ x0, args = [x0] := by
        match args, har1 with
        | [x0], _ => exact ⟨x0, rfl⟩
      have hvl : vs.length = 1 := HAll.out.1
      obtain ⟨q0, hq0⟩ : ∃ q0, vs[0]? = some q0 := ⟨vs[0]'(by omega), List.getElem?_eq_getElem _⟩
      obtain rfl : nA = 1 := by have := HnA.out; omega
      obtain ⟨bA, oA, rfl, hbA, hcA⟩ := SlV.at_ HSl.out (by omega)
      have HT : Tx = unWord ⟨6, vl, nm⟩ ++ prE x0 11 := HTx.out.trans (prE_one Hx.out rfl)
      have HTl := Lib.hid HT
      have hul := unWord_len ⟨6, vl, nm⟩
      have hnz : (unWord ⟨6, vl, nm⟩).length + (prE x0 11).length = Tx.length := by rw [HT]; simp
      have HI0 : Hid (∀ bl L W, PS B b bl L w W → L.length + (prE x0 11).length ≤ 2000000 → Calls Tryz.prog 129 #[q0, .pointer (some ⟨b, 0, none⟩), .int .i64 11] W (fun e W' => e = .returned (.tuple #[]) ∧ PS B b bl (L ++ prE x0 11) w W')) := fun bl L W hP hL => HIH.out 0 x0 q0 rfl hq0 11 bl L W (by omega) hP hL
      have hv3 := ar_un6I Hok.out.1 rfl
      obtain ⟨U, hU⟩ : ∃ U, U = unWord ⟨6, vl, nm⟩ := ⟨_, rfl⟩
      rw [← hU] at hnz HTl
      have HU := Lib.hid hU
      clear HT har1 hvl hul hU
      obtain ⟨u0, u1, u2⟩ : Wc.cell? ⟨3, 0, none⟩ = some (.string ⟨#[45]⟩) ∧ Wc.cell? ⟨3, 1, none⟩ = some (.string ⟨#[33]⟩) ∧ Wc.cell? ⟨3, 2, none⟩ = some (.string ⟨#[126]⟩) := by
        have h := (HTab.out _ HP.out.bel).2.1
        exact ⟨h 0 _ rfl, h 1 _ rfl, h 2 _ rfl⟩
      have p0 := HF.out _ _ _ HP.out (by simp)
      obtain ⟨k00, k01, k02, k03⟩ := HBX.out _ HP.out.bel
      rcases hv3 with rfl | rfl | rfl
      · have hUv : U = [45] := HU.out
        have HUv := Lib.hid hUv
        have hUl : U.length = 1 := by rw [hUv]; rfl
        rw [hUl] at hnz
        clear hUv hUl
        go_wp2_with fail
        have hbd1 := HWS.out ⟨#[45]⟩ _ _ _ HP.out (by show _ + 1 ≤ _; omega)
        refine hbd1.mono ?_
        clear hbd1
        rintro e V1 ⟨rfl, hQ1⟩
        have HQ1 := Lib.hid hQ1
        clear hQ1
        clear p0 k00 k01 k02 k03 u0 u1 u2
        have p1 := HF.out _ _ _ HQ1.out (by simp)
        obtain ⟨k10, k11, k12, k13⟩ := HBX.out _ HQ1.out.bel
        have a1 := (keep_below HQ1.out.bel).cell hbA (hcA 0 _ hq0)
        simp only [Nat.add_zero, Nat.zero_add] at a1
        go_wp2_with fail
        refine (HI0.out _ _ _ HQ1.out (by rw [List.length_append]; show _ + 1 + _ ≤ _; omega)).mono ?_
        rintro e V2 ⟨rfl, hQ2⟩
        have HQ2 := Lib.hid hQ2
        clear hQ2
        clear p1 k10 k11 k12 k13 a1
        go_wp2
        have HZ := Lib.hid (HQ2.out.cast (l' := L ++ Tx) (by rw [HTl.out, HUv.out]; simp))
        first
          | (refine ⟨.tuple #[], results_none rfl _ _ _, ?_⟩
             exact ⟨rfl, wr_of HZ.out HR.out⟩)
          | (refine leaves_cons (f := 72) (args := #[.pointer (some ⟨b, 0, none⟩), .string ⟨#[41]⟩]) (by simp) (by simp [go_sem]) ?_
             refine (HDS.out _ _ _ _ HZ.out (by rw [List.length_append]; omega)).mono ?_
             rintro e u' W9 ⟨rfl, rfl, hW9⟩
             exact ⟨.tuple #[], results_none rfl _ _ _, rfl, by rw [HR.out]; exact hW9⟩)
      · have hUv : U = [33] := HU.out
        have HUv := Lib.hid hUv
        have hUl : U.length = 1 := by rw [hUv]; rfl
        rw [hUl] at hnz
        clear hUv hUl
        go_wp2_with fail
        have hbd1 := HWS.out ⟨#[33]⟩ _ _ _ HP.out (by show _ + 1 ≤ _; omega)
        refine hbd1.mono ?_
        clear hbd1
        rintro e V1 ⟨rfl, hQ1⟩
        have HQ1 := Lib.hid hQ1
        clear hQ1
        clear p0 k00 k01 k02 k03 u0 u1 u2
        have p1 := HF.out _ _ _ HQ1.out (by simp)
        obtain ⟨k10, k11, k12, k13⟩ := HBX.out _ HQ1.out.bel
        have a1 := (keep_below HQ1.out.bel).cell hbA (hcA 0 _ hq0)
        simp only [Nat.add_zero, Nat.zero_add] at a1
        go_wp2_with fail
        refine (HI0.out _ _ _ HQ1.out (by rw [List.length_append]; show _ + 1 + _ ≤ _; omega)).mono ?_
        rintro e V2 ⟨rfl, hQ2⟩
        have HQ2 := Lib.hid hQ2
        clear hQ2
        clear p1 k10 k11 k12 k13 a1
        go_wp2
        have HZ := Lib.hid (HQ2.out.cast (l' := L ++ Tx) (by rw [HTl.out, HUv.out]; simp))
        first
          | (refine ⟨.tuple #[], results_none rfl _ _ _, ?_⟩
             exact ⟨rfl, wr_of HZ.out HR.out⟩)
          | (refine leaves_cons (f := 72) (args := #[.pointer (some ⟨b, 0, none⟩), .string ⟨#[41]⟩]) (by simp) (by simp [go_sem]) ?_
             refine (HDS.out _ _ _ _ HZ.out (by rw [List.length_append]; omega)).mono ?_
             rintro e u' W9 ⟨rfl, rfl, hW9⟩
             exact ⟨.tuple #[], results_none rfl _ _ _, rfl, by rw [HR.out]; exact hW9⟩)
      · have hUv : U = [126] := HU.out
        have HUv := Lib.hid hUv
        have hUl : U.length = 1 := by rw [hUv]; rfl
        rw [hUl] at hnz
        clear hUv hUl
        go_wp2_with fail
        have hbd1 := HWS.out ⟨#[126]⟩ _ _ _ HP.out (by show _ + 1 ≤ _; omega)
        refine hbd1.mono ?_
        clear hbd1
        rintro e V1 ⟨rfl, hQ1⟩
        have HQ1 := Lib.hid hQ1
        clear hQ1
        clear p0 k00 k01 k02 k03 u0 u1 u2
        have p1 := HF.out _ _ _ HQ1.out (by simp)
        obtain ⟨k10, k11, k12, k13⟩ := HBX.out _ HQ1.out.bel
        have a1 := (keep_below HQ1.out.bel).cell hbA (hcA 0 _ hq0)
        simp only [Nat.add_zero, Nat.zero_add] at a1
        go_wp2_with fail
        refine (HI0.out _ _ _ HQ1.out (by rw [List.length_append]; show _ + 1 + _ ≤ _; omega)).mono ?_
        rintro e V2 ⟨rfl, hQ2⟩
        have HQ2 := Lib.hid hQ2
        clear hQ2
        clear p1 k10 k11 k12 k13 a1
        go_wp2
        have HZ := Lib.hid (HQ2.out.cast (l' := L ++ Tx) (by rw [HTl.out, HUv.out]; simp))
        first
          | (refine ⟨.tuple #[], results_none rfl _ _ _, ?_⟩
             exact ⟨rfl, wr_of HZ.out HR.out⟩)
          | (refine leaves_cons (f := 72) (args := #[.pointer (some ⟨b, 0, none⟩), .string ⟨#[41]⟩]) (by simp) (by simp [go_sem]) ?_
             refine (HDS.out _ _ _ _ HZ.out (by rw [List.length_append]; omega)).mono ?_
             rintro e u' W9 ⟨rfl, rfl, hW9⟩
             exact ⟨.tuple #[], results_none rfl _ _ _, rfl, by rw [HR.out]; exact hW9⟩)
    by_cases h4 : kd = 4
    · subst h4
      have HT : Tx = nm.data.toList ++ [40] ++ commas (args.map showE) ++ [41] := by rw [HTx.out, showE_mk]; unfold showN; simp only [List.map_map]; rfl
      have hnz : nm.size + 1 + (commas (args.map showE)).length + 1 = Tx.length := by rw [HT]; simp; omega
      have HTl := Lib.hid HT
      have hvl : vs.length = args.length := HAll.out.1
      have hnal : nA = args.length := by have := HnA.out; omega
      have HNA := Lib.hid hnal
      have hn9 : nA ≤ 10 := by have := ar_six Hok.out.1; omega
      have z1 : ¬ 9223372036854775807 < nm.size + 1 := by omega
      have HCm : Hid (∀ k, (commas ((args.take k).map showE)).length ≤ (commas (args.map showE)).length) := fun k => by have := commas_mono (args.map showE) k; rwa [← List.map_take] at this
      clear HT hvl hnal
      have p0 := HF.out _ _ _ HP.out (by simp)
      obtain ⟨k00, k01, k02, k03⟩ := HBX.out _ HP.out.bel
      go_wp2_with fail
      have hbd1 := HWS.out (nm ++ ⟨#[40]⟩) _ _ _ HP.out (by rw [ByteArray.size_append]; show _ + (nm.size + 1) ≤ _; omega)
      refine hbd1.mono ?_
      clear hbd1
      rintro e V1 ⟨rfl, hQ1⟩
      have HQ1 := Lib.hid hQ1
      clear hQ1
      clear p0 k00 k01 k02 k03 
      replace HQ1 := Lib.hid (HQ1.out.cast (l' := L ++ (nm.data.toList ++ [40] ++ commas ((args.take 0).map showE))) (by simp [ByteArray.data_append, commas]))
      have p1 := HF.out _ _ _ HQ1.out (by simp)
      obtain ⟨k10, k11, k12, k13⟩ := HBX.out _ HQ1.out.bel
      go_wp2_with fail
      clear p1 k10 k11 k12 k13 
      go_loopw [108] (fun v108 wr => ∃ k : Nat, k ≤ nA ∧ v108 = .int .i64 k ∧ Hid (PS B b [(w.heap.size, 140, #[.pointer (some ⟨bX, 0, none⟩)])] (L ++ (nm.data.toList ++ [40] ++ commas ((args.take k).map showE))) w wr)) (fun v108 _ => nA - (intOf v108).toNat)
      case atStart => exact ⟨0, Nat.zero_le _, rfl, HQ1.out⟩
      case round =>
        obtain ⟨k, hk, rfl, HK⟩ := hrel
        have hck := HCm.out k
        by_cases hlt : k < nA
        · obtain ⟨bA, oA, rfl, hbA, hcA⟩ := SlV.at_ HSl.out (by omega)
          obtain ⟨a, ha⟩ : ∃ a, args[k]? = some a := ⟨args[k]'(by have := HNA.out; omega), List.getElem?_eq_getElem _⟩
          obtain ⟨q, hq⟩ : ∃ q, vs[k]? = some q := ⟨vs[k]'(by have := HNA.out; have h9 := HAll.out.1; change vs.length = args.length at h9; omega), List.getElem?_eq_getElem _⟩
          have hsn : (args.take (k + 1)).map showE = (args.take k).map showE ++ [showE a] := by rw [take_snoc ha, List.map_append]; rfl
          have hck1 := HCm.out (k + 1)
          rw [hsn, commas_snoc] at hck1
          have HI0 : Hid (∀ bl L W, PS B b bl L w W → L.length + (showE a).length ≤ 2000000 → Calls Tryz.prog 129 #[q, .pointer (some ⟨b, 0, none⟩), .int .i64 0] W (fun e W' => e = .returned (.tuple #[]) ∧ PS B b bl (L ++ showE a) w W')) := fun bl L W hP hL => by
            have := HIH.out k a q ha hq 0 bl L W (by omega) hP (by rw [prE_zero]; exact hL)
            rw [prE_zero] at this
            exact this
          have p9 := HF.out _ _ _ HK.out (by simp)
          obtain ⟨m0, m1, m2, m3⟩ := HBX.out _ HK.out.bel
          have a9 := (keep_below HK.out.bel).cell hbA (hcA k _ hq)
          have y0 : (0 : Int) ≤ (k : Int) := by omega
          have y1 : (k : Int) < (nA : Int) := by omega
          have HSn := Lib.hid hsn
          clear hsn ha hcA
          by_cases hk0 : k = 0
          · subst hk0
            have hz : ¬ (0 : Int) < ((0 : Nat) : Int) := by omega
            simp only [Nat.add_zero] at a9
            have hb0 : (L ++ (nm.data.toList ++ [40] ++ commas ((args.take 0).map showE))).length + (showE a).length ≤ 2000000 := by
              simp [commas] at hck1 ⊢
              have : nm.data.size = nm.size := rfl
              omega
            have hC := HI0.out _ _ _ HK.out hb0
            clear hb0 hck1 hck
            go_wp2_with fail
            refine hC.mono ?_
            rintro e V5 ⟨rfl, hQ5⟩
            have HQ5 := Lib.hid (hQ5.cast (l' := L ++ (nm.data.toList ++ [40] ++ commas ((args.take (0 + 1)).map showE))) (by rw [HSn.out, commas_snoc]; simp [commas]))
            clear hQ5 hC p9 m0 m1 m2 m3 a9
            go_wp2
            go_roundw
            case rel => exact ⟨0 + 1, by omega, by go_num, HQ5.out⟩
            case measure => simp [intOf]; omega
          · have hz : (0 : Int) < (k : Int) := by omega
            have hne : ¬ (args.take k).map showE = [] := fun e => by
              have := congrArg List.length e
              rw [List.length_map, List.length_take, List.length_nil] at this
              have := HNA.out
              omega
            rw [if_neg hne] at hck1
            have HNe := Lib.hid hne
            have hb0 : (L ++ (nm.data.toList ++ [40] ++ commas ((args.take k).map showE))).length + ByteArray.size ⟨#[44, 32]⟩ ≤ 2000000 := by
              show _ + 2 ≤ _
              simp at hck1 ⊢
              have : nm.data.size = nm.size := rfl
              omega
            have hC := HWS.out ⟨#[44, 32]⟩ _ _ _ HK.out hb0
            have hb1 : (L ++ (nm.data.toList ++ [40] ++ commas ((args.take k).map showE)) ++ [44, 32]).length + (showE a).length ≤ 2000000 := by
              simp at hck1 ⊢
              have : nm.data.size = nm.size := rfl
              omega
            have HB1 := Lib.hid hb1
            clear hb0 hck1 hck hne hb1
            go_wp2_with fail
            refine hC.mono ?_
            rintro e V4 ⟨rfl, hQ4⟩
            have HQ4 := Lib.hid (hQ4.cast (l' := L ++ (nm.data.toList ++ [40] ++ commas ((args.take k).map showE)) ++ [44, 32]) rfl)
            clear hQ4 hC
            have hC := HI0.out _ _ _ HQ4.out HB1.out
            go_wp2_with fail
            refine hC.mono ?_
            rintro e V5 ⟨rfl, hQ5⟩
            have HQ5 := Lib.hid (hQ5.cast (l' := L ++ (nm.data.toList ++ [40] ++ commas ((args.take (k + 1)).map showE))) (by rw [HSn.out, commas_snoc, if_neg HNe.out]; simp))
            clear hQ5 hC p9 m0 m1 m2 m3 a9
            go_wp2
            go_roundw
            case rel => exact ⟨k + 1, by omega, by go_num, HQ5.out⟩
            case measure => simp [intOf]; omega
        · obtain rfl : k = nA := by omega
          replace HK := Lib.hid (HK.out.cast (l' := L ++ (nm.data.toList ++ [40] ++ commas (args.map showE))) (by rw [List.take_of_length_le (by have := HNA.out; omega)]))
          have hb0 : (L ++ (nm.data.toList ++ [40] ++ commas (args.map showE))).length + ByteArray.size ⟨#[41]⟩ ≤ 2000000 := by
            show _ + 1 ≤ _
            simp
            have : nm.data.size = nm.size := rfl
            omega
          have hC := HWS.out ⟨#[41]⟩ _ _ _ HK.out hb0
          clear hb0 hck
          go_wp2_with fail
          refine hC.mono ?_
          rintro e V6 ⟨rfl, hQ6⟩
          have HZ := Lib.hid (hQ6.cast (l' := L ++ Tx) (by rw [HTl.out]; simp))
          clear hQ6 hC
          go_wp2
          first
            | (refine ⟨.tuple #[], results_none rfl _ _ _, ?_⟩
               exact ⟨rfl, wr_of HZ.out HR.out⟩)
            | (refine leaves_cons (f := 72) (args := #[.pointer (some ⟨b, 0, none⟩), .string ⟨#[41]⟩]) (by simp) (by simp [go_sem]) ?_
               refine (HDS.out _ _ _ _ HZ.out (by rw [List.length_append]; omega)).mono ?_
               rintro e u' W9 ⟨rfl, rfl, hW9⟩
               exact ⟨.tuple #[], results_none rfl _ _ _, rfl, by rw [HR.out]; exact hW9⟩)
    have hk789 : kd = 7 ∨ kd = 8 ∨ kd = 9 := by
      have := Hok.out.1
      unfold arity at this
      simp only at this
      rw [if_neg (by omega)] at this
      by_cases hz : nm.size = 0
      · rw [if_pos hz, if_neg h1, if_neg h5, if_neg h6] at this
        by_cases h7 : kd = 7
        · exact .inl h7
        · rw [if_neg h7] at this
          by_cases h89 : kd = 8 ∨ kd = 9
          · exact .inr h89
          · rw [if_neg h89] at this
            cases this
      · rw [if_neg hz] at this
        cases this
    have har2 : args.length = 2 := by
      have h0 := ar_of_arity Hok.out.1
      have : ar ⟨kd, vl, nm⟩ = 2 := by
        unfold ar
        simp only
        rw [if_neg (by omega), if_neg h4, if_pos hk789]
      omega
    obtain ⟨x0, x1, rfl⟩ : ∃ x0 x1, args = [x0, x1] := by
      match args, har2 with
      | [x0, x1], _ => exact ⟨x0, x1, rfl⟩
    have hvl : vs.length = 2 := HAll.out.1
    obtain ⟨q0, hq0⟩ : ∃ q0, vs[0]? = some q0 := ⟨vs[0]'(by omega), List.getElem?_eq_getElem _⟩
    obtain ⟨q1, hq1⟩ : ∃ q1, vs[1]? = some q1 := ⟨vs[1]'(by omega), List.getElem?_eq_getElem _⟩
    obtain rfl : nA = 2 := by have := HnA.out; omega
    obtain ⟨bA, oA, rfl, hbA, hcA⟩ := SlV.at_ HSl.out (by omega)
    obtain ⟨o, ho, hos, hosg⟩ := opPlace_two Hok.out.1 hk789
    have hsl := strong_le Hok.out.1 hk789
    have HT : Tx = prE x0 o.str ++ ([32] ++ o.sign ++ [32]) ++ prE x1 (o.str + 1) := by rw [HTx.out, prE_two Hx.out hk789, hos, hosg]
    have hnz : (prE x0 o.str).length + (1 + o.sign.length + 1) + (prE x1 (o.str + 1)).length = Tx.length := by rw [HT]; simp; omega
    have HTl := Lib.hid HT
    rw [← hos] at hsl
    have HI0 := Lib.hid (fun bl L W => HIH.out 0 x0 q0 rfl hq0 o.str bl L W (by omega))
    have HI1 : Hid (∀ bl L W, PS B b bl L w W → L.length + (prE x1 (o.str + 1)).length ≤ 2000000 → Calls Tryz.prog 129 #[q1, .pointer (some ⟨b, 0, none⟩), .int .i64 ((o.str : Int) + 1)] W (fun e W' => e = .returned (.tuple #[]) ∧ PS B b bl (L ++ prE x1 (o.str + 1)) w W')) := fun bl L W hP hL => HIH.out 1 x1 q1 rfl hq1 (o.str + 1) bl L W (by omega) hP hL
    have hp0 := HF.out _ _ _ HP.out (by simp)
    obtain ⟨n0, n1, n2, n3⟩ := HBX.out _ HP.out.bel
    have HBin := Lib.hid (i_binOf ⟨kd, vl, nm⟩ 167 #[.pointer (some ⟨w.heap.size, 0, none⟩)] Wc (HTab.out _ HP.out.bel).1 enters_print
      (fun w' hw => pr_print ⟨kd, vl, nm⟩ bX w.heap.size w' (Ext.cell hw hp0) (Ext.cell hw n0) (Ext.cell hw n1) (Ext.cell hw n2)))
    have HO := Lib.hid ho
    have f1 : (kd == 1) = false := by simpa using h1
    have f2 : (kd == 2) = false := by simpa using h2
    have f3 : (kd == 3) = false := by simpa using h3
    have f4 : (kd == 4) = false := by simpa using h4
    have f5 : (kd == 5) = false := by simpa using h5
    have f6 : (kd == 6) = false := by simpa using h6
    clear HT har2 hvl ho hos hosg hk789 h1 h2 h3 h4 h5 h6
    go_wp2_with fail
    refine HBin.out.mono ?_
    rintro e V1 ⟨hX1, ⟨o', ho', rfl⟩ | ⟨hno, rfl⟩⟩
    rotate_left
    · exact absurd (List.getElem?_eq_some_iff.1 HO.out).1 (Nat.not_lt.2 hno)
    obtain rfl : o = o' := Option.some.inj (HO.out.symm.trans ho')
    have B2 := Blk.alloc V1 234 #[.string (str o.sign), .int .i64 o.str, .int .i64 o.kind, .int .i64 o.val, .string ⟨#[]⟩]
    have X2 : Ext V1 (V1.alloc (.cells #[.string (str o.sign), .int .i64 o.str, .int .i64 o.kind, .int .i64 o.val, .string ⟨#[]⟩] 234)) := (Ext.refl V1).alloc _
    have hV1 : w.heap.size ≤ V1.heap.size := Nat.le_trans HP.out.bel.size hX1.size
    have HP2 := Lib.hid (((HP.out.ext hX1).ext X2).add V1.heap.size 234 _ B2 (by omega) (by decide))
    have HG : Hid (∀ bl L W, PS B b bl L w W → (V1.heap.size, 234, #[.string (str o.sign), .int .i64 o.str, .int .i64 o.kind, .int .i64 o.val, .string ⟨#[]⟩]) ∈ bl → W.cell? ⟨V1.heap.size, 0, none⟩ = some (.string (str o.sign)) ∧ W.cell? ⟨V1.heap.size, 1, none⟩ = some (.int .i64 o.str)) := fun bl L W hP hi => ⟨((hP.kept _ hi).1.cell 0).trans rfl, ((hP.kept _ hi).1.cell 1).trans rfl⟩
    have HC : Hid (∀ bl L W, PS B b bl L w W → W.cell? ⟨bA, oA, none⟩ = some q0 ∧ W.cell? ⟨bA, oA + 1, none⟩ = some q1) := fun bl L W hP => ⟨(keep_below hP.bel).cell hbA (hcA 0 _ hq0), (keep_below hP.bel).cell hbA (hcA 1 _ hq1)⟩
    simp only [encOp]
    clear HBin ho' hX1 X2 hV1 B2 hp0 n0 n1 n2 n3 hcA hq0 hq1
    go_wp2_with fail
    generalize V1.alloc (.cells #[.string (str o.sign), .int .i64 o.str, .int .i64 o.kind, .int .i64 o.val, .string ⟨#[]⟩] 234) = V2 at HP2 ⊢
    have HS : Hid (∀ bl L W, PS B b bl L w W → (w.heap.size, 140, #[.pointer (some ⟨bX, 0, none⟩)]) ∈ bl → (V1.heap.size, 234, #[.string (str o.sign), .int .i64 o.str, .int .i64 o.kind, .int .i64 o.val, .string ⟨#[]⟩]) ∈ bl → (fun w' => w'.cell? ⟨w.heap.size, 0, none⟩ = some (.pointer (some ⟨bX, 0, none⟩)) ∧ w'.cell? ⟨bX, 3, none⟩ = some (.slice (some ⟨bA, oA, none⟩) 2 cA) ∧ w'.cell? ⟨bA, oA, none⟩ = some q0 ∧ w'.cell? ⟨bA, oA + 1, none⟩ = some q1 ∧ w'.cell? ⟨V1.heap.size, 1, none⟩ = some (.int .i64 o.str)) W) := fun bl L W hP h1 h2 => ⟨HF.out _ _ _ hP h1, (HBX.out _ hP.bel).2.2.2, (HC.out _ _ _ hP).1, (HC.out _ _ _ hP).2, (HG.out _ _ _ hP h2).2⟩
    replace HP2 := Lib.hid (HP2.out.ext ((Ext.refl V2).drew))
    refine wp_region_noPanic ?_
    refine start_ (n := 10) (S := fun w' => w'.cell? ⟨w.heap.size, 0, none⟩ = some (.pointer (some ⟨bX, 0, none⟩)) ∧ w'.cell? ⟨bX, 3, none⟩ = some (.slice (some ⟨bA, oA, none⟩) 2 cA) ∧ w'.cell? ⟨bA, oA, none⟩ = some q0 ∧ w'.cell? ⟨bA, oA + 1, none⟩ = some q1 ∧ w'.cell? ⟨V1.heap.size, 1, none⟩ = some (.int .i64 o.str)) (ds := []) #[false, false, false, false, false, false, false, false, false, false] (by kernel_rfl) rfl rfl ?hS (fun hHeld => ?_)
    case hS => exact HS.out _ _ _ HP2.out (by simp) (by simp)
    refine take_ (i := 0) (N := some 27) (v := ?_) (a' := ?_) #[true, false, false, false, false, false, false, false, false, false] rfl rfl (by kernel_rfl) (fun _ _ _ h => h) (Or.inl ⟨by rfl, ?_⟩) hHeld ?_ ?_
    rotate_left
    · rintro w' ⟨y0, y1, y2, y3, y4⟩
      go_simp
      with_reducible rfl
    rotate_left
    · simp only [Act.put, List.setIfInBounds_toArray, List.set_cons_zero, List.set_cons_succ, i64_w, i32_w]
      rfl
    refine pure_ (i := 1) (N := some 28) (v := ?_) (a' := ?_) #[true, true, false, false, false, false, false, false, false, false] rfl rfl (by kernel_rfl) (fun _ _ _ h => h) (Or.inl ⟨by rfl, ?_⟩) ?_ ?_
    rotate_left
    · intro w'
      go_simp
      with_reducible rfl
    rotate_left
    · simp only [Act.put, List.setIfInBounds_toArray, List.set_cons_zero, List.set_cons_succ, i64_w, i32_w]
      rfl
    refine pure_ (i := 2) (N := some 29) (v := ?_) (a' := ?_) #[true, true, true, false, false, false, false, false, false, false] rfl rfl (by kernel_rfl) (fun _ _ _ h => h) (Or.inl ⟨by rfl, ?_⟩) ?_ ?_
    rotate_left
    · intro w'
      go_simp
      with_reducible rfl
    rotate_left
    · simp only [Act.put, List.setIfInBounds_toArray, List.set_cons_zero, List.set_cons_succ, i64_w, i32_w]
      rfl
    refine take_ (i := 3) (N := some 30) (v := ?_) (a' := ?_) #[true, true, true, true, false, false, false, false, false, false] rfl rfl (by kernel_rfl) (fun _ _ _ h => h) (Or.inl ⟨by rfl, ?_⟩) hHeld ?_ ?_
    rotate_left
    · rintro w' ⟨y0, y1, y2, y3, y4⟩
      go_simp
      with_reducible rfl
    rotate_left
    · simp only [Act.put, List.setIfInBounds_toArray, List.set_cons_zero, List.set_cons_succ, i64_w, i32_w]
      rfl
    refine pure_ (i := 4) (N := some 31) (v := ?_) (a' := ?_) #[true, true, true, true, true, false, false, false, false, false] rfl rfl (by kernel_rfl) (fun _ _ _ h => h) (Or.inl ⟨by rfl, ?_⟩) ?_ ?_
    rotate_left
    · intro w'
      go_simp
      with_reducible rfl
    rotate_left
    · simp only [Act.put, List.setIfInBounds_toArray, List.set_cons_zero, List.set_cons_succ, i64_w, i32_w]
      rfl
    refine take_ (i := 5) (N := some 32) (v := ?_) (a' := ?_) #[true, true, true, true, true, true, false, false, false, false] rfl rfl (by kernel_rfl) (fun _ _ _ h => h) (Or.inl ⟨by rfl, ?_⟩) hHeld ?_ ?_
    rotate_left
    · rintro w' ⟨y0, y1, y2, y3, y4⟩
      go_simp
      with_reducible rfl
    rotate_left
    · simp only [Act.put, List.setIfInBounds_toArray, List.set_cons_zero, List.set_cons_succ, i64_w, i32_w]
      rfl
    refine pure_ (i := 6) (N := some 33) (v := ?_) (a' := ?_) #[true, true, true, true, true, true, true, false, false, false] rfl rfl (by kernel_rfl) (fun _ _ _ h => h) (Or.inl ⟨by rfl, ?_⟩) ?_ ?_
    rotate_left
    · intro w'
      go_simp
      with_reducible rfl
    rotate_left
    · simp only [Act.put, List.setIfInBounds_toArray, List.set_cons_zero, List.set_cons_succ, i64_w, i32_w]
      rfl
    refine pure_ (i := 7) (N := some 34) (v := ?_) (a' := ?_) #[true, true, true, true, true, true, true, true, false, false] rfl rfl (by kernel_rfl) (fun _ _ _ h => h) (Or.inl ⟨by rfl, ?_⟩) ?_ ?_
    rotate_left
    · intro w'
      go_simp
      with_reducible rfl
    rotate_left
    · simp only [Act.put, List.setIfInBounds_toArray, List.set_cons_zero, List.set_cons_succ, i64_w, i32_w]
      rfl
    refine take_ (i := 8) (N := some 35) (v := ?_) (a' := ?_) #[true, true, true, true, true, true, true, true, true, false] rfl rfl (by kernel_rfl) (fun _ _ _ h => h) (Or.inl ⟨by rfl, ?_⟩) hHeld ?_ ?_
    rotate_left
    · rintro w' ⟨y0, y1, y2, y3, y4⟩
      go_simp
      with_reducible rfl
    rotate_left
    · simp only [Act.put, List.setIfInBounds_toArray, List.set_cons_zero, List.set_cons_succ, i64_w, i32_w]
      rfl
    generalize V2.drew = V3 at HP2 hHeld ⊢
    have hC := HI0.out _ _ _ HP2.out (by omega)
    refine one_ (i := 9) (N := some 36) #[true, true, true, true, true, true, true, true, true, true] rfl rfl (by kernel_rfl) (by decide) (fun K hK => ?_)
    refine goes_ (N := some 36) Tryz.func129 (by kernel_rfl) rfl #[q0, .pointer (some ⟨b, 0, none⟩), .int .i64 o.str] (by rfl) rfl rfl (by simp [Act.eval]) ?_
    refine hC.mono ?_
    rintro e V4 ⟨rfl, hP4⟩
    refine ⟨_, rfl, ?_⟩
    refine hK.out _ _ (HS.out _ _ _ hP4 (by simp) (by simp)) (fun hHeld => ?_)
    clear hK K
    refine norm_ (a' := ?_) ?_ ?_
    rotate_left
    · show Act.put _ (some 36) _ = _
      simp only [Act.put, List.setIfInBounds_toArray, List.set_cons_zero, List.set_cons_succ, i64_w, i32_w]
      rfl
    refine done_ (by kernel_rfl) ?_
    refine NoPanic.normal ?_
    have HP4 := Lib.hid hP4
    clear hC hHeld hP4
    obtain ⟨g0, g1⟩ := HG.out _ _ _ HP4.out (by simp)
    have hsg : (str o.sign).size = o.sign.length := rfl
    have z1 : ¬ 9223372036854775807 < 1 + (str o.sign).size := by omega
    have z2 : ¬ 9223372036854775807 < 1 + (str o.sign).size + 1 := by omega
    have hbb : (L ++ prE x0 o.str).length + (⟨#[32]⟩ ++ str o.sign ++ ⟨#[32]⟩ : ByteArray).size ≤ 2000000 := by
      rw [ByteArray.size_append, ByteArray.size_append, List.length_append]
      show _ + (1 + o.sign.length + 1) ≤ _
      omega
    have hC := HWS.out (⟨#[32]⟩ ++ str o.sign ++ ⟨#[32]⟩) _ _ _ HP4.out hbb
    clear hbb hsg
    go_wp2_with fail
    refine hC.mono ?_
    rintro e V5 ⟨rfl, hP5⟩
    have HP5 := Lib.hid (hP5.cast (l' := L ++ prE x0 o.str ++ ([32] ++ o.sign ++ [32])) (by simp [ByteArray.data_append, str]))
    clear hC hP5 g0 g1 z1 z2
    go_wp2_with fail
    replace HP5 := Lib.hid (HP5.out.ext ((Ext.refl V5).drew))
    refine wp_region_noPanic ?_
    refine start_ (n := 11) (S := fun w' => w'.cell? ⟨w.heap.size, 0, none⟩ = some (.pointer (some ⟨bX, 0, none⟩)) ∧ w'.cell? ⟨bX, 3, none⟩ = some (.slice (some ⟨bA, oA, none⟩) 2 cA) ∧ w'.cell? ⟨bA, oA, none⟩ = some q0 ∧ w'.cell? ⟨bA, oA + 1, none⟩ = some q1 ∧ w'.cell? ⟨V1.heap.size, 1, none⟩ = some (.int .i64 o.str)) (ds := []) #[false, false, false, false, false, false, false, false, false, false, false] (by kernel_rfl) rfl rfl ?hS (fun hHeld => ?_)
    case hS => exact HS.out _ _ _ HP5.out (by simp) (by simp)
    have hs1 : IntKind.i64.wrap ((o.str : Int) + 1) = (o.str : Int) + 1 := IntWalk.i64_in _ (by omega)
    refine take_ (i := 0) (N := some 43) (v := ?_) (a' := ?_) #[true, false, false, false, false, false, false, false, false, false, false] rfl rfl (by kernel_rfl) (fun _ _ _ h => h) (Or.inl ⟨by rfl, ?_⟩) hHeld ?_ ?_
    rotate_left
    · rintro w' ⟨y0, y1, y2, y3, y4⟩
      go_simp
      with_reducible rfl
    rotate_left
    · simp only [Act.put, List.setIfInBounds_toArray, List.set_cons_zero, List.set_cons_succ, i64_w, i32_w]
      rfl
    refine pure_ (i := 1) (N := some 44) (v := ?_) (a' := ?_) #[true, true, false, false, false, false, false, false, false, false, false] rfl rfl (by kernel_rfl) (fun _ _ _ h => h) (Or.inl ⟨by rfl, ?_⟩) ?_ ?_
    rotate_left
    · intro w'
      go_simp
      with_reducible rfl
    rotate_left
    · simp only [Act.put, List.setIfInBounds_toArray, List.set_cons_zero, List.set_cons_succ, i64_w, i32_w]
      rfl
    refine pure_ (i := 2) (N := some 45) (v := ?_) (a' := ?_) #[true, true, true, false, false, false, false, false, false, false, false] rfl rfl (by kernel_rfl) (fun _ _ _ h => h) (Or.inl ⟨by rfl, ?_⟩) ?_ ?_
    rotate_left
    · intro w'
      go_simp
      with_reducible rfl
    rotate_left
    · simp only [Act.put, List.setIfInBounds_toArray, List.set_cons_zero, List.set_cons_succ, i64_w, i32_w]
      rfl
    refine take_ (i := 3) (N := some 46) (v := ?_) (a' := ?_) #[true, true, true, true, false, false, false, false, false, false, false] rfl rfl (by kernel_rfl) (fun _ _ _ h => h) (Or.inl ⟨by rfl, ?_⟩) hHeld ?_ ?_
    rotate_left
    · rintro w' ⟨y0, y1, y2, y3, y4⟩
      go_simp
      with_reducible rfl
    rotate_left
    · simp only [Act.put, List.setIfInBounds_toArray, List.set_cons_zero, List.set_cons_succ, i64_w, i32_w]
      rfl
    refine pure_ (i := 4) (N := some 47) (v := ?_) (a' := ?_) #[true, true, true, true, true, false, false, false, false, false, false] rfl rfl (by kernel_rfl) (fun _ _ _ h => h) (Or.inl ⟨by rfl, ?_⟩) ?_ ?_
    rotate_left
    · intro w'
      go_simp
      with_reducible rfl
    rotate_left
    · simp only [Act.put, List.setIfInBounds_toArray, List.set_cons_zero, List.set_cons_succ, i64_w, i32_w]
      rfl
    refine take_ (i := 5) (N := some 48) (v := ?_) (a' := ?_) #[true, true, true, true, true, true, false, false, false, false, false] rfl rfl (by kernel_rfl) (fun _ _ _ h => h) (Or.inl ⟨by rfl, ?_⟩) hHeld ?_ ?_
    rotate_left
    · rintro w' ⟨y0, y1, y2, y3, y4⟩
      go_simp
      with_reducible rfl
    rotate_left
    · simp only [Act.put, List.setIfInBounds_toArray, List.set_cons_zero, List.set_cons_succ, i64_w, i32_w]
      rfl
    refine pure_ (i := 6) (N := some 49) (v := ?_) (a' := ?_) #[true, true, true, true, true, true, true, false, false, false, false] rfl rfl (by kernel_rfl) (fun _ _ _ h => h) (Or.inl ⟨by rfl, ?_⟩) ?_ ?_
    rotate_left
    · intro w'
      go_simp
      with_reducible rfl
    rotate_left
    · simp only [Act.put, List.setIfInBounds_toArray, List.set_cons_zero, List.set_cons_succ, i64_w, i32_w]
      rfl
    refine pure_ (i := 7) (N := some 50) (v := ?_) (a' := ?_) #[true, true, true, true, true, true, true, true, false, false, false] rfl rfl (by kernel_rfl) (fun _ _ _ h => h) (Or.inl ⟨by rfl, ?_⟩) ?_ ?_
    rotate_left
    · intro w'
      go_simp
      with_reducible rfl
    rotate_left
    · simp only [Act.put, List.setIfInBounds_toArray, List.set_cons_zero, List.set_cons_succ, i64_w, i32_w]
      rfl
    refine take_ (i := 8) (N := some 51) (v := ?_) (a' := ?_) #[true, true, true, true, true, true, true, true, true, false, false] rfl rfl (by kernel_rfl) (fun _ _ _ h => h) (Or.inl ⟨by rfl, ?_⟩) hHeld ?_ ?_
    rotate_left
    · rintro w' ⟨y0, y1, y2, y3, y4⟩
      go_simp
      with_reducible rfl
    rotate_left
    · simp only [Act.put, List.setIfInBounds_toArray, List.set_cons_zero, List.set_cons_succ, i64_w, i32_w]
      rfl
    refine pure_ (i := 9) (N := some 52) (v := ?_) (a' := ?_) #[true, true, true, true, true, true, true, true, true, true, false] rfl rfl (by kernel_rfl) (fun _ _ _ h => h) (Or.inl ⟨by rfl, ?_⟩) ?_ ?_
    rotate_left
    · intro w'
      go_simp
      with_reducible rfl
    rotate_left
    · simp only [Act.put, List.setIfInBounds_toArray, List.set_cons_zero, List.set_cons_succ, i64_w, i32_w]
      rfl
    generalize V5.drew = V6 at HP5 hHeld ⊢
    have hC := HI1.out _ _ _ HP5.out (by rw [List.length_append, List.length_append]; simp only [List.length_append, List.length_cons, List.length_nil]; omega)
    refine one_ (i := 10) (N := some 53) #[true, true, true, true, true, true, true, true, true, true, true] rfl rfl (by kernel_rfl) (by decide) (fun K hK => ?_)
    refine goes_ (N := some 53) Tryz.func129 (by kernel_rfl) rfl #[q1, .pointer (some ⟨b, 0, none⟩), .int .i64 ((o.str : Int) + 1)] (by rfl) rfl rfl (by simp [Act.eval]) ?_
    refine hC.mono ?_
    rintro e V7 ⟨rfl, hP7⟩
    refine ⟨_, rfl, ?_⟩
    refine hK.out _ _ (HS.out _ _ _ hP7 (by simp) (by simp)) (fun hHeld => ?_)
    clear hK K
    refine norm_ (a' := ?_) ?_ ?_
    rotate_left
    · show Act.put _ (some 53) _ = _
      simp only [Act.put, List.setIfInBounds_toArray, List.set_cons_zero, List.set_cons_succ, i64_w, i32_w]
      rfl
    refine done_ (by kernel_rfl) ?_
    refine NoPanic.normal ?_
    have HZ := Lib.hid (hP7.cast (l' := L ++ Tx) (by rw [HTl.out]; simp))
    clear hC hHeld hP7
    go_wp2
    first
      | (refine ⟨.tuple #[], results_none rfl _ _ _, ?_⟩
         exact ⟨rfl, wr_of HZ.out HR.out⟩)
      | (refine leaves_cons (f := 72) (args := #[.pointer (some ⟨b, 0, none⟩), .string ⟨#[41]⟩]) (by simp) (by simp [go_sem]) ?_
         refine (HDS.out _ _ _ _ HZ.out (by rw [List.length_append]; omega)).mono ?_
         rintro e u' W9 ⟨rfl, rfl, hW9⟩
         exact ⟨.tuple #[], results_none rfl _ _ _, rfl, by rw [HR.out]; exact hW9⟩)
end Go.Proofs.YtolbngbedncemaaGreatDoor

