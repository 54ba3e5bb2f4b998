/- What the listed variables of the program hold, out of the row's condition: the operators' table, the unary signs, the powers of ten, the reserved words. -/
import Derived.Test.YtolbngbedncemaaGreatDoorTreeL
import Derived.Test.YtolbngbedncemaaGreatDoorImPC
import Derived.Lib.LaidTab
import Derived.LaidLaws
import Derived.OpenShut
set_option linter.unusedVariables false
set_option linter.unusedSimpArgs false
namespace Go.Proofs.YtolbngbedncemaaGreatDoor
open Go Go.RowKit Md

theorem laidVar {P : Program} {w : World} : ∀ {laid : List (String × DataW Unit)} {ps : List MemPlace}, DataW.LaidVars P w laid ps → ∀ {n : String} {d : DataW Unit}, (n, d) ∈ laid →
    ∃ g t cs fuel p, P.globalNamed n = some g ∧ (P.globals[g]?).map (·.type) = some t ∧ w.var? P n = some cs ∧ DataW.trod (fun _ => ()) P w 0 (fun _ => true) false fuel t cs.toList = some (d, p)
  | [], _, _, _, _, hm => by cases hm
  | (n', d') :: r, _, h, n, d, hm => by
    obtain ⟨g, t, cs, fuel, p, q, h1, h2, h3, h4, h5, _⟩ := h
    rcases List.mem_cons.1 hm with e | hm
    · cases e
      exact ⟨g, t, cs, fuel, p, h1, h2, h3, h4⟩
    · exact laidVar h5 hm
section
variable {H : Type} {enc : TypeId × Value → H} {P : Program} {W : World} {held : Bool}
theorem str_lit {T : Nat} (hT : P.underlying T = some .string) {fuel : Nat} {cs : List Value} {l : List UInt8} {p : List MemPlace} {sp : Nat → Bool} (h : DataW.trod enc P W 0 sp held fuel T cs = some (.lit (.string l), p)) : cs = [.string (str l)] := by
  obtain ⟨s, h1, h2, _⟩ := DataW.trod_string hT h
  simp only [Prod.mk.injEq, DataW.lit.injEq, Lit.string.injEq] at h2
  rw [h1, h2.1, str_data]
theorem int_lit {T : Nat} {k : IntKind} (hT : P.underlying T = some (.int k)) {fuel : Nat} {cs : List Value} {z : Int} {p : List MemPlace} {sp : Nat → Bool} (h : DataW.trod enc P W 0 sp held fuel T cs = some (.lit (.int k z), p)) : cs = [.int k z] := by
  obtain ⟨s, h1, h2, _⟩ := DataW.trod_int hT h
  simp only [Prod.mk.injEq, DataW.lit.injEq, Lit.int.injEq] at h2
  rw [h1, h2.1.2]
/-- A slice that reads as known data: its cells. -/
theorem slice_lit {α : Type} {T E sz : Nat} (hT : P.underlying T = some (.slice E)) (hsz : P.cellsOf E = sz) (el : α → DataW H) (en : α → List Value) (l : List α) (hl : 0 < l.length)
    (hel : ∀ x ∈ l, ∀ (fuel : Nat) cs q, DataW.trod enc P W 0 (fun _ => true) held fuel E cs = some (el x, q) → cs = en x) (h0 : ∀ x ∈ l, (en x).length = sz) (hp : 0 < sz) {fuel : Nat} {v : Value} {p : List MemPlace}
    (h : DataW.trod enc P W 0 (fun _ => true) held fuel T [v] = some (.slice (l.map el) [], p)) :
    ∃ b o c, v = .slice (some ⟨b, o, none⟩) l.length c ∧ l.length ≤ c ∧ c ≤ maxLen ∧ ∀ (j : Nat) x, l[j]? = some x → Cells W b (o + j * sz) (en x) := by
  rcases DataW.trod_slice hT h with ⟨_, hx⟩ | ⟨a, len, cap, elems, rest, n, _, hcs, hx, _, hlc, hcm, hlen, hall, _, _⟩
  · cases hx
  simp only [Prod.mk.injEq, DataW.slice.injEq] at hx
  obtain ⟨⟨hx1, _⟩, _⟩ := hx
  have hll : len = l.length := by
    have := congrArg List.length hx1
    simp only [List.length_map] at this
    omega
  subst hll
  obtain rfl : v = .slice (some a) l.length cap := by simpa using hcs
  have hcell : ∀ (j : Nat) x, l[j]? = some x → ∀ i u, (en x)[i]? = some u → W.cell? ((a.add (j * sz)).add i) = some u := fun j x hj i u hu => by
    have hjl := (List.getElem?_eq_some_iff.1 hj).1
    have h1 := hall j hjl
    rw [hsz] at h1
    have h2 : elems[j]? = some (el x, (elems[j]'(by omega)).2) := by
      have h3 : (elems.map (·.1))[j]? = some (el x) := by rw [← hx1, List.getElem?_map, hj]; rfl
      rw [List.getElem?_map, List.getElem?_eq_getElem (by omega : j < elems.length)] at h3
      simp only [Option.map_some, Option.some.injEq] at h3
      rw [List.getElem?_eq_getElem (by omega : j < elems.length), ← h3]
    rw [h2] at h1
    obtain ⟨cs, hc1, hc2⟩ := Option.bind_eq_some_iff.1 h1
    have hce := hel x (List.mem_of_getElem? hj) _ _ _ hc2
    subst hce
    obtain ⟨_, _, hc3⟩ := World.cells?_some hc1
    have hil := (List.getElem?_eq_some_iff.1 hu).1
    rw [hc3 i (by rw [← h0 x (List.mem_of_getElem? hj)]; exact hil)]
    exact hu
  have hsp : a.spot = none := by
    obtain ⟨x, hx0⟩ : ∃ x, l[0]? = some x := ⟨l[0], List.getElem?_eq_getElem hl⟩
    have hz := h0 x (List.mem_of_getElem? hx0)
    have := hcell 0 x hx0 0 _ (List.getElem?_eq_getElem (by omega))
    simp only [Nat.zero_mul] at this
    cases hs : a.spot with
    | none => rfl
    | some z =>
      exfalso
      have e : (a.add 0).add 0 = a := by simp [Addr.add]
      rw [e] at this
      unfold World.cell? at this
      split at this
      · simp [hs] at this
      · cases this
  obtain ⟨ab, ao, asp⟩ := a
  simp only at hsp
  subst hsp
  refine ⟨ab, ao, cap, rfl, hlc, hcm, fun j x hj i u hu => ?_⟩
  rw [← hcell j x hj i u hu]
  congr 1
  rw [Go.Deep.add_add]
  unfold Addr.add
  split
  · rename_i e
    simp only [Addr.mk.injEq, true_and, and_true]
    omega
  · simp only [Addr.mk.injEq, true_and, and_true]
    omega
end
def opData (x : Op3) : DataW Unit := .agg [.lit (.string x.sign), .lit (.int .i64 x.str), .agg [.lit (.int .i64 x.kind), .lit (.int .i64 x.val), .lit (.string [])]]
theorem three_of {α β : Type} {f : α → β} {l : List α} {a b c : β} (h : l.map f = [a, b, c]) : ∃ x y z, l = [x, y, z] ∧ f x = a ∧ f y = b ∧ f z = c := by
  match l, h with
  | [x, y, z], h =>
    simp only [List.map_cons, List.map_nil, List.cons.injEq] at h
    exact ⟨x, y, z, rfl, h.1, h.2.1, h.2.2.1⟩
theorem cS1 : Tryz.prog.cellsOf 9 = 1 := by kernel_rfl
theorem cI1 : Tryz.prog.cellsOf 3 = 1 := by kernel_rfl
theorem cI64 : Tryz.prog.cellsOf 2 = 1 := by kernel_rfl
theorem cN3 : Tryz.prog.cellsOf 56 = 3 := by kernel_rfl
theorem cO5 : Tryz.prog.cellsOf 234 = 5 := by kernel_rfl
theorem cU3 : Tryz.prog.cellsOf 232 = 3 := by kernel_rfl
theorem len3 {α : Type} {l : List α} (h : l.length = 3) : ∃ a b c, l = [a, b, c] := by
  match l, h with
  | [a, b, c], _ => exact ⟨a, b, c, rfl⟩
theorem len5 {α : Type} {l : List α} (h : l.length = 5) : ∃ a b c d e, l = [a, b, c, d, e] := by
  match l, h with
  | [a, b, c, d, e], _ => exact ⟨a, b, c, d, e, rfl⟩
set_option maxRecDepth 100000 in
theorem op_lit {W : World} (x : Op3) {fuel : Nat} {cs : List Value} {q : List MemPlace} (h : DataW.trod (fun _ => ()) Tryz.prog W 0 (fun _ => true) false fuel 234 cs = some (opData x, q)) : cs = encOp x := by
  obtain ⟨xs, n, _, hx, hlen, _, hall⟩ := DataW.trod_struct Tryz.underlying234 h
  simp only [Prod.mk.injEq, opData, DataW.agg.injEq] at hx
  obtain ⟨⟨a, pa⟩, ⟨b, pb⟩, ⟨c, pc⟩, rfl, ha, hb, hc⟩ := three_of hx.1.symm
  simp only at ha hb hc
  subst ha hb hc
  have h0 : DataW.trod (fun _ => ()) Tryz.prog W 0 (fun _ => true) false n 9 ((cs.drop 0).take (Tryz.prog.cellsOf 9)) = some (.lit (.string x.sign), pa) := hall 0 _ rfl
  have h1 : DataW.trod (fun _ => ()) Tryz.prog W 0 (fun _ => true) false n 3 ((cs.drop 1).take (Tryz.prog.cellsOf 3)) = some (.lit (.int .i64 x.str), pb) := hall 1 _ rfl
  have h2 : DataW.trod (fun _ => ()) Tryz.prog W 0 (fun _ => true) false n 56 ((cs.drop 2).take (Tryz.prog.cellsOf 56)) = some (.agg [.lit (.int .i64 x.kind), .lit (.int .i64 x.val), .lit (.string [])], pc) := hall 2 _ rfl
  rw [cS1] at h0
  rw [cI1] at h1
  rw [cN3] at h2
  rw [cO5] at hlen
  obtain ⟨c0, c1, c2, c3, c4, rfl⟩ := len5 hlen
  have e0 := str_lit Tryz.underlying9 h0
  have e1 := int_lit Tryz.underlying3 h1
  obtain ⟨ys, m, _, hy, _, _, hall2⟩ := DataW.trod_struct Tryz.underlying56 h2
  simp only [Prod.mk.injEq, DataW.agg.injEq] at hy
  obtain ⟨⟨a, pa⟩, ⟨b, pb⟩, ⟨c, pc⟩, rfl, ha, hb, hc⟩ := three_of hy.1.symm
  simp only at ha hb hc
  subst ha hb hc
  have g0 : DataW.trod (fun _ => ()) Tryz.prog W 0 (fun _ => true) false m 2 (((([c0, c1, c2, c3, c4].drop 2).take 3).drop 0).take (Tryz.prog.cellsOf 2)) = some (.lit (.int .i64 x.kind), pa) := hall2 0 _ rfl
  have g1 : DataW.trod (fun _ => ()) Tryz.prog W 0 (fun _ => true) false m 2 (((([c0, c1, c2, c3, c4].drop 2).take 3).drop 1).take (Tryz.prog.cellsOf 2)) = some (.lit (.int .i64 x.val), pb) := hall2 1 _ rfl
  have g2 : DataW.trod (fun _ => ()) Tryz.prog W 0 (fun _ => true) false m 9 (((([c0, c1, c2, c3, c4].drop 2).take 3).drop 2).take (Tryz.prog.cellsOf 9)) = some (.lit (.string []), pc) := hall2 2 _ rfl
  rw [cI64] at g0 g1
  rw [cS1] at g2
  have e2 := int_lit Tryz.underlying2 g0
  have e3 := int_lit Tryz.underlying2 g1
  have e4 := str_lit Tryz.underlying9 g2
  simp only [List.drop_zero, List.take_succ_cons, List.take_zero, List.drop_succ_cons, List.cons.injEq, and_true] at e0 e1 e2 e3 e4
  rw [e0, e1, e2, e3, e4]
  rfl
theorem gOps : Tryz.prog.globalNamed "loop.example/s01725/impl.binOps" = some 5 := by kernel_rfl
theorem tOps : (Tryz.prog.globals[5]?).map (·.type) = some 255 := by kernel_rfl
theorem gUn : Tryz.prog.globalNamed "loop.example/s01725/impl.unSigns" = some 3 := by kernel_rfl
theorem tUn : (Tryz.prog.globals[3]?).map (·.type) = some 232 := by kernel_rfl
theorem gPow : Tryz.prog.globalNamed "internal/strconv.uint64pow10" = some 2 := by kernel_rfl
theorem tPow : (Tryz.prog.globals[2]?).map (·.type) = some 224 := by kernel_rfl
theorem var_cells {W : World} {n : String} {g : Nat} (hg : Tryz.prog.globalNamed n = some g) {cs : Array Value} (hv : W.var? Tryz.prog n = some cs) (i : Nat) : W.cell? ⟨g, i, none⟩ = cs[i]? := by
  have := World.var?_cell hg hv i
  exact this
set_option maxRecDepth 100000 in
theorem ops_of_laid {W : World} {laid : List (String × DataW Unit)} {ps : List MemPlace} (h : DataW.LaidVars Tryz.prog W laid ps) (hm : ("loop.example/s01725/impl.binOps", .slice (opTab.map opData) []) ∈ laid) : OpsAt W := by
  obtain ⟨g, t, cs, fuel, p, hg, ht, hv, hd⟩ := laidVar h hm
  obtain rfl := Option.some.inj (gOps.symm.trans hg)
  obtain rfl := Option.some.inj (tOps.symm.trans ht)
  have hl : ∃ v, cs.toList = [v] := by
    rcases DataW.trod_slice Tryz.underlying255 hd with ⟨h, _⟩ | ⟨_, _, _, _, _, _, _, h, _⟩
    · exact ⟨_, h⟩
    · exact ⟨_, h⟩
  obtain ⟨v, hcs⟩ := hl
  rw [hcs] at hd
  obtain ⟨b, o, c, rfl, h1, h2, h3⟩ := slice_lit Tryz.underlying255 cO5 opData encOp opTab (by decide) (fun x _ fuel cs q hx => op_lit x hx) (fun _ _ => rfl) (by decide) hd
  refine ⟨b, o, c, ?_, h1, by unfold maxLen at h2; omega, h3⟩
  rw [var_cells gOps hv, ← Array.getElem?_toList, hcs]
  rfl
set_option maxRecDepth 100000 in
theorem un_of_laid {W : World} {laid : List (String × DataW Unit)} {ps : List MemPlace} (h : DataW.LaidVars Tryz.prog W laid ps) (hm : ("loop.example/s01725/impl.unSigns", .agg [.lit (.string [45]), .lit (.string [33]), .lit (.string [126])]) ∈ laid) : UnAtG W := by
  obtain ⟨g, t, cs, fuel, p, hg, ht, hv, hd⟩ := laidVar h hm
  obtain rfl := Option.some.inj (gUn.symm.trans hg)
  obtain rfl := Option.some.inj (tUn.symm.trans ht)
  obtain ⟨xs, m, _, hx, hlen, _, hall⟩ := DataW.trod_array Tryz.underlying232 hd
  simp only [Prod.mk.injEq, DataW.agg.injEq] at hx
  obtain ⟨⟨a, pa⟩, ⟨b, pb⟩, ⟨c, pc⟩, rfl, ha, hb, hc⟩ := three_of hx.1.symm
  simp only at ha hb hc
  subst ha hb hc
  have h0 := hall 0 (by decide)
  have h1 := hall 1 (by decide)
  have h2 := hall 2 (by decide)
  rw [cS1] at h0 h1 h2
  rw [cU3] at hlen
  obtain ⟨c0, c1, c2, hcs⟩ := len3 hlen
  rw [hcs] at h0 h1 h2
  have e0 := str_lit Tryz.underlying9 h0
  have e1 := str_lit Tryz.underlying9 h1
  have e2 := str_lit Tryz.underlying9 h2
  simp only [Nat.zero_mul, Nat.one_mul, Nat.mul_one, List.drop_zero, List.take_succ_cons, List.take_zero, List.drop_succ_cons, List.cons.injEq, and_true] at e0 e1 e2
  subst e0 e1 e2
  intro i v hi
  rw [Nat.zero_add, var_cells gUn hv, ← Array.getElem?_toList, hcs]
  exact hi
set_option maxRecDepth 100000 in
theorem pow_of_laid {W : World} {laid : List (String × DataW Unit)} {ps : List MemPlace} (h : DataW.LaidVars Tryz.prog W laid ps) (hm : ("internal/strconv.uint64pow10", Lib.tabData .u64 Lib.pow10Tab) ∈ laid) : Lib.TabIs Tryz.prog W "internal/strconv.uint64pow10" .u64 Lib.pow10Tab := by
  obtain ⟨g, t, cs, fuel, p, hg, ht, hv, hd⟩ := laidVar h hm
  obtain rfl := Option.some.inj (gPow.symm.trans hg)
  obtain rfl := Option.some.inj (tPow.symm.trans ht)
  unfold Lib.TabIs
  rw [hv, ← Lib.cells_of_tab Tryz.underlying224 Tryz.underlying185 (by kernel_rfl) (by kernel_rfl) hd]
theorem resv_of_laid {W : World} {laid : List (String × DataW Unit)} {ps : List MemPlace} (h : DataW.LaidVars Tryz.prog W laid ps) (hm : ("loop.example/s01725/impl.reserved", .slice resData []) ∈ laid) : Res W := by
  obtain ⟨g, t, cs, fuel, p, hg, ht, hv, hd⟩ := laidVar h hm
  obtain rfl := Option.some.inj (gRes.symm.trans hg)
  obtain rfl := Option.some.inj (tRes.symm.trans ht)
  exact res_of_trod hv hd
end Go.Proofs.YtolbngbedncemaaGreatDoor
