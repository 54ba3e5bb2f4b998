/- How the model's trees lie in memory; that a tree that came in lies so; no statement about the program's functions. -/
import Derived.Test.YtolbngbedncemaaGreatDoorBase
import Derived.Test.YtolbngbedncemaaGreatDoorChecked
import Derived.Test.YtolbngbedncemaaGreatDoorModel
import Derived.Deep.Slices
import Derived.Deep.Strs
import Derived.Lib.SmallJoins
set_option linter.unusedVariables false
set_option linter.unusedSimpArgs false
namespace Go.Proofs.YtolbngbedncemaaGreatDoor
open Go Go.RowKit Md

def I64 (x : Int) : Prop := -9223372036854775808 ≤ x ∧ x ≤ 9223372036854775807
theorem I64.of_wf {x : Int} (h : (Lit.int .i64 x).wf = true) : I64 x := by
  simp [Lit.wf] at h
  exact h

/-! ### One element's cells -/
def CInt (k : IntKind) (w : World) (cs : List Value) (x : Int) : Prop := cs = [.int k x] ∧ (Lit.int k x).wf = true
def CStr (w : World) (cs : List Value) (s : ByteArray) : Prop := cs = [.string s] ∧ s.size ≤ maxLen
def CNode (w : World) (cs : List Value) (n : PNode) : Prop := cs = [.int .i64 n.kind, .int .i64 n.val, .string n.name] ∧ I64 n.kind ∧ I64 n.val ∧ n.name.size ≤ maxLen
def CGlob (w : World) (cs : List Value) (g : PGlob) : Prop := cs = [.string g.name, .int .i64 g.size] ∧ I64 g.size ∧ g.name.size ≤ maxLen
def CStmt (K : Foot) (w : World) (cs : List Value) (s : PStmt) : Prop :=
  ∃ vE vF, cs = [.int .i64 s.kind, .string s.name, vE, vF, .int .i64 s.thn, .int .i64 s.els] ∧ Sl K w 3 CNode vE s.e ∧ Sl K w 3 CNode vF s.f ∧
    I64 s.kind ∧ I64 s.thn ∧ I64 s.els ∧ s.name.size ≤ maxLen
def CFunc (K : Foot) (w : World) (cs : List Value) (f : PFunc) : Prop :=
  ∃ vP vB, cs = [.string f.name, vP, vB] ∧ Sl K w 1 CStr vP f.params ∧ Sl K w 6 (CStmt K) vB f.body ∧ f.name.size ≤ maxLen
def CTree (K : Foot) (w : World) (cs : List Value) (t : PTree) : Prop :=
  ∃ vG vF, cs = [vG, vF] ∧ Sl K w 2 CGlob vG t.globals ∧ Sl K w 3 (CFunc K) vF t.funcs

theorem CInt.any {k : IntKind} {w w' : World} {cs : List Value} {x : Int} (h : CInt k w cs x) : CInt k w' cs x := by unfold CInt at *; exact h
theorem CStr.any {w w' : World} {cs : List Value} {x : ByteArray} (h : CStr w cs x) : CStr w' cs x := by unfold CStr at *; exact h
theorem CNode.any {w w' : World} {cs : List Value} {x : PNode} (h : CNode w cs x) : CNode w' cs x := by unfold CNode at *; exact h
theorem CGlob.any {w w' : World} {cs : List Value} {x : PGlob} (h : CGlob w cs x) : CGlob w' cs x := by unfold CGlob at *; exact h
theorem CStmt.keep {K K' : Foot} {w w' : World} {cs : List Value} {s : PStmt} (h : CStmt K w cs s) (k : Keep K w w') (hK : ∀ b, K b → K' b) : CStmt K' w' cs s := by
  obtain ⟨vE, vF, e, h1, h2, h3⟩ := h
  exact ⟨vE, vF, e, h1.keep k (fun _ _ _ h => h.any) hK, h2.keep k (fun _ _ _ h => h.any) hK, h3⟩
theorem CFunc.keep {K K' : Foot} {w w' : World} {cs : List Value} {f : PFunc} (h : CFunc K w cs f) (k : Keep K w w') (hK : ∀ b, K b → K' b) : CFunc K' w' cs f := by
  obtain ⟨vP, vB, e, h1, h2, h3⟩ := h
  exact ⟨vP, vB, e, h1.keep k (fun _ _ _ h => h.any) hK, h2.keep k (fun _ _ _ h => h.keep k hK) hK, h3⟩
theorem CTree.keep {K K' : Foot} {w w' : World} {cs : List Value} {t : PTree} (h : CTree K w cs t) (k : Keep K w w') (hK : ∀ b, K b → K' b) : CTree K' w' cs t := by
  obtain ⟨vG, vF, e, h1, h2⟩ := h
  exact ⟨vG, vF, e, h1.keep k (fun _ _ _ h => h.any) hK, h2.keep k (fun _ _ _ h => h.keep k hK) hK⟩
theorem CStmt.ext {K : Foot} {w w' : World} {cs : List Value} {s : PStmt} (h : CStmt K w cs s) (k : Ext w w') : CStmt K w' cs s := h.keep (k.keep K) (fun _ h => h)
theorem CFunc.ext {K : Foot} {w w' : World} {cs : List Value} {f : PFunc} (h : CFunc K w cs f) (k : Ext w w') : CFunc K w' cs f := h.keep (k.keep K) (fun _ h => h)
theorem CTree.ext {K : Foot} {w w' : World} {cs : List Value} {t : PTree} (h : CTree K w cs t) (k : Ext w w') : CTree K w' cs t := h.keep (k.keep K) (fun _ h => h)
/-- Slices by what they hold. -/
abbrev SlInt (k : IntKind) (K : Foot) (w : World) (v : Value) (xs : List Int) : Prop := Sl K w 1 (CInt k) v xs
abbrev SlStr (K : Foot) (w : World) (v : Value) (xs : List ByteArray) : Prop := Sl K w 1 CStr v xs
abbrev SlNode (K : Foot) (w : World) (v : Value) (xs : List PNode) : Prop := Sl K w 3 CNode v xs
abbrev SlGlob (K : Foot) (w : World) (v : Value) (xs : List PGlob) : Prop := Sl K w 2 CGlob v xs
abbrev SlStmt (K : Foot) (w : World) (v : Value) (xs : List PStmt) : Prop := Sl K w 6 (CStmt K) v xs
abbrev SlFunc (K : Foot) (w : World) (v : Value) (xs : List PFunc) : Prop := Sl K w 3 (CFunc K) v xs

/-! ### What came in -/
section
variable {H : Type} {enc : TypeId × Value → H} {P : Program} {W : World} {sp : Nat → Bool} {held : Bool}
theorem sl_of_trod {α : Type} {T E sz : Nat} {C : World → List Value → α → Prop} (hT : P.underlying T = some (.slice E)) (hsz : P.cellsOf E = sz) (h1 : 0 < sz)
    (hel : ∀ fuel cs x, DataW.trod enc P W 0 sp held fuel E cs = some x → cs.length = sz → ∃ y, C W cs y) {fuel : Nat} {v : Value} {x : DataW H × List MemPlace}
    (h : DataW.trod enc P W 0 sp held fuel T [v] = some x) : ∃ xs : List α, Sl AnyB W sz C v xs := by
  rcases Go.Deep.open_slice hT h with ⟨hcs, _⟩ | ⟨a, len, cap, m, n, D, Pl, hcs, _, hl, hm, hmm, _, hall⟩
  · obtain rfl : v = .slice none 0 0 := by simpa using hcs
    exact ⟨[], Sl.nil _ _ _ _⟩
  · obtain rfl : v = .slice (some a) len cap := by simpa using hcs
    rw [hsz] at hall
    have hle : len ≤ m := by rw [hmm]; split <;> omega
    have hx : ∀ i : Fin len, ∃ y' : α, ∃ cs, cs.length = sz ∧ C W cs y' ∧ ∀ j, j < sz → W.cell? ((a.add (i * sz)).add j) = cs[j]? := by
      intro i
      obtain ⟨cs', c1, c2⟩ := hall i (by have := i.isLt; omega)
      obtain ⟨_, c3, c4⟩ := World.cells?_some c1
      obtain ⟨y, hy⟩ := hel _ _ _ c2 c3
      exact ⟨y, cs', c3, hy, c4⟩
    refine ⟨List.ofFn fun i => Classical.choose (hx i), some a, cap, by simp, by simpa using hl, hm, fun hp => ?_⟩
    simp only [List.length_ofFn] at hp ⊢
    have hsp : a.spot = none := by
      obtain ⟨cs, c1, _, c3⟩ := Classical.choose_spec (hx ⟨0, hp⟩)
      have := c3 0 h1
      rw [List.getElem?_eq_getElem (by omega)] at this
      simp only [Nat.zero_mul] at this
      cases hs : a.spot with
      | none => rfl
      | some z =>
        exfalso
        have e : (a.add 0).add 0 = a := by simp [Addr.add]
        rw [e] at this
        unfold World.cell? at this
        split at this
        · simp [hs] at this
        · cases this
    refine ⟨a.block, a.off, by cases a; simp_all, trivial, fun i hi => ?_⟩
    obtain ⟨cs, c1, c2, c3⟩ := Classical.choose_spec (hx ⟨i, hi⟩)
    rw [List.getElem_ofFn]
    refine ⟨cs, c1, c2, fun j v hj => ?_⟩
    have hjl : j < cs.length := (List.getElem?_eq_some_iff.1 hj).1
    have := c3 j (by omega)
    rw [hj] at this
    rw [← this]
    congr 1
    rw [Go.Deep.add_add]
    obtain ⟨ab, ao, asp⟩ := a
    simp only at hsp
    subst hsp
    simp only [Addr.add]
    split
    · rename_i e
      simp only [Addr.mk.injEq, true_and, and_true]
      omega
    · simp only [Addr.mk.injEq, true_and, and_true]
      omega
theorem int_of_trod {T : Nat} {k : IntKind} (hT : P.underlying T = some (.int k)) {fuel : Nat} {cs : List Value} {x : DataW H × List MemPlace} (h : DataW.trod enc P W 0 sp held fuel T cs = some x) :
    ∃ y, CInt k W cs y := by
  obtain ⟨a, h1, _, h3⟩ := DataW.trod_int hT h
  exact ⟨a, h1, h3⟩
theorem str_of_trod {T : Nat} (hT : P.underlying T = some .string) {fuel : Nat} {cs : List Value} {x : DataW H × List MemPlace} (h : DataW.trod enc P W 0 sp held fuel T cs = some x) :
    ∃ y, CStr W cs y := by
  obtain ⟨a, h1, _, h3⟩ := DataW.trod_string hT h
  exact ⟨a, h1, h3⟩
/-- One field of one cell. -/
theorem field_of_trod {T : Nat} {fs : Array Field} (hT : P.underlying T = some (.struct fs)) {fuel : Nat} {cs : List Value} {x : DataW H × List MemPlace} (h : DataW.trod enc P W 0 sp held fuel T cs = some x)
    (i : Nat) {f : Field} (hf : fs[i]? = some f) (hc : P.cellsOf f.type = 1) {v : Value} (hv : cs[f.offset]? = some v) : ∃ n y, DataW.trod enc P W 0 sp held n f.type [v] = some y := by
  obtain ⟨xs, n, _, _, _, hlen, hall⟩ := DataW.trod_struct hT h
  have h1 := hall i f hf
  rw [hc] at h1
  have h2 : (cs.drop f.offset).take 1 = [v] := by
    have hl : f.offset < cs.length := (List.getElem?_eq_some_iff.1 hv).1
    rw [List.drop_eq_getElem_cons hl]
    rw [List.getElem?_eq_getElem hl] at hv
    simp [Option.some.inj hv]
  rw [h2] at h1
  have hi : i < xs.length := by rw [hlen]; exact (Array.getElem?_eq_some_iff.1 hf).1
  exact ⟨n, xs[i], by rw [h1]; exact List.getElem?_eq_getElem hi⟩
end
end Go.Proofs.YtolbngbedncemaaGreatDoor
