/- A tree that came in, of the laws' own types, lies in memory as the model's tree; no condition. -/
import Derived.Test.YtcfggjmdcaoecaaGreatDoorRep
set_option linter.unusedVariables false
set_option linter.unusedSimpArgs false
namespace Go.Proofs.YtcfggjmdcaoecaaGreatDoor
open Go Go.RowKit Md
section
variable {H : Type} {enc : TypeId × Value → H} {W : World} {sp : Nat → Bool} {held : Bool}
theorem node_of_trod {fuel : Nat} {cs : List Value} {x : DataW H × List MemPlace} (h : DataW.trod enc Tryz.prog W 0 sp held fuel 267 cs = some x) (hl : cs.length = 3) : ∃ y, CNode W cs y := by
  match cs, hl with
  | [a, b, c], _ =>
    obtain ⟨n0, y0, h0⟩ := field_of_trod Tryz.underlying267 h 0 rfl (by kernel_rfl) rfl
    obtain ⟨n1, y1, h1⟩ := field_of_trod Tryz.underlying267 h 1 rfl (by kernel_rfl) rfl
    obtain ⟨n2, y2, h2⟩ := field_of_trod Tryz.underlying267 h 2 rfl (by kernel_rfl) rfl
    obtain ⟨k, e0, w0⟩ := int_of_trod Tryz.underlying2 h0
    obtain ⟨v, e1, w1⟩ := int_of_trod Tryz.underlying2 h1
    obtain ⟨s, e2, w2⟩ := str_of_trod Tryz.underlying9 h2
    simp only [List.cons.injEq, and_true] at e0 e1 e2
    subst e0 e1 e2
    exact ⟨⟨k, v, s⟩, rfl, I64.of_wf w0, I64.of_wf w1, w2⟩
theorem glob_of_trod {fuel : Nat} {cs : List Value} {x : DataW H × List MemPlace} (h : DataW.trod enc Tryz.prog W 0 sp held fuel 91 cs = some x) (hl : cs.length = 2) : ∃ y, CGlob W cs y := by
  match cs, hl with
  | [a, b], _ =>
    obtain ⟨n0, y0, h0⟩ := field_of_trod Tryz.underlying91 h 0 rfl (by kernel_rfl) rfl
    obtain ⟨n1, y1, h1⟩ := field_of_trod Tryz.underlying91 h 1 rfl (by kernel_rfl) rfl
    obtain ⟨s, e0, w0⟩ := str_of_trod Tryz.underlying9 h0
    obtain ⟨v, e1, w1⟩ := int_of_trod Tryz.underlying2 h1
    simp only [List.cons.injEq, and_true] at e0 e1
    subst e0 e1
    exact ⟨⟨s, v⟩, rfl, I64.of_wf w1, w0⟩
theorem nodes_of_trod {fuel : Nat} {v : Value} {x : DataW H × List MemPlace} (h : DataW.trod enc Tryz.prog W 0 sp held fuel 221 [v] = some x) : ∃ y, SlNode AnyB W v y :=
  sl_of_trod Tryz.underlying221 (by kernel_rfl) (by decide) (fun _ _ _ h hl => node_of_trod h hl) h
theorem strs_of_trod {fuel : Nat} {v : Value} {x : DataW H × List MemPlace} (h : DataW.trod enc Tryz.prog W 0 sp held fuel 80 [v] = some x) : ∃ y, SlStr AnyB W v y :=
  sl_of_trod Tryz.underlying80 (by kernel_rfl) (by decide) (fun _ _ _ h hl => str_of_trod Tryz.underlying9 h) h
theorem stmt_of_trod {fuel : Nat} {cs : List Value} {x : DataW H × List MemPlace} (h : DataW.trod enc Tryz.prog W 0 sp held fuel 223 cs = some x) (hl : cs.length = 6) : ∃ y, CStmt AnyB W cs y := by
  match cs, hl with
  | [a, b, c, d, e, f], _ =>
    obtain ⟨n0, y0, h0⟩ := field_of_trod Tryz.underlying223 h 0 rfl (by kernel_rfl) rfl
    obtain ⟨n1, y1, h1⟩ := field_of_trod Tryz.underlying223 h 1 rfl (by kernel_rfl) rfl
    obtain ⟨n2, y2, h2⟩ := field_of_trod Tryz.underlying223 h 2 rfl (by kernel_rfl) rfl
    obtain ⟨n3, y3, h3⟩ := field_of_trod Tryz.underlying223 h 3 rfl (by kernel_rfl) rfl
    obtain ⟨n4, y4, h4⟩ := field_of_trod Tryz.underlying223 h 4 rfl (by kernel_rfl) rfl
    obtain ⟨n5, y5, h5⟩ := field_of_trod Tryz.underlying223 h 5 rfl (by kernel_rfl) rfl
    obtain ⟨k, e0, w0⟩ := int_of_trod Tryz.underlying2 h0
    obtain ⟨s, e1, w1⟩ := str_of_trod Tryz.underlying9 h1
    obtain ⟨E, w2⟩ := nodes_of_trod h2
    obtain ⟨F, w3⟩ := nodes_of_trod h3
    obtain ⟨t, e4, w4⟩ := int_of_trod Tryz.underlying2 h4
    obtain ⟨u, e5, w5⟩ := int_of_trod Tryz.underlying2 h5
    simp only [List.cons.injEq, and_true] at e0 e1 e4 e5
    subst e0 e1 e4 e5
    exact ⟨⟨k, s, E, F, t, u⟩, c, d, rfl, w2, w3, I64.of_wf w0, I64.of_wf w4, I64.of_wf w5, w1⟩
theorem func_of_trod {fuel : Nat} {cs : List Value} {x : DataW H × List MemPlace} (h : DataW.trod enc Tryz.prog W 0 sp held fuel 95 cs = some x) (hl : cs.length = 3) : ∃ y, CFunc AnyB W cs y := by
  match cs, hl with
  | [a, b, c], _ =>
    obtain ⟨n0, y0, h0⟩ := field_of_trod Tryz.underlying95 h 0 rfl (by kernel_rfl) rfl
    obtain ⟨n1, y1, h1⟩ := field_of_trod Tryz.underlying95 h 1 rfl (by kernel_rfl) rfl
    obtain ⟨n2, y2, h2⟩ := field_of_trod Tryz.underlying95 h 2 rfl (by kernel_rfl) rfl
    obtain ⟨s, e0, w0⟩ := str_of_trod Tryz.underlying9 h0
    obtain ⟨ps, w1⟩ := strs_of_trod h1
    obtain ⟨B, w2⟩ := sl_of_trod Tryz.underlying93 (by kernel_rfl) (by decide) (fun _ _ _ h hl => stmt_of_trod h hl) h2
    simp only [List.cons.injEq, and_true] at e0
    subst e0
    exact ⟨⟨s, ps, B⟩, b, c, rfl, w1, w2, w0⟩
theorem tree_of_trod {fuel : Nat} {cs : List Value} {x : DataW H × List MemPlace} (h : DataW.trod enc Tryz.prog W 0 sp held fuel 25 cs = some x) (hl : cs.length = 2) : ∃ y, CTree AnyB W cs y := by
  match cs, hl with
  | [a, b], _ =>
    obtain ⟨n0, y0, h0⟩ := field_of_trod Tryz.underlying25 h 0 rfl (by kernel_rfl) rfl
    obtain ⟨n1, y1, h1⟩ := field_of_trod Tryz.underlying25 h 1 rfl (by kernel_rfl) rfl
    obtain ⟨G, w0⟩ := sl_of_trod Tryz.underlying22 (by kernel_rfl) (by decide) (fun _ _ _ h hl => glob_of_trod h hl) h0
    obtain ⟨F, w1⟩ := sl_of_trod Tryz.underlying23 (by kernel_rfl) (by decide) (fun _ _ _ h hl => func_of_trod h hl) h1
    exact ⟨⟨G, F⟩, a, b, rfl, w0, w1⟩
end
end Go.Proofs.YtcfggjmdcaoecaaGreatDoor
