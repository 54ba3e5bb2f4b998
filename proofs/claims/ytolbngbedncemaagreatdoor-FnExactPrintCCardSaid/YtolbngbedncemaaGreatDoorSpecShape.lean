/- Whether the blocks of a list lie within one another, by the reference. Conditions: block lengths are not negative, a bound of the length. -/
import Derived.Test.YtolbngbedncemaaGreatDoorSpecExpr
set_option linter.unusedVariables false
set_option linter.unusedSimpArgs false
namespace Go.Proofs.YtolbngbedncemaaGreatDoor
open Go Go.RowKit Md

def NonNeg (l : List PStmt) : Prop := ∀ s ∈ l, 0 ≤ s.thn ∧ 0 ≤ s.els
theorem shaped_cons (s : PStmt) (rest : List PStmt) (t u : Nat) (ht : s.thn = t) (hu : s.els = u) :
    shaped (s :: rest) = (decide (t ≤ rest.length) && decide (u ≤ rest.length - t) && (shaped (rest.take t) && shaped ((rest.drop t).take u) && shaped (rest.drop (t + u)))) := by
  rw [shaped, ht, hu]
  by_cases h : t ≤ rest.length
  · by_cases h2 : u ≤ rest.length - t
    · rw [if_pos (by omega)]; simp [h, h2]
    · rw [if_neg (by omega)]; simp [h, h2]
  · rw [if_neg (by omega)]; simp [h]

theorem Sl.cut {α : Type} {K : Foot} {w : World} {sz : Nat} {C : World → List Value → α → Prop} {a : Option Addr} {len cap : Nat} {xs : List α} (h : Sl K w sz C (.slice a len cap) xs) (lo n : Nat) (h2 : lo + n ≤ len)
    {a' : Option Addr} {c : Nat} (hc : c = cap - lo) (ha : ∀ b o, a = some ⟨b, o, none⟩ → 0 < n → a' = some ⟨b, o + lo * sz, none⟩) : Sl K w sz C (.slice a' n c) ((xs.drop lo).take n) := by
  obtain ⟨a0, cap0, e, g1, g2, g3⟩ := h
  cases e
  have hl : ((xs.drop lo).take n).length = n := by simp; omega
  refine ⟨a', c, by rw [hl], by omega, by omega, fun hp => ?_⟩
  rw [hl] at hp
  obtain ⟨b, o, e1, e2, e3⟩ := g3 (by omega)
  refine ⟨b, o + lo * sz, ha b o e1 hp, e2, fun i hi => ?_⟩
  rw [hl] at hi
  obtain ⟨cs, c1, c2, c3⟩ := e3 (lo + i) (by omega)
  refine ⟨cs, c1, by simpa using c2, ?_⟩
  rw [Nat.add_assoc, ← Nat.add_mul]
  exact c3

set_option maxRecDepth 1000000 in
theorem s_l2Shaped (K : Foot) (n : Nat) : ∀ (l : List PStmt) (v : Value) (w : World) (hv : SlStmt K w v l) (hl : l.length = n) (hm : l.length ≤ 1000000) (hn : NonNeg l),
    Calls Tryz.prog 103 #[v] w (Gives (.bool (shaped l)) w) := by
  induction n using Nat.strongRecOn with
  | ind n ih =>
    intro l v w hv hl hm hn
    obtain ⟨a, len, cap, rfl, Hlen, hlc, hcm, hel⟩ := hv.op
    have hlm : len ≤ 1000000 := by have := Hlen.out; omega
    obtain ⟨r, hr⟩ : ∃ r, r = shaped l := ⟨_, rfl⟩
    rw [← hr]
    have Hr := Lib.hid hr
    have Hn := Lib.hid hn
    have Hv := Lib.hid hv
    have Hl := Lib.hid hl
    clear hv hr hn hl hm
    go_enter Tryz.func103, Tryz.ntmps103
    go_wp2
    go_loopw [3] (fun i wr => ∃ (k : Nat), k ≤ len ∧ i = .int .i64 k ∧ Hid (r = shaped (l.drop k)) ∧ Ext w wr) (fun i _ => len - (intOf i).toNat)
    case atStart => exact ⟨0, Nat.zero_le _, rfl, Hr, Ext.refl _⟩
    case round =>
      obtain ⟨k, hk, rfl, hS, hE⟩ := hrel
      by_cases hlt : k < len
      · obtain ⟨b, o, rfl, _, hel⟩ := hel (by omega)
        obtain ⟨x, cs, hx, _, hC, hcs⟩ := hel k (by omega)
        obtain ⟨vE, vF, rfl, m1, m2, i1, i2, i3, i4⟩ := hC
        obtain ⟨aE, nE, zE, rfl⟩ := m1.shape
        obtain ⟨aF, nF, zF, rfl⟩ := m2.shape
        obtain ⟨n1, n2⟩ := Hn.out x (List.mem_of_getElem? hx)
        obtain ⟨t, ht⟩ : ∃ t : Nat, x.thn = t := ⟨x.thn.toNat, by omega⟩
        obtain ⟨u, hu⟩ : ∃ u : Nat, x.els = u := ⟨x.els.toNat, by omega⟩
        have hd : l.drop k = x :: l.drop (k + 1) := by
          have hkl : k < l.length := by have := Hlen.out; omega
          rw [List.drop_eq_getElem_cons hkl]
          congr 1
          rw [List.getElem?_eq_getElem hkl] at hx
          exact Option.some.inj hx
        have hS2 := hS.out
        rw [hd, shaped_cons x _ t u ht hu] at hS2
        have hdl : (l.drop (k + 1)).length = len - (k + 1) := by have := Hlen.out; simp; omega
        rw [hdl] at hS2
        rw [ht, hu] at hcs
        have HS := Lib.hid hS2
        have hX := Blk.alloc wr 54 #[.int .i64 x.kind, .string x.name, .slice aE nE zE, .slice aF nF zF, .int .i64 t, .int .i64 u]
        have hEx : Ext w (wr.alloc (.cells #[.int .i64 x.kind, .string x.name, .slice aE nE zE, .slice aF nF zF, .int .i64 t, .int .i64 u] 54)) := hE.alloc _
        have c0 := hE.cell (hcs.z rfl)
        have c1 := hE.cell (hcs 1 _ rfl)
        have c2 := hE.cell (hcs 2 _ rfl)
        have c3 := hE.cell (hcs 3 _ rfl)
        have c4 := hE.cell (hcs 4 _ rfl)
        have c5 := hE.cell (hcs 5 _ rfl)
        clear hel hcs hx hd hS2 hdl m1 m2 n1 n2 ht hu hS i1 i2 i3 i4
        have g0 : (0 : Int) ≤ (k : Int) := by omega
        have g1 : (k : Int) < (len : Int) := by omega
        by_cases h1 : (len : Int) - (k : Int) - 1 < (t : Int)
        · have d1 : decide (t ≤ len - (k + 1)) = false := decide_eq_false (by omega)
          have D1 := Lib.hid d1
          clear d1
          go_wp2
          go_ret
          exact Gives.bool (by rw [HS.out, D1.out]; rfl) hEx
        have d1 : decide (t ≤ len - (k + 1)) = true := decide_eq_true (by omega)
        have D1 := Lib.hid d1
        clear d1
        by_cases h2 : (len : Int) - (k : Int) - 1 - (t : Int) < (u : Int)
        · have d1 : decide (u ≤ len - (k + 1) - t) = false := decide_eq_false (by omega)
          have D2 := Lib.hid d1
          clear d1
          go_wp2
          go_ret
          exact Gives.bool (by rw [HS.out, D1.out, D2.out]; rfl) hEx
        have d1 : decide (u ≤ len - (k + 1) - t) = true := decide_eq_true (by omega)
        have D2 := Lib.hid d1
        clear d1
        go_wp2_with fail
        all_goals
          try (have hc : cap = k + 1 := by assumption
               subst hc)
          refine (ih t (by have := Hl.out; have := Hlen.out; omega) ((l.drop (k + 1)).take t) _ _ ((Hv.out.ext hEx (fun _ _ h => h.ext hEx)).cut (k + 1) t (by omega) (by omega) (by intro b' o' e hp; cases e; first | rfl | (exfalso; omega))) (by have := Hlen.out; simp; omega) (by have := Hlen.out; simp; omega) (fun s hs => Hn.out s (List.mem_of_mem_drop (List.mem_of_mem_take hs)))).mono ?_
          rintro _ w1 ⟨rfl, hX1⟩
          have hB := hX.ext hX1
          clear c0 c1 c2 c3 c4 c5
          have c0 : w1.cell? ⟨wr.heap.size, 0, none⟩ = some (.int .i64 x.kind) := hB.cell 0
          have c1 : w1.cell? ⟨wr.heap.size, 1, none⟩ = some (.string x.name) := hB.cell 1
          have c2 : w1.cell? ⟨wr.heap.size, 2, none⟩ = some (.slice aE nE zE) := hB.cell 2
          have c3 : w1.cell? ⟨wr.heap.size, 3, none⟩ = some (.slice aF nF zF) := hB.cell 3
          have c4 : w1.cell? ⟨wr.heap.size, 4, none⟩ = some (.int .i64 t) := hB.cell 4
          have c5 : w1.cell? ⟨wr.heap.size, 5, none⟩ = some (.int .i64 u) := hB.cell 5
          have hE1 := hEx.trans hX1
          cases hg : shaped ((l.drop (k + 1)).take t)
          · go_wp2
            go_ret
            exact Gives.bool (by rw [HS.out, D1.out, D2.out, hg]; rfl) hE1
          · go_wp2_with fail
            all_goals
              try (have hc : cap = k + 1 + t := by assumption
                   subst hc)
              refine (ih u (by have := Hl.out; have := Hlen.out; omega) ((l.drop (k + 1 + t)).take u) _ _ ((Hv.out.ext hE1 (fun _ _ h => h.ext hE1)).cut (k + 1 + t) u (by omega) (by omega) (by intro b' o' e hp; cases e; first | rfl | (exfalso; omega))) (by have := Hlen.out; simp; omega) (by have := Hlen.out; simp; omega) (fun s hs => Hn.out s (List.mem_of_mem_drop (List.mem_of_mem_take hs)))).mono ?_
              rintro _ w2 ⟨rfl, hX2⟩
              have hB2 := hB.ext hX2
              clear c0 c1 c2 c3 c4 c5
              have c0 : w2.cell? ⟨wr.heap.size, 0, none⟩ = some (.int .i64 x.kind) := hB2.cell 0
              have c1 : w2.cell? ⟨wr.heap.size, 1, none⟩ = some (.string x.name) := hB2.cell 1
              have c2 : w2.cell? ⟨wr.heap.size, 2, none⟩ = some (.slice aE nE zE) := hB2.cell 2
              have c3 : w2.cell? ⟨wr.heap.size, 3, none⟩ = some (.slice aF nF zF) := hB2.cell 3
              have c4 : w2.cell? ⟨wr.heap.size, 4, none⟩ = some (.int .i64 t) := hB2.cell 4
              have c5 : w2.cell? ⟨wr.heap.size, 5, none⟩ = some (.int .i64 u) := hB2.cell 5
              have hE2 := hE1.trans hX2
              cases hg2 : shaped ((l.drop (k + 1 + t)).take u)
              · go_wp2
                go_ret
                exact Gives.bool (by rw [HS.out, D1.out, D2.out, hg, List.drop_drop, hg2]; rfl) hE2
              · go_wp2
                go_roundw
                case rel => exact ⟨k + 1 + t + u, by omega, by go_num, (by rw [HS.out, D1.out, D2.out, hg, List.drop_drop, hg2, List.drop_drop, Nat.add_assoc (k + 1) t u]; rfl), hE2⟩
                case measure => simp [intOf]; omega
      · go_wp2
        go_ret
        exact Gives.bool (by rw [hS.out, List.drop_eq_nil_of_le (by have := Hlen.out; omega), shaped]) hE
end Go.Proofs.YtolbngbedncemaaGreatDoor
