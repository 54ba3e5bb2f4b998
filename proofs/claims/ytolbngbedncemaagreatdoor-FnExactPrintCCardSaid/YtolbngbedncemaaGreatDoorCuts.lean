/- Slices cut from slices: what the cut is, and where it lies; no statement about the program. -/
import Derived.Test.YtolbngbedncemaaGreatDoorBase
import Derived.Laws.Slices
set_option linter.unusedVariables false
set_option linter.unusedSimpArgs false
namespace Go.Proofs.YtolbngbedncemaaGreatDoor
open Go Go.RowKit

section
variable {P : Program} {t e : TypeId} {i : TypeInfo} {sz : Nat}
/-- Where a cut from lo on begins. -/
def CutAt (sz lo n : Nat) (a a' : Option Addr) : Prop := (∀ b o, a = some ⟨b, o, none⟩ → 0 < n → a' = some ⟨b, o + lo * sz, none⟩) ∧ (a = none → a' = none)
theorem CutAt.mk_ (sz lo n c : Nat) (a : Option Addr) (hn : 0 < n → c ≠ lo) : CutAt sz lo n a (if c = lo then a else a.map (·.add (lo * sz))) := by
  refine ⟨fun b o h hp => ?_, fun h => ?_⟩
  · rw [if_neg (hn hp), h]
    simp only [Option.map_some, Addr.add]
    split <;> simp_all
  · subst h
    split <;> rfl
theorem cut_from (ht : P.underlying t = some (.slice e)) (hi : P.info? e = some i) (hsz : i.size = sz) (a : Option Addr) (n c lo : Nat) (h1 : lo ≤ n) (h2 : n ≤ c) :
    ∃ a', (∀ W : World, (Instr.slice t (.slice a n c) (some (.int .i64 lo)) none none).run P W = .ok (.slice a' (n - lo) (c - lo)) W) ∧ CutAt sz lo (n - lo) a a' := by
  refine ⟨_, fun W => ?_, CutAt.mk_ sz lo (n - lo) c a (by omega)⟩
  have hel : P.elem t = e := by simp [Program.elem, ht]
  have hu : P.underlying t = some (.slice (P.elem t)) := by rw [hel]; exact ht
  rw [run_slice_l W t a n c hu .i64 (lo : Int) (by omega) (by omega), hel]
  simp [sizeOf, typeInfo, hi, hsz, sliced, Result.andThen]
theorem cut_to (ht : P.underlying t = some (.slice e)) (hi : P.info? e = some i) (hsz : i.size = sz) (a : Option Addr) (n c up : Nat) (h1 : up ≤ c) :
    ∃ a', (∀ W : World, (Instr.slice t (.slice a n c) none (some (.int .i64 up)) (some (.int .i64 up))).run P W = .ok (.slice a' up up) W) ∧ CutAt sz 0 up a a' := by
  refine ⟨_, fun W => ?_, CutAt.mk_ sz 0 up up a (by omega)⟩
  have hel : P.elem t = e := by simp [Program.elem, ht]
  have hu : P.underlying t = some (.slice (P.elem t)) := by rw [hel]; exact ht
  rw [run_slice_hm W t a n c hu .i64 .i64 (up : Int) (up : Int) (by omega) (by omega) (by omega), hel]
  simp [sizeOf, typeInfo, hi, hsz, sliced, Result.andThen]
theorem cut_mid (ht : P.underlying t = some (.slice e)) (hi : P.info? e = some i) (hsz : i.size = sz) (a : Option Addr) (n c lo up : Nat) (h1 : lo ≤ up) (h2 : up ≤ c) :
    ∃ a', (∀ W : World, (Instr.slice t (.slice a n c) (some (.int .i64 lo)) (some (.int .i64 up)) none).run P W = .ok (.slice a' (up - lo) (c - lo)) W) ∧ CutAt sz lo (up - lo) a a' := by
  refine ⟨_, fun W => ?_, CutAt.mk_ sz lo (up - lo) c a (by omega)⟩
  have hel : P.elem t = e := by simp [Program.elem, ht]
  have hu : P.underlying t = some (.slice (P.elem t)) := by rw [hel]; exact ht
  rw [run_slice_lh W t a n c hu .i64 .i64 (lo : Int) (up : Int) (by omega) (by omega) (by omega), hel]
  simp [sizeOf, typeInfo, hi, hsz, sliced, Result.andThen]
theorem cut_mid_int (ht : P.underlying t = some (.slice e)) (hi : P.info? e = some i) (hsz : i.size = sz) (a : Option Addr) (n c lo up : Nat) (li ui : Int) (e1 : li = lo) (e2 : ui = up) (h1 : lo ≤ up) (h2 : up ≤ c) :
    ∃ a', (∀ W : World, (Instr.slice t (.slice a n c) (some (.int .i64 li)) (some (.int .i64 ui)) none).run P W = .ok (.slice a' (up - lo) (c - lo)) W) ∧ CutAt sz lo (up - lo) a a' := by
  subst e1
  subst e2
  exact cut_mid ht hi hsz a n c lo up h1 h2
end
theorem Sl.cutAt {α : Type} {K : Foot} {w : World} {sz : Nat} {C : World → List Value → α → Prop} {a : Option Addr} {len cap : Nat} {xs : List α} (h : Sl K w sz C (.slice a len cap) xs) (lo n : Nat) (h2 : lo + n ≤ len)
    {a' : Option Addr} {c : Nat} (hc : n ≤ c) (hm : c ≤ cap) (ha : CutAt sz lo n a a') : Sl K w sz C (.slice a' n c) ((xs.drop lo).take n) := by
  obtain ⟨a0, cap0, e, g1, g2, g3⟩ := h
  cases e
  have hl : ((xs.drop lo).take n).length = n := by simp; omega
  refine ⟨a', c, by rw [hl], by omega, by omega, fun hp => ?_⟩
  rw [hl] at hp
  obtain ⟨b, o, e1, e2, e3⟩ := g3 (by omega)
  refine ⟨b, o + lo * sz, ha.1 b o e1 hp, e2, fun i hi => ?_⟩
  rw [hl] at hi
  obtain ⟨cs, c1, c2, c3⟩ := e3 (lo + i) (by omega)
  refine ⟨cs, c1, by simpa using c2, ?_⟩
  rw [Nat.add_assoc, ← Nat.add_mul]
  exact c3
end Go.Proofs.YtolbngbedncemaaGreatDoor
