/- The reference's PrintC answers as the model. -/
import Derived.Test.YtolbngbedncemaaGreatDoorSpLines
import Derived.Test.YtolbngbedncemaaGreatDoorSpecValid
import Derived.Lib.ConvBytes
import Derived.Lib.AtoiErrMem
import Derived.Laws.AppendOwn
set_option linter.unusedVariables false
set_option linter.unusedSimpArgs false
namespace Go.Proofs.YtolbngbedncemaaGreatDoor.Md
def bodyOf (f : PFunc) : List St := (blocks f.body 0).getD []
def textF (f : PFunc) : List UInt8 := showF f (bodyOf f)
/-- The answer of PrintC. -/
def textT (t : PTree) : List UInt8 := if valid t then t.globals.flatMap showG ++ t.funcs.flatMap textF else []
theorem showG_len {g : PGlob} (h : okGlob g = true) : (showG g).length ≤ 100 := by
  unfold okGlob at h
  simp only [Bool.and_eq_true, decide_eq_true_eq] at h
  have h1 := name_len h.1.1
  have h2 := dig_len (x := g.size) (by unfold isWord; simp only [Bool.and_eq_true, decide_eq_true_eq]; omega)
  unfold showG intW
  have h3 : g.name.data.toList.length = g.name.size := rfl
  simp only [List.length_append, List.length_cons, List.length_nil]
  split
  · simp only [List.length_nil]; omega
  · simp only [List.length_append, List.length_cons, List.length_nil]; omega
theorem okFunc_all {f : PFunc} (h : okFunc f = true) : isName f.name = true ∧ f.params.length ≤ 6 ∧ (∀ p ∈ f.params, isName p = true) ∧ cost f.body ≤ 178000 ∧ blocks f.body 0 = some (bodyOf f) := by
  unfold okFunc at h
  simp only [Bool.and_eq_true, decide_eq_true_eq, List.all_eq_true] at h
  obtain ⟨⟨⟨⟨⟨h1, h2⟩, h3⟩, h4⟩, h5⟩, h6⟩ := h
  refine ⟨h1, h2, h3, by rw [cost_nodes]; omega, ?_⟩
  obtain ⟨b, hb⟩ := Option.isSome_iff_exists.1 h6
  unfold bodyOf
  rw [hb]
  rfl
theorem params_len {l : List ByteArray} (h : ∀ p ∈ l, isName p = true) (hl : l.length ≤ 6) (k : Nat) : (commas ((l.take k).map fun p => intW ++ p.data.toList)).length ≤ 156 := by
  have h1 := commas_len ((l.take k).map fun p => intW ++ p.data.toList)
  have h2 : ∀ m : List ByteArray, (∀ p ∈ m, isName p = true) → ((m.map fun p => intW ++ p.data.toList).map List.length).sum ≤ 24 * m.length := by
    intro m
    induction m with
    | nil => intro _; simp
    | cons p r ih =>
      intro hm
      have g1 := name_len (hm p List.mem_cons_self)
      have g2 := ih (fun q hq => hm q (List.mem_cons_of_mem _ hq))
      simp only [List.map_cons, List.sum_cons, List.length_append, List.length_cons] at g2 ⊢
      have : intW.length = 4 := rfl
      omega
  have h3 := h2 (l.take k) (fun p hp => h p (List.mem_of_mem_take hp))
  have h4 : (l.take k).length ≤ 6 := by rw [List.length_take]; omega
  rw [List.length_map] at h1
  omega
theorem textF_len {f : PFunc} (h : okFunc f = true) : (textF f).length ≤ 179000 := by
  obtain ⟨h1, h2, h3, h4, h5⟩ := okFunc_all h
  have g1 := name_len h1
  have g2 := params_len h3 h2 f.params.length
  rw [List.take_length] at g2
  have g3 := showBlk_len _ _ _ _ (Nat.le_refl _) h5
  unfold textF showF
  simp only [List.length_append, List.length_cons, List.length_nil]
  have : intW.length = 4 := rfl
  omega
theorem flat_take {α : Type} (g : α → List UInt8) {l : List α} {k : Nat} {x : α} (h : l[k]? = some x) : (l.take (k + 1)).flatMap g = (l.take k).flatMap g ++ g x := by
  obtain ⟨hk, e⟩ := List.getElem?_eq_some_iff.1 h
  rw [List.take_succ_eq_append_getElem hk, e, List.flatMap_append]
  simp
theorem valid_all {t : PTree} (h : valid t = true) : t.globals.length ≤ 50 ∧ t.funcs.length ≤ 50 ∧ (∀ g ∈ t.globals, okGlob g = true) ∧ (∀ f ∈ t.funcs, okFunc f = true) := by
  unfold valid at h
  simp only [Bool.and_eq_true, decide_eq_true_eq, List.all_eq_true] at h
  exact ⟨h.1.1.1, h.1.1.2, h.1.2, h.2⟩
end Go.Proofs.YtolbngbedncemaaGreatDoor.Md
namespace Go.Proofs.YtolbngbedncemaaGreatDoor
open Go Go.RowKit Md Go.Proofs.YtolbngbedncemaaGreatDoorW.PrintLast
def C8 (w : World) (cs : List Value) (x : UInt8) : Prop := cs = [.int .u8 x.toNat]
theorem C8.any {w w' : World} {cs : List Value} {x : UInt8} (h : C8 w cs x) : C8 w' cs x := by unfold C8 at *; exact h
/-- The slice v reads as the bytes l. -/
abbrev SlB (w : World) (v : Value) (l : List UInt8) : Prop := Sl AnyB w 1 C8 v l
/-- What comes of the reference's PrintC: a slice of bytes. -/
def GivesB (w : World) (R : List UInt8) (e : Ending) (w' : World) : Prop := ∃ v, e = .returned v ∧ SlB w' v R ∧ Ext w w'
theorem ext_bytesWorld (w : World) (e : TypeId) (s : ByteArray) : Ext w (Lib.bytesWorld w e s) := Lib.bytesWorld_below _ _ _
theorem slB_bytesWorld (w : World) (e : TypeId) (s : ByteArray) (c : Nat) (hc : s.size ≤ c) (hm : c ≤ 9223372036854775807) : SlB (Lib.bytesWorld w e s) (.slice (some ⟨w.heap.size, 0, none⟩) s.size c) s.data.toList := by
  have hl : s.data.toList.length = s.size := rfl
  refine ⟨some ⟨w.heap.size, 0, none⟩, c, by rw [hl], by omega, by unfold maxLen; omega, fun hp => ⟨w.heap.size, 0, rfl, trivial, fun i hi => ⟨[.int .u8 s.data.toList[i].toNat], rfl, rfl, fun q u hu => ?_⟩⟩⟩
  have hq : q = 0 := by
    have := (List.getElem?_eq_some_iff.1 hu).1
    simp at this; omega
  subst hq
  simp only [List.getElem?_cons_zero, Option.some.injEq] at hu
  subst hu
  have := Lib.bytesWorld_cell w e s i (by omega)
  rw [List.getD_eq_getElem?_getD, List.getElem?_eq_getElem hi] at this
  simpa using this
theorem app_nilB (s : ByteArray) : s ++ str [] = s := by
  apply ByteArray.ext
  simp [str]
set_option maxRecDepth 1000000 in
set_option maxHeartbeats 0 in
theorem s_PrintC (K : Foot) (t : PTree) (vG vF : Value) (w : World) (hG : SlGlob K w vG t.globals) (hF : SlFunc K w vF t.funcs) (hz : Small t) :
    Calls Tryz.prog 8 #[.agg #[vG, vF]] w (GivesB w (textT t)) := by
  have B1 := Blk.alloc w 32 #[vG, vF]
  have X1 : Ext w (w.alloc (.cells #[vG, vF] 32)) := (Ext.refl w).alloc _
  have HV := Lib.hid (s_ValidTree K t vG vF _ (hG.ext X1 (fun _ _ h => h.any)) (hF.ext X1 (fun _ _ h => h.ext X1)) hz)
  obtain ⟨aG, nG, cG, rfl, HlG, hlcG, hcmG, helG⟩ := hG.op
  obtain ⟨aF, nF, cF, rfl, HlF, hlcF, hcmF, helF⟩ := hF.op
  have HF := Lib.hid hF
  have HB1 := Lib.hid B1
  have HX1 := Lib.hid X1
  obtain ⟨R, hR⟩ : ∃ R, R = textT t := ⟨_, rfl⟩
  rw [← hR]
  have HR := Lib.hid hR
  unfold textT at hR
  have p0 : (w.alloc (.cells #[.slice aG nG cG, .slice aF nF cF] 32)).cell? ⟨w.heap.size, 0, none⟩ = some (.slice aG nG cG) := (B1.cell 0).trans rfl
  have p1 : (w.alloc (.cells #[.slice aG nG cG, .slice aF nF cF] 32)).cell? ⟨w.heap.size, 1, none⟩ = some (.slice aF nF cF) := (B1.cell 1).trans rfl
  by_cases hv : valid t = true
  rotate_left
  · have hvf : valid t = false := by simpa using hv
    rw [hvf] at HV
    rw [if_neg hv] at hR
    have HR0 := Lib.hid hR
    clear hR hv hG hF hz B1 X1 hvf
    go_enter Tryz.func8, Tryz.ntmps8
    go_wp2_with fail
    refine HV.out.mono ?_
    rintro e w2 ⟨rfl, hX2⟩
    have HX2 := Lib.hid (HX1.out.trans hX2)
    clear hX2 p0 p1
    go_wp2
    go_ret
    refine ⟨_, rfl, ?_, ?_⟩
    · rw [HR0.out]
      refine ⟨some ⟨w2.heap.size, 0, none⟩, 0, rfl, Nat.le_refl _, by unfold maxLen; omega, fun h => absurd h (by simp)⟩
    · exact HX2.out.alloc _
  rw [hv] at HV
  rw [if_pos hv] at hR
  obtain ⟨hgl, hfl, hga, hfa⟩ := valid_all hv
  have hnG : nG ≤ 50 := by have := HlG.out; omega
  have hnF : nF ≤ 50 := by have := HlF.out; omega
  have HRR := Lib.hid hR
  have HGa := Lib.hid hga
  have HFa := Lib.hid hfa
  clear hR hv hG hF hz B1 X1 hga hfa
  go_enter Tryz.func8, Tryz.ntmps8
  go_wp2_with fail
  refine HV.out.mono ?_
  rintro e w2 ⟨rfl, hX2⟩
  have HX2 := Lib.hid (HX1.out.trans hX2)
  have HC2 : Hid (∀ W, Ext w2 W → W.cell? ⟨w.heap.size, 0, none⟩ = some (.slice aG nG cG) ∧ W.cell? ⟨w.heap.size, 1, none⟩ = some (.slice aF nF cF)) := fun W hW => ⟨hW.cell (Ext.cell hX2 p0), hW.cell (Ext.cell hX2 p1)⟩
  clear hX2 p0 p1 HV
  obtain ⟨GL, hGL⟩ : ∃ GL, GL = t.globals.flatMap showG := ⟨_, rfl⟩
  rw [← hGL] at HRR
  have HGL := Lib.hid hGL
  clear hGL
  go_wp2_with fail
  go_loopw [3, 4] (fun v3 v4 wr => ∃ (k : Nat) (s : ByteArray), k ≤ nG ∧ v3 = .string s ∧ v4 = .int .i64 k ∧ Hid (s = str ((t.globals.take k).flatMap showG)) ∧ s.size ≤ 5000 ∧ Hid (s.size ≤ 100 * k) ∧ Hid (Ext w2 wr)) (fun _ v4 _ => nG - (intOf v4).toNat)
  case atStart => exact ⟨0, ⟨#[]⟩, Nat.zero_le _, rfl, rfl, by show _ = _; rw [List.take_zero]; rfl, by simp [ByteArray.size], by show _ ≤ _; simp [ByteArray.size], Ext.refl _⟩
  case round =>
    obtain ⟨k, s, hk, rfl, rfl, HS, hs5, HSz, HX⟩ := hrel
    obtain ⟨q0, q1⟩ := HC2.out _ HX.out
    by_cases hlt : k < nG
    · obtain ⟨b, o, rfl, _, hel⟩ := helG (by omega)
      obtain ⟨g, cs, hg, _, hC, hcs⟩ := hel k hlt
      obtain ⟨rfl, i1, i2⟩ := hC
      have hXw := HX2.out.trans HX.out
      have c0 := hXw.cell (hcs.z rfl)
      have c1 := hXw.cell (hcs 1 _ rfl)
      have hok := HGa.out g (List.mem_of_getElem? hg)
      have hgl2 := showG_len hok
      have hnm : g.name.size ≤ 20 ∧ 0 ≤ g.size ∧ g.size ≤ 4000 := by
        unfold okGlob at hok
        simp only [Bool.and_eq_true, decide_eq_true_eq] at hok
        exact ⟨name_len hok.1.1, hok.1.2, hok.2⟩
      obtain ⟨hnm, hg0, hg4⟩ := hnm
      have hsn := flat_take showG hg
      have hsz := HSz.out
      have HN : Hid (s ++ str (showG g) = str ((t.globals.take (k + 1)).flatMap showG)) := by show _ = _; rw [HS.out, hsn, str_append]
      have HM : Hid ((s ++ str (showG g)).size ≤ 100 * (k + 1)) := by show _ ≤ _; rw [ByteArray.size_append, str_size]; omega
      have HM5 : Hid ((s ++ str (showG g)).size ≤ 5000) := by show _ ≤ _; rw [ByteArray.size_append, str_size]; omega
      have HD := Lib.hid (s_l2Digits g.size)
      clear hel hcs hg hXw hok hgl2 hsn hsz hgl hfl
      obtain ⟨name, size⟩ := g
      simp only at *
      have g0 : (0 : Int) ≤ (k : Int) := by omega
      have g1 : (k : Int) < (nG : Int) := by omega
      have z1 : ¬ 9223372036854775807 < s.size + 4 := by omega
      have z2 : ¬ 9223372036854775807 < s.size + 4 + name.size := by omega
      by_cases hz0 : size = 0
      · subst hz0
        have he : s ++ str [105, 110, 116, 32] ++ name ++ str [59, 10] = s ++ str (showG ⟨name, 0⟩) := by
          conv => lhs; rw [← str_data name]
          unfold showG intW
          simp [str_append, ByteArray.append_assoc]
        rw [← he] at HN HM HM5
        have z3 : ¬ 9223372036854775807 < s.size + 4 + name.size + 2 := by omega
        have hlz : ¬ (0 : Int) < 0 := by omega
        clear he HD
        go_wp2
        go_roundw
        case rel => exact ⟨k + 1, _, by omega, rfl, by go_num, HN.out, HM5.out, HM.out, HX.out.alloc _⟩
        case measure => simp [intOf]; omega
      · obtain ⟨D, hD⟩ : ∃ D, D = str (dig size) := ⟨_, rfl⟩
        have hDs : D.size ≤ 16 := by
          rw [hD, str_size]
          exact dig_len (by unfold isWord; simp only [Bool.and_eq_true, decide_eq_true_eq]; omega)
        have he : s ++ str [105, 110, 116, 32] ++ name ++ str [91] ++ D ++ str [93] ++ str [59, 10] = s ++ str (showG ⟨name, size⟩) := by
          rw [hD]
          conv => lhs; rw [← str_data name]
          unfold showG intW
          simp [str_append, ByteArray.append_assoc, hz0]
        rw [← he] at HN HM HM5
        have hlz : (0 : Int) < size := by omega
        have HDc := Lib.hid (fun w' => HD.out w' (by omega))
        rw [← hD] at HDc
        have z3 : ¬ 9223372036854775807 < s.size + 4 + name.size + 1 := by omega
        have z4 : ¬ 9223372036854775807 < s.size + 4 + name.size + 1 + D.size := by omega
        have z5 : ¬ 9223372036854775807 < s.size + 4 + name.size + 1 + D.size + 1 := by omega
        have z6 : ¬ 9223372036854775807 < s.size + 4 + name.size + 1 + D.size + 1 + 2 := by omega
        clear he HD hD hz0
        go_wp2_with fail
        refine (HDc.out _).mono ?_
        rintro e w5 ⟨rfl, hX5⟩
        have HX5 := Lib.hid ((HX.out.alloc _).trans hX5)
        clear hX5 q0 q1 c0 c1
        go_wp2
        go_roundw
        case rel => exact ⟨k + 1, _, by omega, rfl, by go_num, HN.out, HM5.out, HM.out, HX5.out⟩
        case measure => simp [intOf]; omega
    · obtain rfl : k = nG := by omega
      have HGs : Hid (s = str GL) := by
        show _ = _
        rw [HS.out, HGL.out, List.take_of_length_le (by rw [HlG.out]; omega)]
      obtain ⟨wa, rfl⟩ : ∃ wa, wa = wr := ⟨_, rfl⟩
      have HXa := HX
      have HLf : Hid (t.funcs.length ≤ 50) := hfl
      have hlt' : ¬ (k : Int) < (k : Int) := by omega
      clear HS HSz helG HX hfl hgl HlG hlcG hcmG hlt
      go_wp2_with fail
      clear q0 q1 hlt'
      go_loopw [3, 6] (fun v3 v6 wr => ∃ (j : Nat) (s' : ByteArray), j ≤ nF ∧ v3 = .string s' ∧ v6 = .int .i64 j ∧ Hid (s' = str (GL ++ (t.funcs.take j).flatMap textF)) ∧ s'.size ≤ 10000000 ∧ Hid (s'.size ≤ 5000 + 180000 * j) ∧ Hid (Ext w2 wr)) (fun _ v6 _ => nF - (intOf v6).toNat)
      case atStart => exact ⟨0, s, Nat.zero_le _, rfl, rfl, by show _ = _; rw [List.take_zero, HGs.out]; simp, by omega, by show _ ≤ _; omega, HXa.out⟩
      case round =>
        clear HGs HXa hs5
        obtain ⟨j, s', hj, rfl, rfl, HS, hs6, HSz, HX⟩ := hrel
        obtain ⟨q0, q1⟩ := HC2.out _ HX.out
        by_cases hlt : j < nF
        · obtain ⟨b, o, rfl, _, hel⟩ := helF (by omega)
          obtain ⟨f, cs, hf, _, hC, hcs⟩ := hel j hlt
          obtain ⟨vP, vB, rfl, hP, hB, _⟩ := hC
          have hXw := HX2.out.trans HX.out
          have c0 := hXw.cell (hcs.z rfl)
          have c1 := hXw.cell (hcs 1 _ rfl)
          have c2 := hXw.cell (hcs 2 _ rfl)
          have hok := HFa.out f (List.mem_of_getElem? hf)
          obtain ⟨hnm1, hp6, hpn, hcost, hblk⟩ := okFunc_all hok
          have hnm := name_len hnm1
          have htl := textF_len hok
          have hsn := flat_take textF hf
          have hplen := params_len hpn hp6
          have hsz := HSz.out
          have hjn : j + 1 ≤ 50 := by omega
          obtain ⟨aP, nP, cP, rfl, HlP, hlcP, hcmP, helP⟩ := hP.op
          obtain ⟨aB, nB, cB, rfl⟩ := hB.shape
          have HBl : Hid (∀ w', Ext w w' → Calls Tryz.prog 31 #[.slice aB nB cB] w' (Gives (.string (str (showBlk (bodyOf f)))) w')) := fun w' hw => s_l2Lines K _ f.body 0 (bodyOf f) _ w' (hB.ext hw (fun _ _ h => h.ext hw)) rfl hblk (by omega)
          have hbl2 := showBlk_len _ _ _ _ (Nat.le_refl _) hblk
          obtain ⟨LB, hLB⟩ : ∃ LB, LB = str (showBlk (bodyOf f)) := ⟨_, rfl⟩
          have hLBs : LB.size ≤ 178000 := by rw [hLB, str_size]; omega
          rw [← hLB] at HBl
          have HLB := Lib.hid hLB
          have hnP : nP ≤ 6 := by have := HlP.out; omega
          have HHP := Lib.hid (fun w' (hw : Ext w w') => hP.ext hw (fun _ _ h => h.any))
          have HPn := Lib.hid hpn
          have HPl := Lib.hid hplen
          have HN : Hid (∀ z : ByteArray, z = s' ++ str (textF f) → z = str (GL ++ (t.funcs.take (j + 1)).flatMap textF) ∧ z.size ≤ 10000000 ∧ z.size ≤ 5000 + 180000 * (j + 1)) := fun z hz => by
            refine ⟨by rw [hz, HS.out, hsn, str_append, List.append_assoc], ?_, ?_⟩
            · rw [hz, ByteArray.size_append, str_size]; omega
            · rw [hz, ByteArray.size_append, str_size]; omega
          have HTF : Hid (str (textF f) = str [105, 110, 116, 32] ++ f.name ++ str [40] ++ str (commas (f.params.map fun p => intW ++ p.data.toList)) ++ str [41, 32, 123, 10] ++ LB ++ str [125, 10]) := by
            show _ = _
            rw [hLB]
            conv => rhs; rw [← str_data f.name]
            unfold textF showF intW
            simp [str_append, ByteArray.append_assoc]
          clear hel hcs hf hXw hok hnm1 hp6 hpn hcost hblk htl hsn hplen hsz hbl2 hLB hP hB
          obtain ⟨name, params, body⟩ := f
          simp only at *
          have g0 : (0 : Int) ≤ (j : Int) := by omega
          have g1 : (j : Int) < (nF : Int) := by omega
          have hnz : name.size ≤ 20 := hnm
          have z1 : ¬ 9223372036854775807 < s'.size + 4 := by omega
          have z2 : ¬ 9223372036854775807 < s'.size + 4 + name.size := by omega
          have z3 : ¬ 9223372036854775807 < s'.size + 4 + name.size + 1 := by omega
          have BX := Blk.alloc wr 51 #[.string name, .slice aP nP cP, .slice aB nB cB]
          have X1 : Ext wr (wr.alloc (.cells #[.string name, .slice aP nP cP, .slice aB nB cB] 51)) := (Ext.refl wr).alloc _
          have HBX := Lib.hid BX
          have HX1' := Lib.hid X1
          clear BX X1 hnm
          go_wp2_with fail
          clear q0 q1 c0 c1 c2 z1 z2 z3
          obtain ⟨wx, hwx⟩ : ∃ wx, wx = wr.alloc (.cells #[.string name, .slice aP nP cP, .slice aB nB cB] 51) := ⟨_, rfl⟩
          rw [← hwx] at HBX HX1'
          try rw [← hwx]
          have HHx := Lib.hid hwx
          clear hwx
          obtain ⟨g9, hg9⟩ : ∃ g9, g9 = wr.heap.size := ⟨_, rfl⟩
          rw [← hg9] at HBX
          try rw [← hg9]
          have HG9 := Lib.hid hg9
          clear hg9
          go_loopw [3, 8] (fun v3 v8 wq => ∃ (i : Nat) (s2 : ByteArray), i ≤ nP ∧ v3 = .string s2 ∧ v8 = .int .i64 i ∧ Hid (s2 = s' ++ str [105, 110, 116, 32] ++ name ++ str [40] ++ str (commas ((params.take i).map fun p => intW ++ p.data.toList))) ∧ s2.size ≤ 10001000 ∧ Hid (Ext wx wq)) (fun _ v8 _ => nP - (intOf v8).toNat)
          case atStart =>
            refine ⟨0, _, Nat.zero_le _, rfl, rfl, ?_, ?_, by rw [HHx.out]; exact Ext.refl _⟩
            · exact (app_nilB _).symm
            · simp only [ByteArray.size_append]
              show s'.size + 4 + name.size + 1 ≤ _
              omega
          case round =>
            have H6 : Hid (s'.size ≤ 10000000) := hs6
            clear hs6
            obtain ⟨i, s2, hi, rfl, rfl, HS2, hs7, HXq⟩ := hrel
            obtain ⟨d0, d1, d2⟩ : wr.cell? ⟨g9, 0, none⟩ = some (.string name) ∧ wr.cell? ⟨g9, 1, none⟩ = some (.slice aP nP cP) ∧ wr.cell? ⟨g9, 2, none⟩ = some (.slice aB nB cB) :=
              ⟨HXq.out.cell ((HBX.out.cell 0).trans rfl), HXq.out.cell ((HBX.out.cell 1).trans rfl), HXq.out.cell ((HBX.out.cell 2).trans rfl)⟩
            have hXw := HX2.out.trans (HX.out.trans (HX1'.out.trans HXq.out))
            by_cases hlt2 : i < nP
            · obtain ⟨b2, o2, rfl, _, hel2⟩ := helP (by omega)
              obtain ⟨p, cs, hp, _, hC, hcs⟩ := hel2 i hlt2
              obtain ⟨rfl, _⟩ := hC
              have e0 := hXw.cell (hcs.z rfl)
              simp only [Nat.mul_one] at e0
              have hpz : p.size ≤ 20 := name_len (HPn.out p (List.mem_of_getElem? hp))
              have hsn2 : ((params.take (i + 1)).map fun p => intW ++ p.data.toList) = ((params.take i).map fun p => intW ++ p.data.toList) ++ [intW ++ p.data.toList] := by rw [take_snoc hp, List.map_append]; rfl
              have hpl2 := HPl.out (i + 1)
              have h0 : (0 : Int) ≤ (i : Int) := by omega
              have h1 : (i : Int) < (nP : Int) := by omega
              have HSn := Lib.hid hsn2
              clear hel2 hcs hXw hsn2 hpl2 hp
              by_cases hi0 : i = 0
              · subst hi0
                simp only [Nat.add_zero] at e0
                have hz : ¬ (0 : Int) < ((0 : Nat) : Int) := by omega
                have HNw : Hid (s2 ++ str [105, 110, 116, 32] ++ p = s' ++ str [105, 110, 116, 32] ++ name ++ str [40] ++ str (commas ((params.take (0 + 1)).map fun p => intW ++ p.data.toList))) := by
                  show _ = _
                  rw [HSn.out, commas_snoc, HS2.out]
                  conv => lhs; rw [← str_data p]
                  simp [str_append, ByteArray.append_assoc, commas, intW, app_nilB]
                have HM2 : Hid ((s2 ++ str [105, 110, 116, 32] ++ p).size ≤ 10001000) := by
                  show _ ≤ _
                  rw [HNw.out]
                  have h6 := H6.out
                  have h7 := HPl.out (0 + 1)
                  simp only [ByteArray.size_append, str_size]
                  simp only [List.length_cons, List.length_nil]
                  omega
                have z1 : ¬ 9223372036854775807 < s2.size + 4 := by omega
                have z2 : ¬ 9223372036854775807 < s2.size + 4 + p.size := by omega
                go_wp2
                go_roundw
                case rel => exact ⟨0 + 1, _, by omega, rfl, by go_num, HNw.out, HM2.out, HXq.out⟩
                case measure => simp [intOf]; omega
              · have hz : (0 : Int) < (i : Int) := by omega
                have hne : ¬ ((params.take i).map fun p => intW ++ p.data.toList) = [] := fun e => by
                  have := congrArg List.length e
                  rw [List.length_map, List.length_take, List.length_nil, HlP.out] at this
                  omega
                have HNw : Hid (s2 ++ str [44, 32] ++ str [105, 110, 116, 32] ++ p = s' ++ str [105, 110, 116, 32] ++ name ++ str [40] ++ str (commas ((params.take (i + 1)).map fun p => intW ++ p.data.toList))) := by
                  show _ = _
                  rw [HSn.out, commas_snoc, if_neg hne, HS2.out]
                  conv => lhs; rw [← str_data p]
                  simp [str_append, ByteArray.append_assoc, intW]
                have HM2 : Hid ((s2 ++ str [44, 32] ++ str [105, 110, 116, 32] ++ p).size ≤ 10001000) := by
                  show _ ≤ _
                  rw [HNw.out]
                  have h6 := H6.out
                  have h7 := HPl.out (i + 1)
                  simp only [ByteArray.size_append, str_size]
                  simp only [List.length_cons, List.length_nil]
                  omega
                have z1 : ¬ 9223372036854775807 < s2.size + 2 := by omega
                have z2 : ¬ 9223372036854775807 < s2.size + 2 + 4 := by omega
                have z3 : ¬ 9223372036854775807 < s2.size + 2 + 4 + p.size := by omega
                clear hne
                go_wp2
                go_roundw
                case rel => exact ⟨i + 1, _, by omega, rfl, by go_num, HNw.out, HM2.out, HXq.out⟩
                case measure => simp [intOf]; omega
            · obtain rfl : i = nP := by omega
              have HNw := Lib.hid (HN.out (s2 ++ str [41, 32, 123, 10] ++ LB ++ str [125, 10]) (by
                rw [HTF.out, HS2.out, List.take_of_length_le (by rw [HlP.out]; omega)]
                simp [ByteArray.append_assoc]))
              have HBc := Lib.hid (HBl.out wr hXw)
              have HX9 := Lib.hid (HX.out.trans (HX1'.out.trans HXq.out))
              have z1 : ¬ 9223372036854775807 < s2.size + 4 := by omega
              have z2 : ¬ 9223372036854775807 < s2.size + 4 + LB.size := by omega
              have z3 : ¬ 9223372036854775807 < s2.size + 4 + LB.size + 2 := by omega
              have hlt3 : ¬ (i : Int) < (i : Int) := by omega
              clear HN HTF HS2 HBl helP hXw HXq
              go_wp2_with fail
              refine HBc.out.mono ?_
              rintro e w5 ⟨rfl, hX5⟩
              have HX5 := Lib.hid (HX9.out.trans hX5)
              clear hX5 HX9 HBc d0 d1 d2
              go_wp2
              go_roundw
              case rel => exact ⟨j + 1, _, by omega, rfl, by go_num, HNw.out.1, HNw.out.2.1, HNw.out.2.2, HX5.out⟩
              case measure => simp [intOf]; omega
        · obtain rfl : j = nF := by omega
          have hRs : R = s'.data.toList := by
            rw [HRR.out, HS.out, List.take_of_length_le (by rw [HlF.out]; omega)]
            simp [str]
          have HRs := Lib.hid hRs
          have hcv := fun w' => Lib.run_convert_string_bytes w' 9 27 5 s' Tryz.underlying9 Tryz.underlying27 Tryz.underlying5
          have hXw := Lib.hid (HX2.out.trans HX.out)
          clear hRs HS HSz HRR
          go_wp2
          go_ret
          refine ⟨_, rfl, ?_, ?_⟩
          · rw [HRs.out]
            exact slB_bytesWorld _ _ _ _ (grownCap_ge _ _ _ _) (grownCap_le_maxLen _ _ _ _ (by unfold maxLen; omega))
          · exact hXw.out.trans (ext_bytesWorld _ _ _)
end Go.Proofs.YtolbngbedncemaaGreatDoor
