/- The program's expr.text and printBlock answer as the model. Conditions: what is printed is in order; bounds of sizes. -/
import Derived.Test.YtolbngbedncemaaGreatDoorImPrint
import Derived.Test.YtolbngbedncemaaGreatDoorBlocksA
import Derived.Test.YtolbngbedncemaaGreatDoorSpLines
set_option linter.unusedVariables false
set_option linter.unusedSimpArgs false
namespace Go.Proofs.YtolbngbedncemaaGreatDoor
open Go Go.RowKit Md Go.Proofs.YtolbngbedncemaaGreatDoorW.PrintLast

/-! ### The text of an expression -/
theorem tabs_of {w : World} (h1 : OpsAt w) (h2 : UnAtG w) (h3 : Lib.TabIs Tryz.prog w "internal/strconv.uint64pow10" .u64 Lib.pow10Tab) : PrTabs w.heap.size w := fun W hW =>
  ⟨h1.ext hW, h2.ext hW, Lib.tabBelow_of_tabIs h3 W hW⟩
set_option maxRecDepth 1000000 in
theorem i_text (K : Foot) (x : Ex) (hx : x.ok) (hl : x.list.length ≤ 10000) (v : Value) (w : World) (h : ExAt K w v x) (hT : PrTabs w.heap.size w) :
    Calls Tryz.prog 74 #[v] w (Gives (.string (str (showE x))) w) := by
  have X1 : Ext w (w.alloc (.cells #[.pointer none, .slice none 0 0] 136)) := (Ext.refl w).alloc _
  have hb := Lib.IsBuilderF.of (Lib.fresh_isBuilder 136 5 w)
  have hlen := showE_len x hx
  have HPr := Lib.hid (i_print x hx hl 0 w.heap.size w.heap.size [] v _ (by omega) ((h.bound.mono (fun _ h => h.2)).ext X1) (hT.below X1) hb (by simp) (by rw [prE_zero]; simp; omega))
  rw [prE_zero, List.nil_append] at HPr
  have HX1 := Lib.hid X1
  obtain ⟨T, hTe⟩ : ∃ T, T = showE x := ⟨_, rfl⟩
  rw [← hTe] at HPr ⊢
  obtain ⟨bv, va, vs, rfl, _⟩ := h.op
  clear h hT hb hlen X1 hTe hx hl
  go_enter Tryz.func74, Tryz.ntmps74
  go_wp2_with fail
  refine HPr.out.mono ?_
  rintro e w2 ⟨rfl, hi, hbel, hoth⟩
  have HX2 := Lib.hid (show Ext w w2 from (HX1.out.mono (Nat.le_refl _)).trans hbel)
  have HS := Lib.hid (Tryz.Builder_String_any_k w.heap.size w.heap.size T w2 hi HX2.out.size)
  clear hi hbel hoth HPr
  go_wp2_with fail
  refine HS.out.mono ?_
  rintro e w3 ⟨rfl, hi3, hb3, ho3⟩
  have HX3 := Lib.hid (show Ext w w3 from Below.trans HX2.out hb3)
  clear hi3 hb3 ho3
  go_wp2
  go_ret
  exact ⟨rfl, HX3.out⟩

/-! ### A bytes.Buffer -/
theorem buf_ext {T e B b : Nat} {bs : List Value} {w w' : World} (h : Lib.IsBuffer T e B b bs w) (hE : Ext w w') : Lib.IsBuffer T e B b bs w' := by
  obtain ⟨hB, v, lr, hb, ⟨h1, h2⟩, hn⟩ := h
  refine ⟨hB, v, lr, by rw [hE.block b (Array.getElem?_eq_some_iff.1 hb).1]; exact hb, ⟨h1, ?_⟩, hn⟩
  rcases h2 with h2 | ⟨g, cap, cur, rfl, hg, hh, r⟩
  · exact .inl h2
  · refine .inr ⟨g, cap, cur, rfl, hg, ?_, r⟩
    rw [hE.block g (Array.getElem?_eq_some_iff.1 hh).1]
    exact hh
/-- The buffer in block b holds the text l; what lay below B is as it was in w. -/
structure BS (B b : Nat) (l : List UInt8) (w W : World) : Prop where
  isb : Lib.IsBuffer 70 5 B b (Lib.byteCells l) W
  bel : Below B w W
  hB : B ≤ w.heap.size
theorem BS.le {B b : Nat} {l : List UInt8} {w W : World} (h : BS B b l w W) : B ≤ W.heap.size := Nat.le_trans h.hB h.bel.size
theorem BS.ext {B b : Nat} {l : List UInt8} {w W W' : World} (h : BS B b l w W) (k : Ext W W') : BS B b l w W' := ⟨buf_ext h.isb k, h.bel.trans (k.mono h.le), h.hB⟩
theorem BS.cast {B b : Nat} {l l' : List UInt8} {w W : World} (h : BS B b l w W) (e : l = l') : BS B b l' w W := e ▸ h
theorem BS.then_ {B b : Nat} {l l' : List UInt8} {w W W' : World} (h : BS B b l w W) (k : BS B b l' W W') : BS B b l' w W' := ⟨k.isb, h.bel.trans k.bel, h.hB⟩
theorem c_BW (B b : Nat) (l : List UInt8) (s : ByteArray) (w W : World) (h : BS B b l w W) (hl : l.length + s.size ≤ 100000000) :
    Calls Tryz.prog 35 #[.pointer (some ⟨b, 0, none⟩), .string s] W (fun e W' => e = .returned (.tuple #[.int .i64 s.size, .nilIface]) ∧ BS B b (l ++ s.data.toList) w W') := by
  refine (Tryz.Buffer_WriteString_k B b _ s W h.isb h.le (Lib.byteCells_one _) (by rw [Lib.byteCells_length]; omega)).mono ?_
  rintro e W' ⟨rfl, h1, h2, h3⟩
  refine ⟨rfl, ?_, h.bel.trans h2, h.hB⟩
  rw [Lib.byteCells_append]
  exact h1
theorem sts_len : ∀ (l : List PStmt) (p : Nat) (sts : List St), blocks l p = some sts → sts.length ≤ l.length := by
  intro l
  induction hn : l.length using Nat.strongRecOn generalizing l with
  | ind n ih =>
    intro p sts h
    match l, hn, h with
    | [], hn, h => rw [blocks] at h; cases h; simp
    | s :: rest, hn, h =>
      obtain ⟨e, T, U, R, _, _, _, _, hle, _, _, h3, rfl⟩ := blocks_inv h
      simp only [List.length_cons] at hn ⊢
      have := ih (rest.drop (s.thn.toNat + s.els.toNat)).length (by rw [List.length_drop]; omega) _ rfl _ _ h3
      rw [List.length_drop] at this
      omega
theorem showBlk_take {sts : List St} {k : Nat} {s : St} {rest : List St} (h : sts.drop k = s :: rest) : showBlk (sts.take (k + 1)) = showBlk (sts.take k) ++ showSt s := by
  have hk : sts[k]? = some s := by
    have := congrArg List.head? h
    rw [List.head?_drop] at this
    exact this
  rw [take_snoc hk, showBlk_append, showBlk, showBlk, List.append_nil]
/-- What is left of a block from its k-th statement on. -/
theorem at_k (l : List PStmt) (p : Nat) (sts : List St) (h : blocks l p = some sts) : ∀ k, k ≤ sts.length → ∀ n, l.length ≤ n → ∃ l2 p2, blocks l2 p2 = some (sts.drop k) ∧ l2.length ≤ n ∧ (showBlk (sts.take k)).length + cost l2 ≤ cost l := by
  intro k
  induction k with
  | zero => intro _ n hn; exact ⟨l, p, by rw [List.drop_zero]; exact h, hn, by rw [List.take_zero, showBlk]; simp⟩
  | succ k ih =>
    intro hk n hn
    obtain ⟨l2, p2, h1, h2, h3⟩ := ih (by omega) n hn
    have hd : sts.drop k = sts[k] :: sts.drop (k + 1) := List.drop_eq_getElem_cons (by omega)
    rw [hd] at h1
    match l2, h1 with
    | [], h1 => rw [blocks] at h1; cases h1
    | s :: rest, h1 =>
      obtain ⟨e, T, U, R, hg, hok, _, _, hle, hT, hU, hR, he⟩ := blocks_inv h1
      simp only [List.cons.injEq] at he
      have hc1 := cost_cons s rest
      have hc2 := cost_cut rest s.thn.toNat s.els.toNat
      have hsl := showS_len hok hg (showBlk T) (showBlk U)
      have hlT := showBlk_len _ _ _ _ (Nat.le_refl _) hT
      have hlU := showBlk_len _ _ _ _ (Nat.le_refl _) hU
      simp only [List.length_cons] at h2
      refine ⟨_, _, by rw [he.2]; exact hR, by rw [List.length_drop]; omega, ?_⟩
      rw [showBlk_take hd, he.1, showSt, List.length_append]
      omega
theorem st_node_at {K : Foot} {w : World} {v : Value} {s : PStmt} {p : Nat} {x : Ex} {y : Option Ex} {thn els : List St} (h : StAt K w v (.mk s p x y thn els)) :
    ∃ b vE vF ve vf vt vu ts us, v = .pointer (some ⟨b, 0, none⟩) ∧ K b ∧ Cells w b 0 [.int .i64 s.kind, .string s.name, vE, vF, .int .i64 s.thn, .int .i64 s.els, .int .i64 p, ve, vf, vt, vu] ∧
      ExAt K w ve x ∧ ExOpt K w vf y ∧ SlV K w vt ts ∧ SlV K w vu us ∧ All2 (StAt K w) ts thn ∧ All2 (StAt K w) us els := by
  cases h with
  | mk b s p x y vE vF ve vf vt vu ts us thn els hb hc hE hF h1 h2 h3 h4 he hf ht hu lt lu ht2 hu2 => exact ⟨b, vE, vF, ve, vf, vt, vu, ts, us, rfl, hb, hc, he, hf, ht, hu, ⟨lt, ht2⟩, ⟨lu, hu2⟩⟩
def BlPost (B b : Nat) (L : List UInt8) (w : World) (e : Ending) (w' : World) : Prop := e = .returned (.tuple #[]) ∧ BS B b L w w'
set_option maxRecDepth 1000000 in
set_option maxHeartbeats 0 in
theorem i_printBlock (n : Nat) : ∀ (l : List PStmt) (p : Nat) (sts : List St) (B b : Nat) (L : List UInt8) (vS : Value) (ts : List Value) (w : World), l.length = n → blocks l p = some sts → cost l ≤ 400000 →
    SlV (fun c => c < B) w vS ts → All2 (StAt (fun c => c < B) w) ts sts → PrTabs B w → BS B b L w w → L.length + cost l ≤ 100000000 →
    Calls Tryz.prog 38 #[.pointer (some ⟨b, 0, none⟩), vS] w (BlPost B b (L ++ showBlk sts) w) := by
  induction n using Nat.strongRecOn with
  | ind n ih =>
    intro l p sts B b L vS ts w hn hbl hc hs hall hT hb hsz
    obtain ⟨aS, nS, cS, rfl⟩ := hs.shape
    have hnS := (SlV.len hs).1
    have hlen9 := (SlV.len hs).2
    have hll : sts.length ≤ l.length := sts_len l p sts hbl
    have hlm : nS ≤ 4000 := by have := cost_len l; have := hall.1; omega
    have HTab := Lib.hid hT
    have HBW : Hid (∀ (s : ByteArray) (L' : List UInt8) (W : World), BS B b L' w W → L'.length + s.size ≤ 100000000 →
        Calls Tryz.prog 35 #[.pointer (some ⟨b, 0, none⟩), .string s] W (fun e W' => e = .returned (.tuple #[.int .i64 s.size, .nilIface]) ∧ BS B b (L' ++ s.data.toList) w W')) := fun s L' W h hl => c_BW B b L' s w W h hl
    have HTx : Hid (∀ (x : Ex) v W, x.ok → x.list.length ≤ 10000 → ExAt (fun c => c < B) W v x → Below B w W → B ≤ W.heap.size → Calls Tryz.prog 74 #[v] W (Gives (.string (str (showE x))) W)) := fun x v W hx hl hv hW hBW =>
      i_text _ x hx hl v W hv (fun W' hW' => HTab.out W' (hW.trans (hW'.mono hBW)))
    have HIH : Hid (∀ (m : Nat) (l' : List PStmt) (p' : Nat) (sts' : List St) (L' : List UInt8) (vS' : Value) (ts' : List Value) (W : World), m < n → l'.length = m → blocks l' p' = some sts' → cost l' ≤ 400000 →
        SlV (fun c => c < B) W vS' ts' → All2 (StAt (fun c => c < B) W) ts' sts' → BS B b L' w W → L'.length + cost l' ≤ 100000000 →
        Calls Tryz.prog 38 #[.pointer (some ⟨b, 0, none⟩), vS'] W (fun e W' => e = .returned (.tuple #[]) ∧ BS B b (L' ++ showBlk sts') w W')) := fun m l' p' sts' L' vS' ts' W hm h1 h2 h3 h4 h5 h6 h7 => by
      refine (ih m hm l' p' sts' B b L' vS' ts' W h1 h2 h3 h4 h5 (HTab.out.below h6.bel) ⟨h6.isb, Below.refl _ _, h6.le⟩ h7).mono ?_
      rintro e W' ⟨rfl, hW⟩
      exact ⟨rfl, h6.then_ hW⟩
    have HS := Lib.hid hs
    have HAll := Lib.hid hall
    have HNS := Lib.hid hnS
    have HSz := Lib.hid hsz
    have HC := Lib.hid hc
    have HLs : Hid (∀ k, k ≤ nS → ∃ l2 p2, blocks l2 p2 = some (sts.drop k) ∧ l2.length ≤ n ∧ (showBlk (sts.take k)).length + cost l2 ≤ cost l) := fun k hk => at_k l p sts hbl k (by have := hall.1; omega) n (by omega)
    have HB0 : Hid (BS B b (L ++ showBlk (sts.take 0)) w w) := by
      have : L ++ showBlk (sts.take 0) = L := by rw [List.take_zero, showBlk, List.append_nil]
      rw [this]
      exact hb
    obtain ⟨R, hR⟩ : ∃ R, R = L ++ showBlk sts := ⟨_, rfl⟩
    rw [← hR]
    have HR := Lib.hid hR
    clear hs hall hnS hsz hc hb hbl hT ih hR hll hn
    go_enter Tryz.func38, Tryz.ntmps38
    go_wp2
    go_loopw [9] (fun v9 wr => ∃ k : Nat, k ≤ nS ∧ v9 = .int .i64 k ∧ Hid (BS B b (L ++ showBlk (sts.take k)) w wr)) (fun v9 _ => nS - (intOf v9).toNat)
    case atStart => exact ⟨0, Nat.zero_le _, rfl, HB0.out⟩
    case round =>
      clear HB0
      obtain ⟨k, hk, rfl, HB⟩ := hrel
      by_cases hlt : k < nS
      · obtain ⟨l2, p2, hb2, hl2, hc2⟩ := HLs.out k (by omega)
        have hls : k < sts.length := by have h1 := HAll.out.1; have h2 := HNS.out; omega
        have hd : sts.drop k = sts[k] :: sts.drop (k + 1) := List.drop_eq_getElem_cons hls
        rw [hd] at hb2
        obtain ⟨x, rest, rfl⟩ : ∃ x rest, l2 = x :: rest := by
          cases l2 with
          | nil => rw [blocks] at hb2; cases hb2
          | cons x rest => exact ⟨x, rest, rfl⟩
        obtain ⟨ex, T, U, Rr, hg, hok, ht0, hu0, hle, hbT, hbU, hbR, he⟩ := blocks_inv hb2
        simp only [List.cons.injEq] at he
        simp only [List.length_cons] at hl2
        obtain ⟨bV, oV, rfl, hbV, hcV⟩ := SlV.at_ HS.out (by omega)
        obtain ⟨q, hq⟩ : ∃ q, ts[k]? = some q := ⟨ts[k]'(by have := HNS.out; omega), List.getElem?_eq_getElem _⟩
        have hst := HAll.out.2 k q sts[k] hq (List.getElem?_eq_getElem hls)
        rw [he.1] at hst
        have hsk := showBlk_take hd
        rw [he.1, showSt] at hsk
        obtain ⟨bq, vE, vF, ve, vf, vt, vu, tT, tU, rfl, hbq, hcq, hexA, hfA, hvt, hvu, hAT, hAU⟩ := st_node_at hst
        have hkd := stOk_range hok
        have hnm := stOk_name hok
        have h3 := stOk_three hok
        have hcx := cost_cons x rest
        have hcut := cost_cut rest x.thn.toNat x.els.toNat
        have hlT := showBlk_len _ _ _ _ (Nat.le_refl _) hbT
        have hlU := showBlk_len _ _ _ _ (Nat.le_refl _) hbU
        have hexl := showE_len ex (grow_ok hg)
        rw [grow_list hg] at hexl
        have hC0 := HC.out
        have hS0 := HSz.out
        have hce : x.e.length ≤ 10000 ∧ x.f.length ≤ 10000 := by unfold costS at hcx; omega
        have hbd : (L ++ showBlk (sts.take k)).length + costS x + cost (rest.take x.thn.toNat) + cost ((rest.drop x.thn.toNat).take x.els.toNat) ≤ 100000000 := by rw [List.length_append]; omega
        obtain ⟨y, hy⟩ : ∃ y, y = str (showE ex) := ⟨_, rfl⟩
        have hyz : y.size ≤ 64 * x.e.length := by rw [hy, str_size]; exact hexl
        have HE : Hid (∀ W, Below B w W → B ≤ W.heap.size → Calls Tryz.prog 74 #[ve] W (Gives (.string y) W)) := fun W hW hBW => by
          rw [hy]
          exact HTx.out ex ve W (grow_ok hg) (by rw [grow_list hg]; exact hce.1) (hexA.keep (keep_below hW) (fun _ h => h)) hW hBW
        have HFx : Hid (∀ fx, grow x.f = some fx → (str (showE fx)).size ≤ 64 * x.f.length ∧ ∀ W, Below B w W → B ≤ W.heap.size → Calls Tryz.prog 74 #[vf] W (Gives (.string (str (showE fx))) W)) := fun fx hfx => by
          have hfl := showE_len fx (grow_ok hfx)
          rw [grow_list hfx] at hfl
          refine ⟨by rw [str_size]; exact hfl, fun W hW hBW => ?_⟩
          rw [hfx] at hfA
          exact HTx.out fx vf W (grow_ok hfx) (by rw [grow_list hfx]; exact hce.2) (ExAt.keep hfA (keep_below hW) (fun _ h => h)) hW hBW
        have HIT : Hid (∀ L' W, BS B b L' w W → L'.length + cost (rest.take x.thn.toNat) ≤ 100000000 → Calls Tryz.prog 38 #[.pointer (some ⟨b, 0, none⟩), vt] W (fun e W' => e = .returned (.tuple #[]) ∧ BS B b (L' ++ showBlk T) w W')) := fun L' W hW hL' =>
          HIH.out _ (rest.take x.thn.toNat) _ T L' vt tT W (by rw [List.length_take]; omega) rfl hbT (by omega) (hvt.keep (keep_below hW.bel) (fun _ h => h)) (hAT.stKeep (keep_below hW.bel) (fun _ h => h)) hW hL'
        have HIU : Hid (∀ L' W, BS B b L' w W → L'.length + cost ((rest.drop x.thn.toNat).take x.els.toNat) ≤ 100000000 → Calls Tryz.prog 38 #[.pointer (some ⟨b, 0, none⟩), vu] W (fun e W' => e = .returned (.tuple #[]) ∧ BS B b (L' ++ showBlk U) w W')) := fun L' W hW hL' =>
          HIH.out _ ((rest.drop x.thn.toNat).take x.els.toNat) _ U L' vu tU W (by rw [List.length_take]; rw [List.length_drop]; omega) rfl hbU (by omega) (hvu.keep (keep_below hW.bel) (fun _ h => h)) (hAU.stKeep (keep_below hW.bel) (fun _ h => h)) hW hL'
        have HCell : Hid (∀ W, Below B w W → W.cell? ⟨bV, oV + k, none⟩ = some (.pointer (some ⟨bq, 0, none⟩)) ∧ W.cell? ⟨bq, 0, none⟩ = some (.int .i64 x.kind) ∧ W.cell? ⟨bq, 1, none⟩ = some (.string x.name) ∧ W.cell? ⟨bq, 5, none⟩ = some (.int .i64 x.els) ∧
            W.cell? ⟨bq, 7, none⟩ = some ve ∧ W.cell? ⟨bq, 8, none⟩ = some vf ∧ W.cell? ⟨bq, 9, none⟩ = some vt ∧ W.cell? ⟨bq, 10, none⟩ = some vu) := fun W hW => by
          have h := hcq.keep (keep_below hW) hbq
          have h0 := h 0 _ rfl
          have h1 := h 1 _ rfl
          have h5 := h 5 _ rfl
          have h7 := h 7 _ rfl
          have h8 := h 8 _ rfl
          have h9 := h 9 _ rfl
          have h10 := h 10 _ rfl
          simp only [Nat.zero_add] at h0 h1 h5 h7 h8 h9 h10
          exact ⟨(keep_below hW).cell hbV (hcV k _ hq), h0, h1, h5, h7, h8, h9, h10⟩
        have HNx : Hid (∀ z : List UInt8, z = showS x ex (grow x.f) (showBlk T) (showBlk U) → (L ++ showBlk (sts.take k)) ++ z = L ++ showBlk (sts.take (k + 1))) := fun z hz => by rw [hz, hsk, List.append_assoc]
        have hzT : (showBlk T).length ≤ cost (rest.take x.thn.toNat) ∧ (showBlk U).length ≤ cost ((rest.drop x.thn.toNat).take x.els.toNat) := ⟨hlT, hlU⟩
        obtain ⟨cT, hcT⟩ : ∃ cT, cT = cost (rest.take x.thn.toNat) := ⟨_, rfl⟩
        obtain ⟨cU, hcU⟩ : ∃ cU, cU = cost ((rest.drop x.thn.toNat).take x.els.toNat) := ⟨_, rfl⟩
        rw [← hcT] at HIT hbd hzT
        rw [← hcU] at HIU hbd hzT
        have hyz2 : y.size ≤ 640000 := by omega
        have HY := Lib.hid hy
        have H3 := Lib.hid h3
        have HFG : Hid (x.f.length ≤ 10000) := hce.2
        clear hb2 hl2 hc2 hls hd hg hok ht0 hu0 hle hbT hbU hbR he hcV hq hst hsk hcq hexA hfA hvt hvu hAT hAU h3 hcx hcut hlT hlU hexl hC0 hS0 hce hy hcT hcU
        obtain ⟨kind, name, xe, xf, thn, els⟩ := x
        simp only [costS] at *
        have g0 : (0 : Int) ≤ (k : Int) := by omega
        have g1 : (k : Int) < (nS : Int) := by omega
        obtain ⟨c0, c1, c2, c3, c4, c5, c6, c7⟩ := HCell.out _ HB.out.bel
        go_wp2_with fail
        refine (HE.out _ HB.out.bel HB.out.le).mono ?_
        rintro e W2 ⟨rfl, hX2⟩
        replace HB := Lib.hid (HB.out.ext hX2)
        clear hX2 c0 c1 c2 c3 c4 c5 c6 c7
        obtain ⟨c0, c1, c2, c3, c4, c5, c6, c7⟩ := HCell.out _ HB.out.bel
        by_cases hk1 : kind = 1
        · subst hk1
          have z10 : ¬ 9223372036854775807 < 4 + name.size := by omega
          have z11 : ¬ 9223372036854775807 < 4 + name.size + 3 := by omega
          have z12 : ¬ 9223372036854775807 < 4 + name.size + 3 + y.size := by omega
          have z13 : ¬ 9223372036854775807 < 4 + name.size + 3 + y.size + 2 := by omega
          have hbd1 : (L ++ showBlk (sts.take k)).length + (⟨#[105, 110, 116, 32]⟩ ++ name ++ ⟨#[32, 61, 32]⟩ ++ y ++ ⟨#[59, 10]⟩ : ByteArray).size ≤ 100000000 := by
            simp only [ByteArray.size_append]
            show _ + (4 + name.size + 3 + y.size + 2) ≤ _
            omega
          obtain ⟨pc1, hpc1⟩ : ∃ pc : ByteArray, pc = (⟨#[105, 110, 116, 32]⟩ ++ name ++ ⟨#[32, 61, 32]⟩ ++ y ++ ⟨#[59, 10]⟩ : ByteArray) := ⟨_, rfl⟩
          rw [← hpc1] at hbd1
          have hC1 := HBW.out pc1 _ _ HB.out hbd1
          rw [hpc1] at hC1
          replace hC1 := Lib.hid hC1
          clear hbd1 hpc1 pc1
          go_wp2_with fail
          refine hC1.out.mono ?_
          rintro e V1 ⟨rfl, hQ1⟩
          clear z10
          clear z11
          clear z12
          clear z13
          have HZ := Lib.hid (hQ1.cast (l' := L ++ showBlk (sts.take (k + 1))) (HNx.out _ (by rw [HY.out]; unfold showS intW; simp [ByteArray.data_append, str])))
          clear hQ1 hC1 c0 c1 c2 c3 c4 c5 c6 c7
          go_wp2
          go_roundw
          case rel => exact ⟨k + 1, by omega, by go_num, HZ.out⟩
          case measure => simp [intOf]; omega
        by_cases hk2 : kind = 2
        · subst hk2
          have z10 : ¬ 9223372036854775807 < name.size + 3 := by omega
          have z11 : ¬ 9223372036854775807 < name.size + 3 + y.size := by omega
          have z12 : ¬ 9223372036854775807 < name.size + 3 + y.size + 2 := by omega
          have hbd1 : (L ++ showBlk (sts.take k)).length + (name ++ ⟨#[32, 61, 32]⟩ ++ y ++ ⟨#[59, 10]⟩ : ByteArray).size ≤ 100000000 := by
            simp only [ByteArray.size_append]
            show _ + (name.size + 3 + y.size + 2) ≤ _
            omega
          obtain ⟨pc1, hpc1⟩ : ∃ pc : ByteArray, pc = (name ++ ⟨#[32, 61, 32]⟩ ++ y ++ ⟨#[59, 10]⟩ : ByteArray) := ⟨_, rfl⟩
          rw [← hpc1] at hbd1
          have hC1 := HBW.out pc1 _ _ HB.out hbd1
          rw [hpc1] at hC1
          replace hC1 := Lib.hid hC1
          clear hbd1 hpc1 pc1
          go_wp2_with fail
          refine hC1.out.mono ?_
          rintro e V1 ⟨rfl, hQ1⟩
          clear z10
          clear z11
          clear z12
          have HZ := Lib.hid (hQ1.cast (l' := L ++ showBlk (sts.take (k + 1))) (HNx.out _ (by rw [HY.out]; unfold showS intW; simp [ByteArray.data_append, str])))
          clear hQ1 hC1 c0 c1 c2 c3 c4 c5 c6 c7
          go_wp2
          go_roundw
          case rel => exact ⟨k + 1, by omega, by go_num, HZ.out⟩
          case measure => simp [intOf]; omega
        by_cases hk3 : kind = 3
        · subst hk3
          obtain ⟨fx, hfx⟩ := H3.out rfl
          obtain ⟨hfz, hFc⟩ := HFx.out fx hfx
          obtain ⟨z, hz⟩ : ∃ z, z = str (showE fx) := ⟨_, rfl⟩
          rw [← hz] at hfz hFc
          have HFc := Lib.hid hFc
          have HZz := Lib.hid hz
          have HFX := Lib.hid hfx
          have hfl := HFG.out
          clear hz hfx hFc
          have z10 : ¬ 9223372036854775807 < name.size + 1 := by omega
          have z11 : ¬ 9223372036854775807 < name.size + 1 + y.size := by omega
          have z12 : ¬ 9223372036854775807 < name.size + 1 + y.size + 4 := by omega
          have z13 : ¬ 9223372036854775807 < name.size + 1 + y.size + 4 + z.size := by omega
          have z14 : ¬ 9223372036854775807 < name.size + 1 + y.size + 4 + z.size + 2 := by omega
          have hbd1 : (L ++ showBlk (sts.take k)).length + (name ++ ⟨#[91]⟩ ++ y ++ ⟨#[93, 32, 61, 32]⟩ ++ z ++ ⟨#[59, 10]⟩ : ByteArray).size ≤ 100000000 := by
            simp only [ByteArray.size_append]
            show _ + (name.size + 1 + y.size + 4 + z.size + 2) ≤ _
            omega
          obtain ⟨pc1, hpc1⟩ : ∃ pc : ByteArray, pc = (name ++ ⟨#[91]⟩ ++ y ++ ⟨#[93, 32, 61, 32]⟩ ++ z ++ ⟨#[59, 10]⟩ : ByteArray) := ⟨_, rfl⟩
          rw [← hpc1] at hbd1
          have HPc := Lib.hid hpc1
          have HBd := Lib.hid hbd1
          clear hbd1 hfz hfl hpc1
          go_wp2_with fail
          have Xd : Ext W2 W2.drew := (Ext.refl W2).drew
          refine start_ (n := 18) (S := fun w' => w'.cell? ⟨bq, 1, none⟩ = some (.string name) ∧ w'.cell? ⟨bq, 8, none⟩ = some vf) (ds := []) #[false, false, false, false, false, false, false, false, false, false, false, false, false, false, false, false, false, false] (by kernel_rfl) rfl rfl ?hS (fun hHeld => ?_)
          case hS => exact ⟨Xd.cell c2, Xd.cell c5⟩
          refine pure_ (i := 0) (N := some 52) (v := ?_) (a' := ?_) #[true, false, false, false, false, false, false, false, false, false, false, false, false, false, false, false, false, false] rfl rfl (by kernel_rfl) (fun _ _ _ h => h) (Or.inl ⟨by rfl, ?_⟩) ?_ ?_
          rotate_left
          · intro w'
            go_simp
            with_reducible rfl
          rotate_left
          · simp only [Act.put, List.setIfInBounds_toArray, List.set_cons_zero, List.set_cons_succ, i64_w, i32_w]
            rfl
          refine pure_ (i := 1) (N := some 53) (v := ?_) (a' := ?_) #[true, true, false, false, false, false, false, false, false, false, false, false, false, false, false, false, false, false] rfl rfl (by kernel_rfl) (fun _ _ _ h => h) (Or.inl ⟨by rfl, ?_⟩) ?_ ?_
          rotate_left
          · intro w'
            go_simp
            with_reducible rfl
          rotate_left
          · simp only [Act.put, List.setIfInBounds_toArray, List.set_cons_zero, List.set_cons_succ, i64_w, i32_w]
            rfl
          refine pure_ (i := 2) (N := some 54) (v := ?_) (a' := ?_) #[true, true, true, false, false, false, false, false, false, false, false, false, false, false, false, false, false, false] rfl rfl (by kernel_rfl) (fun _ _ _ h => h) (Or.inl ⟨by rfl, ?_⟩) ?_ ?_
          rotate_left
          · intro w'
            go_simp
            with_reducible rfl
          rotate_left
          · simp only [Act.put, List.setIfInBounds_toArray, List.set_cons_zero, List.set_cons_succ, i64_w, i32_w]
            rfl
          refine pure_ (i := 3) (N := some 55) (v := ?_) (a' := ?_) #[true, true, true, true, false, false, false, false, false, false, false, false, false, false, false, false, false, false] rfl rfl (by kernel_rfl) (fun _ _ _ h => h) (Or.inl ⟨by rfl, ?_⟩) ?_ ?_
          rotate_left
          · intro w'
            go_simp
            with_reducible rfl
          rotate_left
          · simp only [Act.put, List.setIfInBounds_toArray, List.set_cons_zero, List.set_cons_succ, i64_w, i32_w]
            rfl
          refine pure_ (i := 4) (N := some 56) (v := ?_) (a' := ?_) #[true, true, true, true, true, false, false, false, false, false, false, false, false, false, false, false, false, false] rfl rfl (by kernel_rfl) (fun _ _ _ h => h) (Or.inl ⟨by rfl, ?_⟩) ?_ ?_
          rotate_left
          · intro w'
            go_simp
            with_reducible rfl
          rotate_left
          · simp only [Act.put, List.setIfInBounds_toArray, List.set_cons_zero, List.set_cons_succ, i64_w, i32_w]
            rfl
          refine take_ (i := 5) (N := some 57) (v := ?_) (a' := ?_) #[true, true, true, true, true, true, false, false, false, false, false, false, false, false, false, false, false, false] rfl rfl (by kernel_rfl) (fun _ _ _ h => h) (Or.inl ⟨by rfl, ?_⟩) hHeld ?_ ?_
          rotate_left
          · rintro w' ⟨y0, y1⟩
            go_simp
            with_reducible rfl
          rotate_left
          · simp only [Act.put, List.setIfInBounds_toArray, List.set_cons_zero, List.set_cons_succ, i64_w, i32_w]
            rfl
          refine pure_ (i := 6) (N := some 58) (v := ?_) (a' := ?_) #[true, true, true, true, true, true, true, false, false, false, false, false, false, false, false, false, false, false] rfl rfl (by kernel_rfl) (fun _ _ _ h => h) (Or.inl ⟨by rfl, ?_⟩) ?_ ?_
          rotate_left
          · intro w'
            go_simp
            with_reducible rfl
          rotate_left
          · simp only [Act.put, List.setIfInBounds_toArray, List.set_cons_zero, List.set_cons_succ, i64_w, i32_w]
            rfl
          refine pure_ (i := 7) (N := some 59) (v := ?_) (a' := ?_) #[true, true, true, true, true, true, true, true, false, false, false, false, false, false, false, false, false, false] rfl rfl (by kernel_rfl) (fun _ _ _ h => h) (Or.inl ⟨by rfl, ?_⟩) ?_ ?_
          rotate_left
          · intro w'
            go_simp
            with_reducible rfl
          rotate_left
          · simp only [Act.put, List.setIfInBounds_toArray, List.set_cons_zero, List.set_cons_succ, i64_w, i32_w]
            rfl
          refine pure_ (i := 8) (N := some 60) (v := ?_) (a' := ?_) #[true, true, true, true, true, true, true, true, true, false, false, false, false, false, false, false, false, false] rfl rfl (by kernel_rfl) (fun _ _ _ h => h) (Or.inl ⟨by rfl, ?_⟩) ?_ ?_
          rotate_left
          · intro w'
            go_simp
            with_reducible rfl
          rotate_left
          · simp only [Act.put, List.setIfInBounds_toArray, List.set_cons_zero, List.set_cons_succ, i64_w, i32_w]
            rfl
          refine pure_ (i := 9) (N := some 61) (v := ?_) (a' := ?_) #[true, true, true, true, true, true, true, true, true, true, false, false, false, false, false, false, false, false] rfl rfl (by kernel_rfl) (fun _ _ _ h => h) (Or.inl ⟨by rfl, ?_⟩) ?_ ?_
          rotate_left
          · intro w'
            go_simp
            with_reducible rfl
          rotate_left
          · simp only [Act.put, List.setIfInBounds_toArray, List.set_cons_zero, List.set_cons_succ, i64_w, i32_w]
            rfl
          refine pure_ (i := 10) (N := some 62) (v := ?_) (a' := ?_) #[true, true, true, true, true, true, true, true, true, true, true, false, false, false, false, false, false, false] rfl rfl (by kernel_rfl) (fun _ _ _ h => h) (Or.inl ⟨by rfl, ?_⟩) ?_ ?_
          rotate_left
          · intro w'
            go_simp
            with_reducible rfl
          rotate_left
          · simp only [Act.put, List.setIfInBounds_toArray, List.set_cons_zero, List.set_cons_succ, i64_w, i32_w]
            rfl
          refine pure_ (i := 11) (N := some 63) (v := ?_) (a' := ?_) #[true, true, true, true, true, true, true, true, true, true, true, true, false, false, false, false, false, false] rfl rfl (by kernel_rfl) (fun _ _ _ h => h) (Or.inl ⟨by rfl, ?_⟩) ?_ ?_
          rotate_left
          · intro w'
            go_simp
            with_reducible rfl
          rotate_left
          · simp only [Act.put, List.setIfInBounds_toArray, List.set_cons_zero, List.set_cons_succ, i64_w, i32_w]
            rfl
          refine pure_ (i := 12) (N := some 64) (v := ?_) (a' := ?_) #[true, true, true, true, true, true, true, true, true, true, true, true, true, false, false, false, false, false] rfl rfl (by kernel_rfl) (fun _ _ _ h => h) (Or.inl ⟨by rfl, ?_⟩) ?_ ?_
          rotate_left
          · intro w'
            go_simp
            with_reducible rfl
          rotate_left
          · simp only [Act.put, List.setIfInBounds_toArray, List.set_cons_zero, List.set_cons_succ, i64_w, i32_w]
            rfl
          refine take_ (i := 13) (N := some 65) (v := ?_) (a' := ?_) #[true, true, true, true, true, true, true, true, true, true, true, true, true, true, false, false, false, false] rfl rfl (by kernel_rfl) (fun _ _ _ h => h) (Or.inl ⟨by rfl, ?_⟩) hHeld ?_ ?_
          rotate_left
          · rintro w' ⟨y0, y1⟩
            go_simp
            with_reducible rfl
          rotate_left
          · simp only [Act.put, List.setIfInBounds_toArray, List.set_cons_zero, List.set_cons_succ, i64_w, i32_w]
            rfl
          replace HB := Lib.hid (HB.out.ext Xd)
          generalize W2.drew = W3 at HB hHeld ⊢
          clear Xd c0 c1 c2 c3 c4 c5 c6 c7
          refine one_ (i := 14) (N := some 66) #[true, true, true, true, true, true, true, true, true, true, true, true, true, true, true, false, false, false] rfl rfl (by kernel_rfl) (by decide) (fun K hK => ?_)
          refine goes_ (N := some 66) Tryz.func74 (by kernel_rfl) rfl #[vf] (by rfl) rfl rfl (by simp [Act.eval]) ?_
          refine (HFc.out _ HB.out.bel HB.out.le).mono ?_
          rintro e W4 ⟨rfl, hX4⟩
          refine ⟨_, rfl, ?_⟩
          refine hK.out _ _ ⟨hX4.cell hHeld.1, hX4.cell hHeld.2⟩ (fun hHeld => ?_)
          clear hK K
          refine norm_ (a' := ?_) ?_ ?_
          rotate_left
          · show Act.put _ (some 66) _ = _
            simp only [Act.put, List.setIfInBounds_toArray, List.set_cons_zero, List.set_cons_succ, i64_w, i32_w]
            rfl
          replace HB := Lib.hid (HB.out.ext hX4)
          clear hX4
          refine pure_ (i := 15) (N := some 67) (v := ?_) (a' := ?_) #[true, true, true, true, true, true, true, true, true, true, true, true, true, true, true, true, false, false] rfl rfl (by kernel_rfl) (fun _ _ _ h => h) (Or.inl ⟨by rfl, ?_⟩) ?_ ?_
          rotate_left
          · intro w'
            go_simp
            with_reducible rfl
          rotate_left
          · simp only [Act.put, List.setIfInBounds_toArray, List.set_cons_zero, List.set_cons_succ, i64_w, i32_w]
            rfl
          refine pure_ (i := 16) (N := some 68) (v := ?_) (a' := ?_) #[true, true, true, true, true, true, true, true, true, true, true, true, true, true, true, true, true, false] rfl rfl (by kernel_rfl) (fun _ _ _ h => h) (Or.inl ⟨by rfl, ?_⟩) ?_ ?_
          rotate_left
          · intro w'
            go_simp
            with_reducible rfl
          rotate_left
          · simp only [Act.put, List.setIfInBounds_toArray, List.set_cons_zero, List.set_cons_succ, i64_w, i32_w]
            rfl
          have hC1 := HBW.out pc1 _ _ HB.out HBd.out
          rw [HPc.out] at hC1
          refine one_ (i := 17) (N := some 69) #[true, true, true, true, true, true, true, true, true, true, true, true, true, true, true, true, true, true] rfl rfl (by kernel_rfl) (by decide) (fun K hK => ?_)
          refine goes_ (N := some 69) Tryz.func35 (by kernel_rfl) rfl #[.pointer (some ⟨b, 0, none⟩), .string (name ++ ⟨#[91]⟩ ++ y ++ ⟨#[93, 32, 61, 32]⟩ ++ z ++ ⟨#[59, 10]⟩ : ByteArray)] (by rfl) rfl rfl (by simp [Act.eval]) ?_
          refine hC1.mono ?_
          rintro e V1 ⟨rfl, hQ1⟩
          refine ⟨_, rfl, ?_⟩
          obtain ⟨_, _, d2, _, _, d5, _⟩ := HCell.out _ hQ1.bel
          refine hK.out _ _ ⟨d2, d5⟩ (fun hHeld => ?_)
          clear hK K
          refine norm_ (a' := ?_) ?_ ?_
          rotate_left
          · show Act.put _ (some 69) _ = _
            simp only [Act.put, List.setIfInBounds_toArray, List.set_cons_zero, List.set_cons_succ, i64_w, i32_w]
            rfl
          refine done_ (by kernel_rfl) ?_
          have HZ := Lib.hid (hQ1.cast (l' := L ++ showBlk (sts.take (k + 1))) (HNx.out _ (by rw [HY.out, HZz.out, HFX.out]; unfold showS intW; simp [ByteArray.data_append, str])))
          clear hQ1 hC1 hHeld d2 d5
          go_wp2
          go_roundw
          case rel => exact ⟨k + 1, by omega, by go_num, HZ.out⟩
          case measure => simp [intOf]; omega
        by_cases hk6 : kind = 6
        · subst hk6
          have z10 : ¬ 9223372036854775807 < 7 + y.size := by omega
          have z11 : ¬ 9223372036854775807 < 7 + y.size + 2 := by omega
          have hbd1 : (L ++ showBlk (sts.take k)).length + (⟨#[114, 101, 116, 117, 114, 110, 32]⟩ ++ y ++ ⟨#[59, 10]⟩ : ByteArray).size ≤ 100000000 := by
            simp only [ByteArray.size_append]
            show _ + (7 + y.size + 2) ≤ _
            omega
          obtain ⟨pc1, hpc1⟩ : ∃ pc : ByteArray, pc = (⟨#[114, 101, 116, 117, 114, 110, 32]⟩ ++ y ++ ⟨#[59, 10]⟩ : ByteArray) := ⟨_, rfl⟩
          rw [← hpc1] at hbd1
          have hC1 := HBW.out pc1 _ _ HB.out hbd1
          rw [hpc1] at hC1
          replace hC1 := Lib.hid hC1
          clear hbd1 hpc1 pc1
          go_wp2_with fail
          refine hC1.out.mono ?_
          rintro e V1 ⟨rfl, hQ1⟩
          clear z10
          clear z11
          have HZ := Lib.hid (hQ1.cast (l' := L ++ showBlk (sts.take (k + 1))) (HNx.out _ (by rw [HY.out]; unfold showS intW; simp [ByteArray.data_append, str])))
          clear hQ1 hC1 c0 c1 c2 c3 c4 c5 c6 c7
          go_wp2
          go_roundw
          case rel => exact ⟨k + 1, by omega, by go_num, HZ.out⟩
          case measure => simp [intOf]; omega
        by_cases hk7 : kind = 7
        · subst hk7
          have z10 : ¬ 9223372036854775807 < 4 + y.size := by omega
          have z11 : ¬ 9223372036854775807 < 4 + y.size + 3 := by omega
          have hbd1 : (L ++ showBlk (sts.take k)).length + (⟨#[111, 117, 116, 40]⟩ ++ y ++ ⟨#[41, 59, 10]⟩ : ByteArray).size ≤ 100000000 := by
            simp only [ByteArray.size_append]
            show _ + (4 + y.size + 3) ≤ _
            omega
          obtain ⟨pc1, hpc1⟩ : ∃ pc : ByteArray, pc = (⟨#[111, 117, 116, 40]⟩ ++ y ++ ⟨#[41, 59, 10]⟩ : ByteArray) := ⟨_, rfl⟩
          rw [← hpc1] at hbd1
          have hC1 := HBW.out pc1 _ _ HB.out hbd1
          rw [hpc1] at hC1
          replace hC1 := Lib.hid hC1
          clear hbd1 hpc1 pc1
          go_wp2_with fail
          refine hC1.out.mono ?_
          rintro e V1 ⟨rfl, hQ1⟩
          clear z10
          clear z11
          have HZ := Lib.hid (hQ1.cast (l' := L ++ showBlk (sts.take (k + 1))) (HNx.out _ (by rw [HY.out]; unfold showS intW; simp [ByteArray.data_append, str])))
          clear hQ1 hC1 c0 c1 c2 c3 c4 c5 c6 c7
          go_wp2
          go_roundw
          case rel => exact ⟨k + 1, by omega, by go_num, HZ.out⟩
          case measure => simp [intOf]; omega
        by_cases hk8 : kind = 8
        · subst hk8
          have z10 : ¬ 9223372036854775807 < y.size + 2 := by omega
          have hbd1 : (L ++ showBlk (sts.take k)).length + (y ++ ⟨#[59, 10]⟩ : ByteArray).size ≤ 100000000 := by
            simp only [ByteArray.size_append]
            show _ + (y.size + 2) ≤ _
            omega
          obtain ⟨pc1, hpc1⟩ : ∃ pc : ByteArray, pc = (y ++ ⟨#[59, 10]⟩ : ByteArray) := ⟨_, rfl⟩
          rw [← hpc1] at hbd1
          have hC1 := HBW.out pc1 _ _ HB.out hbd1
          rw [hpc1] at hC1
          replace hC1 := Lib.hid hC1
          clear hbd1 hpc1 pc1
          go_wp2_with fail
          refine hC1.out.mono ?_
          rintro e V1 ⟨rfl, hQ1⟩
          clear z10
          have HZ := Lib.hid (hQ1.cast (l' := L ++ showBlk (sts.take (k + 1))) (HNx.out _ (by rw [HY.out]; unfold showS intW; simp [ByteArray.data_append, str])))
          clear hQ1 hC1 c0 c1 c2 c3 c4 c5 c6 c7
          go_wp2
          go_roundw
          case rel => exact ⟨k + 1, by omega, by go_num, HZ.out⟩
          case measure => simp [intOf]; omega
        by_cases hk4 : kind = 4
        · subst hk4
          have z10 : ¬ 9223372036854775807 < 4 + y.size := by omega
          have z11 : ¬ 9223372036854775807 < 4 + y.size + 4 := by omega
          have hbd1 : (L ++ showBlk (sts.take k)).length + (⟨#[105, 102, 32, 40]⟩ ++ y ++ ⟨#[41, 32, 123, 10]⟩ : ByteArray).size ≤ 100000000 := by
            simp only [ByteArray.size_append]
            show _ + (4 + y.size + 4) ≤ _
            omega
          obtain ⟨pc1, hpc1⟩ : ∃ pc : ByteArray, pc = (⟨#[105, 102, 32, 40]⟩ ++ y ++ ⟨#[41, 32, 123, 10]⟩ : ByteArray) := ⟨_, rfl⟩
          rw [← hpc1] at hbd1
          have hC1 := HBW.out pc1 _ _ HB.out hbd1
          rw [hpc1] at hC1
          replace hC1 := Lib.hid hC1
          clear hbd1 hpc1 pc1
          go_wp2_with fail
          refine hC1.out.mono ?_
          rintro e V1 ⟨rfl, hQ1⟩
          clear z10
          clear z11
          have hl1 : (L ++ showBlk (sts.take k) ++ ([105, 102, 32, 40] ++ y.data.toList ++ [41, 32, 123, 10])).length = (L ++ showBlk (sts.take k)).length + (4 + y.size + 4) := by
            have : y.data.toList.length = y.size := rfl
            simp only [List.length_append, List.length_cons, List.length_nil]
            omega
          have HQ1 := Lib.hid (hQ1.cast (l' := L ++ showBlk (sts.take k) ++ ([105, 102, 32, 40] ++ y.data.toList ++ [41, 32, 123, 10])) (by simp [ByteArray.data_append]))
          clear hQ1 hC1
          clear c0 c1 c2 c3 c4 c5 c6 c7
          obtain ⟨c0, c1, c2, c3, c4, c5, c6, c7⟩ := HCell.out _ HQ1.out.bel
          have hC2 := HIT.out _ _ HQ1.out (by rw [hl1]; omega)
          go_wp2_with fail
          refine hC2.mono ?_
          rintro e V2 ⟨rfl, hQ2⟩
          have HQ2 := Lib.hid hQ2
          clear hQ2 hC2
          clear c0 c1 c2 c3 c4 c5 c6 c7
          obtain ⟨c0, c1, c2, c3, c4, c5, c6, c7⟩ := HCell.out _ HQ2.out.bel
          have hl2 : (L ++ showBlk (sts.take k) ++ ([105, 102, 32, 40] ++ y.data.toList ++ [41, 32, 123, 10]) ++ showBlk T).length = (L ++ showBlk (sts.take k)).length + (4 + y.size + 4) + (showBlk T).length := by rw [List.length_append, hl1]
          by_cases hun : els = 0
          · subst hun
            have hu0 : ((0 : Int) != 0) = false := rfl
            have hbd3 : (L ++ showBlk (sts.take k) ++ ([105, 102, 32, 40] ++ y.data.toList ++ [41, 32, 123, 10]) ++ showBlk T).length + ByteArray.size ⟨#[125, 10]⟩ ≤ 100000000 := by rw [hl2]; show _ + 2 ≤ _; omega
            have hC3 := HBW.out ⟨#[125, 10]⟩ _ _ HQ2.out hbd3
            clear hbd3
            go_wp2_with fail
            refine hC3.mono ?_
            rintro e V3 ⟨rfl, hQ3⟩
            have HZ := Lib.hid (hQ3.cast (l' := L ++ showBlk (sts.take (k + 1))) (by rw [← HNx.out _ rfl, HY.out]; unfold showS intW; simp [str]))
            clear hQ3 hC3 c0 c1 c2 c3 c4 c5 c6 c7
            go_wp2
            go_roundw
            case rel => exact ⟨k + 1, by omega, by go_num, HZ.out⟩
            case measure => simp [intOf]; omega
          · have hu0 : (els != 0) = true := by simpa using hun
            have HUn := Lib.hid hun
            clear hun
            have hbd3 : (L ++ showBlk (sts.take k) ++ ([105, 102, 32, 40] ++ y.data.toList ++ [41, 32, 123, 10]) ++ showBlk T).length + ByteArray.size ⟨#[125, 32, 101, 108, 115, 101, 32, 123, 10]⟩ ≤ 100000000 := by rw [hl2]; show _ + 9 ≤ _; omega
            have hC3 := HBW.out ⟨#[125, 32, 101, 108, 115, 101, 32, 123, 10]⟩ _ _ HQ2.out hbd3
            clear hbd3
            go_wp2_with fail
            refine hC3.mono ?_
            rintro e V3 ⟨rfl, hQ3⟩
            have HQ3 := Lib.hid (hQ3.cast (l' := L ++ showBlk (sts.take k) ++ ([105, 102, 32, 40] ++ y.data.toList ++ [41, 32, 123, 10]) ++ showBlk T ++ [125, 32, 101, 108, 115, 101, 32, 123, 10]) rfl)
            clear hQ3 hC3
            clear c0 c1 c2 c3 c4 c5 c6 c7
            obtain ⟨c0, c1, c2, c3, c4, c5, c6, c7⟩ := HCell.out _ HQ3.out.bel
            have hl3 : (L ++ showBlk (sts.take k) ++ ([105, 102, 32, 40] ++ y.data.toList ++ [41, 32, 123, 10]) ++ showBlk T ++ [125, 32, 101, 108, 115, 101, 32, 123, 10]).length = (L ++ showBlk (sts.take k)).length + (4 + y.size + 4) + (showBlk T).length + 9 := by rw [List.length_append, hl2]; rfl
            have hC4 := HIU.out _ _ HQ3.out (by rw [hl3]; omega)
            go_wp2_with fail
            refine hC4.mono ?_
            rintro e V4 ⟨rfl, hQ4⟩
            have HQ4 := Lib.hid hQ4
            clear hQ4 hC4
            clear c0 c1 c2 c3 c4 c5 c6 c7
            obtain ⟨c0, c1, c2, c3, c4, c5, c6, c7⟩ := HCell.out _ HQ4.out.bel
            have hl4 : (L ++ showBlk (sts.take k) ++ ([105, 102, 32, 40] ++ y.data.toList ++ [41, 32, 123, 10]) ++ showBlk T ++ [125, 32, 101, 108, 115, 101, 32, 123, 10] ++ showBlk U).length = (L ++ showBlk (sts.take k)).length + (4 + y.size + 4) + (showBlk T).length + 9 + (showBlk U).length := by rw [List.length_append, hl3]
            have hbd5 : (L ++ showBlk (sts.take k) ++ ([105, 102, 32, 40] ++ y.data.toList ++ [41, 32, 123, 10]) ++ showBlk T ++ [125, 32, 101, 108, 115, 101, 32, 123, 10] ++ showBlk U).length + ByteArray.size ⟨#[125, 10]⟩ ≤ 100000000 := by rw [hl4]; show _ + 2 ≤ _; omega
            have hC5 := HBW.out ⟨#[125, 10]⟩ _ _ HQ4.out hbd5
            clear hbd5
            go_wp2_with fail
            refine hC5.mono ?_
            rintro e V5 ⟨rfl, hQ5⟩
            have HZ := Lib.hid (hQ5.cast (l' := L ++ showBlk (sts.take (k + 1))) (by rw [← HNx.out _ rfl, HY.out]; unfold showS intW; simp [str, HUn.out]))
            clear hQ5 hC5 c0 c1 c2 c3 c4 c5 c6 c7
            go_wp2
            go_roundw
            case rel => exact ⟨k + 1, by omega, by go_num, HZ.out⟩
            case measure => simp [intOf]; omega
        have hk5 : kind = 5 := by omega
        subst hk5
        have z10 : ¬ 9223372036854775807 < 7 + y.size := by omega
        have z11 : ¬ 9223372036854775807 < 7 + y.size + 4 := by omega
        have hbd1 : (L ++ showBlk (sts.take k)).length + (⟨#[119, 104, 105, 108, 101, 32, 40]⟩ ++ y ++ ⟨#[41, 32, 123, 10]⟩ : ByteArray).size ≤ 100000000 := by
          simp only [ByteArray.size_append]
          show _ + (7 + y.size + 4) ≤ _
          omega
        obtain ⟨pc1, hpc1⟩ : ∃ pc : ByteArray, pc = (⟨#[119, 104, 105, 108, 101, 32, 40]⟩ ++ y ++ ⟨#[41, 32, 123, 10]⟩ : ByteArray) := ⟨_, rfl⟩
        rw [← hpc1] at hbd1
        have hC1 := HBW.out pc1 _ _ HB.out hbd1
        rw [hpc1] at hC1
        replace hC1 := Lib.hid hC1
        clear hbd1 hpc1 pc1
        go_wp2_with fail
        refine hC1.out.mono ?_
        rintro e V1 ⟨rfl, hQ1⟩
        clear z10
        clear z11
        have hl1 : (L ++ showBlk (sts.take k) ++ ([119, 104, 105, 108, 101, 32, 40] ++ y.data.toList ++ [41, 32, 123, 10])).length = (L ++ showBlk (sts.take k)).length + (7 + y.size + 4) := by
          have : y.data.toList.length = y.size := rfl
          simp only [List.length_append, List.length_cons, List.length_nil]
          omega
        have HQ1 := Lib.hid (hQ1.cast (l' := L ++ showBlk (sts.take k) ++ ([119, 104, 105, 108, 101, 32, 40] ++ y.data.toList ++ [41, 32, 123, 10])) (by simp [ByteArray.data_append]))
        clear hQ1 hC1
        clear c0 c1 c2 c3 c4 c5 c6 c7
        obtain ⟨c0, c1, c2, c3, c4, c5, c6, c7⟩ := HCell.out _ HQ1.out.bel
        have hC2 := HIT.out _ _ HQ1.out (by rw [hl1]; omega)
        go_wp2_with fail
        refine hC2.mono ?_
        rintro e V2 ⟨rfl, hQ2⟩
        have HQ2 := Lib.hid hQ2
        clear hQ2 hC2
        clear c0 c1 c2 c3 c4 c5 c6 c7
        obtain ⟨c0, c1, c2, c3, c4, c5, c6, c7⟩ := HCell.out _ HQ2.out.bel
        have hl2 : (L ++ showBlk (sts.take k) ++ ([119, 104, 105, 108, 101, 32, 40] ++ y.data.toList ++ [41, 32, 123, 10]) ++ showBlk T).length = (L ++ showBlk (sts.take k)).length + (7 + y.size + 4) + (showBlk T).length := by rw [List.length_append, hl1]
        have hbd3 : (L ++ showBlk (sts.take k) ++ ([119, 104, 105, 108, 101, 32, 40] ++ y.data.toList ++ [41, 32, 123, 10]) ++ showBlk T).length + ByteArray.size ⟨#[125, 10]⟩ ≤ 100000000 := by rw [hl2]; show _ + 2 ≤ _; omega
        have hC3 := HBW.out ⟨#[125, 10]⟩ _ _ HQ2.out hbd3
        clear hbd3
        go_wp2_with fail
        refine hC3.mono ?_
        rintro e V3 ⟨rfl, hQ3⟩
        have HZ := Lib.hid (hQ3.cast (l' := L ++ showBlk (sts.take (k + 1))) (by rw [← HNx.out _ rfl, HY.out]; unfold showS intW; simp [str]))
        clear hQ3 hC3 c0 c1 c2 c3 c4 c5 c6 c7
        go_wp2
        go_roundw
        case rel => exact ⟨k + 1, by omega, by go_num, HZ.out⟩
        case measure => simp [intOf]; omega
      · obtain rfl : k = nS := by omega
        have HF : Hid (BS B b R w wr) := by
          have h9 : sts.take k = sts := List.take_of_length_le (by have h1 := HAll.out.1; have h2 := HNS.out; omega)
          have := HB.out
          rw [h9] at this
          rw [HR.out]
          exact this
        go_wp2
        go_end0
        exact ⟨rfl, HF.out⟩
end Go.Proofs.YtolbngbedncemaaGreatDoor

