/- append(append([]T{}, xs...), x) in a region that draws its order, whatever the order; no statement about the program. -/
import Derived.Test.YtolbngbedncemaaGreatDoorApps
import Derived.Test.YtolbngbedncemaaGreatDoorWLast
set_option linter.unusedVariables false
set_option linter.unusedSimpArgs false
namespace Go.Proofs.YtolbngbedncemaaGreatDoor
open Go Go.RowKit Go.Proofs.YtolbngbedncemaaGreatDoorW.PrintLast

theorem put_eval (a : Act) {n : Nat} (hn : n < a.tmps.size) (v : Value) (m : Nat) : (a.put (some n) v).eval (.tmp m) = if m = n then v else a.eval (.tmp m) := by
  simp only [Act.put, Act.eval, Array.getD_eq_getD_getElem?, Array.getElem?_setIfInBounds]
  by_cases h : m = n
  · subst h; simp [hn]
  · simp [h, Ne.symm h]
theorem put_size (a : Act) (n : Option Tmp) (v : Value) : (a.put n v).tmps.size = a.tmps.size := by
  cases n <;> simp [Act.put]
theorem put_comm (a : Act) {n m : Nat} (h : n ≠ m) (u v : Value) : (a.put (some n) u).put (some m) v = (a.put (some m) v).put (some n) u := by
  simp only [Act.put]
  congr 1
  apply Array.ext_getElem?
  intro i
  simp only [Array.getElem?_setIfInBounds, Array.size_setIfInBounds]
  by_cases h1 : n = i <;> by_cases h2 : m = i <;> simp_all
theorem new_cell (w : World) (v : Value) (E : Nat) : (w.alloc (.cells #[v] E)).cell? ⟨w.heap.size, 0, none⟩ = some v := ((Blk.alloc w E #[v]).cell 0).trans rfl
section
variable {α : Type} {P : Program} {Q : Exit → Act → World → Prop} {S : World → Prop}
theorem exec_append {o : Oper} {x y : Operand} {t : TypeId} {a : Act} {w w' : World} {v : Value} (ho : o.op = .call { callee := .builtin .append, args := #[x, y], argTypes := #[t, t] })
    (hr : (Builtin.append_ #[t, t] o.type #[a.eval x, a.eval y]).run P w = .ok v w') : (execOp a.eval o).run P w = .ok (.value v) w' := by
  unfold execOp
  simp only [ho, resolve, invoke, builtin, Sem.run_bind, Sem.run_pure, Result.andThen_ok, List.map_toArray, List.map_cons, List.map_nil, hr]
theorem exec_assign {o : Oper} {x : Operand} {a : Act} {w : World} {v : Value} (ho : o.op = .assign x) (hv : a.eval x = v) : (execOp a.eval o).run P w = .ok (.value v) w := by
  unfold execOp
  simp [ho, hv]
theorem exec_slice0 {o : Oper} {t : TypeId} {n : Nat} {ps : Array (Nat × Operand)} {qs : Array (Nat × Value)} {a : Act} {w w' : World} {v : Value} (ho : o.op = .buildSlice t n ps) (hq : ps.map (fun p => (p.1, a.eval p.2)) = qs) (hr : (Instr.buildSlice t n qs).run P w = .ok v w') : (execOp a.eval o).run P w = .ok (.value v) w' := by
  unfold execOp
  subst hq
  simp [ho, hr, Result.andThen]
set_option maxHeartbeats 1000000 in
theorem app2 {n0 n1 n2 n4 n5 n6 d T E by_ : Nat} {t0 t2 t5 t6 t7 : Nat} {p0 p2 p5 p6 p7 : String} {o1 o3 o4 : Oper} {i0 : TypeInfo} {z : Value} (enc : α → Value) (C : World → List Value → α → Prop) (hC : ∀ w cs x, C w cs x → cs = [enc x]) (h1 : ∀ x, (enc x).oneCell' = true)
    (hT : P.underlying T = some (.slice E)) (hi : P.info? E = some i0) (hz : i0.zero = some z) (hs : i0.size = 1) (hb : i0.bytes = by_) (hzs : z.cells.size = 1)
    (hb0 : ∀ w, (Instr.buildSlice T 0 #[]).run P w = .ok (.slice (some ⟨w.heap.size, 0, none⟩) 0 0) (w.alloc (.cells #[] E))) (hb1 : ∀ w x, (Instr.buildSlice T 1 #[(0, enc x)]).run P w = .ok (.slice (some ⟨w.heap.size, 0, none⟩) 1 1) (w.alloc (.cells #[enc x] E)))
    {a : Act} {w : World} (hS : ∀ w', Ext w w' → S w') (hnd : [n0, n1, n2, n4, n5].Nodup) (hsz : n0 < a.tmps.size ∧ n2 < a.tmps.size ∧ n5 < a.tmps.size ∧ n6 < a.tmps.size)
    (K : Foot) (v1 : Value) (xs : List α) (x : α) (e1 : a.eval (.tmp n1) = v1) (hsl : Sl K w 1 C v1 xs) (e4 : a.eval (.tmp n4) = enc x) (hB : (xs.length + 1) * by_ ≤ 140737488355328) (hB1 : xs.length + 1 ≤ 140737488355328) (hCext : ∀ w w' cs x, Ext w w' → C w cs x → C w' cs x) (hCx : ∀ w, C w [enc x] x)
    (ops : Array Oper) (hops : ops = #[⟨some n0, .buildSlice T 0 #[], t0, p0, #[], none⟩, o1, ⟨some n2, .call { callee := .builtin .append, args := #[.tmp n0, .tmp n1], argTypes := #[T, T] }, t2, p2, #[⟨0, .data⟩, ⟨1, .data⟩], none⟩, o3, o4,
      ⟨some n5, .buildSlice T 1 #[(0, .tmp n4)], t5, p5, #[⟨4, .data⟩], none⟩, ⟨some n6, .call { callee := .builtin .append, args := #[.tmp n2, .tmp n5], argTypes := #[T, T] }, t6, p6, #[⟨2, .data⟩, ⟨5, .data⟩, ⟨2, .chain⟩], none⟩,
      ⟨some d, .assign (.tmp n6), t7, p7, #[⟨6, .data⟩, ⟨6, .chain⟩, ⟨0, .phase⟩, ⟨1, .phase⟩, ⟨2, .phase⟩, ⟨3, .phase⟩, ⟨4, .phase⟩, ⟨5, .phase⟩, ⟨6, .phase⟩], none⟩])
    (h : ∀ v0 v2 v5 v6 w', w'.ownsRow w.heap.size E 1 v6 (xs ++ [x]).length ((xs ++ [x]).map enc) → Ext w w' → Q .normal (((((a.put (some n0) v0).put (some n2) v2).put (some n5) v5).put (some n6) v6).put (some d) v6) w') :
    wpAnyLast P .any ops Q S [] 5 #[false, true, false, true, true, false, false, false] a w := by
  subst hops
  simp only [List.nodup_cons, List.mem_cons, List.not_mem_nil, or_false, not_or] at hnd
  obtain ⟨⟨d01, d02, d04, d05⟩, ⟨d12, d14, d15⟩, ⟨d24, d25⟩, d45, _⟩ := hnd
  obtain ⟨s0, s2, s5, s6⟩ := hsz
  have hown0 : ∀ w : World, w.heap.size ≤ (w.alloc (.cells #[] E)).heap.size → (w.alloc (.cells #[] E)).ownsRow w.heap.size E 1 (.slice (some ⟨w.heap.size, 0, none⟩) 0 0) ([] : List Value).length [] := fun w _ =>
    ⟨rfl, .inr ⟨w.heap.size, 0, #[], rfl, Nat.le_refl _, heap_alloc_new w _, Nat.le_refl _, by simp [maxLen], rfl, rfl⟩⟩
  -- what is left once the two rows are made
  have hend : ∀ v0 v2 g w', w'.ownsRow w.heap.size E 1 v2 (xs.map enc).length (xs.map enc) → w'.cell? ⟨g, 0, none⟩ = some (enc x) → Ext w w' →
      wpAnyLast P .any #[⟨some n0, .buildSlice T 0 #[], t0, p0, #[], none⟩, o1, ⟨some n2, .call { callee := .builtin .append, args := #[.tmp n0, .tmp n1], argTypes := #[T, T] }, t2, p2, #[⟨0, .data⟩, ⟨1, .data⟩], none⟩, o3, o4,
      ⟨some n5, .buildSlice T 1 #[(0, .tmp n4)], t5, p5, #[⟨4, .data⟩], none⟩, ⟨some n6, .call { callee := .builtin .append, args := #[.tmp n2, .tmp n5], argTypes := #[T, T] }, t6, p6, #[⟨2, .data⟩, ⟨5, .data⟩, ⟨2, .chain⟩], none⟩,
      ⟨some d, .assign (.tmp n6), t7, p7, #[⟨6, .data⟩, ⟨6, .chain⟩, ⟨0, .phase⟩, ⟨1, .phase⟩, ⟨2, .phase⟩, ⟨3, .phase⟩, ⟨4, .phase⟩, ⟨5, .phase⟩, ⟨6, .phase⟩], none⟩] Q S [] 2 #[true, true, true, true, true, true, false, false]
        (((a.put (some n0) v0).put (some n2) v2).put (some n5) (.slice (some ⟨g, 0, none⟩) 1 1)) w' := by
    intro v0 v2 g w' ho hc hX
    refine one_ (i := 6) (N := some n6) #[true, true, true, true, true, true, true, false] rfl rfl (by kernel_rfl) (by simp) (fun K' hK => ?_)
    have hsl1 : Sl AnyB w' 1 C (.slice (some ⟨g, 0, none⟩) 1 1) [x] := ⟨some ⟨g, 0, none⟩, 1, rfl, Nat.le_refl _, by simp [maxLen], fun _ => ⟨g, 0, rfl, trivial, fun i hi => by
      have h0 : i = 0 := by simp at hi; omega
      subst h0
      exact ⟨[enc x], rfl, hCx w', fun q u hq => by
        have hq0 : q = 0 := by
          have := (List.getElem?_eq_some_iff.1 hq).1
          simp at this
          omega
        subst hq0
        simp at hq
        subst hq
        exact hc⟩⟩⟩
    obtain ⟨v6, w6, hrun, ho6, hg6, hat6⟩ := run_app enc C hC h1 AnyB w' w.heap.size hT hi hz hs hb hzs v2 (xs.map enc) ho _ [x] hsl1 (by simpa using hB) (by simpa using hB1) hX.size t6
    have hX6 : Ext w w6 := Below.grown hX hg6 hX.size (fun k hk => by
      rcases ho.2 with ⟨rfl, _⟩ | ⟨g', _, _, rfl, hg', _⟩
      · cases hk
      · cases hk; exact hg')
    have e2 : ((((a.put (some n0) v0).put (some n2) v2).put (some n5) (.slice (some ⟨g, 0, none⟩) 1 1))).eval (.tmp n2) = v2 := by
      rw [put_eval _ (by rw [put_size, put_size]; exact s5), if_neg d25, put_eval _ (by rw [put_size]; exact s2), if_pos rfl]
    have e5 : ((((a.put (some n0) v0).put (some n2) v2).put (some n5) (.slice (some ⟨g, 0, none⟩) 1 1))).eval (.tmp n5) = .slice (some ⟨g, 0, none⟩) 1 1 := by
      rw [put_eval _ (by rw [put_size, put_size]; exact s5), if_pos rfl]
    refine value_ (w1 := w6) (v := v6) (by rfl) rfl ?_ (hK.out _ _ (hS _ hX6) (fun _ => ?_))
    · exact exec_append rfl (by rw [e2, e5]; exact hrun)
    · refine one_ (i := 7) (N := some d) #[true, true, true, true, true, true, true, true] rfl rfl (by kernel_rfl) (by simp) (fun K' hK => ?_)
      have e6 : (((((a.put (some n0) v0).put (some n2) v2).put (some n5) (.slice (some ⟨g, 0, none⟩) 1 1))).put (some n6) v6).eval (.tmp n6) = v6 := by
        rw [put_eval _ (by rw [put_size, put_size, put_size]; exact s6), if_pos rfl]
      refine value_ (w1 := w6) (v := v6) (by rfl) rfl ?_ (hK.out _ _ (hS _ hX6) (fun _ => ?_))
      · exact exec_assign rfl e6
      · refine done_ (by kernel_rfl) ?_
        exact h v0 v2 (.slice (some ⟨g, 0, none⟩) 1 1) v6 w6 (by simpa using ho6) hX6
  -- append onto the empty row
  have happ : ∀ g0 w', w'.ownsRow w.heap.size E 1 (.slice (some ⟨g0, 0, none⟩) 0 0) ([] : List Value).length [] → Ext w w' → w.heap.size ≤ g0 →
      ∃ v2 w2, (Builtin.append_ #[T, T] t2 #[.slice (some ⟨g0, 0, none⟩) 0 0, v1]).run P w' = .ok v2 w2 ∧ w2.ownsRow w.heap.size E 1 v2 (xs.map enc).length (xs.map enc) ∧ Ext w w2 ∧ (∀ b, w.heap.size ≤ b → b ≠ g0 → b < w'.heap.size → w2.heap[b]? = w'.heap[b]?) := by
    intro g0 w' ho hX hg0
    obtain ⟨v2, w2, hrun, ho2, hg2, _⟩ := run_app enc C hC h1 K w' w.heap.size hT hi hz hs hb hzs _ [] ho v1 xs (hsl.ext hX (fun cs x => hCext _ _ cs x hX)) (by
      have : (([] : List Value).length + xs.length) * by_ ≤ (xs.length + 1) * by_ := Nat.mul_le_mul_right _ (by simp)
      omega) (by simp; omega) hX.size t2
    refine ⟨v2, w2, hrun, by simpa using ho2, Below.grown hX hg2 hX.size (fun k hk => by cases hk; exact hg0), fun b _ hb hlt => hg2.block b hlt (fun e => hb (by cases e; rfl))⟩
  have hX1 : ∀ w', Ext w w' → Ext w (w'.alloc (.cells #[enc x] E)) := fun w' h => h.alloc _
  refine two_ (i := 0) (j := 5) (Ni := some n0) (Nj := some n5) #[true, true, false, true, true, false, false, false] #[false, true, false, true, true, true, false, false] rfl rfl rfl rfl (by kernel_rfl) (by simp) (by simp) (fun K' hK => ?_) (fun K' hK => ?_)
  · have hX0 : Ext w (w.alloc (.cells #[] E)) := (Ext.refl w).alloc _
    have ho0 := hown0 w hX0.size
    refine value_ (w1 := w.alloc (.cells #[] E)) (v := .slice (some ⟨w.heap.size, 0, none⟩) 0 0) (by rfl) rfl ?_ (hK.out _ _ (hS _ hX0) (fun _ => ?_))
    · exact exec_slice0 (qs := #[]) rfl (by simp) (hb0 w)
    clear hK
    generalize hw0 : w.alloc (.cells #[] E) = w0 at hX0 ho0 ⊢
    have hsz0 : w.heap.size < w0.heap.size := by rw [← hw0]; simp
    refine two_ (i := 2) (j := 5) (Ni := some n2) (Nj := some n5) #[true, true, true, true, true, false, false, false] #[true, true, false, true, true, true, false, false] rfl rfl rfl rfl (by kernel_rfl) (by simp) (by simp) (fun K' hK => ?_) (fun K' hK => ?_)
    · obtain ⟨v2, w2, hrun, ho2, hX2, _⟩ := happ w.heap.size w0 ho0 hX0 (Nat.le_refl _)
      have e0 : (a.put (some n0) (.slice (some ⟨w.heap.size, 0, none⟩) 0 0)).eval (.tmp n0) = .slice (some ⟨w.heap.size, 0, none⟩) 0 0 := by rw [put_eval _ s0, if_pos rfl]
      have e1' : (a.put (some n0) (.slice (some ⟨w.heap.size, 0, none⟩) 0 0)).eval (.tmp n1) = v1 := by rw [put_eval _ s0, if_neg (Ne.symm d01), e1]
      refine value_ (w1 := w2) (v := v2) (by rfl) rfl (exec_append rfl (by rw [e0, e1']; exact hrun)) (hK.out _ _ (hS _ hX2) (fun _ => ?_))
      have e4' : ((a.put (some n0) (.slice (some ⟨w.heap.size, 0, none⟩) 0 0)).put (some n2) v2).eval (.tmp n4) = enc x := by
        rw [put_eval _ (by rw [put_size]; exact s2), if_neg (Ne.symm d24), put_eval _ s0, if_neg (Ne.symm d04), e4]
      have hX3 := hX1 _ hX2
      refine one_ (i := 5) (N := some n5) #[true, true, true, true, true, true, false, false] rfl rfl (by kernel_rfl) (by simp) (fun K'' hK2 => ?_)
      refine value_ (w1 := w2.alloc (.cells #[enc x] E)) (v := .slice (some ⟨w2.heap.size, 0, none⟩) 1 1) (by rfl) rfl (exec_slice0 (qs := #[(0, enc x)]) rfl (by simp [e4']) (hb1 w2 x)) (hK2.out _ _ (hS _ hX3) (fun _ => ?_))
      exact hend _ v2 w2.heap.size _ (ho2.alloc _) (new_cell _ _ _) hX3
    · have e4' : (a.put (some n0) (.slice (some ⟨w.heap.size, 0, none⟩) 0 0)).eval (.tmp n4) = enc x := by rw [put_eval _ s0, if_neg (Ne.symm d04), e4]
      have hX3 := hX1 _ hX0
      refine value_ (w1 := w0.alloc (.cells #[enc x] E)) (v := .slice (some ⟨w0.heap.size, 0, none⟩) 1 1) (by rfl) rfl (exec_slice0 (qs := #[(0, enc x)]) rfl (by simp [e4']) (hb1 w0 x)) (hK.out _ _ (hS _ hX3) (fun _ => ?_))
      obtain ⟨v2, w2, hrun, ho2, hX2, hkeep⟩ := happ w.heap.size (w0.alloc (.cells #[enc x] E)) (ho0.alloc _) hX3 (Nat.le_refl _)
      have e0 : ((a.put (some n0) (.slice (some ⟨w.heap.size, 0, none⟩) 0 0)).put (some n5) (.slice (some ⟨w0.heap.size, 0, none⟩) 1 1)).eval (.tmp n0) = .slice (some ⟨w.heap.size, 0, none⟩) 0 0 := by
        rw [put_eval _ (by rw [put_size]; exact s5), if_neg d05, put_eval _ s0, if_pos rfl]
      have e1' : ((a.put (some n0) (.slice (some ⟨w.heap.size, 0, none⟩) 0 0)).put (some n5) (.slice (some ⟨w0.heap.size, 0, none⟩) 1 1)).eval (.tmp n1) = v1 := by
        rw [put_eval _ (by rw [put_size]; exact s5), if_neg d15, put_eval _ s0, if_neg (Ne.symm d01), e1]
      refine one_ (i := 2) (N := some n2) #[true, true, true, true, true, true, false, false] rfl rfl (by kernel_rfl) (by simp) (fun K'' hK2 => ?_)
      refine value_ (w1 := w2) (v := v2) (by rfl) rfl (exec_append rfl (by rw [e0, e1']; exact hrun)) (hK2.out _ _ (hS _ hX2) (fun _ => ?_))
      rw [put_comm _ (Ne.symm d25)]
      exact hend _ v2 w0.heap.size _ ho2 (by
        have hk := hkeep w0.heap.size (Nat.le_of_lt hsz0) (by omega) (by simp)
        rw [World.cell?_of_block (a := ⟨w0.heap.size, 0, none⟩) (w := w0.alloc (.cells #[enc x] E)) hk]
        exact new_cell _ _ _) hX2
  · have hX3 := hX1 _ (Ext.refl w)
    refine value_ (w1 := w.alloc (.cells #[enc x] E)) (v := .slice (some ⟨w.heap.size, 0, none⟩) 1 1) (by rfl) rfl (exec_slice0 (qs := #[(0, enc x)]) rfl (by simp [e4]) (hb1 w x)) (hK.out _ _ (hS _ hX3) (fun _ => ?_))
    clear hK
    have hc0 : (w.alloc (.cells #[enc x] E)).cell? ⟨w.heap.size, 0, none⟩ = some (enc x) := new_cell _ _ _
    have hs3 : w.heap.size < (w.alloc (.cells #[enc x] E)).heap.size := by simp
    generalize hw1 : w.alloc (.cells #[enc x] E) = w1 at hX3 hc0 hs3 ⊢
    have hX4 : Ext w (w1.alloc (.cells #[] E)) := hX3.alloc _
    have ho0 := hown0 w1 (by simp)
    refine one_ (i := 0) (N := some n0) #[true, true, false, true, true, true, false, false] rfl rfl (by kernel_rfl) (by simp) (fun K'' hK2 => ?_)
    refine value_ (w1 := w1.alloc (.cells #[] E)) (v := .slice (some ⟨w1.heap.size, 0, none⟩) 0 0) (by rfl) rfl (exec_slice0 (qs := #[]) rfl (by simp) (hb0 w1)) (hK2.out _ _ (hS _ hX4) (fun _ => ?_))
    clear hK2
    obtain ⟨v2, w2, hrun, ho2, hX2, hkeep⟩ := happ w1.heap.size (w1.alloc (.cells #[] E)) ⟨ho0.1, by
      rcases ho0.2 with h | ⟨g, cap, cur, e, hg, r⟩
      · exact .inl h
      · exact .inr ⟨g, cap, cur, e, Nat.le_trans hX3.size hg, r⟩⟩ hX4 hX3.size
    have e0 : ((a.put (some n5) (.slice (some ⟨w.heap.size, 0, none⟩) 1 1)).put (some n0) (.slice (some ⟨w1.heap.size, 0, none⟩) 0 0)).eval (.tmp n0) = .slice (some ⟨w1.heap.size, 0, none⟩) 0 0 := by
      rw [put_eval _ (by rw [put_size]; exact s0), if_pos rfl]
    have e1' : ((a.put (some n5) (.slice (some ⟨w.heap.size, 0, none⟩) 1 1)).put (some n0) (.slice (some ⟨w1.heap.size, 0, none⟩) 0 0)).eval (.tmp n1) = v1 := by
      rw [put_eval _ (by rw [put_size]; exact s0), if_neg (Ne.symm d01), put_eval _ s5, if_neg d15, e1]
    refine one_ (i := 2) (N := some n2) #[true, true, true, true, true, true, false, false] rfl rfl (by kernel_rfl) (by simp) (fun K'' hK2 => ?_)
    refine value_ (w1 := w2) (v := v2) (by rfl) rfl (exec_append rfl (by rw [e0, e1']; exact hrun)) (hK2.out _ _ (hS _ hX2) (fun _ => ?_))
    rw [put_comm a (Ne.symm d05), put_comm _ (Ne.symm d25)]
    exact hend _ v2 w.heap.size _ ho2 (by
      have hk := hkeep w.heap.size (Nat.le_refl _) (by omega) (by simp; omega)
      rw [World.cell?_of_block (a := ⟨w.heap.size, 0, none⟩) (w := w1.alloc (.cells #[] E)) hk]
      exact Ext.cell ((Ext.refl w1).alloc _) hc0) hX2
end
end Go.Proofs.YtolbngbedncemaaGreatDoor
