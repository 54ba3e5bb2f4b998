/- A part of the proofs of FnBound and FnCheck: the lemmas and walks MdSc. -/
import Derived.Maps.OwnOps
import Derived.Maps.OwnSet
import Derived.MapKept
import Derived.Maps.RangeRun
import Derived.Deep.Upon
import Derived.Deep.AppendSrc
import Derived.Test.YtcfggjmdcaoecaaGreatDoorB01
import Derived.Test.YtcfggjmdcaoecaaGreatDoorB03
import Derived.Test.YtcfggjmdcaoecaaGreatDoorB05
set_option linter.unusedVariables false
set_option linter.unusedSimpArgs false
namespace Go.Proofs.YtcfggjmdcaoecaaGreatDoor.Md
open Go
def bodyOf (t:PTree) (f:Int):List PStmt:=(t.funcs[f.toNat]?.map fun x:PFunc=>x.body).getD []
def succ (t:PTree) (f:Int):List Int:=callsL t (bodyOf t f)
inductive Rch (t:PTree) (src:List Int):Int→Prop
 | base {y x:Int} : y∈src→x∈succ t y→Rch t src x
 | step {y x:Int} : Rch t src y→x∈succ t y→Rch t src x
theorem succ_range {t:PTree} {f x:Int} (h:x∈succ t f):0≤x∧x<t.funcs.length:=outL_range t _ x ((mem_callsL t _ x).1 h)
theorem succ_asc (t:PTree) (f:Int):(succ t f).Pairwise (· < ·):=callsL_asc t _
theorem Rch.range {t:PTree} {src:List Int} {x:Int} (h:Rch t src x):0≤x∧x<t.funcs.length:=by
 cases h with
 | base _ h=>exact succ_range h
 | step _ h=>exact succ_range h
def found (s:List Int×List Int) (x:Int):List Int×List Int:=if x∈s.1 then s else (s.1 ++ [x],s.2 ++ [x])
def founds (s:List Int×List Int) (xs:List Int):List Int×List Int:=xs.foldl found s
theorem founds_snoc (s:List Int×List Int) (xs:List Int) (x:Int):founds s (xs ++ [x])=found (founds s xs) x:=by simp [founds]
structure Wk (t:PTree) (src out work:List Int):Prop where
 nodup:out.Nodup
 rch:∀ x∈out,Rch t src x
 from_:∀ x∈work,x∈src∨x∈out
 done:∀ y,y∈src∨y∈out→y∈work∨∀ x∈succ t y,x∈out
theorem Wk.start (t:PTree) (src:List Int):Wk t src [] src:=⟨List.nodup_nil,fun _ h=>by simp at h,fun _ h=>.inl h,fun y h=>by
 rcases h with h | h
 ·exact .inl h
 ·simp at h⟩
theorem Wk.fin {t:PTree} {src out:List Int} (h:Wk t src out []) (x:Int):x∈out↔Rch t src x:=by
 refine ⟨h.rch x,fun hx=>?_⟩
 induction hx with
 | base hy hx =>
   rcases h.done _ (.inl hy) with h1 | h1
   ·simp at h1
   ·exact h1 _ hx
 | step _ hx ih =>
   rcases h.done _ (.inr ih) with h1 | h1
   ·simp at h1
   ·exact h1 _ hx
theorem founds_mem (xs:List Int):∀ (s:List Int×List Int),(∀ x,x∈(founds s xs).1↔x∈s.1∨x∈xs)∧(∀ x,x∈(founds s xs).2→x∈s.2∨x∈xs)∧(∀ x,x∈s.2→x∈(founds s xs).2)∧(∀ x,x∈xs→x∈s.1∨x∈(founds s xs).2)∧(s.1.Nodup→(founds s xs).1.Nodup) ∧
  (founds s xs).2.length+s.1.length=s.2.length+(founds s xs).1.length:=by
 induction xs with
 | nil=>intro s;simp [founds]
 | cons a r ih =>
   intro s
   have e:founds s (a :: r)=founds (found s a) r:=rfl
   obtain ⟨h1,h2,h3,h4,h5,h6⟩:=ih (found s a)
   rw [e]
   by_cases ha:a∈s.1
   ·have hp:found s a=s:=if_pos ha
    rw [hp] at h1 h2 h3 h4 h5 h6 ⊢
    refine ⟨fun x=>⟨fun h=>?_,fun h=>?_⟩,fun x h=>?_,h3,fun x h=>?_,h5,h6⟩
    ·rcases (h1 x).1 h with h | h
     ·exact .inl h
     ·exact .inr (List.mem_cons_of_mem _ h)
    ·rcases h with h | h
     ·exact (h1 x).2 (.inl h)
     ·rcases List.mem_cons.1 h with rfl | h
      ·exact (h1 _).2 (.inl ha)
      ·exact (h1 x).2 (.inr h)
    ·rcases h2 x h with h | h
     ·exact .inl h
     ·exact .inr (List.mem_cons_of_mem _ h)
    ·rcases List.mem_cons.1 h with rfl | h
     ·exact .inl ha
     ·exact h4 x h
   ·have hp:found s a=(s.1 ++ [a],s.2 ++ [a]):=if_neg ha
    rw [hp] at h1 h2 h3 h4 h5 h6 ⊢
    simp only [List.mem_append,List.mem_singleton,List.length_append,List.length_cons,List.length_nil] at h1 h2 h3 h4 h5 h6
    refine ⟨fun x=>⟨fun h=>?_,fun h=>?_⟩,fun x h=>?_,fun x h=>h3 x (.inl h),fun x h=>?_,fun hn=>h5 ?_,by omega⟩
    ·rcases (h1 x).1 h with (h | rfl) | h
     ·exact .inl h
     ·exact .inr (List.mem_cons_self ..)
     ·exact .inr (List.mem_cons_of_mem _ h)
    ·rcases h with h | h
     ·exact (h1 x).2 (.inl (.inl h))
     ·rcases List.mem_cons.1 h with rfl | h
      ·exact (h1 _).2 (.inl (.inr rfl))
      ·exact (h1 x).2 (.inr h)
    ·rcases h2 x h with (h | rfl) | h
     ·exact .inl h
     ·exact .inr (List.mem_cons_self ..)
     ·exact .inr (List.mem_cons_of_mem _ h)
    ·rcases List.mem_cons.1 h with rfl | h
     ·exact .inr (h3 _ (.inr rfl))
     ·rcases h4 x h with (h | rfl) | h
      ·exact .inl h
      ·exact .inr (h3 _ (.inr rfl))
      ·exact .inr h
    ·exact List.nodup_append.2 ⟨hn,by simp,fun x hx y hy=>by
      rw [List.mem_singleton.1 hy]
      intro e;subst e;exact ha hx⟩
theorem founds_le (xs:List Int):∀ (s:List Int×List Int),s.1.length≤(founds s xs).1.length:=by
 induction xs with
 | nil=>intro s;exact Nat.le_refl _
 | cons a r ih =>
   intro s
   have h1:=ih (found s a)
   have h2:s.1.length≤(found s a).1.length:=by
    unfold found
    split
    ·exact Nat.le_refl _
    ·simp
   exact Nat.le_trans h2 h1
theorem founds_len (xs:List Int):∀ (s:List Int×List Int),(founds s xs).1.length≤s.1.length+xs.length∧(founds s xs).2.length≤s.2.length+xs.length:=by
 induction xs with
 | nil=>intro s;exact ⟨Nat.le_refl _,Nat.le_refl _⟩
 | cons a r ih =>
   intro s
   have h1:=ih (found s a)
   have h2:(found s a).1.length≤s.1.length+1∧(found s a).2.length≤s.2.length+1:=by
    unfold found
    split
    ·omega
    ·simp
   have e:founds s (a :: r)=founds (found s a) r:=rfl
   rw [e,List.length_cons]
   omega
theorem nodup_bound {n:Nat} : ∀ {l:List Int},l.Nodup→(∀ x∈l,0≤x∧x<n)→l.length≤n:=by
 induction n with
 | zero =>
   intro l _ hr
   cases l with
   | nil=>exact Nat.le_refl _
   | cons a r=>have:=hr a (List.mem_cons_self ..);omega
 | succ n ih =>
   intro l h hr
   by_cases hm:(n:Int)∈l
   ·have h1:=ih (l:=l.erase (n:Int)) (h.erase _) (fun x hx=>by
     have h2:=(h.mem_erase_iff).1 hx
     have h3:=hr x h2.2
     have h4:=h2.1
     omega)
    rw [List.length_erase_of_mem hm] at h1
    omega
   ·have h1:=ih (l:=l) h (fun x hx=>by
     have h3:=hr x hx
     have h4:x≠(n:Int):=fun e=>hm (e ▸ hx)
     omega)
    omega
theorem Wk.next {t:PTree} {src out rest:List Int} {h0:Int} (h:Wk t src out (h0 :: rest)):Wk t src (founds (out,rest) (succ t h0)).1 (founds (out,rest) (succ t h0)).2:=by
 obtain ⟨m1,m2,m3,m4,m5,_⟩:=founds_mem (succ t h0) (out,rest)
 have hr0:∀ x∈succ t h0,Rch t src x:=fun x hx=>by
  rcases h.from_ h0 (List.mem_cons_self ..) with h1 | h1
  ·exact .base h1 hx
  ·exact .step (h.rch _ h1) hx
 refine ⟨m5 h.nodup,fun x hx=>?_,fun x hx=>?_,fun y hy=>?_⟩
 ·rcases (m1 x).1 hx with h1 | h1
  ·exact h.rch _ h1
  ·exact hr0 x h1
 ·rcases m2 x hx with h1 | h1
  ·rcases h.from_ x (List.mem_cons_of_mem _ h1) with h2 | h2
   ·exact .inl h2
   ·exact .inr ((m1 x).2 (.inl h2))
  ·exact .inr ((m1 x).2 (.inr h1))
 ·by_cases hy0:y=h0
  ·subst hy0
   exact .inr (fun x hx=>(m1 x).2 (.inr hx))
  ·have old:(y∈src∨y∈out)→y∈(founds (out,rest) (succ t h0)).2∨∀ x∈succ t y,x∈(founds (out,rest) (succ t h0)).1:=fun ho=>by
    rcases h.done y ho with h1 | h1
    ·rcases List.mem_cons.1 h1 with e | h1
     ·exact absurd e hy0
     ·exact .inl (m3 y h1)
    ·exact .inr (fun x hx=>(m1 x).2 (.inl (h1 x hx)))
   rcases hy with hy | hy
   ·exact old (.inl hy)
   ·rcases (m1 y).1 hy with h1 | h1
    ·exact old (.inr h1)
    ·rcases m4 y h1 with h2 | h2
     ·exact old (.inr h2)
     ·exact .inl h2
theorem Wk.len {t:PTree} {src out work:List Int} (h:Wk t src out work):out.length≤t.funcs.length:=nodup_bound h.nodup (fun x hx=>(h.rch x hx).range)
open Go
def dupAt (seen:List ByteArray):List ByteArray→Nat→Option Nat
 | [],_=>none
 | x :: r,i=>if x∈seen then some i else dupAt (seen ++ [x]) r (i+1)
def mainB:ByteArray:=⟨#[109,97,105,110]⟩
def gNames (t:PTree):List ByteArray:=t.globals.map fun g=>g.name
def fNames (t:PTree):List ByteArray:=t.funcs.map fun f=>f.name
def mainR (t:PTree):Int×Int×Int:=if findF t mainB<0∨0<arityF t (findF t mainB) then (3,-1,-1) else (0,-1,-1)
def namesR (t:PTree):Int×Int×Int :=
 if (dupAt [] (gNames t) 0).isSome then (2,-1,-1) else match dupAt (gNames t) (fNames t) 0 with
  | some i=>(2,(i:Int),-1)
  | none=>mainR t
theorem dupAt_step {seen:List ByteArray} {l:List ByteArray} {k:Nat} {x:ByteArray} (h:l[k]? = some x):dupAt seen (l.drop k) k=if x∈seen then some k else dupAt (seen ++ [x]) (l.drop (k+1)) (k+1):=by
 obtain ⟨hk,e⟩:=List.getElem?_eq_some_iff.1 h
 rw [List.drop_eq_getElem_cons hk,e,dupAt]
def parBad (t:PTree) (seen:List ByteArray):List ByteArray→Bool
 | []=>false
 | p :: r=>if p∈seen∨0≤gsize t p then true else parBad t (seen ++ [p]) r
theorem parBad_step {t:PTree} {seen:List ByteArray} {l:List ByteArray} {k:Nat} {x:ByteArray} (h:l[k]? = some x):parBad t seen (l.drop k)=if x∈seen∨0≤gsize t x then true else parBad t (seen ++ [x]) (l.drop (k+1)):=by
 obtain ⟨hk,e⟩:=List.getElem?_eq_some_iff.1 h
 rw [List.drop_eq_getElem_cons hk,e,parBad]
def bodyR (t:PTree) (f:Nat) (x:PFunc) (sts:List St):Int×Int×Int :=
 if parBad t [] x.params=true then (2,(f:Int),-1) else match ckBlk t x.params x.params sts with
  | .bad e a=>(e,(f:Int),a)
  | .ok _=>(0,-1,-1)
def bodiesR (t:PTree):List (PFunc×List St)→Nat→Option (Int×Int×Int)
 | [],_=>none
 | x :: r,i=>if (bodyR t i x.1 x.2).1=0 then bodiesR t r (i+1) else some (bodyR t i x.1 x.2)
theorem bodiesR_step {t:PTree} {l:List (PFunc×List St)} {k:Nat} {x:PFunc×List St} (h:l[k]? = some x):bodiesR t (l.drop k) k=if (bodyR t k x.1 x.2).1=0 then bodiesR t (l.drop (k+1)) (k+1) else some (bodyR t k x.1 x.2):=by
 obtain ⟨hk,e⟩:=List.getElem?_eq_some_iff.1 h
 rw [List.drop_eq_getElem_cons hk,e,bodiesR]
def RecAt (t:PTree) (m f:Int):Prop:=(Rch t [m] f∨f=m)∧Rch t [f] f
open Classical in
noncomputable def recFrom (t:PTree) (m:Int):Nat→Nat→Option Nat
 | 0,_=>none
 | j+1,k=>if RecAt t m (k:Int) then some k else recFrom t m j (k+1)
theorem recFrom_yes {t:PTree} {m:Int} {j k:Nat} (h:RecAt t m (k:Int)):recFrom t m (j+1) k=some k:=by
 unfold recFrom
 exact if_pos h
theorem recFrom_no {t:PTree} {m:Int} {j k:Nat} (h:¬ RecAt t m (k:Int)):recFrom t m (j+1) k=recFrom t m j (k+1):=by
 rw [recFrom]
 exact if_neg h
noncomputable def checkR (t:PTree) (fs:List (PFunc×List St)):Int×Int×Int :=
 if (namesR t).1=0 then
  match bodiesR t fs 0 with
  | some r=>r
  | none=>match recFrom t (findF t mainB) t.funcs.length 0 with
    | some f=>(7,(f:Int),-1)
    | none=>(0,-1,-1)
 else namesR t
end Go.Proofs.YtcfggjmdcaoecaaGreatDoor.Md
namespace Go.Proofs.YtcfggjmdcaoecaaGreatDoor
open Go Go.RowKit
structure KeyKind (α:Type) [DecidableEq α] where
 d:TypeDesc
 enc:α→Value
 same:∀ a b,Instr.sameNow d (enc a) (enc b)=some (decide (a=b))
 bits:∀ a,Instr.sameBits 10000 (enc a) (enc a)=true
 key:∀ a,MapKept.IsKey d (enc a)
def strKey:KeyKind ByteArray where
 d:=.string
 enc:=.string
 same a b:=by
  simp only [Instr.sameNow]
  congr 1
  rw [Bool.eq_iff_iff,MapKept.bytes_beq,decide_eq_true_iff]
 bits a:=by simp only [Instr.sameBits];exact (MapKept.bytes_beq a a).2 rfl
 key a:=trivial
def intKey:KeyKind Int where
 d:=.int .i64
 enc:=.int .i64
 same a b:=by
  simp only [Instr.sameNow,if_true]
  by_cases h:a=b<;>simp [h]
 bits a:=by simp [Instr.sameBits]
 key a:=rfl
section
variable {α:Type} [DecidableEq α] (kk:KeyKind α)
def assoc (m:List (α×Value)) (s:α):Option Value :=
 match m with
 | []=>none
 | p :: r=>if s=p.1 then some p.2 else assoc r s
def updA (m:List (α×Value)) (s:α) (v:Value):List (α×Value) :=
 match m with
 | []=>[(s,v)]
 | p :: r=>if s=p.1 then (s,v) :: r else p :: updA r s v
def findI (m:List (α×Value)) (s:α) (i:Nat):Option (Nat×Value) :=
 match m with
 | []=>none
 | p :: r=>if s=p.1 then some (i,p.2) else findI r s (i+1)
theorem assoc_upd (m:List (α×Value)) (s t:α) (v:Value):assoc (updA m s v) t=if t=s then some v else assoc m t:=by
 induction m with
 | nil=>simp [updA,assoc]
 | cons p r ih =>
   unfold updA
   by_cases h:s=p.1
   ·rw [if_pos h]
    unfold assoc
    by_cases ht:t=s
    ·simp [ht]
    ·rw [if_neg ht,if_neg ht,if_neg (by rw [← h];exact ht)]
   ·rw [if_neg h]
    unfold assoc
    by_cases ht:t=p.1
    ·rw [if_pos ht,if_neg (by rw [ht];exact fun e=>h e.symm)]
     simp [ht]
    ·rw [if_neg ht,ih,if_neg ht]
theorem updA_len (m:List (α×Value)) (s:α) (v:Value):(updA m s v).length=m.length+if (assoc m s).isSome then 0 else 1:=by
 induction m with
 | nil=>simp [updA,assoc]
 | cons p r ih =>
   unfold updA assoc
   by_cases h:s=p.1
   ·rw [if_pos h,if_pos h];simp
   ·rw [if_neg h,if_neg h,List.length_cons,ih,List.length_cons];omega
def KV (es:List MapEntry) (m:List (α×Value)):Prop:=es.map (fun e=>(e.key,e.val))=m.map (fun p=>(kk.enc p.1,p.2))
def Born (es:List MapEntry) (clock:Nat):Prop:=(∀ e∈es,e.born<clock)∧(es.map (·.born)).Nodup
theorem Born.push {es:List MapEntry} {c:Nat} (h:Born es c) (k v:Value):Born (es ++ [{ key:=k,val:=v,born:=c }]) (c+1):=by
 refine ⟨fun e he=>?_,?_⟩
 ·rcases List.mem_append.1 he with he | he
  ·have:=h.1 e he;omega
  ·rw [List.mem_singleton.1 he];exact Nat.lt_succ_self _
 ·rw [List.map_append,List.nodup_append]
  refine ⟨h.2,by simp,fun x hx y hy=>?_⟩
  obtain ⟨e,he,rfl⟩:=List.mem_map.1 hx
  have:=h.1 e he
  simp at hy
  omega
theorem Born.modify {es:List MapEntry} {c:Nat} (h:Born es c) (i:Nat) (k v:Value):Born (es.modify i fun e=>{ e with key:=k,val:=v }) c:=by
 have e1:∀ (l:List MapEntry) (i:Nat),(l.modify i fun e=>{ e with key:=k,val:=v }).map (·.born)=l.map (·.born):=by
  intro l
  induction l with
  | nil=>intro i;simp
  | cons x r ih =>
    intro i
    cases i with
    | zero=>simp
    | succ i=>simp [ih]
 refine ⟨fun e he=>?_,by rw [e1];exact h.2⟩
 have:e.born∈(es.modify i fun e=>{ e with key:=k,val:=v }).map (·.born):=List.mem_map_of_mem he
 rw [e1] at this
 obtain ⟨e',he',hb⟩:=List.mem_map.1 this
 rw [← hb]
 exact h.1 e' he'
def MapAt (w:World) (b:Nat) (m:List (α×Value)):Prop:=∃ es clock,w.heap[b]? = some (.map es clock)∧KV kk es.toList m∧Born es.toList clock
def Turned (w:World) (b:Nat) (w':World):Prop:=w'.os=w.os∧w'.tape=w.tape∧w'.output=w.output∧w'.heap.size=w.heap.size∧∀ i,i≠b→w'.heap[i]? = w.heap[i]?
theorem Turned.ext {w0 w w':World} {b:Nat} (h:Turned w b w') (hE:Ext w0 w) (hb:w0.heap.size≤b):Ext w0 w' :=
 ⟨h.1.trans hE.os,h.2.1.trans hE.tape,h.2.2.1.trans hE.output,by rw [h.2.2.2.1];exact hE.size,fun k hk=>(h.2.2.2.2 k (by omega)).trans (hE.block k hk)⟩
variable {kk}
theorem MapAt.lt {w:World} {b:Nat} {m:List (α×Value)} (h:MapAt kk w b m):b<w.heap.size:=by
 obtain ⟨es,clock,hb,_⟩:=h
 exact (Array.getElem?_eq_some_iff.1 hb).1
theorem MapAt.keep {w w':World} {b:Nat} {m:List (α×Value)} {K:Foot} (h:MapAt kk w b m) (k:Keep K w w') (hK:K b):MapAt kk w' b m:=by
 have hlt:=h.lt
 obtain ⟨es,clock,hb,hk⟩:=h
 exact ⟨es,clock,(k b hK hlt).trans hb,hk⟩
theorem MapAt.ext {w w':World} {b:Nat} {m:List (α×Value)} (h:MapAt kk w b m) (k:Ext w w'):MapAt kk w' b m:=h.keep (k.keep AnyB) trivial
theorem MapAt.other {w w':World} {b c:Nat} {m:List (α×Value)} (h:MapAt kk w b m) (k:Turned w c w') (hne:b≠c):MapAt kk w' b m:=by
 obtain ⟨es,clock,hb,hk⟩:=h
 exact ⟨es,clock,(k.2.2.2.2 b hne).trans hb,hk⟩
theorem Blk.turned {w w':World} {g t c:Nat} {arr:Array Value} (h:Blk w g t arr) (k:Turned w c w') (hne:g≠c):Blk w' g t arr:=by
 unfold Blk at *
 rw [k.2.2.2.2 g hne];exact h
theorem MapAt.new (kk:KeyKind α) (w:World):MapAt kk (w.alloc (.map #[] 0)) w.heap.size []:=⟨#[],0,heap_alloc_new w _,rfl,⟨fun e h=>by simp at h,by simp⟩⟩
theorem findNow_eq {es:List MapEntry} {m:List (α×Value)} (h:KV kk es m) (s:α):∀ i,Instr.findNow kk.d (kk.enc s) es i=some (findI m s i):=by
 induction es generalizing m with
 | nil =>
   intro i
   cases m with
   | nil=>rfl
   | cons p r=>simp [KV] at h
 | cons e r ih =>
   intro i
   cases m with
   | nil=>simp [KV] at h
   | cons p q =>
     simp only [KV,List.map_cons,List.cons.injEq,Prod.mk.injEq] at h
     obtain ⟨⟨h1,h2⟩,h3⟩:=h
     unfold Instr.findNow findI
     rw [h1,kk.same]
     by_cases hs:s=p.1
     ·simp [hs,h2]
     ·simp [hs,ih h3]
theorem findI_assoc (m:List (α×Value)) (s:α):∀ i,(findI m s i).map Prod.snd=assoc m s:=by
 induction m with
 | nil=>intro i;rfl
 | cons p r ih =>
   intro i
   unfold findI assoc
   by_cases h:s=p.1
   ·rw [if_pos h,if_pos h];rfl
   ·rw [if_neg h,if_neg h];exact ih _
section
variable {P:Program} {w:World} {b:Nat} {m:List (α×Value)} {t kt et:TypeId}
theorem run_look (h:MapAt kk w b m) (ht:P.underlying t=some (.map kt et)) (hk:P.underlying kt=some kk.d) {z:Value} (hz:(zeroValue et).run P w=.ok z w) (s:α) :
  (Instr.lookup t (.map (some b)) (kk.enc s) true).run P w=.ok (.tuple #[(assoc m s).getD z,.bool (assoc m s).isSome]) w:=by
 obtain ⟨es,clock,hb,hkv,hbn⟩:=h
 have hf:=MapKept.run_findKey (w:=w) hk (findNow_eq hkv s 0)
 have hc:=MapKept.run_checkKey (w:=w) hk (kk.key s) es.isEmpty 9999
 rw [show 9999+1=10000 from rfl] at hc
 rw [← findI_assoc m s 0]
 cases hi:findI m s 0 with
 | none =>
   rw [hi] at hf
   simp [Instr.lookup,run_underlying ht,MapKept.run_getObj_map hb,hc,hf,hz,Result.andThen]
 | some p =>
   rw [hi] at hf
   simp [Instr.lookup,run_underlying ht,MapKept.run_getObj_map hb,hc,hf,Result.andThen]
theorem run_look1 (h:MapAt kk w b m) (ht:P.underlying t=some (.map kt et)) (hk:P.underlying kt=some kk.d) {z:Value} (hz:(zeroValue et).run P w=.ok z w) (s:α) :
  (Instr.lookup t (.map (some b)) (kk.enc s) false).run P w=.ok ((assoc m s).getD z) w:=by
 obtain ⟨es,clock,hb,hkv,hbn⟩:=h
 have hf:=MapKept.run_findKey (w:=w) hk (findNow_eq hkv s 0)
 have hc:=MapKept.run_checkKey (w:=w) hk (kk.key s) es.isEmpty 9999
 rw [show 9999+1=10000 from rfl] at hc
 rw [← findI_assoc m s 0]
 cases hi:findI m s 0 with
 | none =>
   rw [hi] at hf
   simp [Instr.lookup,run_underlying ht,MapKept.run_getObj_map hb,hc,hf,hz,Result.andThen]
 | some p =>
   rw [hi] at hf
   simp [Instr.lookup,run_underlying ht,MapKept.run_getObj_map hb,hc,hf,Result.andThen]
theorem findI_ge (m:List (α×Value)) (s:α):∀ i j v,findI m s i=some (j,v)→i≤j:=by
 induction m with
 | nil=>intro i j v h;cases h
 | cons p r ih =>
   intro i j v h
   unfold findI at h
   by_cases hs:s=p.1
   ·rw [if_pos hs] at h;cases h;exact Nat.le_refl _
   ·rw [if_neg hs] at h;have:=ih _ _ _ h;omega
theorem kv_hit (v:Value) (s:α):∀ (es:List MapEntry) (m:List (α×Value)) (i j:Nat) (u:Value),KV kk es m→findI m s i=some (j,u) →
  (∃ e,es[j - i]? = some e∧e.key=kk.enc s)∧KV kk (es.modify (j - i) fun e=>{ e with key:=kk.enc s,val:=v }) (updA m s v):=by
 intro es
 induction es with
 | nil =>
   intro m i j u h hf
   cases m with
   | nil=>cases hf
   | cons p q=>simp [KV] at h
 | cons e r ih =>
   intro m i j u h hf
   cases m with
   | nil=>simp [KV] at h
   | cons p q =>
     simp only [KV,List.map_cons,List.cons.injEq,Prod.mk.injEq] at h
     obtain ⟨⟨h1,h2⟩,h3⟩:=h
     unfold findI at hf
     unfold updA
     by_cases hs:s=p.1
     ·rw [if_pos hs] at hf ⊢
      cases hf
      rw [Nat.sub_self]
      refine ⟨⟨e,rfl,by rw [h1,hs]⟩,?_⟩
      simp only [List.modify_zero_cons,KV,List.map_cons,h3]
     ·rw [if_neg hs] at hf ⊢
      have hge:=findI_ge _ _ _ _ _ hf
      obtain ⟨h4,h5⟩:=ih q (i+1) j u h3 hf
      rw [show j - i=(j - (i+1))+1 by omega]
      refine ⟨by simpa using h4,?_⟩
      simp only [List.modify_succ_cons,KV,List.map_cons,List.cons.injEq,Prod.mk.injEq]
      exact ⟨⟨h1,h2⟩,h5⟩
theorem kv_miss (v:Value) (s:α) (c:Nat):∀ (es:List MapEntry) (m:List (α×Value)) (i:Nat),KV kk es m→findI m s i=none→KV kk (es ++ [{ key:=kk.enc s,val:=v,born:=c }]) (updA m s v):=by
 intro es
 induction es with
 | nil =>
   intro m i h hf
   cases m with
   | nil=>simp [updA,KV]
   | cons p q=>simp [KV] at h
 | cons e r ih =>
   intro m i h hf
   cases m with
   | nil=>simp [KV] at h
   | cons p q =>
     simp only [KV,List.map_cons,List.cons.injEq,Prod.mk.injEq] at h
     obtain ⟨⟨h1,h2⟩,h3⟩:=h
     unfold findI at hf
     unfold updA
     by_cases hs:s=p.1
     ·rw [if_pos hs] at hf;cases hf
     ·rw [if_neg hs] at hf ⊢
      have:=ih q (i+1) h3 hf
      simp only [KV,List.cons_append,List.map_cons,List.cons.injEq,Prod.mk.injEq]
      exact ⟨⟨h1,h2⟩,this⟩
theorem run_upd (h:MapAt kk w b m) (ht:P.underlying t=some (.map kt et)) (hk:P.underlying kt=some kk.d) (s:α) (v:Value) :
  ∃ w',(Instr.mapUpdate t (.map (some b)) (kk.enc s) v).run P w=.ok () w'∧MapAt kk w' b (updA m s v)∧Turned w b w':=by
 obtain ⟨es,clock,hb,hkv,hbn⟩:=h
 have hlt:b<w.heap.size:=(Array.getElem?_eq_some_iff.1 hb).1
 have hf:=MapKept.run_findKey (w:=w) hk (findNow_eq hkv s 0)
 have hc:=MapKept.run_checkKey (w:=w) hk (kk.key s) false 9999
 rw [show 9999+1=10000 from rfl] at hc
 have hT:∀ o,Turned w b { w with heap:=w.heap.setIfInBounds b o }:=fun o=>⟨rfl,rfl,rfl,by simp,fun i hi=>by simp [Ne.symm hi]⟩
 cases hi:findI m s 0 with
 | none =>
   refine ⟨{ w with heap:=w.heap.setIfInBounds b (.map (es.push { key:=kk.enc s,val:=v,born:=clock }) (clock+1)) },?_,⟨es.push { key:=kk.enc s,val:=v,born:=clock },clock+1,by simp [hlt],?_,?_⟩,hT _⟩
   ·rw [hi] at hf;simp [Instr.mapUpdate,run_underlying ht,MapKept.run_getObj_map hb,Result.andThen,hc,hf,MapKept.run_setObj_map _ hb]
   ·rw [Array.toList_push];exact kv_miss v s clock _ _ 0 hkv hi
   ·rw [Array.toList_push];exact hbn.push _ _
 | some p =>
   obtain ⟨j,u⟩:=p
   obtain ⟨⟨e,he,hek⟩,hkv'⟩:=kv_hit v s es.toList m 0 j u hkv hi
   rw [Nat.sub_zero] at he hkv'
   have hst:(Instr.keyThatStays (((es[j]?).map (·.key)).getD (kk.enc s)) (kk.enc s)).run P w=.ok (kk.enc s) w:=by
    have:es[j]? = some e:=by rw [← he];simp
    rw [this]
    simp [Instr.keyThatStays,hek,kk.bits]
   refine ⟨{ w with heap:=w.heap.setIfInBounds b (.map (es.modify j fun e=>{ e with key:=kk.enc s,val:=v }) clock) },?_,⟨es.modify j fun e=>{ e with key:=kk.enc s,val:=v },clock,by simp [hlt],?_,?_⟩,hT _⟩
   ·rw [hi] at hf;simp [Instr.mapUpdate,run_underlying ht,MapKept.run_getObj_map hb,Result.andThen,hc,hf,hst,MapKept.run_setObj_map _ hb]
   ·rw [Array.toList_modify];exact hkv'
   ·rw [Array.toList_modify];exact hbn.modify _ _ _
theorem run_mlen (h:MapAt kk w b m) (ht:P.underlying t=some (.map kt et)) (ty:TypeId):(Builtin.len_ #[t] ty #[.map (some b)]).run P w=.ok (.int .i64 m.length) w:=by
 obtain ⟨es,clock,hb,hkv,hbn⟩:=h
 have e1:es.size=m.length:=by have:=congrArg List.length hkv;simpa using this
 simp [Builtin.len_,run_underlying ht,MapKept.run_getObj_map hb,goInt,Result.andThen,e1]
variable {ops:Array Oper} {rest:List Oper} {o:Oper} {a:Act} {Q:Exit→Act→World→Prop}
end
end
end Go.Proofs.YtcfggjmdcaoecaaGreatDoor
namespace Go.Proofs.YtcfggjmdcaoecaaGreatDoor.Md
open Go
abbrev MP:=List (ByteArray×Value)
def varV (b:Bool):Value:=.agg #[.bool b]
def lookM:List MP→ByteArray→Option Value
 | [],_=>none
 | m :: r,s=>match lookM r s with
   | some v=>some v
   | none=>assoc m s
theorem lookM_snoc (l:List MP) (m:MP) (s:ByteArray):lookM (l ++ [m]) s=match assoc m s with | some v=>some v | none=>lookM l s:=by
 induction l with
 | nil =>
   simp only [List.nil_append,lookM]
   cases assoc m s<;>rfl
 | cons a r ih =>
   rw [List.cons_append,lookM,ih,lookM]
   cases assoc m s with
   | some v=>rfl
   | none=>rfl
def gmap (t:PTree) (s:ByteArray):Option Value:=if 0≤gsize t s then some (varV (decide (0<gsize t s))) else none
def Names (t:PTree) (mm:List MP) (sc:List ByteArray):Prop:=∀ s,lookM mm s=if s∈sc then some (varV false) else gmap t s
def AllV (m:MP):Prop:=∀ s v,assoc m s=some v→∃ b,v=varV b
structure TkRel (t:PTree) (m:MP) (tk:List ByteArray):Prop where
 has:∀ s,(assoc m s).isSome=decide (s∈tk∨0≤gsize t s)
 allV:AllV m
theorem AllV.upd {m:MP} (h:AllV m) (x:ByteArray) (b:Bool):AllV (updA m x (varV b)):=fun s v hs=>by
 rw [assoc_upd] at hs
 by_cases he:s=x
 ·rw [if_pos he] at hs
  exact ⟨b,(Option.some.inj hs).symm⟩
 ·rw [if_neg he] at hs
  exact h s v hs
theorem Names.push {t:PTree} {mm:List MP} {sc:List ByteArray} (h:Names t mm sc):Names t (mm ++ [[]]) sc:=fun s=>by
 rw [lookM_snoc,← h s];rfl
theorem Names.decl {t:PTree} {mm:List MP} {m:MP} {sc:List ByteArray} (h:Names t (mm ++ [m]) sc) (x:ByteArray):Names t (mm ++ [updA m x (varV false)]) (sc ++ [x]):=fun s=>by
 have h1:=h s
 rw [lookM_snoc] at h1 ⊢
 rw [assoc_upd]
 by_cases he:s=x
 ·rw [if_pos he,if_pos (by rw [he];simp)]
 ·rw [if_neg he,h1]
  by_cases hs:s∈sc
  ·rw [if_pos hs,if_pos (List.mem_append_left _ hs)]
  ·rw [if_neg hs,if_neg (fun h=>(List.mem_append.1 h).elim hs (fun h=>he (List.mem_singleton.1 h)))]
theorem TkRel.decl {t:PTree} {m:MP} {tk:List ByteArray} (h:TkRel t m tk) (x:ByteArray) (b:Bool):TkRel t (updA m x (varV b)) (tk ++ [x]):=by
 refine ⟨fun s=>?_,h.allV.upd x b⟩
 rw [assoc_upd]
 by_cases he:s=x
 ·rw [if_pos he]
  exact (decide_eq_true (show s∈tk ++ [x]∨0≤gsize t s from .inl (by rw [he];simp))).symm
 ·rw [if_neg he,h.has s]
  congr 1
  rw [List.mem_append,List.mem_singleton]
  simp [he]
theorem use_cases {t:PTree} {mm:List MP} {sc:List ByteArray} (h:Names t mm sc) (s:ByteArray) (arr:Bool) :
  (lookM mm s=none∧useE t sc s arr=4)∨∃ b,lookM mm s=some (varV b)∧useE t sc s arr=if b=arr then 0 else 5:=by
 rw [h s]
 unfold useE
 by_cases hs:s∈sc
 ·rw [if_pos hs]
  refine .inr ⟨false,rfl,?_⟩
  simp [if_pos hs]
 ·rw [if_neg hs]
  unfold gmap
  by_cases hg:0≤gsize t s
  ·rw [if_pos hg]
   refine .inr ⟨_,rfl,?_⟩
   simp only [if_neg hs]
   rw [if_neg (by omega)]
  ·rw [if_neg hg]
   refine .inl ⟨rfl,?_⟩
   simp only [if_neg hs]
   rw [if_pos (by omega)]
def GM (t:PTree) (gm:MP):Prop:=∀ s,assoc gm s=gmap t s
def PM (m:MP) (seen:List ByteArray):Prop:=∀ s,assoc m s=if s∈seen then some (varV false) else none
theorem PM.nil:PM [] []:=fun s=>rfl
theorem PM.decl {m:MP} {seen:List ByteArray} (h:PM m seen) (x:ByteArray):PM (updA m x (varV false)) (seen ++ [x]):=fun s=>by
 rw [assoc_upd]
 by_cases he:s=x
 ·rw [if_pos he,if_pos (by rw [he];simp)]
 ·rw [if_neg he,h s]
  by_cases hs:s∈seen
  ·rw [if_pos hs,if_pos (List.mem_append_left _ hs)]
  ·rw [if_neg hs,if_neg (fun h=>(List.mem_append.1 h).elim hs (fun h=>he (List.mem_singleton.1 h)))]
theorem Names.start {t:PTree} {gm pm:MP} {ps:List ByteArray} (hg:GM t gm) (hp:PM pm ps):Names t [gm,pm] ps:=fun s=>by
 show lookM ([gm] ++ [pm]) s=_
 rw [lookM_snoc,hp s]
 by_cases hs:s∈ps
 ·rw [if_pos hs,if_pos hs]
 ·rw [if_neg hs,if_neg hs]
  show lookM [gm] s=_
  rw [← hg s];rfl
theorem TkRel.start {t:PTree} {gm m:MP} (hg:GM t gm) (h:∀ s,(assoc m s).isSome=(assoc gm s).isSome) (ha:AllV m):TkRel t m []:=by
 refine ⟨fun s=>?_,ha⟩
 rw [h s,hg s]
 unfold gmap
 by_cases hs:0≤gsize t s
 ·rw [if_pos hs]
  exact (decide_eq_true (show s∈([]:List ByteArray)∨0≤gsize t s from .inr hs)).symm
 ·rw [if_neg hs]
  exact (decide_eq_false (show ¬ (s∈([]:List ByteArray)∨0≤gsize t s) by simp [hs])).symm
def gmapL (l:List PGlob) (s:ByteArray):Option Value:=if 0≤gsizeL l s then some (varV (decide (0<gsizeL l s))) else none
theorem gsizeL_snoc (l:List PGlob) (g:PGlob) (s:ByteArray):gsizeL (l ++ [g]) s=if s∈l.map (fun g=>g.name) then gsizeL l s else if g.name=s then g.size else -1:=by
 induction l with
 | nil=>simp [gsizeL]
 | cons a r ih =>
   rw [List.cons_append,gsizeL,gsizeL,ih]
   by_cases ha:a.name=s
   ·rw [if_pos ha,if_pos ha,if_pos (by simp [ha])]
   ·rw [if_neg ha,if_neg ha]
    by_cases hr:s∈r.map (fun g=>g.name)
    ·rw [if_pos hr,if_pos (by simp only [List.map_cons];exact List.mem_cons_of_mem _ hr)]
    ·have hc:¬ s∈(a :: r).map (fun g=>g.name):=by
      intro h
      rw [List.map_cons] at h
      rcases List.mem_cons.1 h with e | h
      ·exact ha e.symm
      ·exact hr h
     rw [if_neg hr,if_neg hc]
theorem gsizeL_neg {l:List PGlob} {s:ByteArray} (h:¬ s∈l.map (fun g=>g.name)):gsizeL l s = -1:=by
 induction l with
 | nil=>rfl
 | cons a r ih =>
   simp only [List.map_cons,List.mem_cons,not_or] at h
   rw [gsizeL,if_neg (fun e=>h.1 e.symm),ih h.2]
theorem gsizeL_nonneg {l:List PGlob} {s:ByteArray} (hz:∀ g∈l,0≤g.size) (h:s∈l.map (fun g=>g.name)):0≤gsizeL l s:=by
 induction l with
 | nil=>cases h
 | cons a r ih =>
   rw [gsizeL]
   by_cases ha:a.name=s
   ·rw [if_pos ha];exact hz a (List.mem_cons_self ..)
   ·rw [if_neg ha]
    refine ih (fun g hg=>hz g (List.mem_cons_of_mem _ hg)) ?_
    simp only [List.map_cons,List.mem_cons] at h
    exact h.resolve_left (fun e=>ha e.symm)
theorem gmapL_some {l:List PGlob} (hz:∀ g∈l,0≤g.size) (s:ByteArray):(gmapL l s).isSome=decide (s∈l.map fun g=>g.name):=by
 unfold gmapL
 by_cases h:s∈l.map (fun g=>g.name)
 ·rw [if_pos (gsizeL_nonneg hz h),decide_eq_true h];rfl
 ·rw [if_neg (by rw [gsizeL_neg h];omega),decide_eq_false h];rfl
theorem gmapL_snoc {l:List PGlob} {g:PGlob} {gm:MP} (hz:0≤g.size) (h:∀ s,assoc gm s=gmapL l s) (hn:¬ g.name∈l.map (fun g=>g.name)) :
  ∀ s,assoc (updA gm g.name (varV (decide (0<g.size)))) s=gmapL (l ++ [g]) s:=fun s=>by
 rw [assoc_upd]
 unfold gmapL
 rw [gsizeL_snoc]
 by_cases he:s=g.name
 ·subst he
  rw [if_pos rfl,if_neg hn,if_pos rfl,if_pos hz]
 ·rw [if_neg he,h s]
  unfold gmapL
  by_cases hs:s∈l.map (fun g=>g.name)
  ·rw [if_pos hs]
  ·have hg:¬ g.name=s:=fun e=>he e.symm
   rw [if_neg hs,if_neg hg,gsizeL_neg hs]
theorem findFrom_take (l:List PFunc) (s:ByteArray):∀ (i k:Nat),k≤l.length→(0≤findFrom l s i∧findFrom l s i<((i+k:Nat):Int)↔s∈(l.take k).map fun f=>f.name):=by
 induction l with
 | nil =>
   intro i k hk
   simp at hk
   subst hk
   simp [findFrom]
 | cons f r ih =>
   intro i k hk
   cases k with
   | zero =>
     simp only [List.take_zero,List.map_nil,List.not_mem_nil,iff_false,not_and]
     intro h0
     rcases findFrom_range (f :: r) s i with h | ⟨h,_⟩<;>omega
   | succ k =>
     rw [findFrom,List.take_succ_cons,List.map_cons,List.mem_cons]
     by_cases h:f.name=s
     ·rw [if_pos h]
      constructor
      ·intro _;exact .inl h.symm
      ·intro _;omega
     ·rw [if_neg h,show i+(k+1)=(i+1)+k by omega,ih (i+1) k (by simpa using hk)]
      constructor
      ·exact fun h=>.inr h
      ·rintro (e | h2)
       ·exact absurd e.symm h
       ·exact h2
theorem find_lt {t:PTree} {k:Nat} {f:PFunc} (hf:t.funcs[k]? = some f):(findF t f.name<(k:Int))↔f.name∈(fNames t).take k:=by
 obtain ⟨hk,e⟩:=List.getElem?_eq_some_iff.1 hf
 have h:=findFrom_take t.funcs f.name 0 k (by omega)
 have h1:=findFrom_take t.funcs f.name 0 (k+1) (by omega)
 have h2:f.name∈(t.funcs.take (k+1)).map fun f=>f.name:=by
  rw [List.take_succ_eq_append_getElem hk,e];simp
 have h3:=h1.2 h2
 unfold fNames
 rw [← List.map_take]
 unfold findF
 rw [← h]
 constructor
 ·intro hh;exact ⟨h3.1,by simpa using hh⟩
 ·intro hh;simpa using hh.2
structure Wi (t:PTree) (i:Int) (met todo:List Int):Prop where
 nodup:met.Nodup
 rch:∀ x∈met,Rch t [i] x
 rcht:∀ x∈todo,Rch t [i] x
 done:∀ y,y=i∨y∈met→∀ x∈succ t y,x∈met∨x∈todo
theorem Wi.start (t:PTree) (i:Int):Wi t i [] (succ t i):=⟨List.nodup_nil,fun _ h=>by simp at h,fun x h=>.base (by simp) h,fun y h x hx=>by
 rcases h with rfl | h
 ·exact .inr hx
 ·simp at h⟩
theorem Wi.fin {t:PTree} {i:Int} {met:List Int} (h:Wi t i met []) (x:Int):x∈met↔Rch t [i] x:=by
 refine ⟨h.rch x,fun hx=>?_⟩
 induction hx with
 | base hy hx =>
   rcases h.done _ (.inl (List.mem_singleton.1 hy)) _ hx with h1 | h1
   ·exact h1
   ·simp at h1
 | step _ hx ih =>
   rcases h.done _ (.inr ih) _ hx with h1 | h1
   ·exact h1
   ·simp at h1
theorem Wi.old {t:PTree} {i k:Int} {met todo:List Int} (h:Wi t i met (k :: todo)) (hk:k∈met):Wi t i met todo :=
 ⟨h.nodup,h.rch,fun x hx=>h.rcht x (List.mem_cons_of_mem _ hx),fun y hy x hx=>by
  rcases h.done y hy x hx with h1 | h1
  ·exact .inl h1
  ·rcases List.mem_cons.1 h1 with rfl | h1
   ·exact .inl hk
   ·exact .inr h1⟩
theorem Wi.new {t:PTree} {i k:Int} {met todo:List Int} (h:Wi t i met (k :: todo)) (hk:¬ k∈met):Wi t i (met ++ [k]) (todo ++ succ t k):=by
 have hkr:=h.rcht k (List.mem_cons_self ..)
 refine ⟨List.nodup_append.2 ⟨h.nodup,by simp,fun x hx y hy=>by
   rw [List.mem_singleton.1 hy]
   intro e;subst e;exact hk hx⟩,fun x hx=>?_,fun x hx=>?_,fun y hy x hx=>?_⟩
 ·rcases List.mem_append.1 hx with hx | hx
  ·exact h.rch x hx
  ·rw [List.mem_singleton.1 hx];exact hkr
 ·rcases List.mem_append.1 hx with hx | hx
  ·exact h.rcht x (List.mem_cons_of_mem _ hx)
  ·exact .step hkr hx
 ·have old:(y=i∨y∈met)→x∈met ++ [k]∨x∈todo ++ succ t k:=fun ho=>by
   rcases h.done y ho x hx with h1 | h1
   ·exact .inl (List.mem_append_left _ h1)
   ·rcases List.mem_cons.1 h1 with rfl | h1
    ·exact .inl (by simp)
    ·exact .inr (List.mem_append_left _ h1)
  rcases hy with hy | hy
  ·exact old (.inl hy)
  ·rcases List.mem_append.1 hy with hy | hy
   ·exact old (.inr hy)
   ·rw [List.mem_singleton.1 hy] at hx
    exact .inr (List.mem_append_right _ hx)
theorem Wi.len {t:PTree} {i:Int} {met todo:List Int} (h:Wi t i met todo):met.length≤t.funcs.length:=nodup_bound h.nodup (fun x hx=>(h.rch x hx).range)
theorem Wi.lt {t:PTree} {i k:Int} {met todo:List Int} (h:Wi t i met (k :: todo)) (hk:¬ k∈met):met.length<t.funcs.length:=by
 have:=(h.new hk).len
 simp at this
 omega
def bodiesOf (t:PTree):List (PFunc×List St):=t.funcs.map fun f=>(f,(blocks f.body 0).getD [])
noncomputable def checkAns (t:PTree):Int×Int×Int:=if valid t=true then checkR t (bodiesOf t) else (1,-1,-1)
theorem bodiesOf_eq {t:PTree} {fs:List (PFunc×List St)} (h1:fs.map Prod.fst=t.funcs) (h2:∀ p∈fs,blocks p.1.body 0=some p.2):bodiesOf t=fs:=by
 unfold bodiesOf
 rw [← h1,List.map_map]
 conv=>rhs;rw [← List.map_id fs]
 refine List.map_congr_left fun p hp=>?_
 simp [h2 p hp]
theorem bodies_valid {t:PTree} (h:valid t=true):∀ p∈bodiesOf t,blocks p.1.body 0=some p.2:=by
 intro p hp
 obtain ⟨f,hf,rfl⟩:=List.mem_map.1 hp
 unfold valid at h
 simp only [Bool.and_eq_true,decide_eq_true_eq,List.all_eq_true] at h
 have:=h.2 f hf
 unfold okFunc at this
 simp only [Bool.and_eq_true,decide_eq_true_eq] at this
 cases hb:blocks f.body 0 with
 | none=>exact absurd this.2 (by simp [hb])
 | some b=>simp [hb]
theorem ck_bad (t:PTree) (n:Nat):∀ (l:List PStmt) (p:Nat) (sts:List St) (sc tk:List ByteArray) (e a:Int),l.length≤n→blocks l p=some sts→ckBlk t sc tk sts=.bad e a→e≠0:=by
 induction n with
 | zero =>
   intro l p sts sc tk e a hl hb hc
   obtain rfl:l=[]:=List.eq_nil_of_length_eq_zero (by omega)
   rw [blocks] at hb
   cases hb
   rw [ck_nil] at hc
   cases hc
 | succ n ih =>
   intro l p sts sc tk e a hl hb hc
   match l,hl with
   | [],_ =>
     rw [blocks] at hb
     cases hb
     rw [ck_nil] at hc
     cases hc
   | x :: rest,hl =>
     simp only [List.length_cons] at hl
     obtain ⟨ex,T,U,R,_,_,_,_,hle,h1,h2,h3,rfl⟩:=blocks_inv hb
     rw [ck_cons] at hc
     by_cases he:stE t sc tk x=0
     ·rw [if_pos he] at hc
      unfold ckTail at hc
      cases c1:ckBlk t (sc1 x sc) (sc1 x tk) T with
      | bad e1 a1 =>
        rw [c1] at hc
        cases hc
        exact ih _ _ _ _ _ _ _ (by simp;omega) h1 c1
      | ok tk2 =>
        rw [c1] at hc
        simp only at hc
        cases c2:ckBlk t (sc1 x sc) tk2 U with
        | bad e1 a1 =>
          rw [c2] at hc
          cases hc
          exact ih _ _ _ _ _ _ _ (by simp;omega) h2 c2
        | ok tk3 =>
          rw [c2] at hc
          exact ih _ _ _ _ _ _ _ (by simp;omega) h3 hc
     ·rw [if_neg he] at hc
      cases hc
      exact he
theorem bodyR_ok {t:PTree} {f:Nat} {x:PFunc} {sts:List St} (hb:blocks x.body 0=some sts) (h:(bodyR t f x sts).1=0):bodyR t f x sts=(0,-1,-1):=by
 unfold bodyR at h ⊢
 by_cases hp:parBad t [] x.params=true
 ·rw [if_pos hp] at h
  exact absurd h (by simp)
 ·rw [if_neg hp] at h ⊢
  cases hc:ckBlk t x.params x.params sts with
  | bad e a =>
    rw [hc] at h
    exact absurd h (ck_bad t x.body.length x.body 0 sts _ _ e a (Nat.le_refl _) hb hc)
  | ok tk=>rfl
theorem namesR_ok {t:PTree} (h:(namesR t).1=0):namesR t=(0,-1,-1)∧0≤findF t mainB:=by
 unfold namesR at h ⊢
 by_cases h1:(dupAt [] (gNames t) 0).isSome
 ·rw [if_pos h1] at h
  exact absurd h (by decide)
 ·rw [if_neg h1] at h ⊢
  cases h2:dupAt (gNames t) (fNames t) 0 with
  | some i =>
    rw [h2] at h
    exact absurd h (by simp)
  | none =>
    rw [h2] at h
    simp only at h ⊢
    unfold mainR at h ⊢
    by_cases h3:findF t mainB<0∨0<arityF t (findF t mainB)
    ·rw [if_pos h3] at h
     exact absurd h (by decide)
    ·rw [if_neg h3]
     exact ⟨rfl,by omega⟩
noncomputable def recR (t:PTree) (m:Int) (k:Nat):Int×Int×Int :=
 match recFrom t m (t.funcs.length - k) k with
 | some f=>(7,(f:Int),-1)
 | none=>(0,-1,-1)
noncomputable def tailR (t:PTree) (fs:List (PFunc×List St)) (k:Nat):Int×Int×Int :=
 match bodiesR t (fs.drop k) k with
 | some r=>r
 | none=>recR t (findF t mainB) 0
theorem checkR_bad {t:PTree} {fs:List (PFunc×List St)} (h:(namesR t).1≠0):checkR t fs=namesR t:=by
 unfold checkR
 rw [if_neg h]
theorem checkR_ok {t:PTree} {fs:List (PFunc×List St)} (h:(namesR t).1=0):checkR t fs=tailR t fs 0:=by
 unfold checkR
 rw [if_pos h]
 rfl
theorem tailR_bad {t:PTree} {fs:List (PFunc×List St)} {k:Nat} {x:PFunc×List St} (hx:fs[k]? = some x) (h:(bodyR t k x.1 x.2).1≠0):tailR t fs k=bodyR t k x.1 x.2:=by
 unfold tailR
 rw [bodiesR_step hx,if_neg h]
theorem tailR_ok {t:PTree} {fs:List (PFunc×List St)} {k:Nat} {x:PFunc×List St} (hx:fs[k]? = some x) (h:(bodyR t k x.1 x.2).1=0):tailR t fs k=tailR t fs (k+1):=by
 unfold tailR
 rw [bodiesR_step hx,if_pos h]
theorem tailR_end {t:PTree} {fs:List (PFunc×List St)} {k:Nat} (h:fs.length≤k):tailR t fs k=recR t (findF t mainB) 0:=by
 unfold tailR
 rw [List.drop_eq_nil_of_le h]
 rfl
theorem recR_yes {t:PTree} {m:Int} {k:Nat} (hk:k<t.funcs.length) (h:RecAt t m (k:Int)):recR t m k=(7,(k:Int),-1):=by
 unfold recR
 rw [show t.funcs.length - k=(t.funcs.length - (k+1))+1 by omega,recFrom_yes h]
theorem recR_no {t:PTree} {m:Int} {k:Nat} (hk:k<t.funcs.length) (h:¬ RecAt t m (k:Int)):recR t m k=recR t m (k+1):=by
 unfold recR
 rw [show t.funcs.length - k=(t.funcs.length - (k+1))+1 by omega,recFrom_no h]
theorem recR_end {t:PTree} {m:Int} {k:Nat} (h:t.funcs.length≤k):recR t m k=(0,-1,-1):=by
 unfold recR
 rw [show t.funcs.length - k=0 by omega]
 rfl
end Go.Proofs.YtcfggjmdcaoecaaGreatDoor.Md
namespace Go.Proofs.YtcfggjmdcaoecaaGreatDoor
open Go Go.RowKit
section
variable {α:Type} [DecidableEq α] {kk:KeyKind α}
def RgAt (kk:KeyKind α) (w:World) (b r:Nat) (m:List (α×Value)) (left:List MapEntry):Prop :=
 ∃ es clock since c0 seen,w.heap[r]? = some (.mapIter (some b) since seen c0)∧w.heap[b]? = some (.map es clock)∧KV kk es.toList m∧Born es.toList clock∧(∀ x∈es.toList,x.born<since)∧since≤c0∧since≤clock∧left=(leftOf es seen).toList
def rgLeft (w:World) (b r:Nat):Nat:=match w.heap[r]?,w.heap[b]? with
 | some (.mapIter _ _ seen _),some (.map es _)=>(leftOf es seen).size
 | _,_=>0
theorem RgAt.left_eq {w:World} {b r:Nat} {m:List (α×Value)} {left:List MapEntry} (h:RgAt kk w b r m left):rgLeft w b r=left.length:=by
 obtain ⟨es,clock,since,c0,seen,h1,h2,_,_,_,_,_,rfl⟩:=h
 unfold rgLeft
 rw [h1,h2]
 simp
theorem RgAt.keep {w w':World} {b r:Nat} {m:List (α×Value)} {left:List MapEntry} (h:RgAt kk w b r m left) (k1:w'.heap[r]? = w.heap[r]?) (k2:w'.heap[b]? = w.heap[b]?):RgAt kk w' b r m left:=by
 obtain ⟨es,clock,since,c0,seen,h1,h2,r⟩:=h
 exact ⟨es,clock,since,c0,seen,k1.trans h1,k2.trans h2,r⟩
theorem RgAt.map {w:World} {b r:Nat} {m:List (α×Value)} {left:List MapEntry} (h:RgAt kk w b r m left):MapAt kk w b m:=by
 obtain ⟨es,clock,since,c0,seen,h1,h2,h3,h4,_⟩:=h
 exact ⟨es,clock,h2,h3,h4⟩
theorem RgAt.ne {w:World} {b r:Nat} {m:List (α×Value)} {left:List MapEntry} (h:RgAt kk w b r m left):r<w.heap.size∧b≠r:=by
 obtain ⟨es,clock,since,c0,seen,h1,h2,_⟩:=h
 refine ⟨(Array.getElem?_eq_some_iff.1 h1).1,?_⟩
 rintro rfl
 rw [h1] at h2
 cases h2
theorem RgAt.start {P:Program} {w:World} {b:Nat} {m:List (α×Value)} {t k e:TypeId} (h:MapAt kk w b m) (ht:P.underlying t=some (.map k e)) :
  ∃ w' left,(Instr.range t (.map (some b))).run P w=.ok (.pointer (some ⟨w.heap.size,0,none⟩)) w'∧RgAt kk w' b w.heap.size m left∧Ext w w'∧(∀ s v,assoc m s=some v→∃ en∈left,en.key=kk.enc s):=by
 obtain ⟨es,clock,hb,hkv,hbn⟩:=h
 have hlt:b<w.heap.size:=(Array.getElem?_eq_some_iff.1 hb).1
 refine ⟨w.alloc (.mapIter (some b) clock #[] clock),es.toList,run_range_map w t k e b es clock ht hb,⟨es,clock,clock,clock,#[],Go.heap_alloc_new w _,?_,hkv,hbn,hbn.1,Nat.le_refl _,Nat.le_refl _,?_⟩,(Ext.refl w).alloc _,fun s v hs=>?_⟩
 ·exact (((Ext.refl w).alloc _).block b hlt).trans hb
 ·simp [leftOf,List.filter_eq_self.2]
 ·have:∀ (es:List MapEntry) (m:List (α×Value)),KV kk es m→assoc m s=some v→∃ en∈es,en.key=kk.enc s:=by
   intro es
   induction es with
   | nil =>
     intro m h1 h2
     cases m with
     | nil=>cases h2
     | cons p q=>simp [KV] at h1
   | cons x r ih =>
     intro m h1 h2
     cases m with
     | nil=>cases h2
     | cons p q =>
       simp only [KV,List.map_cons,List.cons.injEq,Prod.mk.injEq] at h1
       obtain ⟨⟨k1,k2⟩,k3⟩:=h1
       unfold assoc at h2
       by_cases hsp:s=p.1
       ·exact ⟨x,by simp,by rw [k1,hsp]⟩
       ·rw [if_neg hsp] at h2
        obtain ⟨en,he,hk⟩:=ih q k3 h2
        exact ⟨en,List.mem_cons_of_mem _ he,hk⟩
  exact this _ _ hkv hs
theorem kv_mem {es:List MapEntry} {m:List (α×Value)} (h:KV kk es m) {e:MapEntry} (he:e∈es):∃ p∈m,e.key=kk.enc p.1∧e.val=p.2:=by
 have h1:(e.key,e.val)∈es.map (fun e=>(e.key,e.val)):=List.mem_map_of_mem he
 rw [h] at h1
 obtain ⟨p,hp,hq⟩:=List.mem_map.1 h1
 simp only [Prod.mk.injEq] at hq
 exact ⟨p,hp,hq.1.symm,hq.2.symm⟩
theorem born_inj {es:List MapEntry} (h:(es.map (·.born)).Nodup) {a b:MapEntry} (ha:a∈es) (hb:b∈es) (e:a.born=b.born):a=b:=by
 have h1:=find_born a es h ha
 have h2:=find_born b es h hb
 rw [e,h2] at h1
 exact (Option.some.inj h1).symm
theorem RgAt.next {P:Program} {w:World} {b r:Nat} {m:List (α×Value)} {left:List MapEntry} (h:RgAt kk w b r m left) :
  (left=[]∧∀ ty,(Instr.next (.pointer (some ⟨r,0,none⟩)) false ty).run P w=.ok (.tuple #[.bool false]) w) ∨
  ∃ p∈m,∃ (w':World) (left':List MapEntry),(∀ ty,(Instr.next (.pointer (some ⟨r,0,none⟩)) false ty).run P w=.ok (.tuple #[.bool true,kk.enc p.1,p.2]) w')∧RgAt kk w' b r m left'∧Turned w r w'∧left'.length<left.length ∧
   (∀ x∈left,x∈left'∨x.key=kk.enc p.1)∧(Instr.entry (.pointer (some ⟨r,0,none⟩))).run P w'=.ok (.tuple #[kk.enc p.1,p.2]) w':=by
 have hne:=h.ne
 obtain ⟨es,clock,since,c0,seen,h1,h2,h3,h4,h5,h6,h7,rfl⟩:=h
 rcases run_next_at (P:=P) w 0 r b since c0 seen es clock h1 h2 h5 h6 with ⟨h0,hr0⟩ | ⟨e,he,w1,hw1,hrun⟩
 ·left
  exact ⟨by simpa using h0,fun ty=>hr0⟩
 ·right
  have heE:e∈es.toList:=by
   unfold leftOf at he
   simp at he ⊢
   exact he.1
  obtain ⟨p,hp,k1,k2⟩:=kv_mem h3 heE
  rw [k1,k2] at hrun
  have hr1:w1.heap=w.heap:=by rcases hw1 with rfl | rfl<;>rfl
  have hrr:(Go.ChangeMaps.setBlock w1 r (.mapIter (some b) since (seen.push e.born) clock)).heap[r]? = some (.mapIter (some b) since (seen.push e.born) clock):=by
   show (w1.heap.setIfInBounds r _)[r]? = _
   rw [hr1]
   simp [hne.1]
  have hrb:(Go.ChangeMaps.setBlock w1 r (.mapIter (some b) since (seen.push e.born) clock)).heap[b]? = some (.map es clock):=by
   show (w1.heap.setIfInBounds r _)[b]? = _
   rw [hr1]
   simp [Ne.symm hne.2,h2]
  have eL:(leftOf es (seen.push e.born)).toList=(leftOf es seen).toList.filter (fun x=>decide (x.born≠e.born)):=by
   unfold leftOf
   rw [Array.toList_filter,Array.toList_filter,List.filter_filter]
   refine List.filter_congr fun x _=>?_
   rw [Bool.eq_iff_iff]
   simp [and_comm]
  refine ⟨p,hp,_,(leftOf es (seen.push e.born)).toList,fun ty=>hrun,⟨es,clock,since,clock,seen.push e.born,hrr,hrb,h3,h4,h5,h7,h7,rfl⟩,?_,?_,fun x hx=>?_,?_⟩
  ·have ht:w1.os=w.os∧w1.tape=w.tape∧w1.output=w.output:=by rcases hw1 with rfl | rfl<;>exact ⟨rfl,rfl,rfl⟩
   refine ⟨ht.1,ht.2.1,ht.2.2,?_,fun i hi=>?_⟩
   ·show (w1.heap.setIfInBounds r _).size=_
    rw [hr1];simp
   ·show (w1.heap.setIfInBounds r _)[i]? = _
    rw [hr1];simp [Ne.symm hi]
  ·rw [eL]
   exact List.length_filter_lt_length_iff_exists.2 ⟨e,he,by simp⟩
  ·by_cases hb2:x.born=e.born
   ·right
    have hxE:x∈es.toList:=by
     unfold leftOf at hx
     simp at hx ⊢
     exact hx.1
    rw [born_inj h4.2 hxE heE hb2,k1]
   ·left
    rw [eL]
    exact List.mem_filter.2 ⟨hx,by simpa using hb2⟩
  ·have:=run_entry_at (P:=P) _ r b since seen es clock e hrr hrb heE h4.2
   rw [k1,k2] at this
   exact this
end
open Go Go.RowKit
theorem setCells_block (b:Nat) (E:TypeId):∀ (vs:List Value) (o:Nat) (w:World) (cur:Array Value),w.heap[b]? = some (.cells cur E (0,0))→∃ cur',(w.setCells b o vs).heap[b]? = some (.cells cur' E (0,0))∧cur'.size=cur.size
 | [],o,w,cur,h=>⟨cur,h,rfl⟩
 | v :: r,o,w,cur,h=>by
   obtain ⟨cur',h1,h2⟩:=setCells_block b E r (o+1) (w.setCell ⟨b,o,none⟩ v) _ (heap_setCell_same w b o cur E v h)
   exact ⟨cur',h1,by rw [h2];simp⟩
theorem setCells_grown (b:Nat):∀ (vs:List Value) (o:Nat) (w:World),w.grownBy (w.setCells b o vs) (some b)
 | [],o,w=>⟨rfl,rfl,rfl,Nat.le_refl _,fun _ _ _=>rfl⟩
 | v :: r,o,w=>by
   have h:=setCells_grown b r (o+1) (w.setCell ⟨b,o,none⟩ v)
   have hs:(w.setCell ⟨b,o,none⟩ v).heap.size=w.heap.size:=by simp [World.setCell]
   exact ⟨h.os,h.tape,h.output,by rw [← hs];exact h.size,fun k hk hne=>(h.block k (by rw [hs];exact hk) hne).trans (Below.heap_setCell _ _ _ _ (fun e=>hne (by rw [e])))⟩
def TailRow (w:World) (base:Nat) (E:TypeId) (v:Value) (n:Nat) (xs:List Value):Prop :=
 xs.length=n∧((n=0∧∃ a,v=.slice a 0 0) ∨
  ∃ g o cap cur,v=.slice (some ⟨g,o,none⟩) n cap∧base≤g∧w.heap[g]? = some (.cells cur E (0,0))∧n≤cap∧cap≤maxLen∧cur.size=o+cap∧∀ i u,xs[i]? = some u→cur[o+i]? = some u)
section
variable {w w':World} {base n:Nat} {E:TypeId} {v:Value} {xs:List Value}
theorem TailRow.of_own (h:w.ownsRow base E 1 v n xs):TailRow w base E v n xs:=by
 obtain ⟨h1,h2⟩:=h
 refine ⟨by simpa using h1,?_⟩
 rcases h2 with ⟨rfl,rfl⟩ | ⟨g,cap,cur,rfl,hg,hh,h3,h4,h5,h6⟩
 ·exact .inl ⟨rfl,none,rfl⟩
 ·refine .inr ⟨g,0,cap,cur,rfl,hg,hh,h3,h4,by simpa using h5,fun i u hu=>?_⟩
  rw [← h6,List.getElem?_take] at hu
  split at hu
  ·simpa using hu
  ·cases hu
theorem TailRow.shape (h:TailRow w base E v n xs):∃ a c,v=.slice a n c:=by
 rcases h.2 with ⟨rfl,a,rfl⟩ | ⟨g,o,cap,cur,rfl,_⟩
 ·exact ⟨a,0,rfl⟩
 ·exact ⟨_,cap,rfl⟩
theorem TailRow.op {a:Option Addr} {c:Nat} (h:TailRow w base E (.slice a n c) n xs):xs.length=n∧n≤c∧c≤9223372036854775807∧(0<n→∃ g o,a=some ⟨g,o,none⟩∧base≤g∧∀ i u,xs[i]? = some u→w.cell? ⟨g,o+i,none⟩=some u):=by
 refine ⟨h.1,?_⟩
 rcases h.2 with ⟨rfl,b,e⟩ | ⟨g,o,cap,cur,e,hg,hh,h1,h2,h3,h4⟩
 ·cases e
  exact ⟨Nat.le_refl _,by omega,fun h=>absurd h (by omega)⟩
 ·cases e
  unfold maxLen at h2
  refine ⟨h1,by omega,fun _=>⟨g,o,rfl,hg,fun i u hu=>?_⟩⟩
  rw [cell_of_row w g (o+i) cur E (0,0) hh]
  exact h4 i u hu
theorem TailRow.keep (h:TailRow w base E v n xs) (hk:∀ g,v.ownBlock=some g→g<w.heap.size→w'.heap[g]? = w.heap[g]?):TailRow w' base E v n xs:=by
 refine ⟨h.1,?_⟩
 rcases h.2 with h0 | ⟨g,o,cap,cur,rfl,hg,hh,r⟩
 ·exact .inl h0
 ·exact .inr ⟨g,o,cap,cur,rfl,hg,(hk g rfl (Array.getElem?_eq_some_iff.1 hh).1).trans hh,r⟩
theorem TailRow.ext (h:TailRow w base E v n xs) (k:Ext w w'):TailRow w' base E v n xs:=h.keep fun g _ hg=>k.block g hg
theorem TailRow.tail {P:Program} {t:TypeId} {i:TypeInfo} {x:Value} {a:Option Addr} {c:Nat} (ht:P.underlying t=some (.slice E)) (hi:P.info? E=some i) (hsz:i.size=1) (h:TailRow w base E (.slice a n c) n (x :: xs)) :
  ∃ a',(∀ W:World,(Instr.slice t (.slice a n c) (some (.int .i64 1)) none none).run P W=.ok (.slice a' (n - 1) (c - 1)) W)∧TailRow w base E (.slice a' (n - 1) (c - 1)) (n - 1) xs:=by
 have hl:xs.length+1=n:=by have:=h.1;simpa using this
 have hel:P.elem t=E:=by simp [Program.elem,ht]
 have hu:P.underlying t=some (.slice (P.elem t)):=by rw [hel];exact ht
 obtain ⟨_,hc,_,_⟩:=h.op
 have hrun:∀ W:World,(Instr.slice t (.slice a n c) (some (.int .i64 1)) none none).run P W=.ok (.slice (if c=1 then a else a.map (·.add 1)) (n - 1) (c - 1)) W:=fun W=>by
  have:=run_slice_l W t a n c hu .i64 (1:Int) (by omega) (by omega)
  rw [this,hel]
  simp [sizeOf,typeInfo,hi,hsz,sliced,Result.andThen]
 refine ⟨_,hrun,by omega,?_⟩
 rcases h.2 with ⟨rfl,b,e⟩ | ⟨g,o,cap,cur,e,hg,hh,h1,h2,h3,h4⟩
 ·omega
 ·cases e
  by_cases h1c:c=1
  ·rw [if_pos h1c]
   refine .inl ⟨by omega,?_⟩
   rw [show n - 1=0 by omega,show c - 1=0 by omega]
   exact ⟨_,rfl⟩
  ·rw [if_neg h1c]
   refine .inr ⟨g,o+1,c - 1,cur,?_,hg,hh,by omega,by unfold maxLen at *;omega,by omega,fun i u hu=>?_⟩
   ·simp only [Option.map_some,Addr.add]
    split<;>simp_all
   ·have:=h4 (i+1) u (by simpa using hu)
    rw [show o+1+i=o+(i+1) by omega]
    exact this
theorem run_append_tail {P:Program} {t tx:TypeId} {i:TypeInfo} {z:Value} {bytes:Nat} (ht:P.underlying t=some (.slice E)) (hi:P.info? E=some i) (hz:i.zero=some z) (hsz:i.size=1) (hby:i.bytes=bytes) (hzs:z.cells.size=1) (ty:TypeId)
  (h:TailRow w base E v n xs) (x:Value) (m:Nat) (news:List Value) (hs:Src P 1 tx x m news w) (hb:base≤w.heap.size) (h63:n+m≤4194304) (hbytes:(n+m)*bytes≤140737488355328) :
  ∃ v' w',(Builtin.append_ #[t,tx] ty #[v,x]).run P w=.ok v' w'∧TailRow w' base E v' (n+m) (xs ++ news)∧w.grownBy w' v.ownBlock∧(v'.ownBlock=v.ownBlock∨v'.ownBlock=some w.heap.size):=by
 obtain ⟨a,c,rfl⟩:=h.shape
 obtain ⟨hxl,hnc,hcm,hcells⟩:=h.op
 have hnl:news.length=m:=by have:=hs.newsLen;simpa using this
 have hlen:(xs ++ news).length=n+m:=by rw [List.length_append,hxl,hnl]
 by_cases hm:m=0
 ·subst hm
  have hnn:news=[]:=List.eq_nil_of_length_eq_zero hnl
  subst hnn
  refine ⟨.slice a n c,w,run_append_nothing w t tx ty E i ht hi a n c hnc x (by rw [hsz];exact hs),by simpa using h,⟨rfl,rfl,rfl,Nat.le_refl _,fun _ _ _=>rfl⟩,.inl rfl⟩
 ·by_cases hroom:n+m≤c
  ·rcases h.2 with ⟨rfl,b,e⟩ | ⟨g,o,cap,cur,e,hg,hh,h1,h2,h3,h4⟩
   ·cases e;omega
   ·cases e
    have hci:∀ j,j<news.length→(w.cell? ⟨g,o+n+j,none⟩).isSome=true:=fun j hj=>by
     rw [cell_of_row w g _ cur E (0,0) hh,Array.getElem?_eq_getElem (by omega)];rfl
    have hr:=run_append_room_src (P:=P) w t tx ty E i ht hi g o n c x m news (by rw [hsz];exact hs) hroom (by rw [hsz,Nat.mul_one];exact hci) (fun j hj=>frozen_of_row w g _ cur E hh)
    rw [hsz,Nat.mul_one] at hr
    obtain ⟨cur',k1,k2⟩:=setCells_block g E news (o+n) w cur hh
    refine ⟨_,_,hr,⟨hlen,.inr ⟨g,o,c,cur',rfl,hg,k1,hroom,h2,by omega,fun j u hu=>?_⟩⟩,setCells_grown g news (o+n) w,.inl rfl⟩
    rw [← cell_of_row _ g (o+j) cur' E (0,0) k1]
    by_cases hj:j<n
    ·rw [World.cell?_setCells_out g news (o+n) w ⟨g,o+j,none⟩ (fun _ _=>.inl (by simp only;omega)),cell_of_row w g _ cur E (0,0) hh]
     rw [List.getElem?_append_left (by omega)] at hu
     exact h4 j u hu
    ·rw [List.getElem?_append_right (by omega),hxl] at hu
     have hjn:j - n<news.length:=(List.getElem?_eq_some_iff.1 hu).1
     have:=World.cell?_setCells_in g news (o+n) w hci (j - n) hjn
     rw [show o+n+(j - n)=o+j by omega] at this
     rw [this,← hu,List.getElem?_eq_getElem hjn]
  ·have holds:(Builtin.firstCells i.size n (.slice a n c)).run P w.drew=.ok xs.toArray w.drew:=by
    rw [hsz]
    by_cases h0:0<n
    ·obtain ⟨g,o,rfl,_,hc⟩:=hcells h0
     refine run_firstCells_some w.drew 1 n ⟨g,o,none⟩ n c xs (by omega) (fun j u hu=>?_)
     have e:((⟨g,o,none⟩:Addr).add j)=⟨g,o+j,none⟩:=by
      unfold Addr.add
      split<;>simp_all
     rw [e]
     simpa using hc j u hu
    ·obtain rfl:n=0:=by omega
     have hx:xs=[]:=List.eq_nil_of_length_eq_zero hxl
     subst hx
     simp [Builtin.firstCells,loadCells,loadCellsFrom]
     cases a<;>rfl
   have hr:=run_append_grow_src (P:=P) w t tx ty E i z ht hi hz a n c xs holds x m news (by rw [hsz];exact hs) (by omega) (by omega) (by rw [hby];exact growslice_fits (by omega) hbytes)
   have hge:=grownCap_ge w (n+m) c E
   have hcm2:grownCap w (n+m) c E≤maxLen:=grownCap_le_maxLen w (n+m) c E (by unfold maxLen;omega)
   refine ⟨_,_,hr,⟨hlen,.inr ⟨w.heap.size,0,_,_,rfl,hb,heap_alloc_new w.drew _,hge,hcm2,?_,fun j u hu=>?_⟩⟩,⟨rfl,rfl,rfl,by simp,fun k hk _=>(((Ext.refl w).drew).alloc _).block k hk⟩,.inr rfl⟩
   ·simp only [Array.size_append,List.size_toArray,size_zeroCells,hzs,hlen]
    omega
   ·have hj:=(List.getElem?_eq_some_iff.1 hu).1
    rw [Nat.zero_add,Array.getElem?_append_left (by simpa using hj)]
    simpa using hu
end
theorem Src.ofOwn {P:Program} {w:World} {base n:Nat} {E t:TypeId} {v:Value} {xs:List Value} (ht:P.underlying t=some (.slice E)) (h:w.ownsRow base E 1 v n xs) (h1:∀ u∈xs,u.oneCell'=true):Src P 1 t v n xs w:=by
 rcases h.2 with ⟨rfl,rfl⟩ | ⟨g,cap,cur,rfl,hg,hh,_⟩
 ·have hx:xs=[]:=List.eq_nil_of_length_eq_zero (by have:=h.1;simpa using this)
  subst hx
  exact Src.ofNil w ht 0
 ·exact Src.ofSlice w ht ⟨g,0,none⟩ n cap xs h.1 (h.cells (g:=g) rfl) h1
open Go Go.RowKit Md
section
variable {α:Type} [DecidableEq α] {kk:KeyKind α} {w w':World} {b c:Nat} {m:List (α×Value)}
theorem MapAt.ne_blk {g t:Nat} {arr:Array Value} (h:MapAt kk w b m) (hb:Blk w g t arr):b≠g:=by
 rintro rfl
 obtain ⟨es,clock,h1,_⟩:=h
 unfold Blk at hb
 rw [h1] at hb
 cases hb
theorem MapAt.ne_own {base e sz n:Nat} {v:Value} {xs:List Value} (h:MapAt kk w b m) (ho:w.ownsRow base e sz v n xs):v.ownBlock≠some b:=by
 intro e2
 obtain ⟨es,clock,h1,_⟩:=h
 rcases ho.2 with ⟨rfl,_⟩ | ⟨g,cap,cur,rfl,hg,hh,_⟩
 ·cases e2
 ·simp only [Value.ownBlock,Option.some.injEq] at e2
  rw [e2,h1] at hh
  cases hh
theorem MapAt.at_ (h:MapAt kk w b m) (k:w'.heap[b]? = w.heap[b]?):MapAt kk w' b m:=by
 obtain ⟨es,clock,h1,h2⟩:=h
 exact ⟨es,clock,k.trans h1,h2⟩
end
theorem own_keep {w w':World} {base e sz n:Nat} {v:Value} {xs:List Value} (h:w.ownsRow base e sz v n xs) (k:∀ g,v.ownBlock=some g→w'.heap[g]? = w.heap[g]?):w'.ownsRow base e sz v n xs:=by
 refine ⟨h.1,?_⟩
 rcases h.2 with h2 | ⟨g,cap,cur,rfl,hg,hh,r⟩
 ·exact .inl h2
 ·exact .inr ⟨g,cap,cur,rfl,hg,(k g rfl).trans hh,r⟩
theorem blk_keep {w w':World} {g t:Nat} {arr:Array Value} (h:Blk w g t arr) (k:w'.heap[g]? = w.heap[g]?):Blk w' g t arr:=k.trans h
structure ScAt (w:World) (base:Nat) (v:Value) (ms:List Nat) (mm:List MP):Prop where
 row:w.ownsRow base 142 1 v ms.length (ms.map fun b=>Value.map (some b))
 len:ms.length=mm.length
 maps:∀ (i b:Nat) (m:MP),ms[i]? = some b→mm[i]? = some m→MapAt strKey w b m
theorem ScAt.ext {w w':World} {base:Nat} {v:Value} {ms:List Nat} {mm:List MP} (h:ScAt w base v ms mm) (k:Ext w w'):ScAt w' base v ms mm :=
 ⟨rw_ext h.row k,h.len,fun i b m h1 h2=>(h.maps i b m h1 h2).ext k⟩
theorem ScAt.get {w:World} {base:Nat} {v:Value} {ms:List Nat} {mm:List MP} (h:ScAt w base v ms mm) {i:Nat} (hi:i<ms.length):∃ b m,ms[i]? = some b∧mm[i]? = some m∧MapAt strKey w b m:=by
 have hl:=h.len
 exact ⟨ms[i],mm[i],List.getElem?_eq_getElem hi,List.getElem?_eq_getElem (by omega),h.maps i _ _ (List.getElem?_eq_getElem hi) (List.getElem?_eq_getElem (by omega))⟩
structure CkS (w:World) (base:Nat) (ub:Value) (fn:Int) (C T:Nat) (v:Value) (ms:List Nat) (mm:List MP) (tk:MP):Prop where
 blk:Blk w C 212 #[ub,.int .i64 fn,v,.map (some T)]
 sc:ScAt w base v ms mm
 taken:MapAt strKey w T tk
 nodup:ms.Nodup
 apart:¬ T∈ms
 low:base≤C∧base≤T∧∀ b∈ms,base≤b
section
variable {w w':World} {base:Nat} {ub:Value} {fn:Int} {C T:Nat} {v v':Value} {ms:List Nat} {mm:List MP} {tk tk' m m':MP} {b:Nat}
theorem CkS.ext (h:CkS w base ub fn C T v ms mm tk) (k:Ext w w'):CkS w' base ub fn C T v ms mm tk :=
 ⟨h.blk.ext k,h.sc.ext k,h.taken.ext k,h.nodup,h.apart,h.low⟩
theorem CkS.turnT (h:CkS w base ub fn C T v ms mm tk) (ht:MapAt strKey w' T tk') (k:Turned w T w'):CkS w' base ub fn C T v ms mm tk' :=
 ⟨h.blk.turned k (fun e=>h.taken.ne_blk h.blk e.symm),⟨own_keep h.sc.row (fun g hg=>k.2.2.2.2 g (fun e=>h.taken.ne_own h.sc.row (e ▸ hg))),h.sc.len,fun i b m h1 h2=>(h.sc.maps i b m h1 h2).other k (fun e=>h.apart (e ▸ List.mem_of_getElem? h1))⟩,ht,h.nodup,h.apart,h.low⟩
theorem nodup_last {ms:List Nat} {b:Nat} (h:(ms ++ [b]).Nodup):¬ b∈ms:=fun hm=>(List.nodup_append.1 h).2.2 b hm b (by simp) rfl
theorem CkS.turnTop (h:CkS w base ub fn C T v (ms ++ [b]) (mm ++ [m]) tk) (ht:MapAt strKey w' b m') (k:Turned w b w') (hl:ms.length=mm.length) (hb:MapAt strKey w b m):CkS w' base ub fn C T v (ms ++ [b]) (mm ++ [m']) tk:=by
 refine ⟨h.blk.turned k (fun e=>hb.ne_blk h.blk e.symm),⟨own_keep h.sc.row (fun g hg=>k.2.2.2.2 g (fun e=>hb.ne_own h.sc.row (e ▸ hg))),by simp [hl],fun i c n h1 h2=>?_⟩,h.taken.other k (fun e=>h.apart (e ▸ (by simp))),h.nodup,h.apart,h.low⟩
 by_cases hi:i<ms.length
 ·rw [List.getElem?_append_left hi] at h1
  rw [List.getElem?_append_left (by omega)] at h2
  exact (h.sc.maps i c n (by rw [List.getElem?_append_left hi];exact h1) (by rw [List.getElem?_append_left (by omega)];exact h2)).other k (fun e=>nodup_last h.nodup (e ▸ List.mem_of_getElem? h1))
 ·rw [List.getElem?_append_right (by omega)] at h1
  rw [List.getElem?_append_right (by omega)] at h2
  have e1:=List.mem_singleton.1 (List.mem_of_getElem? h1)
  have e2:=List.mem_singleton.1 (List.mem_of_getElem? h2)
  subst e1
  subst e2
  exact ht
theorem CkS.top (h:CkS w base ub fn C T v (ms ++ [b]) (mm ++ [m]) tk) (hl:ms.length=mm.length):MapAt strKey w b m :=
 h.sc.maps ms.length b m (by simp) (by rw [hl];simp)
theorem CkS.push {w1 w2:World} (h:CkS w base ub fn C T v ms mm tk) (k1:Ext w w1) (hb:w.heap.size≤b) (hm:MapAt strKey w1 b []) (hbase:base≤w.heap.size) (hg:w1.grownBy w2 v.ownBlock)
  (ho:w2.ownsRow base 142 1 v' (ms.length+1) ((ms.map fun b=>Value.map (some b)) ++ [.map (some b)])):CkS (w2.setCell ⟨C,2,none⟩ v') base ub fn C T v' (ms ++ [b]) (mm ++ [[]]) tk∧Below base w (w2.setCell ⟨C,2,none⟩ v'):=by
 have h1:=h.ext k1
 have hC:some C≠v.ownBlock:=own_ne_blk h1.sc.row h1.blk (by decide)
 have hb2:Blk w2 C 212 #[ub,.int .i64 fn,v,.map (some T)]:=blk_grownBy h1.blk hg hC
 have keep:∀ (c:Nat) (n:MP),MapAt strKey w1 c n→MapAt strKey (w2.setCell ⟨C,2,none⟩ v') c n:=fun c n hc =>
  hc.at_ ((Below.heap_setCell _ _ _ _ (hc.ne_blk h1.blk)).trans (hg.block c hc.lt (fun e=>hc.ne_own h1.sc.row e.symm)))
 have hbs:∀ c,c∈ms→c<w.heap.size:=fun c hc=>by
  obtain ⟨i,hi,e⟩:=List.getElem_of_mem hc
  obtain ⟨b',m',h3,h4,h5⟩:=h.sc.get hi
  rw [List.getElem?_eq_getElem hi,e] at h3
  cases h3
  exact h5.lt
 refine ⟨⟨?_,⟨?_,by simp [h.sc.len],fun i c n h3 h4=>?_⟩,keep _ _ h1.taken,?_,?_,h.low.1,h.low.2.1,?_⟩,?_⟩
 ·have:=hb2.set 2 v'
  exact this
 ·have:=own_set (j:=2) (u:=v') ho (own_ne_blk ho hb2 (by decide))
  rw [List.length_append,List.map_append]
  exact this
 ·have hl:=h.sc.len
  by_cases hi:i<ms.length
  ·rw [List.getElem?_append_left hi] at h3
   rw [List.getElem?_append_left (by omega)] at h4
   exact keep _ _ (h1.sc.maps i c n h3 h4)
  ·rw [List.getElem?_append_right (by omega)] at h3
   rw [List.getElem?_append_right (by omega)] at h4
   have e1:=List.mem_singleton.1 (List.mem_of_getElem? h3)
   have e2:=List.mem_singleton.1 (List.mem_of_getElem? h4)
   subst e1
   subst e2
   exact keep _ _ hm
 ·refine List.nodup_append.2 ⟨h.nodup,by simp,fun x hx y hy=>?_⟩
  rw [List.mem_singleton.1 hy]
  have:=hbs x hx
  omega
 ·intro hm2
  rcases List.mem_append.1 hm2 with h3 | h3
  ·exact h.apart h3
  ·have:=h.taken.lt
   rw [List.mem_singleton.1 h3] at this
   omega
 ·intro c hc
  rcases List.mem_append.1 hc with h3 | h3
  ·exact h.low.2.2 c h3
  ·rw [List.mem_singleton.1 h3];omega
 ·exact Below.setCell (Below.grown (k1.mono hbase) hg (Nat.le_trans hbase k1.size) (fun g hg2=>(own_block h1.sc.row g hg2).1)) (p:=⟨C,2,none⟩) h.low.1 v'
theorem own_pop {w:World} {base E n:Nat} {a:Option Addr} {c:Nat} {xs:List Value} {y:Value} (h:w.ownsRow base E 1 (.slice a (n+1) c) (n+1) (xs ++ [y])):w.ownsRow base E 1 (.slice a n c) n xs:=by
 have hl:xs.length=n:=by have:=h.1;simpa using this
 rcases h.2 with ⟨h0,_⟩ | ⟨g,cap,cur,e,hg,hh,h1,h2,h3,h4⟩
 ·cases h0
 ·cases e
  refine ⟨by simpa using hl,.inr ⟨g,c,cur,rfl,hg,hh,by omega,h2,h3,?_⟩⟩
  have:=congrArg (List.take n) h4
  rw [List.take_take,List.take_left' hl] at this
  rw [← this]
  congr 1
  omega
theorem CkS.pop {a:Option Addr} {n c:Nat} (h:CkS w base ub fn C T (.slice a (n+1) c) (ms ++ [b]) (mm ++ [m]) tk) (hn:ms.length=n):CkS (w.setCell ⟨C,2,none⟩ (.slice a n c)) base ub fn C T (.slice a n c) ms mm tk:=by
 have hl:ms.length=mm.length:=by have:=h.sc.len;simpa using this
 have hrow:=h.sc.row
 rw [List.length_append,List.map_append,List.length_singleton,hn] at hrow
 have hpop:=own_pop hrow
 have keep:∀ (c':Nat) (n':MP),MapAt strKey w c' n'→MapAt strKey (w.setCell ⟨C,2,none⟩ (.slice a n c)) c' n':=fun c' n' hc=>hc.at_ (Below.heap_setCell _ _ _ _ (hc.ne_blk h.blk))
 refine ⟨h.blk.set 2 _,⟨?_,hl,fun i c' n' h3 h4=>?_⟩,keep _ _ h.taken,(List.nodup_append.1 h.nodup).1,fun hm=>h.apart (List.mem_append_left _ hm),h.low.1,h.low.2.1,fun c' hc=>h.low.2.2 c' (List.mem_append_left _ hc)⟩
 ·rw [hn]
  exact own_set hpop (own_ne_blk hpop h.blk (by decide))
 ·have hi:=(List.getElem?_eq_some_iff.1 h3).1
  exact keep _ _ (h.sc.maps i c' n' (by rw [List.getElem?_append_left hi];exact h3) (by rw [List.getElem?_append_left (by omega)];exact h4))
end
open Go Go.RowKit Md
structure Tch (w w':World) (C T:Nat) (ms:List Nat) (v v':Value):Prop where
 os:w'.os=w.os
 tape:w'.tape=w.tape
 output:w'.output=w.output
 size:w.heap.size≤w'.heap.size
 block:∀ k,k<w.heap.size→k≠C→k≠T→¬ k∈ms→v.ownBlock≠some k→w'.heap[k]? = w.heap[k]?
 row:v'.ownBlock=v.ownBlock∨∃ g,v'.ownBlock=some g∧w.heap.size≤g
section
variable {w w' w2:World} {base:Nat} {ub:Value} {fn:Int} {C T:Nat} {v v' v2:Value} {ms ms2:List Nat} {mm:List MP} {tk:MP} {b:Nat}
theorem Tch.ext (k:Ext w w'):Tch w w' C T ms v v:=⟨k.os,k.tape,k.output,k.size,fun i hi _ _ _ _=>k.block i hi,.inl rfl⟩
theorem Tch.trans (h:Tch w w' C T ms v v') (k:Tch w' w2 C T ms2 v' v2) (hm:∀ b,b∈ms2→b∈ms∨w.heap.size≤b):Tch w w2 C T ms v v2:=by
 refine ⟨k.os.trans h.os,k.tape.trans h.tape,k.output.trans h.output,Nat.le_trans h.size k.size,fun i hi h1 h2 h3 h4=>?_,?_⟩
 ·refine (k.block i (Nat.lt_of_lt_of_le hi h.size) h1 h2 (fun hb=>?_) (fun e=>?_)).trans (h.block i hi h1 h2 h3 h4)
  ·rcases hm i hb with h5 | h5
   ·exact h3 h5
   ·omega
  ·rcases h.row with h5 | ⟨g,h5,h6⟩
   ·exact h4 (h5 ▸ e)
   ·rw [h5] at e
    cases e
    omega
 ·rcases k.row with h5 | ⟨g,h5,h6⟩
  ·rw [h5];exact h.row
  ·exact .inr ⟨g,h5,Nat.le_trans h.size h6⟩
theorem Tch.turn (k:Turned w b w') (hb:b=T∨b∈ms):Tch w w' C T ms v v:=by
 refine ⟨k.1,k.2.1,k.2.2.1,by rw [k.2.2.2.1];exact Nat.le_refl _,fun i hi h1 h2 h3 h4=>k.2.2.2.2 i (fun e=>?_),.inl rfl⟩
 subst e
 rcases hb with h5 | h5
 ·exact h2 h5
 ·exact h3 h5
theorem Tch.set (u:Value) (j:Nat) (hv:v'.ownBlock=v.ownBlock):Tch w (w.setCell ⟨C,j,none⟩ u) C T ms v v' :=
 ⟨rfl,rfl,rfl,by simp [World.setCell],fun i hi h1 _ _ _=>Below.heap_setCell _ _ _ _ h1,.inl hv⟩
theorem Tch.grown {w1 w2:World} (k1:Ext w w1) (hg:w1.grownBy w2 v.ownBlock) (hat:v'.ownBlock=v.ownBlock∨v'.ownBlock=some w1.heap.size) (j:Nat):Tch w (w2.setCell ⟨C,j,none⟩ v') C T ms v v':=by
 refine ⟨hg.os.trans k1.os,hg.tape.trans k1.tape,hg.output.trans k1.output,?_,fun i hi h1 _ _ h4=>?_,?_⟩
 ·have:(w2.setCell ⟨C,j,none⟩ v').heap.size=w2.heap.size:=by simp [World.setCell]
  rw [this]
  exact Nat.le_trans k1.size hg.size
 ·rw [Below.heap_setCell _ _ _ _ h1,hg.block i (Nat.lt_of_lt_of_le hi k1.size) (fun e=>h4 e.symm)]
  exact k1.block i hi
 ·rcases hat with h | h
  ·exact .inl h
  ·exact .inr ⟨_,h,k1.size⟩
theorem Tch.below (h:Tch w w' C T ms v v') (hS:CkS w base ub fn C T v ms mm tk):Below base w w' :=
 ⟨h.os,h.tape,h.output,h.size,fun k hk=>by
  by_cases hlt:k<w.heap.size
  ·refine h.block k hlt (fun e=>?_) (fun e=>?_) (fun e=>?_) (fun e=>?_)
   ·have:=hS.low.1;omega
   ·have:=hS.low.2.1;omega
   ·have:=hS.low.2.2 k e;omega
   ·have:=rw_ge hS.sc.row k e;omega
  ·have h1:=h.size
   have h2:=hS.blk.lt
   have h3:=hS.low.1
   omega⟩
theorem Tch.blk (h:Tch w w' C T ms v v') (hS:CkS w base ub fn C T v ms mm tk) {g t:Nat} {arr:Array Value} (hb:Blk w g t arr) (h1:t≠212) (h2:142≠t):Blk w' g t arr:=by
 refine blk_keep hb (h.block g hb.lt (fun e=>?_) (fun e=>?_) (fun e=>?_) (fun e=>?_))
 ·subst e
  have:=hS.blk
  unfold Blk at hb this
  rw [hb] at this
  simp only [Option.some.injEq,Obj.cells.injEq] at this
  exact h1 this.2.1
 ·exact hS.taken.ne_blk hb e.symm
 ·obtain ⟨i,hi,e2⟩:=List.getElem_of_mem e
  obtain ⟨b',m',h3,_,h5⟩:=hS.sc.get hi
  rw [List.getElem?_eq_getElem hi,e2] at h3
  cases h3
  exact h5.ne_blk hb rfl
 ·exact own_ne_blk hS.sc.row hb h2 e.symm
end
def CkOut (t:PTree) (base:Nat) (ub:Value) (fn:Int) (C T:Nat) (ms:List Nat) (v:Value) (w:World) (r:Ck) (Pm:List MP→Prop) (e:Ending) (w':World):Prop :=
 ∃ v' mm' tk',CkS w' base ub fn C T v' ms mm' tk'∧Tch w w' C T ms v v' ∧
  ((∃ er a,r=.bad er a∧e=.returned (.iface 69 (.agg #[.int .i64 er,.int .i64 fn,.int .i64 a])))∨(∃ tkl,r=.ok tkl∧e=.returned .nilIface∧TkRel t tk' tkl∧Pm mm'))
def BlockOk (K:Foot) (base:Nat) (t:PTree) (fs:List Fn) (ub:Value) (fn:Int) (C T:Nat) (n:Nat) (sts:List St):Prop :=
 ∀ (w:World) (vb:Value) (ts:List Value) (v:Value) (ms:List Nat) (mm:List MP) (tk:MP) (sc tkl:List ByteArray),SlV K w vb ts→All2 (StAt K w) ts sts→UnitAt K w ub t fs→CkS w base ub fn C T v ms mm tk →
  0<ms.length→ms.length+n≤1000→Names t mm sc→TkRel t tk tkl→base≤w.heap.size →
  Calls Tryz.prog 130 #[.pointer (some ⟨C,0,none⟩),vb] w (CkOut t base ub fn C T ms v w (ckBlk t sc tkl sts) (fun mm'=>mm'=mm))
def kindE (t:PTree) (sc tk:List ByteArray) (s:PStmt):Int :=
 if s.kind=1 then (if s.name∈tk∨0≤gsize t s.name then 2 else 0)
 else if s.kind=2 then useE t sc s.name false
 else if s.kind=3 then useE t sc s.name true
 else 0
theorem stE_eq (t:PTree) (sc tk:List ByteArray) (s:PStmt):stE t sc tk s=if exprE t sc (s.e ++ s.f)=0 then kindE t sc tk s else exprE t sc (s.e ++ s.f):=by
 rw [exprE_append]
 unfold stE kindE
 by_cases h1:exprE t sc s.e=0
 ·rw [if_pos h1,if_pos h1]
 ·rw [if_neg h1,if_neg h1]
  exact (if_neg h1).symm
def insR (t:PTree) (sc tk:List ByteArray) (T U:List St):Ck :=
 match ckBlk t sc tk T with
 | .bad e a=>.bad e a
 | .ok tk2=>ckBlk t sc tk2 U
theorem ckSt_eq (t:PTree) (sc tk:List ByteArray) (s:PStmt) (p:Nat) (x:Ex) (y:Option Ex) (T U:List St):ckSt t sc tk (.mk s p x y T U)=if stE t sc tk s=0 then insR t (sc1 s sc) (sc1 s tk) T U else .bad (stE t sc tk s) p:=by
 rw [ckSt]
 rfl
theorem exprE_drop {t:PTree} {sc:List ByteArray} {l:List PNode} {k:Nat} {n:PNode} (h:l[k]? = some n):exprE t sc (l.drop k)=if nodeE t sc n=0 then exprE t sc (l.drop (k+1)) else nodeE t sc n:=by
 obtain ⟨hk,e⟩:=List.getElem?_eq_some_iff.1 h
 rw [List.drop_eq_getElem_cons hk,e,exprE]
theorem keep_below {K:Foot} {base:Nat} {w w':World} (hK:∀ b,K b→b<base) (k:Below base w w'):Keep K w w':=fun b hb _=>k.block b (hK b hb)
theorem exec_upd {P:Program} {o:Oper} {t:TypeId} {mo x vo:Operand} {a:Act} {w w':World} {vm vx v:Value} (ho:o.op=.mapUpdate t mo x vo) (hm:a.eval mo=vm) (hx:a.eval x=vx) (hv:a.eval vo=v)
  (hr:(Instr.mapUpdate t vm vx v).run P w=.ok () w'):(execOp a.eval o).run P w=.ok .skip w':=by
 unfold execOp
 simp [ho,hm,hx,hv,hr,Result.andThen]
end Go.Proofs.YtcfggjmdcaoecaaGreatDoor
