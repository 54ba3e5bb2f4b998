/- A part of the proofs of FnBound and FnCheck: the lemmas and walks MdBound. -/
import Derived.Test.YtcfggjmdcaoecaaGreatDoorB19
import Derived.Test.YtcfggjmdcaoecaaGreatDoorB22
set_option linter.unusedVariables false
set_option linter.unusedSimpArgs false
namespace Go.Proofs.YtcfggjmdcaoecaaGreatDoor.Md
open Go
def fsz (t:PTree) (f:Int):Nat:=(t.funcs[f.toNat]?.map frameSz).getD 0
def maxL (g:Int→Nat) (l:List Int):Nat:=l.foldl (fun m x=>max m (g x)) 0
def Dn (t:PTree):Nat→Int→Nat
 | 0,_=>0
 | r+1,f=>maxL (Dn t r) (succ t f)+fsz t f
def Low (t:PTree):Nat→Int→Prop
 | 0,_=>False
 | r+1,f=>∀ c∈succ t f,Low t r c
theorem Low.step {t:PTree} : ∀ {r:Nat} {f:Int},Low t r f→Low t (r+1) f
 | 0,_,h=>h.elim
 | _+1,_,h=>fun c hc=>Low.step (h c hc)
theorem Low.mono {t:PTree} {r s:Nat} {f:Int} (h:Low t r f) (hs:r≤s):Low t s f:=by
 induction hs with
 | refl=>exact h
 | step _ ih=>exact ih.step
theorem foldl_max_congr {g g':Int→Nat} : ∀ (l:List Int) (m:Nat),(∀ x∈l,g x=g' x)→l.foldl (fun m x=>max m (g x)) m=l.foldl (fun m x=>max m (g' x)) m
 | [],_,_=>rfl
 | a :: r,m,h=>by
   rw [List.foldl_cons,List.foldl_cons,h a List.mem_cons_self]
   exact foldl_max_congr r _ (fun x hx=>h x (List.mem_cons_of_mem _ hx))
theorem maxL_congr {g g':Int→Nat} {l:List Int} (h:∀ x∈l,g x=g' x):maxL g l=maxL g' l:=foldl_max_congr l 0 h
theorem foldl_max_le {g:Int→Nat} {B:Nat} : ∀ (l:List Int) (m:Nat),m≤B→(∀ x∈l,g x≤B)→l.foldl (fun m x=>max m (g x)) m≤B
 | [],_,hm,_=>hm
 | a :: r,m,hm,h=>foldl_max_le r _ (Nat.max_le.2 ⟨hm,h a List.mem_cons_self⟩) (fun x hx=>h x (List.mem_cons_of_mem _ hx))
theorem maxL_le {g:Int→Nat} {l:List Int} {B:Nat} (h:∀ x∈l,g x≤B):maxL g l≤B:=foldl_max_le l 0 (Nat.zero_le _) h
theorem foldl_max_mono {g g':Int→Nat} : ∀ (l:List Int) (m m':Nat),m≤m'→(∀ x∈l,g x≤g' x)→l.foldl (fun m x=>max m (g x)) m≤l.foldl (fun m x=>max m (g' x)) m'
 | [],_,_,hm,_=>hm
 | a :: r,m,m',hm,h=>foldl_max_mono r _ _ (by have:=h a List.mem_cons_self;show max m (g a)≤max m' (g' a);omega) (fun x hx=>h x (List.mem_cons_of_mem _ hx))
theorem maxL_mono {g g':Int→Nat} {l:List Int} (h:∀ x∈l,g x≤g' x):maxL g l≤maxL g' l:=foldl_max_mono l 0 0 (Nat.le_refl _) h
theorem Dn_eq {t:PTree} : ∀ {r:Nat} {f:Int},Low t r f→∀ {s:Nat},r≤s→Dn t s f=Dn t r f
 | 0,_,h,_,_=>h.elim
 | r+1,f,h,s,hs=>by
   obtain ⟨s,rfl⟩:∃ s',s=s'+1:=⟨s - 1,by omega⟩
   rw [Dn,Dn,maxL_congr fun c hc=>Dn_eq (h c hc) (by omega)]
theorem Dn_le {t:PTree} {B:Nat} (hB:∀ f,fsz t f≤B):∀ (r:Nat) (f:Int),Dn t r f≤r*B
 | 0,_=>Nat.zero_le _
 | r+1,f=>by
   rw [Dn,Nat.succ_mul]
   exact Nat.add_le_add (maxL_le fun c _=>Dn_le hB r c) (hB f)
def IsCh (t:PTree):Int→List Int→Prop
 | _,[]=>True
 | a,b :: r=>b∈succ t a∧IsCh t b r
theorem no_low {t:PTree} : ∀ {r:Nat} {f:Int},¬ Low t r f→∃ l:List Int,l.length=r∧IsCh t f l
 | 0,_,_=>⟨[],rfl,trivial⟩
 | r+1,f,h=>by
   obtain ⟨c,hc,hl⟩:∃ c,c∈succ t f∧¬ Low t r c:=Classical.byContradiction fun hn=>h fun c hc=>Classical.byContradiction fun hl=>hn ⟨c,hc,hl⟩
   obtain ⟨l,h1,h2⟩:=no_low hl
   exact ⟨c :: l,by simp [h1],hc,h2⟩
theorem Rch.cons {t:PTree} {a b x:Int} (h:b∈succ t a) (k:Rch t [b] x):Rch t [a] x:=by
 induction k with
 | base hy hx =>
   rw [List.mem_singleton.1 hy] at hx
   exact .step (.base (List.mem_singleton.2 rfl) h) hx
 | step _ hx ih=>exact .step ih hx
theorem Rch.trans {t:PTree} {a b x:Int} (h:Rch t [a] b) (k:Rch t [b] x):Rch t [a] x:=by
 induction k with
 | base hy hx =>
   rw [List.mem_singleton.1 hy] at hx
   exact .step h hx
 | step _ hx ih=>exact .step ih hx
theorem ch_rch {t:PTree} : ∀ {l:List Int} {a:Int},IsCh t a l→∀ x∈l,Rch t [a] x
 | [],_,_,x,hx=>by cases hx
 | b :: r,a,h,x,hx=>by
   rcases List.mem_cons.1 hx with rfl | hx
   ·exact .base (List.mem_singleton.2 rfl) h.1
   ·exact Rch.cons h.1 (ch_rch h.2 x hx)
theorem ch_nodup {t:PTree} : ∀ {l:List Int} {a:Int},IsCh t a l→(∀ x,x=a∨Rch t [a] x→¬ Rch t [x] x)→(a :: l).Nodup
 | [],a,_,_=>by simp
 | b :: r,a,h,hn=>by
   refine List.nodup_cons.2 ⟨fun hm=>hn a (.inl rfl) (ch_rch h a hm),ch_nodup h.2 fun x hx=>hn x (.inr ?_)⟩
   rcases hx with rfl | hx
   ·exact .base (List.mem_singleton.2 rfl) h.1
   ·exact Rch.cons h.1 hx
theorem nodup_le:∀ {l l':List Int},l.Nodup→(∀ x∈l,x∈l')→l.length≤l'.length
 | [],_,_,_=>Nat.zero_le _
 | a :: r,l',hn,hs=>by
   obtain ⟨h1,h2⟩:=List.nodup_cons.1 hn
   have ha:=hs a List.mem_cons_self
   have:=nodup_le (l:=r) (l':=l'.erase a) h2 (fun x hx=>(List.mem_erase_of_ne (by rintro rfl;exact h1 hx)).2 (hs x (List.mem_cons_of_mem _ hx)))
   rw [List.length_erase_of_mem ha] at this
   have:=List.length_pos_of_mem ha
   rw [List.length_cons]
   omega
def MetF (t:PTree) (m f:Int):Prop:=f=m∨Rch t [m] f
theorem MetF.succ {t:PTree} {m f c:Int} (h:MetF t m f) (hc:c∈succ t f):MetF t m c:=by
 rcases h with rfl | h
 ·exact .inr (.base (List.mem_singleton.2 rfl) hc)
 ·exact .inr (.step h hc)
theorem met_low {t:PTree} {m:Int} (hn:∀ x,MetF t m x→¬ Rch t [x] x) {live:List Int} (hl:∀ x,MetF t m x→x∈live) {f:Int} (hf:MetF t m f):Low t live.length f:=by
 refine Classical.byContradiction fun hno=>?_
 obtain ⟨l,h1,h2⟩:=no_low hno
 have hall:∀ x,x=f∨Rch t [f] x→MetF t m x:=fun x hx=>by
  rcases hx with rfl | hx
  ·exact hf
  ·rcases hf with rfl | hf
   ·exact .inr hx
   ·exact .inr (Rch.trans hf hx)
 have h3:=nodup_le (ch_nodup h2 fun x hx=>hn x (hall x hx)) (l':=live) (fun x hx=>hl x (hall x (by
  rcases List.mem_cons.1 hx with rfl | hx
  ·exact .inl rfl
  ·exact .inr (ch_rch h2 x hx))))
 rw [List.length_cons,h1] at h3
 omega
def deep (t:PTree) (f:Int):Nat:=Dn t t.funcs.length f
theorem met_all {t:PTree} {m:Int} (hm:0≤m∧m<t.funcs.length) {x:Int} (h:MetF t m x):0≤x∧x<t.funcs.length:=by
 rcases h with rfl | h
 ·exact hm
 ·exact h.range
theorem met_n {t:PTree} {m:Int} (hm:0≤m∧m<t.funcs.length) (hn:∀ x,MetF t m x→¬ Rch t [x] x) {f:Int} (hf:MetF t m f):Low t t.funcs.length f:=by
 have h:=met_low hn (live:=(List.range t.funcs.length).map Int.ofNat) (fun x hx=>by
  obtain ⟨h1,h2⟩:=met_all hm hx
  exact List.mem_map.2 ⟨x.toNat,List.mem_range.2 (by omega),by show ((x.toNat:Nat):Int)=x;omega⟩) hf
 simpa using h
theorem deep_eq {t:PTree} {m:Int} (hm:0≤m∧m<t.funcs.length) (hn:∀ x,MetF t m x→¬ Rch t [x] x) {f:Int} (hf:MetF t m f):deep t f=maxL (deep t) (succ t f)+fsz t f:=by
 have h:=met_n hm hn hf
 unfold deep
 rw [← Dn_eq h (Nat.le_succ _),Dn]
theorem check_met {t:PTree} {fs:List (PFunc×List St)} (h:(checkR t fs).1=0):0≤findF t mainB∧∀ x,MetF t (findF t mainB) x→¬ Rch t [x] x:=by
 have hn:(namesR t).1=0:=by
  by_cases hn:(namesR t).1=0
  ·exact hn
  ·rw [checkR_bad hn] at h
   exact absurd h hn
 have hm:=(namesR_ok hn).2
 refine ⟨hm,fun x hx hr=>?_⟩
 unfold checkR at h
 rw [if_pos hn] at h
 cases hb:bodiesR t fs 0 with
 | some r =>
   rw [hb] at h
   exact absurd h (bodiesR_some hb)
 | none =>
   rw [hb] at h
   have hz:∀ (j k:Nat),recFrom t (findF t mainB) j k=none→∀ q,k≤q→q<k+j→¬ RecAt t (findF t mainB) (q:Int):=by
    intro j
    induction j with
    | zero=>intro k _ q h1 h2;omega
    | succ j ih =>
      intro k hk q h1 h2
      by_cases hc:RecAt t (findF t mainB) (k:Int)
      ·rw [recFrom_yes hc] at hk;cases hk
      ·rw [recFrom_no hc] at hk
       by_cases hq:q=k
       ·rw [hq];exact hc
       ·exact ih (k+1) hk q (by omega) (by omega)
   cases hc:recFrom t (findF t mainB) t.funcs.length 0 with
   | some f =>
     rw [hc] at h
     exact absurd h (by simp)
   | none =>
     have hrg:=hr.range
     obtain ⟨q,rfl⟩:∃ q:Nat,x=q:=⟨x.toNat,by omega⟩
     exact hz _ _ hc q (Nat.zero_le _) (by omega) ⟨hx.symm,hr⟩
structure AtR (t:PTree) (m:Int) (live:List Int) (r k:Nat) (S:Nat→Nat):Prop where
 le:∀ i:Nat,S i≤deep t (i:Int)
 low:∀ f,MetF t m f→Low t r f→S f.toNat=deep t f
 now:∀ (j:Nat) (f:Int),j<k→live[j]? = some f→Low t (r+1) f→S f.toNat=deep t f
def updS (S:Nat→Nat) (f v:Nat):Nat→Nat:=fun i=>if i=f then v else S i
theorem AtR.zero (t:PTree) (m:Int) (live:List Int):AtR t m live 0 0 (fun _=>0):=⟨fun _=>Nat.zero_le _,fun _ _ h=>h.elim,fun _ _ h=>absurd h (Nat.not_lt_zero _)⟩
theorem AtR.next {t:PTree} {m:Int} {live:List Int} {r:Nat} {S:Nat→Nat} (h:AtR t m live r live.length S) (hl:∀ x,MetF t m x→x∈live):AtR t m live (r+1) 0 S :=
 ⟨h.le,fun f hf hlow=>by
  obtain ⟨j,hj,e⟩:=List.getElem_of_mem (hl f hf)
  exact h.now j f hj (by rw [List.getElem?_eq_getElem hj,e]) hlow,fun _ _ h=>absurd h (Nat.not_lt_zero _)⟩
theorem succ_nat {t:PTree} {f c:Int} (h:c∈succ t f):((c.toNat:Nat):Int)=c:=by
 have:=(succ_range h).1
 omega
theorem AtR.step {t:PTree} {m:Int} {live:List Int} {r k:Nat} {S:Nat→Nat} {f:Int} (hm:0≤m∧m<t.funcs.length) (hn:∀ x,MetF t m x→¬ Rch t [x] x) (h:AtR t m live r k S) (hlv:∀ x∈live,0≤x) (hf:live[k]? = some f) (hmet:MetF t m f) :
  AtR t m live r (k+1) (updS S f.toNat (maxL (fun x=>S x.toNat) (succ t f)+fsz t f)):=by
 have hf0:=(met_all hm hmet).1
 have hD:=deep_eq hm hn hmet
 have hnew:Low t (r+1) f→maxL (fun x=>S x.toNat) (succ t f)+fsz t f=deep t f:=fun hl=>by
  rw [hD]
  congr 1
  exact maxL_congr fun c hc=>h.low c (hmet.succ hc) (hl c hc)
 refine ⟨fun i=>?_,fun g hg hl=>?_,fun j g hj hjg hl=>?_⟩
 ·unfold updS
  by_cases hi:i=f.toNat
  ·rw [if_pos hi,hi,show ((f.toNat:Nat):Int)=f by omega,hD]
   refine Nat.add_le_add_right (maxL_mono fun c hc=>?_) _
   have:=h.le c.toNat
   rw [succ_nat hc] at this
   exact this
  ·rw [if_neg hi];exact h.le i
 ·have hg0:=(met_all hm hg).1
  unfold updS
  by_cases hi:g.toNat=f.toNat
  ·obtain rfl:g=f:=by omega
   rw [if_pos rfl];exact hnew hl.step
  ·rw [if_neg hi];exact h.low g hg hl
 ·unfold updS
  by_cases hi:g.toNat=f.toNat
  ·rw [if_pos hi]
   by_cases hjk:j=k
   ·obtain rfl:f=g:=by rw [hjk,hf] at hjg;exact Option.some.inj hjg
    exact hnew hl
   ·have hg0:=hlv g (List.mem_of_getElem? hjg)
    obtain rfl:g=f:=by omega
    exact hnew hl
  ·rw [if_neg hi]
   refine h.now j g ?_ hjg hl
   by_cases hjk:j=k
   ·obtain rfl:f=g:=by rw [hjk,hf] at hjg;exact Option.some.inj hjg
    exact absurd rfl hi
   ·omega
theorem AtR.fin {t:PTree} {m:Int} {live:List Int} {S:Nat→Nat} (hn:∀ x,MetF t m x→¬ Rch t [x] x) (hl:∀ x,MetF t m x→x∈live) (h:AtR t m live live.length 0 S):S m.toNat=deep t m :=
 h.low m (.inl rfl) (met_low hn hl (.inl rfl))
def rowS (S:Nat→Nat) (n:Nat):List Int:=(List.range n).map fun i=>((S i:Nat):Int)
theorem rowS_at {S:Nat→Nat} {n i:Nat} (h:i<n):(rowS S n)[i]? = some ((S i:Nat):Int):=by
 unfold rowS
 rw [List.getElem?_map,List.getElem?_range h]
 rfl
theorem rowS_len (S:Nat→Nat) (n:Nat):(rowS S n).length=n:=by simp [rowS]
theorem rowS_set {S:Nat→Nat} {n f v:Nat} : (rowS S n).set f ((v:Nat):Int)=rowS (updS S f v) n:=by
 refine List.ext_getElem? fun i=>?_
 rw [List.getElem?_set,rowS_len]
 by_cases hi:i<n
 ·rw [rowS_at hi,rowS_at hi]
  unfold updS
  by_cases e:f=i
  ·rw [if_pos e,if_pos (by omega),if_pos e.symm]
  ·rw [if_neg e,if_neg (fun h=>e h.symm)]
 ·have h1:∀ S,(rowS S n)[i]? = none:=fun S=>List.getElem?_eq_none (by rw [rowS_len];omega)
  rw [h1,h1]
  split
  ·split
   ·omega
   ·rfl
  ·rfl
theorem fsz_le {t:PTree} (h:∀ x∈t.funcs,frameSz x≤2032) (f:Int):fsz t f≤2032:=by
 unfold fsz
 cases hx:t.funcs[f.toNat]? with
 | none=>simp
 | some x=>simpa using h x (List.mem_of_getElem? hx)
theorem deep_le {t:PTree} (h:∀ x∈t.funcs,frameSz x≤2032) (hn:t.funcs.length≤50) (f:Int):deep t f≤101600:=by
 have h1:=Dn_le (fsz_le h) t.funcs.length f
 have h2:t.funcs.length*2032≤50*2032:=Nat.mul_le_mul_right _ hn
 unfold deep
 omega
open Classical in
noncomputable def boundAns (t:PTree):Int:=if (checkAns t).1=0 then if ∃ x∈t.funcs,2032<frameSz x then -1 else (deep t (findF t mainB):Nat) else -1
end Go.Proofs.YtcfggjmdcaoecaaGreatDoor.Md
