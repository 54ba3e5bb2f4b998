/- A part of the proofs of FnBound and FnCheck: the lemmas and walks Sz, Marks, CallsFn. -/
import Derived.IntWalk
import Derived.Laws.Cells
import Derived.Laws.BytesString
import Derived.SliceStrings
import Derived.OpenVars
import Derived.LaidHandle
import Derived.Test.YtcfggjmdcaoecaaGreatDoorB03
import Derived.Test.YtcfggjmdcaoecaaGreatDoorB05
import Derived.Test.YtcfggjmdcaoecaaGreatDoorB13
import Derived.Test.YtcfggjmdcaoecaaGreatDoorB14
import Derived.Test.YtcfggjmdcaoecaaGreatDoorB12
import Derived.Test.YtcfggjmdcaoecaaGreatDoorB15
set_option linter.unusedVariables false
set_option linter.unusedSimpArgs false
namespace Go.Proofs.YtcfggjmdcaoecaaGreatDoor
open Go Go.RowKit Md
def lft (left:Int) (n:Nat):Int:=if left<n then -1 else left - n
def sumSz {α:Type} (f:α→Nat) (l:List α):Nat:=(l.map f).sum
def szL {α:Type} (f:α→Nat) (l:List α):Nat:=l.length+sumSz f l
def szNode (x:PNode):Nat:=x.name.size
def szGlobal (x:PGlob):Nat:=x.name.size
def szStmt (x:PStmt):Nat:=x.name.size+szL szNode x.e+szL szNode x.f
def szStr (x:ByteArray):Nat:=x.size
def szFunc (x:PFunc):Nat:=x.name.size+szL szStr x.params+szL szStmt x.body
def szTree (x:PTree):Nat:=szL szGlobal x.globals+szL szFunc x.funcs
open Go Go.RowKit Md
def NT (B:Nat) (w:World):Prop:=∀ b,B≤b→∀ c t fz,w.heap[b]? = some (.cells c t fz)→fz=(0,0)
structure TE (w w':World):Prop where
 e:Ext w w'
 nt:NT w.heap.size w'
theorem TE.trans {a b c:World} (h:TE a b) (k:TE b c):TE a c:=⟨h.e.trans k.e,fun x hx u t fz e=>by
 by_cases hl:x<b.heap.size
 ·rw [k.e.block x hl] at e
  exact h.nt x hx u t fz e
 ·exact k.nt x (by omega) u t fz e⟩
theorem TE.alloc {a b:World} (h:TE a b) (cs:Array Value) (t:Nat):TE a (b.alloc (.cells cs t)):=⟨h.e.alloc _,fun x hx u t' fz e=>by
 by_cases hl:x<b.heap.size
 ·rw [Below.heap_alloc _ _ _ hl] at e
  exact h.nt x hx u t' fz e
 ·have hx2:=(Array.getElem?_eq_some_iff.1 e).1
  obtain rfl:x=b.heap.size:=by simp at hx2;omega
  rw [heap_alloc_new] at e
  cases e
  rfl⟩
def MadeAgg {α:Type} (C:Foot→World→List Value→α→Prop) (x:α) (w:World) (e:Ending) (w':World):Prop :=
 ∃ cs:List Value,e=.returned (.agg cs.toArray)∧C (New w) w' cs x∧TE w w'
def MadeSl {α:Type} (sz:Nat) (C:Foot→World→List Value→α→Prop) (xs:List α) (w:World) (e:Ending) (w':World):Prop :=
 ∃ v,e=.returned v∧Sl (New w) w' sz (C (New w)) v xs∧TE w w'
open Go Go.RowKit Md
def isSl:Value→Bool
 | .slice _ _ _=>true
 | _=>false
def Rng (lo hi:Nat):Foot:=fun b=>lo≤b∧b<hi
structure Soft (lo hi:Nat) (w w':World):Prop where
 hl:lo≤hi
 hs:hi≤w.heap.size
 b:Below lo w w'
 up:∀ k,hi≤k→k<w.heap.size→w'.heap[k]? = w.heap[k]?
 cell:∀ (a:Addr) v,lo≤a.block→a.block<hi→w.cell? a=some v→∃ v',w'.cell? a=some v'∧(isSl v=true→v'=v)∧(isSl v=false→isSl v'=false)
 fz:∀ (a:Addr),lo≤a.block→a.block<hi→w'.frozen? a=w.frozen? a
def Thawed (lo hi:Nat) (w:World):Prop:=∀ a:Addr,lo≤a.block→a.block<hi→w.frozen? a=false
theorem Soft.trans {lo hi:Nat} {a b c:World} (h:Soft lo hi a b) (k:Soft lo hi b c):Soft lo hi a c :=
 ⟨h.hl,h.hs,h.b.trans k.b,fun x h1 h2=>(k.up x h1 (Nat.lt_of_lt_of_le h2 h.b.size)).trans (h.up x h1 h2),fun p v h1 h2 e=>by
  obtain ⟨v1,e1,s1,s2⟩:=h.cell p v h1 h2 e
  obtain ⟨v2,e2,s3,s4⟩:=k.cell p v1 h1 h2 e1
  refine ⟨v2,e2,fun hv=>?_,fun hv=>s4 (s2 hv)⟩
  have:=s1 hv
  subst this
  exact s3 hv,fun p h1 h2=>(k.fz p h1 h2).trans (h.fz p h1 h2)⟩
def Softly (cs cs':List Value):Prop:=cs'.length=cs.length∧∀ (i:Nat) v,cs[i]? = some v→∃ v',cs'[i]? = some v'∧(isSl v=true→v'=v)∧(isSl v=false→isSl v'=false)
def CFlat {α:Type} (w:World) (cs:List Value) (x:α):Prop:=∀ u∈cs,isSl u=false
def CStS (lo hi:Nat) (w:World) (cs:List Value) (s:PStmt):Prop :=
 ∃ u0 u1 vE vF u4 u5,cs=[u0,u1,vE,vF,u4,u5]∧(isSl u0=false∧isSl u1=false∧isSl u4=false∧isSl u5=false)∧Sl (Rng lo hi) w 3 CFlat vE s.e∧Sl (Rng lo hi) w 3 CFlat vF s.f
def CFnS (lo hi:Nat) (w:World) (cs:List Value) (f:PFunc):Prop :=
 ∃ u0 vP vB,cs=[u0,vP,vB]∧isSl u0=false∧Sl (Rng lo hi) w 1 CFlat vP f.params∧Sl (Rng lo hi) w 6 (CStS lo hi) vB f.body
def mkSt (s:PStmt):Nat:=4+3*s.e.length+3*s.f.length
def mkS (l:List PStmt):Nat:=(l.map mkSt).sum
def mkFn (f:PFunc):Nat:=1+f.params.length+mkS f.body
def mkF (l:List PFunc):Nat:=(l.map mkFn).sum
open Go Go.RowKit Md
def AStr (w:World) (e:Ending) (w':World):Prop:=∃ s,e=.returned (.string s)∧Ext w w'
open Go Go.RowKit Md
def Mkd (lo hi:Nat) (w:World) (k:Nat) (e:Ending) (w':World):Prop:=e=.returned (.int .i64 (k:Int))∧Soft lo hi w w'
open Go Go.RowKit Md
open Go Go.RowKit Md
abbrev RowI (w:World) (base:Nat) (v:Value) (xs:List Int):Prop:=w.ownsRow base 2 1 v xs.length (xs.map (Value.int .i64))
theorem RowI.at_ {w:World} {base g c n:Nat} {xs:List Int} (h:w.ownsRow base 2 1 (.slice (some ⟨g,0,none⟩) n c) n (xs.map (Value.int .i64))) {i:Nat} {x:Int} (hi:xs[i]? = some x):w.cell? ⟨g,i,none⟩=some (.int .i64 x)∧w.frozen? ⟨g,i,none⟩=false :=
 rw_at h (by rw [List.getElem?_map,hi];rfl)
def marksFrom (k n:Nat):List Int:=(List.range n).map fun i=>((k+i:Nat):Int)
def marked (k q:Nat) (xs:List Int):List Int:=marksFrom k q ++ xs.drop q
open Go Go.RowKit Md
open Go Go.RowKit Md
section
variable {H:Type} {enc:TypeId×Value→H} {W:World} {sp:Nat→Bool} {held:Bool}
end
open Go Go.RowKit Md Go.ChangeShapes
def Sizes (x:PTree):Prop:=x.globals.length≤1048576∧(x.funcs.length≤1048576∧∀ s∈x.funcs,s.params.length≤1048576∧(s.body.length≤1048576∧∀ q∈s.body,q.e.length≤1048576∧q.f.length≤1048576))
theorem CFunc.bound {K:Foot} {w:World} {cs:List Value} {s:PFunc} (h:CFunc K w cs s):CFunc (fun b=>K b∧b<w.heap.size) w cs s:=by
 obtain ⟨vP,vB,e,h1,h2,h3⟩:=h
 exact ⟨vP,vB,e,Sl.bound h1 (by decide),SlStmt.bound h2,h3⟩
theorem SlFunc.bound {K:Foot} {w:World} {v:Value} {l:List PFunc} (h:SlFunc K w v l):SlFunc (fun b=>K b∧b<w.heap.size) w v l :=
 Sl.keep (Sl.bound h (by decide)) (Keep.refl _ w) (fun _ _ _ h=>h.bound) (fun _ h=>h)
theorem SlGlob.bound {K:Foot} {w:World} {v:Value} {l:List PGlob} (h:SlGlob K w v l):SlGlob (fun b=>K b∧b<w.heap.size) w v l:=Sl.bound h (by decide)
theorem gRes:Tryz.prog.globalNamed "loop.example/s01725/impl.reserved" = some 1:=by kernel_rfl
theorem tRes:(Tryz.prog.globals[1]?).map (·.type)=some 80:=by kernel_rfl
def resData {H:Type} : List (DataW H):=resL.map fun l=>.lit (.string l)
theorem res_of_trod {W:World} {cs:Array Value} {f:Nat} {sp:Nat→Bool} {p:List MemPlace} {H:Type} {enc:TypeId×Value→H} {held:Bool} (hv:W.var? Tryz.prog "loop.example/s01725/impl.reserved" = some cs)
  (hd:DataW.trod enc Tryz.prog W 0 sp held f 80 cs.toList=some (.slice resData [],p)):Res W:=by
 rcases open_strings Tryz.underlying80 Tryz.underlying9 (by kernel_rfl) hd with ⟨_,hx⟩ | ⟨a,len,cap,ss,hcs,_,hl,hm,hsl,hx,hcell,hss⟩
 ·simp at hx
 simp only [Prod.mk.injEq,DataW.slice.injEq] at hx
 obtain ⟨⟨h1,h2⟩,_⟩:=hx
 have hd2:ss.drop len=[]:=by
  have:=congrArg List.length h2
  simp only [strs,List.length_map,List.length_nil] at this
  exact List.eq_nil_of_length_eq_zero this.symm
 have hlen:ss.length=len:=by
  have h3:=congrArg List.length hd2
  rw [List.length_drop,List.length_nil] at h3
  split at hsl<;>omega
 have hss2:ss.take len=ss:=List.take_of_length_le (by omega)
 rw [hss2] at h1
 have hml:ss.map (fun s=>s.data.toList)=resL:=by
  have h3:(resL.map fun l=>(DataW.lit (.string l):DataW H))=ss.map fun s=>.lit (.string s.data.toList):=h1
  have h4:=congrArg (List.map fun d:DataW H=>match d with | .lit (.string l)=>l | _=>[]) h3
  rw [List.map_map,List.map_map] at h4
  have e1:((fun d:DataW H=>match d with | .lit (.string l)=>l | _=>[]) ∘ fun l:List UInt8=>(DataW.lit (.string l):DataW H))=id:=by funext l;rfl
  have e2:((fun d:DataW H=>match d with | .lit (.string l)=>l | _=>[]) ∘ fun s:ByteArray=>(DataW.lit (.string s.data.toList):DataW H))=fun s=>s.data.toList:=by funext l;rfl
  rw [e1,e2,List.map_id] at h4
  exact h4.symm
 have hpos:0<len:=by
  rw [← hlen]
  have:=congrArg List.length hml
  rw [List.length_map] at this
  rw [this]
  decide
 have hspot:a.spot=none:=by
  have h0:=hcell 0 (by omega)
  cases hs:a.spot with
  | none=>rfl
  | some z =>
    exfalso
    have e:a.add 0=a:=by
     obtain ⟨ab,ao,asp⟩:=a
     simp [Addr.add]
    rw [e] at h0
    unfold World.cell? at h0
    split at h0
    ·simp [hs] at h0
    ·cases h0
 obtain ⟨b,o,s⟩:=a
 simp only at hspot
 subst hspot
 refine ⟨.slice (some ⟨b,o,none⟩) len cap,ss,?_,⟨some ⟨b,o,none⟩,cap,by rw [hlen],by omega,hm,fun _=>⟨b,o,rfl,trivial,fun i hi=>⟨[.string ss[i]],rfl,⟨rfl,hss _ (List.getElem_mem hi)⟩,fun q u hu=>?_⟩⟩⟩,?_⟩
 ·have:=World.var?_cell gRes hv 0
  rw [Array.eq_one_of_toList hcs] at this
  simpa using this
 ·have hq:q=0:=by
   have:=(List.getElem?_eq_some_iff.1 hu).1
   simp at this;omega
  subst hq
  simp at hu
  subst hu
  have:=hcell i hi
  have e:((⟨b,o,none⟩:Addr).add i)=⟨b,o+i*1+0,none⟩:=by
   unfold Addr.add
   split<;>simp_all
  rw [e] at this
  rw [this,List.getD_eq_getElem?_getD,List.getElem?_eq_getElem hi]
  rfl
 ·rw [← hml]
  exact List.map_congr_left fun s _=>toList_eq s
open Go Go.RowKit Md
def bodyAt (t:PTree) (f:Int):List PStmt:=(t.funcs[f.toNat]?.map fun x:PFunc=>x.body).getD []
def callsAns (t:PTree) (f:Int):List Int:=if valid t=true∧0≤f∧f<t.funcs.length then callsL t (bodyAt t f) else []
theorem valid_bounds {t:PTree} (h:valid t=true):t.globals.length≤50∧t.funcs.length≤50∧∀ x∈t.funcs,x.params.length≤6∧x.body.length≤500∧nodes x.body≤2000:=by
 unfold valid at h
 simp only [Bool.and_eq_true,decide_eq_true_eq,List.all_eq_true] at h
 refine ⟨h.1.1.1,h.1.1.2,fun x hx=>?_⟩
 have:=h.2 x hx
 unfold okFunc at this
 simp only [Bool.and_eq_true,decide_eq_true_eq] at this
 exact ⟨this.1.1.1.1.2,this.1.1.2,this.1.2⟩
theorem nodes_mem {l:List PStmt} {s:PStmt} (h:s∈l):s.e.length+s.f.length≤nodes l:=by
 induction l with
 | nil=>cases h
 | cons a r ih =>
   have e:nodes (a :: r)=(a.e.length+a.f.length)+nodes r:=by simp [nodes]
   rcases List.mem_cons.1 h with rfl | h
   ·omega
   ·have:=ih h;omega
theorem outL_nodes (t:PTree) (l:List PStmt):(outL t l).length≤nodes l:=by
 induction l with
 | nil=>simp [outL]
 | cons a r ih =>
   have e:nodes (a :: r)=(a.e.length+a.f.length)+nodes r:=by simp [nodes]
   have h1:outL t (a :: r)=outS t a ++ outL t r:=rfl
   have h2:(outS t a).length≤a.e.length+a.f.length:=by
    unfold outS
    have:=List.length_filterMap_le (callN t) (a.e ++ a.f)
    rw [List.length_append] at this
    exact this
   rw [h1,List.length_append]
   omega
theorem callsL_len (t:PTree) (l:List PStmt):(callsL t l).length≤t.funcs.length:=upTo_len (outL t l) t.funcs.length
theorem callsAns_at {t:PTree} {f:Nat} {x:PFunc} (hv:valid t=true) (hx:t.funcs[f]? = some x):callsAns t (f:Int)=callsL t x.body:=by
 have:=(List.getElem?_eq_some_iff.1 hx).1
 unfold callsAns
 rw [if_pos ⟨hv,by omega,by omega⟩]
 unfold bodyAt
 simp [hx]
set_option maxRecDepth 100000 in
set_option maxHeartbeats 2000000 in
theorem i_Calls (K:Foot) (t:PTree) (vG vF:Value) (f:Int) (w:World) (hG:SlGlob K w vG t.globals) (hF:SlFunc K w vF t.funcs) (hz:Small t) (hres:Res w) (hf : -9223372036854775808≤f∧f≤9223372036854775807) :
  Calls Tryz.prog 12 #[.agg #[vG,vF],.int .i64 f] w (Listed64 w (callsAns t f)):=by
 have HU:=Lib.hid (i_unit _ t vG vF (w.alloc (.cells #[vG,vF] 32)) ((SlGlob.bound hG).ext ((Ext.refl w).alloc _) (fun _ _ h=>h.any)) ((SlFunc.bound hF).ext ((Ext.refl w).alloc _) (fun _ _ h=>h.ext ((Ext.refl w).alloc _))) hz (hres.ext ((Ext.refl w).alloc _)) (fun b hb=>Nat.lt_of_lt_of_le hb.2 ((Ext.refl w).alloc _).size))
 obtain ⟨aG,nG,cG,rfl⟩:=hG.shape
 obtain ⟨aF,nF,cF,rfl⟩:=hF.shape
 have hlF:t.funcs.length=nF:=sl_len hF
 have hE:Ext w (w.alloc (.cells #[.slice aG nG cG,.slice aF nF cF] 32)):=(Ext.refl w).alloc _
 have hX:=Blk.alloc w 32 #[.slice aG nG cG,.slice aF nF cF]
 obtain ⟨i1,hi1,hy0,hy1,hy2⟩:=info_parts info_int64
 have HAppI:Hid (∀ (w0 wr:World) (v:Value) (n:Nat) (xs:List Int) (y:Int),Ext w0 wr→wr.ownsRow w0.heap.size 2 1 v n (xs.map (Value.int .i64))→n≤2000000 →
   ∃ v' w',(Builtin.append_ #[27,27] 27 #[v,.slice (some ⟨wr.heap.size,0,none⟩) 1 1]).run Tryz.prog (wr.alloc (.cells #[.int .i64 y] 2))=.ok v' w'∧w'.ownsRow w0.heap.size 2 1 v' (n+1) ((xs ++ [y]).map (Value.int .i64))∧Ext w0 w') :=
  fun w0 wr v n xs y hX ho hl=>app_one (P:=Tryz.prog) (Value.int .i64) (fun _=>rfl) Tryz.underlying27 hi1 hy0 hy1 hy2 rfl 27 hX ho y (by omega) (by omega)
 obtain ⟨R,hR⟩:∃ R,R=callsAns t f:=⟨_,rfl⟩
 rw [← hR]
 have HR:=Lib.hid hR
 have HlF:=Lib.hid hlF
 clear hG hF hz hlF hR hres
 go_enter Tryz.func12,Tryz.ntmps12
 go_wp2_with fail
 refine HU.out.mono ?_
 rintro e w2 (⟨hv,fs,v,hb,rfl,hu,hX2⟩ | ⟨hv,rfl,hX2⟩)
 ·have hvb:=valid_bounds hv
  have hnF:nF≤50:=by have:=HlF.out;omega
  have b0:=(hX.ext hX2).cell 0 |>.trans (show _=some (Value.slice aG nG cG) from rfl)
  have b1:=(hX.ext hX2).cell 1 |>.trans (show _=some (Value.slice aF nF cF) from rfl)
  have HX2:=Lib.hid (hE.trans hX2)
  have HUA:=Lib.hid hu
  obtain ⟨ub,_,_,_,_,rfl,_⟩:=hu
  by_cases hin:0≤f∧f<nF
  ·obtain ⟨g,rfl⟩:∃ g:Nat,f=g:=⟨f.toNat,by omega⟩
   obtain ⟨x,hx⟩:∃ x,t.funcs[g]? = some x:=⟨t.funcs[g]'(by have:=HlF.out;omega),List.getElem?_eq_getElem _⟩
   have hxb:=hvb.2.2 x (List.mem_of_getElem? hx)
   have HC:=Lib.hid (i_calls _ t fs _ g (g:Int) rfl x w2 HUA.out hx (by omega) (by omega) (fun s hs=>by have:=nodes_mem hs;omega) (by have:=outL_nodes t x.body;omega))
   have hRx:callsL t x.body=R:=by rw [HR.out,callsAns_at hv hx]
   rw [hRx] at HC
   have hRl:R.length≤50:=by rw [← hRx];have:=callsL_len t x.body;omega
   have g0:¬ ((g:Int)<0):=by omega
   have g1:¬ ((g:Int)≥(nF:Int)):=by omega
   clear hx hxb hRx hvb hv hb HU HUA hX hX2
   go_wp2_with fail
   refine HC.out.mono ?_
   rintro e w3 ⟨v,rfl,ho,hX3⟩
   obtain ⟨a,c,rfl⟩:=rw_form0 ho
   have HO:=Lib.hid ho
   have HX3:=Lib.hid hX3
   obtain ⟨nR,hnR⟩:∃ nR,nR=R.length:=⟨_,rfl⟩
   rw [← hnR] at HO
   have HnR:=Lib.hid hnR
   have hle:nR≤50:=by omega
   clear ho hX3 hRl
   try rw [← hnR]
   clear hnR
   go_wp2
   go_loopw [6,28] (fun v i wr=>∃ k:Nat,k≤nR∧i=.int .i64 k∧Hid (wr.ownsRow w3.heap.size 2 1 v k ((R.take k).map (Value.int .i64)))∧Ext w3 wr) (fun _ i _=>nR - (intOf i).toNat)
   case atStart=>exact ⟨0,Nat.zero_le _,rfl,World.ownsRow_nil _ _ _ _,Ext.refl _⟩
   case round =>
    obtain ⟨k,hk,rfl,HQ,hX⟩:=hrel
    by_cases hlt:k<nR
    ·obtain ⟨gA,cT,eB,_,_,hlT,hcT⟩:=rw_form HO.out (by omega)
     obtain ⟨rfl,rfl⟩:some ⟨gA,0,none⟩=a∧cT=c:=by cases eB;exact ⟨rfl,rfl⟩
     obtain ⟨y,hy⟩:∃ y,R[k]? = some y:=⟨R[k]'(by have:=HnR.out;omega),List.getElem?_eq_getElem _⟩
     have c0:=hX.cell (rw_at HO.out (i:=k) (u:=.int .i64 y) (by rw [List.getElem?_map,hy];rfl)).1
     obtain ⟨a',c',rfl⟩:=rw_form0 HQ.out
     obtain ⟨v',w',r1,r2,r3⟩:=HAppI.out w3 wr _ k _ y hX HQ.out (by omega)
     rw [← take_snoc hy] at r2
     have HR1:=Lib.hid r1
     have HO3:=Lib.hid r2
     have g2:(0:Int)≤(k:Int):=by omega
     have g3:(k:Int)<(nR:Int):=by omega
     clear r1 r2 hy eB
     go_wp2_with (at_builtin;refine Lib.wpList_append_run _ rfl _ _ _ _ rfl _ _ rfl rfl _ _ HR1.out ?_)
     go_roundw
     case rel=>exact ⟨k+1,by omega,by go_num,HO3.out,r3⟩
     case measure=>simp [intOf];omega
    ·have hke:R.take k=R:=List.take_of_length_le (by have:=HnR.out;omega)
     have hO:=HQ.out
     rw [hke] at hO
     obtain rfl:nR=k:=by omega
     have HO3:=Lib.hid hO
     obtain ⟨a',c',rfl⟩:=rw_form0 HQ.out
     clear hke hO hk hlt
     go_wp2
     go_ret
     refine ⟨_,rfl,?_,(HX2.out.trans HX3.out).trans hX⟩
     have h1:=rw_base HO3.out (HX2.out.trans HX3.out).size
     rw [HnR.out] at h1
     rw [HnR.out]
     exact h1
  ·have HR2:Hid (R=[]):=by
    show _=_
    rw [HR.out]
    unfold callsAns
    rw [if_neg (fun h=>hin ⟨h.2.1,by have:=HlF.out;omega⟩)]
   clear hvb hv hb HU HUA hX hX2
   by_cases h0:f<0
   ·clear hin
    go_wp2
    go_ret
    exact ⟨_,rfl,by rw [HR2.out];exact World.ownsRow_nil _ _ _ _,HX2.out⟩
   ·have g1:f≥(nF:Int):=by omega
    clear hin
    go_wp2
    go_ret
    exact ⟨_,rfl,by rw [HR2.out];exact World.ownsRow_nil _ _ _ _,HX2.out⟩
 ·have HR2:Hid (R=[]):=by
   show _=_
   rw [HR.out]
   unfold callsAns
   rw [if_neg (fun h=>by rw [hv] at h;exact absurd h.1 (by simp))]
  have HX2:=Lib.hid (hE.trans hX2)
  clear hX hX2 hv
  go_wp2
  go_ret
  exact ⟨_,rfl,by rw [HR2.out];exact World.ownsRow_nil _ _ _ _,HX2.out⟩
end Go.Proofs.YtcfggjmdcaoecaaGreatDoor
