/- A part of the proofs of FnBound and FnCheck: the lemmas and walks GenL. -/
import Derived.Test.YtcfggjmdcaoecaaGreatDoorB30
import Derived.Test.YtcfggjmdcaoecaaGreatDoorB05
import Derived.Test.YtcfggjmdcaoecaaGreatDoorB02
set_option linter.unusedVariables false
set_option linter.unusedSimpArgs false
namespace Go.Proofs.YtcfggjmdcaoecaaGreatDoor
open Go Go.RowKit Md Go.Proofs.YtcfggjmdcaoecaaGreatDoorW.PrintLast
theorem set_same {w:World} {g t i:Nat} {arr:Array Value} {v:Value} (h:Blk w g t arr) (hv:arr[i]? = some v):w.setCell ⟨g,i,none⟩ v=w:=by
 have hm:∀ j,(w.setCell ⟨g,i,none⟩ v).heap[j]? = w.heap[j]?:=fun j=>by
  by_cases hj:j=g
  ·subst hj
   rw [h.set i v]
   rw [show arr.setIfInBounds i v=arr from Array.ext_getElem? fun q=>by
    rw [Array.getElem?_setIfInBounds]
    by_cases hq:i=q
    ·subst hq
     rw [if_pos rfl,if_pos (Array.getElem?_eq_some_iff.1 hv).1,hv]
    ·rw [if_neg hq]]
   exact h.symm
  ·exact Below.heap_setCell _ _ _ _ hj
 have hh:(w.setCell ⟨g,i,none⟩ v).heap=w.heap:=Array.ext_getElem? hm
 unfold World.setCell at hh ⊢
 simp only at hh
 rw [hh]
def encG (g:PGlob):List Value:=[.string g.name,.int .i64 g.size]
theorem encG_len (g:PGlob):(encG g).length=2:=rfl
theorem encG_one (g:PGlob):∀ u∈encG g,u.oneCell'=true:=by
 intro u hu
 simp only [encG,List.mem_cons,List.not_mem_nil,or_false] at hu
 rcases hu with rfl | rfl<;>rfl
structure OwnG (base:Nat) (w:World) (v:Value) (l:List PGlob):Prop where
 own:w.ownsRow base 97 2 v l.length (l.flatMap encG)
 ok:∀ g∈l,I64 g.size∧g.name.size≤maxLen
theorem OwnG.sl {base:Nat} {w:World} {v:Value} {l:List PGlob} (h:OwnG base w v l) {K:Foot} (hK:∀ b,base≤b→K b):SlGlob K w v l :=
 sl_ownN encG_len (by decide) h.own hK (fun x hx=>⟨rfl,h.ok x hx⟩)
theorem OwnG.tf {M:Foot} {base:Nat} {w w':World} {v:Value} {l:List PGlob} (h:OwnG base w v l) (k:Tf M w w') (hM:∀ b,b<w.heap.size→M b→b<base):OwnG base w' v l :=
 ⟨own_tf h.own k (fun b hb hm=>by have:=own_ge h.own b hb;have:=hM b this.2 hm;omega),h.ok⟩
theorem lit_glob (w:World) (base:Nat) (hb:base≤w.heap.size) (l:List PGlob) (n:Nat) (arr:Array Value) (ha:arr=(l.flatMap encG).toArray) (hn:l.length=n) (hm:n≤1000) (hok:∀ g∈l,I64 g.size∧g.name.size≤maxLen) :
  OwnG base (w.alloc (.cells arr 97)) (.slice (some ⟨w.heap.size,0,none⟩) n n) l:=by
 subst hn
 subst ha
 refine ⟨⟨flat_len 2 encG encG_len l,.inr ⟨w.heap.size,l.length,_,rfl,hb,heap_alloc_new w _,Nat.le_refl _,by unfold maxLen;omega,?_,?_⟩⟩,hok⟩
 ·have:=flat_len 2 encG encG_len l
  simpa using this
 ·have:=flat_len 2 encG encG_len l
  rw [List.take_of_length_le (by simp at this ⊢;omega)]
def NotF (w:World) (b:Nat):Prop:=∀ arr fr,w.heap[b]?≠some (.cells arr 83 fr)
def CalOk (K:Foot) (w:World) (vc vp:Value) (k:Nat):Prop :=
 ∃ cs ps,SlStr (fun b=>K b∧NotS w b∧NotF w b) w vc cs∧SlInt .i64 (fun b=>K b∧NotS w b∧NotF w b) w vp ps∧cs.length=k∧ps.length=k∧∀ x∈ps,(0:Int)≤x∧x≤6
theorem CalOk.nil (K:Foot) (w:World):CalOk K w (.slice none 0 0) (.slice none 0 0) 0:=⟨[],[],Sl.nil _ _ _ _,Sl.nil _ _ _ _,rfl,rfl,fun _ h=>by cases h⟩
theorem CalOk.step {K K':Foot} {w w':World} {vc vp:Value} {k:Nat} (h:CalOk K w vc vp k) (kp:Keep (fun b=>K b∧NotS w b∧NotF w b) w w') (hK:∀ b,K b→b<w.heap.size→K' b):CalOk K' w' vc vp k:=by
 obtain ⟨cs,ps,h1,h2,h3⟩:=h
 have hk:∀ b,(K b∧NotS w b∧NotF w b)∧b<w.heap.size→K' b∧NotS w' b∧NotF w' b:=fun b hb =>
  ⟨hK b hb.1.1 hb.2,fun arr fr=>by rw [kp b hb.1 hb.2];exact hb.1.2.1 arr fr,fun arr fr=>by rw [kp b hb.1 hb.2];exact hb.1.2.2 arr fr⟩
 exact ⟨cs,ps,(Sl.bound h1 (by decide)).keep (kp.mono (fun b hb=>hb.1)) (fun _ _ _ h=>h.any) hk,(Sl.bound h2 (by decide)).keep (kp.mono (fun b hb=>hb.1)) (fun _ _ _ h=>h.any) hk,h3⟩
theorem CalOk.gv {K K':Foot} {w:World} {vc vp:Value} {k:Nat} (h:CalOk K w vc vp k) (hk:k≤8) (hK:∀ b,K b→b<w.heap.size→K' b):GV (fun b=>K' b∧NotS w b) w 0 vc vp (.slice none 0 0) (.slice none 0 0) 0:=by
 obtain ⟨cs,ps,h1,h2,h3,h4,h5⟩:=h
 refine ⟨⟨cs,ps,(Sl.bound h1 (by decide)).keep (Keep.refl _ _) (fun _ _ _ h=>h) (fun b hb=>⟨hK b hb.1.1 hb.2,hb.1.2.1⟩),(Sl.bound h2 (by decide)).keep (Keep.refl _ _) (fun _ _ _ h=>h) (fun b hb=>⟨hK b hb.1.1 hb.2,hb.1.2.1⟩),by omega,by omega,h5⟩,⟨[],Sl.nil _ _ _ _,by simp⟩,⟨[],Sl.nil _ _ _ _,by simp⟩,Nat.le_refl _⟩
theorem CalOk.shape {K:Foot} {w:World} {vc vp:Value} {k:Nat} (h:CalOk K w vc vp k):∃ aC cC aP cP,vc=.slice aC k cC∧vp=.slice aP k cP:=by
 obtain ⟨cs,ps,h1,h2,rfl,h4,_⟩:=h
 obtain ⟨a,cap,e,_⟩:=h1
 obtain ⟨a',cap',e',_⟩:=h2
 exact ⟨a,cap,a',cap',e,by rw [e',h4]⟩
theorem OwnStr.new (w:World) (base:Nat) (hb:base≤w.heap.size):OwnStr base (w.alloc (.cells #[] 9)) (.slice (some ⟨w.heap.size,0,none⟩) 0 0) []:=⟨own_new w base _ 1 hb,fun _ h=>by cases h⟩
theorem OwnStr.app {base:Nat} {w:World} {v v2:Value} {l l2:List ByteArray} {K:Foot} (h:OwnStr base w v l) (h2:SlStr K w v2 l2) (hl:l.length+l2.length≤900000) (hb:base≤w.heap.size) (ty:TypeId) :
  ∃ v' w',(Builtin.append_ #[80,80] ty #[v,v2]).run Tryz.prog w=.ok v' w'∧OwnStr base w' v' (l ++ l2)∧w.grownBy w' v.ownBlock∧(v'.ownBlock=v.ownBlock∨v'.ownBlock=some w.heap.size):=by
 obtain ⟨i0,hi,hz0,hz1,hz2⟩:=info_parts gi_str
 have hl':(l.map Value.string).length=l.length:=by simp
 obtain ⟨v',w',r1,r2,r3,r4⟩:=run_app (P:=Tryz.prog) Value.string CStr (fun _ _ _ h=>h.1) (fun _=>rfl) K w base Tryz.underlying80 hi hz0 hz1 hz2 rfl v (l.map Value.string) (by rw [hl'];exact h.own) v2 l2 h2 (by simp;omega) (by simp;omega) hb ty
 refine ⟨v',w',r1,⟨by simpa using r2,fun x hx=>?_⟩,r3,r4⟩
 rcases List.mem_append.1 hx with hx | hx
 ·exact h.ok x hx
 ·obtain ⟨cs,hc⟩:=Sl.mem h2 x hx
  exact hc.2
theorem OwnStr.slx {base:Nat} {w:World} {v:Value} {l:List ByteArray} (h:OwnStr base w v l):SlStr (fun b=>base≤b∧NotS w b∧NotF w b) w v l:=by
 obtain ⟨a,cap,e,g1,g2,g3⟩:=h.sl (K:=fun b=>base≤b) (fun _ h=>h)
 refine ⟨a,cap,e,g1,g2,fun hp=>?_⟩
 obtain ⟨b,o,e1,e2,e3⟩:=g3 hp
 exact ⟨b,o,e1,⟨e2.1,e2.2,fun arr fr=>(e2.2 arr fr).2⟩,e3⟩
theorem box_other {w w':World} {v vx:Value} {gx:Nat} {l:List ByteArray} (hs:SlStr (fun b=>b=gx) w vx l) (hg:w.grownBy w' v.ownBlock) (hne:∀ k,v.ownBlock=some k→k≠gx):SlStr (fun b=>b=gx) w' vx l :=
 Sl.keep hs (grown_keep hg (fun b hb e=>hne b e.symm hb)) (fun _ _ _ h=>h.any) (fun _ h=>h)
theorem app_num (w:World) (K:Foot) (vp:Value) (ps:List Int) (hs:SlInt .i64 K w vp ps) (x:Int) (hx:(Lit.int .i64 x).wf=true) (hl:ps.length≤1000000) :
  ∃ v2 w2 a4 c4 w4,(Builtin.append_ #[27,27] 27 #[.slice (some ⟨w.heap.size,0,none⟩) 0 0,vp]).run Tryz.prog (w.alloc (.cells #[] 2))=.ok v2 w2 ∧
   (Builtin.append_ #[27,27] 27 #[v2,.slice (some ⟨w2.heap.size,0,none⟩) 1 1]).run Tryz.prog (w2.alloc (.cells #[.int .i64 x] 2))=.ok (.slice a4 (ps.length+1) c4) w4 ∧
   Ext w w2∧Ext w w4∧SlInt .i64 (fun b=>w.heap.size≤b∧NotS w4 b∧NotF w4 b) w4 (.slice a4 (ps.length+1) c4) (ps ++ [x]):=by
 obtain ⟨i0,hi,hz0,hz1,hz2⟩:=info_parts gi_i64
 have hX1:Ext w (w.alloc (.cells #[] 2)):=(Ext.refl w).alloc _
 obtain ⟨v2,w2,r1,o2,g2,_⟩:=run_app (P:=Tryz.prog) (Value.int .i64) (CInt .i64) (fun _ _ _ h=>h.1) (fun _=>rfl) K (w.alloc (.cells #[] 2)) w.heap.size Tryz.underlying27 hi hz0 hz1 hz2 rfl _ [] (own_new w w.heap.size _ 1 (Nat.le_refl _)) vp ps (hs.ext hX1 (fun _ _ h=>h.any)) (by simp;omega) (by simp;omega) hX1.size 27
 have hX2:Ext w w2:=Below.grown hX1 g2 hX1.size (fun k hk=>by cases hk;exact Nat.le_refl _)
 have hX3:Ext w (w2.alloc (.cells #[.int .i64 x] 2)):=hX2.alloc _
 have h23:Ext w2 (w2.alloc (.cells #[.int .i64 x] 2)):=(Ext.refl w2).alloc _
 simp only [List.nil_append] at o2
 have o3:(w2.alloc (.cells #[.int .i64 x] 2)).ownsRow w.heap.size 2 1 v2 (ps.map (Value.int .i64)).length (ps.map (Value.int .i64)):=own_tf o2 (Tf.ext (M:=fun _=>False) h23) (fun _ _ h=>h)
 obtain ⟨v4,w4,r4,o4,g4,_⟩:=run_app (P:=Tryz.prog) (Value.int .i64) (CInt .i64) (fun _ _ _ h=>h.1) (fun _=>rfl) AnyB (w2.alloc (.cells #[.int .i64 x] 2)) w.heap.size Tryz.underlying27 hi hz0 hz1 hz2 rfl v2 _ o3 (.slice (some ⟨w2.heap.size,0,none⟩) 1 1) [x] (⟨_,1,rfl,Nat.le_refl _,by simp [maxLen],fun _=>⟨w2.heap.size,0,rfl,trivial,fun i hi=>by
   obtain rfl:i=0:=by simp at hi;omega
   exact ⟨[.int .i64 x],rfl,⟨rfl,hx⟩,fun q u hu=>by
    obtain rfl:q=0:=by
     have:=(List.getElem?_eq_some_iff.1 hu).1
     simp at this
     omega
    simp at hu
    subst hu
    exact new_cell _ _ _⟩⟩⟩) (by simp;omega) (by simp;omega) hX3.size 27
 have hX4:Ext w w4:=Below.grown hX3 g4 hX3.size (fun k hk=>(own_ge o3 k hk).1)
 have hss:∀ y∈ps ++ [x],(Lit.int .i64 y).wf=true:=fun y hy=>by
  rcases List.mem_append.1 hy with hy | hy
  ·obtain ⟨cs,hc⟩:=Sl.mem hs y hy
   exact hc.2
  ·rw [List.mem_singleton.1 hy]
   exact hx
 have o5:w4.ownsRow w.heap.size 2 1 v4 (ps.length+1) ((ps ++ [x]).map (Value.int .i64)):=by simpa using o4
 obtain ⟨a4,c4,rfl,_,_⟩:=own_form o5
 refine ⟨v2,w2,a4,c4,w4,r1,r4,hX2,hX4,?_⟩
 obtain ⟨a,cap,e,g1,g2',g3⟩:=sl_own (E:=2) (K:=fun b=>w.heap.size≤b) (Value.int .i64) (CInt .i64) (fun _ _=>.inr trivial) o5 (fun _ h=>h) (fun y hy=>⟨rfl,hss y hy⟩)
 refine ⟨a,cap,e,g1,g2',fun hp=>?_⟩
 obtain ⟨b,o,e1,e2,e3⟩:=g3 hp
 have hty:∀ arr fr T,w4.heap[b]? = some (.cells arr T fr)→T=2:=fun arr fr T hh=>by
  rcases o5.2 with ⟨he,_⟩ | ⟨k,cap',cur,he,_,hh2,_⟩
  ·simp at he
  ·simp only [Value.slice.injEq] at he e
   have e4:=e.1
   rw [he.1,e1] at e4
   simp only [Option.some.injEq,Addr.mk.injEq] at e4
   rw [e4.1,hh] at hh2
   simp only [Option.some.injEq,Obj.cells.injEq] at hh2
   exact hh2.2.1
 exact ⟨b,o,e1,⟨e2,fun arr fr=>⟨fun hh=>absurd (hty _ _ _ hh) (by decide),fun hh=>absurd (hty _ _ _ hh) (by decide)⟩,fun arr fr hh=>absurd (hty _ _ _ hh) (by decide)⟩,e3⟩
theorem own_ne_own {w:World} {b1 b2 E1 E2 s1 s2 n1 n2:Nat} {v1 v2:Value} {x1 x2:List Value} (h1:w.ownsRow b1 E1 s1 v1 n1 x1) (h2:w.ownsRow b2 E2 s2 v2 n2 x2) (hE:E1≠E2):∀ b,v1.ownBlock=some b→v2.ownBlock≠some b:=by
 intro b hb hb2
 rcases h1.2 with ⟨rfl,_⟩ | ⟨g,cap,cur,rfl,_,hh,_⟩
 ·cases hb
 ·rcases h2.2 with ⟨rfl,_⟩ | ⟨g',cap',cur',rfl,_,hh',_⟩
  ·cases hb2
  ·simp only [Value.ownBlock,Option.some.injEq] at hb hb2
   rw [hb] at hh
   rw [hb2] at hh'
   rw [hh] at hh'
   simp only [Option.some.injEq,Obj.cells.injEq] at hh'
   exact hE hh'.2.1
theorem sl3_step {α:Type} {K K':Foot} {w w':World} {C:World→List Value→α→Prop} {v:Value} {l:List α} (h:Sl (fun b=>K b∧NotS w b∧NotF w b) w 1 C v l) (kp:Keep (fun b=>K b∧NotS w b∧NotF w b) w w') (hC:∀ cs x,C w cs x→C w' cs x) (hK:∀ b,K b→b<w.heap.size→K' b):Sl (fun b=>K' b∧NotS w' b∧NotF w' b) w' 1 C v l :=
 (Sl.bound h (by decide)).keep (kp.mono (fun b hb=>hb.1)) (fun cs x _ h=>hC cs x h) (fun b hb =>
  ⟨hK b hb.1.1 hb.2,fun arr fr=>by rw [kp b hb.1 hb.2];exact hb.1.2.1 arr fr,fun arr fr=>by rw [kp b hb.1 hb.2];exact hb.1.2.2 arr fr⟩)
theorem grown_tf2 {w w':World} {v:Value} (hg:w.grownBy w' v.ownBlock):Tf (fun b=>v.ownBlock=some b) w w':=⟨hg.os,hg.tape,hg.output,hg.size,fun k hk hn=>hg.block k hk (fun e=>hn e.symm)⟩
theorem box_str (w:World) (s:ByteArray) (hs:s.size≤maxLen):SlStr (fun b=>b=w.heap.size) (w.alloc (.cells #[.string s] 9)) (.slice (some ⟨w.heap.size,0,none⟩) 1 1) [s] :=
 ⟨_,1,rfl,Nat.le_refl _,by simp [maxLen],fun _=>⟨w.heap.size,0,rfl,rfl,fun i hi=>by
  obtain rfl:i=0:=by simp at hi;omega
  exact ⟨[.string s],rfl,⟨rfl,hs⟩,fun q u hu=>by
   obtain rfl:q=0:=by
    have:=(List.getElem?_eq_some_iff.1 hu).1
    simp at this
    omega
   simp at hu
   subst hu
   exact new_cell _ _ _⟩⟩⟩
theorem wf64 {x:Int} (h:I64 x):(Lit.int .i64 x).wf=true:=by
 simp [Lit.wf]
 exact h
theorem hRa_size {c:Nat} {w w':World} (h:Roll c w w'):w.heap.size≤w'.heap.size:=h.tf.size
structure DInv (c:Nat) (w6:World) (T G:Nat) (vG:Value) (k:Nat) (wr:World):Prop where
 cur:CurAt wr c
 tf:Tf (fun b=>b=c∨b=T∨b=G) w6 wr
 bt:∃ vF l,Blk wr T 32 #[vG,vF]∧OwnF w6.heap.size wr vF l∧l.length=k
 bg:∃ vc vp,Blk wr G 153 #[vc,vp,.slice none 0 0,.slice none 0 0,.int .i64 0]∧CalOk (fun b=>b≠c∧b≠T∧b≠G) wr vc vp k
structure TreeOk (K:Foot) (w:World) (vG vF:Value) (gs:List PGlob) (l:List FRow):Prop where
 g:SlGlob K w vG gs
 f:Sl K w 3 CFRow vF l
 ok:∀ x∈l,FOk K w x
 lg:1≤gs.length∧gs.length≤100
 lf:1≤l.length∧l.length≤100
def MadeTree (c:Nat) (w:World) (e:Ending) (w':World):Prop:=∃ vG vF gs l,e=.returned (.agg #[vG,vF])∧TreeOk (fun b=>w.heap.size≤b) w' vG vF gs l∧Roll c w w'
set_option maxRecDepth 1000000 in
set_option maxHeartbeats 16000000 in
theorem d_l2DrawTree (c:Nat) (w:World) (h:CurAt w c):Calls Tryz.prog 52 #[.pointer (some ⟨c,0,none⟩)] w (MadeTree c w):=by
 have HBw:Hid (∀ n w',1≤n∧n≤9223372036854775807→CurAt w' c→Calls Tryz.prog 53 #[.pointer (some ⟨c,0,none⟩),.int .i64 n] w' (Rolls c 0 n w')):=fun n w' hn hR=>d_l1Below c n w' hR hn
 have HOn:Hid (∀ n w',1≤n∧n≤9223372036854775807→CurAt w' c→Calls Tryz.prog 60 #[.pointer (some ⟨c,0,none⟩),.int .i64 n] w' (RollsB c w')):=fun n w' hn hR=>d_l1Once c n w' hR hn
 have hcl:=h.lt
 have HC:=Lib.hid h
 have HGB:Hid (∀ (g u:Nat) (w':World),c<g→u≤3→CurAt w' c→GenAt c g 0 w'→Calls Tryz.prog 94 #[.pointer (some ⟨c,0,none⟩),.pointer (some ⟨g,0,none⟩),.int .i64 (1+(u:Int)),.int .i64 2] w' (MadeT c g 1 256 256 w')):=fun g u w' hg hu hC hG=>by
  have:=d_l2GenBlock c g 2 hg (d_l2GenStmt c g hg 2 (by omega)) (by omega) (1+u) 0 w' hC hG (by omega) (by decide)
  rw [show ((1+u:Nat):Int)=1+(u:Int) by omega,show (8:Nat) ^ 2=64 from rfl] at this
  exact this.mono fun e w'' hh=>hh.mono (by omega) (by omega) (by omega)
 have HGB2:Hid (∀ (g u:Nat) (w':World),c<g→u≤5→CurAt w' c→GenAt c g 0 w'→Calls Tryz.prog 94 #[.pointer (some ⟨c,0,none⟩),.pointer (some ⟨g,0,none⟩),.int .i64 (2+(u:Int)),.int .i64 3] w' (MadeT c g 1 3584 3584 w')):=fun g u w' hg hu hC hG=>by
  have:=d_l2GenBlock c g 3 hg (d_l2GenStmt c g hg 3 (by omega)) (by omega) (2+u) 0 w' hC hG (by omega) (by decide)
  rw [show ((2+u:Nat):Int)=2+(u:Int) by omega,show (8:Nat) ^ 3=512 from rfl] at this
  exact this.mono fun e w'' hh=>hh.mono (by omega) (by omega) (by omega)
 have BR:=Blk.alloc w 32 #[.slice none 0 0,.slice none 0 0]
 have X1:Ext w (w.alloc (.cells #[.slice none 0 0,.slice none 0 0] 32)):=(Ext.refl w).alloc _
 have s1:w.heap.size<(w.alloc (.cells #[.slice none 0 0,.slice none 0 0] 32)).heap.size:=by simp
 generalize hw1:w.alloc (.cells #[.slice none 0 0,.slice none 0 0] 32)=w1 at BR X1 s1
 have OG:=lit_glob w1 w1.heap.size (Nat.le_refl _) [⟨⟨#[103]⟩,0⟩,⟨⟨#[97]⟩,8⟩,⟨⟨#[104]⟩,0⟩,⟨⟨#[98]⟩,2⟩] 4 #[.string ⟨#[103]⟩,.int .i64 0,.string ⟨#[97]⟩,.int .i64 8,.string ⟨#[104]⟩,.int .i64 0,.string ⟨#[98]⟩,.int .i64 2] rfl rfl (by omega) (fun x hx=>by
  simp only [List.mem_cons,List.not_mem_nil,or_false] at hx
  rcases hx with rfl | rfl | rfl | rfl<;>exact ⟨by unfold I64;simp,by simp [ByteArray.size,maxLen]⟩)
 have X2:Ext w1 (w1.alloc (.cells #[.string ⟨#[103]⟩,.int .i64 0,.string ⟨#[97]⟩,.int .i64 8,.string ⟨#[104]⟩,.int .i64 0,.string ⟨#[98]⟩,.int .i64 2] 97)):=(Ext.refl w1).alloc _
 have s2:w1.heap.size<(w1.alloc (.cells #[.string ⟨#[103]⟩,.int .i64 0,.string ⟨#[97]⟩,.int .i64 8,.string ⟨#[104]⟩,.int .i64 0,.string ⟨#[98]⟩,.int .i64 2] 97)).heap.size:=by simp
 generalize hw2:w1.alloc (.cells #[.string ⟨#[103]⟩,.int .i64 0,.string ⟨#[97]⟩,.int .i64 8,.string ⟨#[104]⟩,.int .i64 0,.string ⟨#[98]⟩,.int .i64 2] 97)=w2 at OG X2 s2
 have BT:=Blk.alloc w2 32 #[.slice (some ⟨w1.heap.size,0,none⟩) 4 4,.slice none 0 0]
 have X3:Ext w2 (w2.alloc (.cells #[.slice (some ⟨w1.heap.size,0,none⟩) 4 4,.slice none 0 0] 32)):=(Ext.refl w2).alloc _
 have s3:w2.heap.size<(w2.alloc (.cells #[.slice (some ⟨w1.heap.size,0,none⟩) 4 4,.slice none 0 0] 32)).heap.size:=by simp
 generalize hw3:w2.alloc (.cells #[.slice (some ⟨w1.heap.size,0,none⟩) 4 4,.slice none 0 0] 32)=w3 at BT X3 s3
 have SN:=lit_str w3 9 [⟨#[102]⟩,⟨#[107]⟩,⟨#[100,101,101,112]⟩,⟨#[120,49]⟩] 4 #[.string ⟨#[102]⟩,.string ⟨#[107]⟩,.string ⟨#[100,101,101,112]⟩,.string ⟨#[120,49]⟩] rfl rfl (by omega) (fun x hx=>by
  simp only [List.mem_cons,List.not_mem_nil,or_false] at hx
  rcases hx with rfl | rfl | rfl | rfl<;>decide)
 have X4:Ext w3 (w3.alloc (.cells #[.string ⟨#[102]⟩,.string ⟨#[107]⟩,.string ⟨#[100,101,101,112]⟩,.string ⟨#[120,49]⟩] 9)):=(Ext.refl w3).alloc _
 have s4:w3.heap.size<(w3.alloc (.cells #[.string ⟨#[102]⟩,.string ⟨#[107]⟩,.string ⟨#[100,101,101,112]⟩,.string ⟨#[120,49]⟩] 9)).heap.size:=by simp
 generalize hw4:w3.alloc (.cells #[.string ⟨#[102]⟩,.string ⟨#[107]⟩,.string ⟨#[100,101,101,112]⟩,.string ⟨#[120,49]⟩] 9)=w4 at SN X4 s4
 have HR4:Hid (Roll c w w4):=(Roll.refl h).ext (((X1.trans X2).trans X3).trans X4)
 have HBR:=Lib.hid (((BR.ext X2).ext X3).ext X4)
 have HOG:=Lib.hid (OG.tf (Tf.ext (M:=fun _=>False) (X3.trans X4)) (fun _ _ h=>h.elim))
 have HBT:=Lib.hid (BT.ext X4)
 have HSN:=Lib.hid SN
 have fz1:w3.frozen? ⟨w2.heap.size,1,none⟩=false:=BT.frozen 1
 have fc1:w3.cell? ⟨w2.heap.size,1,none⟩=some (.slice none 0 0):=(BT.cell 1).trans rfl
 have fs1:w3.setCell ⟨w2.heap.size,1,none⟩ (.slice none 0 0)=w3:=set_same BT rfl
 have hsz:w.heap.size<w1.heap.size∧w1.heap.size<w2.heap.size∧w2.heap.size<w3.heap.size∧w3.heap.size<w4.heap.size:=⟨s1,s2,s3,s4⟩
 clear h BR X1 s1 OG X2 s2 BT X3 s3 SN X4 s4
 go_enter Tryz.func52,Tryz.ntmps52
 go_wp2_with fail
 refine (HBw.out 4 w4 (by omega) HR4.out.cur).mono ?_
 rintro e w5 ⟨x,rfl,h1,h2,hR5⟩
 obtain ⟨n,rfl⟩:∃ n:Nat,x=n:=⟨x.toNat,by omega⟩
 have hs5:=hR5.tf.size
 have BG:=Blk.alloc w5 153 #[.slice none 0 0,.slice none 0 0,.slice none 0 0,.slice none 0 0,.int .i64 0]
 have X6:Ext w5 (w5.alloc (.cells #[.slice none 0 0,.slice none 0 0,.slice none 0 0,.slice none 0 0,.int .i64 0] 153)):=(Ext.refl w5).alloc _
 have s6:w5.heap.size<(w5.alloc (.cells #[.slice none 0 0,.slice none 0 0,.slice none 0 0,.slice none 0 0,.int .i64 0] 153)).heap.size:=by simp
 generalize hw6:w5.alloc (.cells #[.slice none 0 0,.slice none 0 0,.slice none 0 0,.slice none 0 0,.int .i64 0] 153)=w6 at BG X6 s6
 have T6:Tf (Is c) w4 w6:=hR5.tf.then_ext X6
 have HR6:Hid (Roll c w w6):=(HR4.out.trans hR5).ext X6
 have HBR6:=Lib.hid (HBR.out.tf T6 (show ¬ w.heap.size=c by omega))
 have HOG6:=Lib.hid (HOG.out.tf T6 (fun b _ hb=>by have e:b=c:=hb;omega))
 have HSN6:Hid (SlStr (fun b=>b=w3.heap.size) w6 (.slice (some ⟨w3.heap.size,0,none⟩) 4 4) [⟨#[102]⟩,⟨#[107]⟩,⟨#[100,101,101,112]⟩,⟨#[120,49]⟩]):=HSN.out.keep (T6.keep (fun b hb e=>by have e:b=c:=e;omega)) (fun _ _ _ h=>h.any) (fun _ h=>h)
 have HD6:Hid (DInv c w6 w2.heap.size w5.heap.size (.slice (some ⟨w1.heap.size,0,none⟩) 4 4) 0 w6) :=
  ⟨HR6.out.cur,Tf.refl _ _,⟨.slice none 0 0,[],HBT.out.tf T6 (show ¬ w2.heap.size=c by omega),OwnFN.nil _ _,rfl⟩,⟨.slice none 0 0,.slice none 0 0,BG,CalOk.nil _ _⟩⟩
 have fz20:w6.frozen? ⟨w5.heap.size,0,none⟩=false:=BG.frozen 0
 have fz21:w6.frozen? ⟨w5.heap.size,1,none⟩=false:=BG.frozen 1
 have fz22:w6.frozen? ⟨w5.heap.size,2,none⟩=false:=BG.frozen 2
 have fz23:w6.frozen? ⟨w5.heap.size,3,none⟩=false:=BG.frozen 3
 have fz24:w6.frozen? ⟨w5.heap.size,4,none⟩=false:=BG.frozen 4
 have fc20:w6.cell? ⟨w5.heap.size,0,none⟩=some (.slice none 0 0):=(BG.cell 0).trans rfl
 have fc21:w6.cell? ⟨w5.heap.size,1,none⟩=some (.slice none 0 0):=(BG.cell 1).trans rfl
 have fc22:w6.cell? ⟨w5.heap.size,2,none⟩=some (.slice none 0 0):=(BG.cell 2).trans rfl
 have fc23:w6.cell? ⟨w5.heap.size,3,none⟩=some (.slice none 0 0):=(BG.cell 3).trans rfl
 have fc24:w6.cell? ⟨w5.heap.size,4,none⟩=some (.int .i64 0):=(BG.cell 4).trans rfl
 have fs20:w6.setCell ⟨w5.heap.size,0,none⟩ (.slice none 0 0)=w6:=set_same BG rfl
 have fs21:w6.setCell ⟨w5.heap.size,1,none⟩ (.slice none 0 0)=w6:=set_same BG rfl
 have fs22:w6.setCell ⟨w5.heap.size,2,none⟩ (.slice none 0 0)=w6:=set_same BG rfl
 have fs23:w6.setCell ⟨w5.heap.size,3,none⟩ (.slice none 0 0)=w6:=set_same BG rfl
 have fs24:w6.setCell ⟨w5.heap.size,4,none⟩ (.int .i64 0)=w6:=set_same BG rfl
 clear fz1 fc1 fs1
 clear hR5 BG X6 T6 HBR HOG HBT HSN hw1 hw2 hw3 hw4 HC
 go_wp2_with fail
 clear hw6 fz20 fz21 fz22 fz23 fz24 fc20 fc21 fc22 fc23 fc24 fs20 fs21 fs22 fs23 fs24
 go_loopw [7] (fun v7 wr=>∃ k:Nat,k≤n∧v7=.int .i64 k∧Hid (DInv c w6 w2.heap.size w5.heap.size (.slice (some ⟨w1.heap.size,0,none⟩) 4 4) k wr)) (fun v7 _=>n - (intOf v7).toNat)
 case atStart=>exact ⟨0,Nat.zero_le _,rfl,HD6.out⟩
 case round =>
  clear HD6
  obtain ⟨k,hk,rfl,HD⟩:=hrel
  obtain ⟨wo,hwo⟩:∃ wo,wo=wr:=⟨_,rfl⟩
  subst wr
  obtain ⟨cur,tf6,⟨vF,lF,BT,OF,hlF⟩,⟨vc,vp,BG,CK⟩⟩:=HD.out
  obtain ⟨aF,cF,rfl,_,_⟩:=OF.len
  have Htf6:=Lib.hid tf6
  have HBT:=Lib.hid BT
  have HOF:=Lib.hid OF
  have HlF:=Lib.hid hlF
  clear hlF
  obtain ⟨aC,cC,aP,cP,rfl,rfl⟩:=CK.shape
  have HBG:=Lib.hid BG
  have HCK:=Lib.hid CK
  clear HD
  by_cases hlt:k<n
  ·have hs6r:=tf6.size
   obtain ⟨_,_,_,eN,_,_,_,hN⟩:=Sl.op HSN6.out
   cases eN
   obtain ⟨bN,oN,eN,_,hN⟩:=hN (by omega)
   cases eN
   obtain ⟨nm,cs,_,_,hnm,hcs⟩:=hN k (by omega)
   obtain ⟨rfl,hnm⟩:=hnm
   have n0:=hcs.z rfl
   rw [Nat.mul_one,Nat.zero_add] at n0
   replace n0:=tf6.cell (a:=⟨w3.heap.size,k,none⟩) (show ¬ (w3.heap.size=c∨w3.heap.size=w2.heap.size∨w3.heap.size=w5.heap.size) by omega) n0
   have g0:=(BG.cell 0).trans (show _=some (Value.slice aC k cC) from rfl)
   have g1:=(BG.cell 1).trans (show _=some (Value.slice aP k cP) from rfl)
   have z0:(0:Int)≤(k:Int):=by omega
   have BF:=Blk.alloc wo 83 #[.string nm,.slice none 0 0,.slice none 0 0]
   have XA:Ext wo (wo.alloc (.cells #[.string nm,.slice none 0 0,.slice none 0 0] 83)):=(Ext.refl wo).alloc _
   have sA:wo.heap.size<(wo.alloc (.cells #[.string nm,.slice none 0 0,.slice none 0 0] 83)).heap.size:=by simp
   generalize hwA:wo.alloc (.cells #[.string nm,.slice none 0 0,.slice none 0 0] 83)=wA at BF XA sA
   have gA0:=XA.cell g0
   have gA1:=XA.cell g1
   have BI:=Blk.alloc wA 153 #[.slice aC k cC,.slice aP k cP,.slice none 0 0,.slice none 0 0,.int .i64 0]
   have XB:Ext wA (wA.alloc (.cells #[.slice aC k cC,.slice aP k cP,.slice none 0 0,.slice none 0 0,.int .i64 0] 153)):=(Ext.refl wA).alloc _
   have sB:wA.heap.size<(wA.alloc (.cells #[.slice aC k cC,.slice aP k cP,.slice none 0 0,.slice none 0 0,.int .i64 0] 153)).heap.size:=by simp
   generalize hwB:wA.alloc (.cells #[.slice aC k cC,.slice aP k cP,.slice none 0 0,.slice none 0 0,.int .i64 0] 153)=wB at BI XB sB
   have HRB:Hid (Roll c wo wB):=(Roll.refl cur).ext (XA.trans XB)
   have HBF:=Lib.hid (BF.ext XB)
   have HBI:=Lib.hid BI
   have hA1:wA.frozen? ⟨wo.heap.size,1,none⟩=false:=BF.frozen 1
   have hA2:wA.frozen? ⟨wo.heap.size,2,none⟩=false:=BF.frozen 2
   have hA3:wA.cell? ⟨wo.heap.size,1,none⟩=some (.slice none 0 0):=(BF.cell 1).trans rfl
   have hA4:wA.cell? ⟨wo.heap.size,2,none⟩=some (.slice none 0 0):=(BF.cell 2).trans rfl
   have hA5:wA.setCell ⟨wo.heap.size,1,none⟩ (.slice none 0 0)=wA:=set_same BF rfl
   have hA6:wA.setCell ⟨wo.heap.size,2,none⟩ (.slice none 0 0)=wA:=set_same BF rfl
   have hB1:wB.frozen? ⟨wA.heap.size,2,none⟩=false:=BI.frozen 2
   have hB2:wB.frozen? ⟨wA.heap.size,3,none⟩=false:=BI.frozen 3
   have hB3:wB.frozen? ⟨wA.heap.size,4,none⟩=false:=BI.frozen 4
   have hB4:wB.cell? ⟨wA.heap.size,2,none⟩=some (.slice none 0 0):=(BI.cell 2).trans rfl
   have hB5:wB.cell? ⟨wA.heap.size,3,none⟩=some (.slice none 0 0):=(BI.cell 3).trans rfl
   have hB6:wB.cell? ⟨wA.heap.size,4,none⟩=some (.int .i64 0):=(BI.cell 4).trans rfl
   have hB7:wB.setCell ⟨wA.heap.size,2,none⟩ (.slice none 0 0)=wB:=set_same BI rfl
   have hB8:wB.setCell ⟨wA.heap.size,3,none⟩ (.slice none 0 0)=wB:=set_same BI rfl
   have hB9:wB.setCell ⟨wA.heap.size,4,none⟩ (.int .i64 0)=wB:=set_same BI rfl
   clear cur tf6 BT OF BG CK hN hcs BF XA BI XB
   have hsA:wo.heap.size<wA.heap.size∧wA.heap.size<wB.heap.size:=⟨sA,sB⟩
   have hco:c<wo.heap.size:=by omega
   have hf0:=HBF.out.lt
   go_wp2_with fail
   refine (HBw.out 4 wB (by omega) HRB.out.cur).mono ?_
   rintro e wC ⟨x,rfl,h3,h4,hRC⟩
   obtain ⟨q,rfl⟩:∃ q:Nat,x=q:=⟨x.toNat,by omega⟩
   have HRC:Hid (Roll c wo wC):=HRB.out.trans hRC
   have HBF:=Lib.hid (HBF.out.tf hRC.tf (show ¬ wo.heap.size=c by omega))
   have HBI:=Lib.hid (HBI.out.tf hRC.tf (show ¬ wA.heap.size=c by omega))
   clear hRC HRB hA1 hA2 hA3 hA4 hA5 hA6 hB1 hB2 hB3 hB4 hB5 hB6 hB7 hB8 hB9 n0 g0 g1 gA0 gA1 hwA hwB
   go_wp2_with fail
   refine (HOn.out 10 wC (by omega) HRC.out.cur).mono ?_
   rintro e wD ⟨b10,rfl,hRD⟩
   have HRD:Hid (Roll c wo wD):=HRC.out.trans hRD
   have HBF:=Lib.hid (HBF.out.tf hRD.tf (show ¬ wo.heap.size=c by omega))
   have HBI:=Lib.hid (HBI.out.tf hRD.tf (show ¬ wA.heap.size=c by omega))
   clear hRD HRC
   cases b10
   focus
    go_wp2_with fail
    obtain ⟨np,rfl⟩:∃ np:Nat,np=q:=⟨_,rfl⟩
    have hnp6:np≤6:=by omega
   rotate_left
   focus
    go_wp2_with fail
    generalize hz6:(Value.int .i64 6)=z6
    obtain ⟨np,rfl,hnp6⟩:∃ np:Nat,z6=.int .i64 (np:Int)∧np≤6:=⟨6,hz6.symm,Nat.le_refl _⟩
    clear hz6
   all_goals
    go_loopw [11] (fun v11 wj=>∃ (j:Nat) (vP:Value) (ss:List ByteArray),j≤np∧v11=.int .i64 j∧ss.length=j∧Hid (Roll c wo wj)∧Hid (Blk wj wo.heap.size 83 #[.string nm,vP,.slice none 0 0])∧Hid (OwnStr wo.heap.size wj vP ss)∧Hid (Blk wj wA.heap.size 153 #[.slice aC k cC,.slice aP k cP,.slice none 0 0,.slice none 0 0,.int .i64 0])) (fun v11 _=>np - (intOf v11).toNat)
    case atStart=>exact ⟨0,.slice none 0 0,[],Nat.zero_le _,rfl,rfl,HRD.out,HBF.out,OwnStr.nil _ _,HBI.out⟩
    case round =>
     clear HRD HBF HBI
     obtain ⟨j,vP,ss,hj,rfl,hlen,HR,HBF,HS,HBI⟩:=hrel
     obtain ⟨aQ,cQ,rfl,_,_⟩:=own_form HS.out.own
     rw [hlen] at HS HBF
     have hjr:=HR.out.tf.size
     by_cases hlt2:j<np
     ·have c1:=(HBF.out.cell 1).trans (show _=some (Value.slice aQ j cQ) from rfl)
      go_wp2_with fail
      have X1:Ext wr wr.drew:=(Ext.refl wr).drew
      refine start_ (n:=12) (S:=fun w'=>w'.cell? ⟨wo.heap.size,1,none⟩=some (.slice aQ j cQ)) (ds:=[11]) #[false,false,false,false,false,false,false,false,false,false,false,false] (by kernel_rfl) rfl rfl ?hS (fun hHeld=>?_)
      case hS=>exact X1.cell c1
      refine pu_ 0 (some 48) #[true,false,false,false,false,false,false,false,false,false,false,false] rfl rfl (by kernel_rfl) (fun _ _ _ h=>h) (by rfl) (by intro w';go_simp;with_reducible rfl) (by simp only [pt_];rfl) ?_
      refine ta_ 1 (some 49) #[true,true,false,false,false,false,false,false,false,false,false,false] rfl rfl (by kernel_rfl) (fun _ _ _ h=>h) hHeld (by rfl) (by rintro w' s0;go_simp;with_reducible rfl) (by simp only [pt_];rfl) ?_
      refine pu_ 2 (some 50) #[true,true,true,false,false,false,false,false,false,false,false,false] rfl rfl (by kernel_rfl) (fun _ _ _ h=>h) (by rfl) (by intro w';go_simp;with_reducible rfl) (by simp only [pt_];rfl) ?_
      refine pu_ 5 (some 53) #[true,true,true,false,false,true,false,false,false,false,false,false] rfl rfl (by kernel_rfl) (fun _ _ _ h=>h) (by rfl) (by intro w';go_simp;with_reducible rfl) (by simp only [pt_];rfl) ?_
      generalize wr.drew=wd at X1 hHeld ⊢
      have HRd:Hid (Roll c wo wd):=HR.out.ext X1
      have X2:Ext wd (wd.alloc (.cells #[.string ⟨#[112]⟩,.string ⟨#[113]⟩] 9)):=(Ext.refl wd).alloc _
      have HP:=Lib.hid (d_pick_lit c wd HRd.out.cur 9 [⟨#[112]⟩,⟨#[113]⟩] 2 #[.string ⟨#[112]⟩,.string ⟨#[113]⟩] rfl rfl (by omega) (fun s hs=>by
       simp only [List.mem_cons,List.not_mem_nil,or_false] at hs
       rcases hs with rfl | rfl<;>decide))
      refine one_ (i:=3) (N:=some 51) #[true,true,true,true,false,true,false,false,false,false,false,false] rfl rfl (by kernel_rfl) (by decide) (fun K hK=>?_)
      refine value_ (by rfl) rfl (by go_simp;constructor<;>rfl) ?_
      refine hK.out _ _ (X2.cell hHeld) (fun hHeld=>?_)
      clear hK K
      refine norm_ (by show Act.put _ (some 51) _=_;simp only [pt_];rfl) ?_
      refine one_ (i:=4) (N:=some 52) #[true,true,true,true,true,true,false,false,false,false,false,false] rfl rfl (by kernel_rfl) (by decide) (fun K hK=>?_)
      refine goes_ (N:=some 52) Tryz.func92 (by kernel_rfl) rfl #[.pointer (some ⟨c,0,none⟩),.slice (some ⟨wd.heap.size,0,none⟩) 2 2] (by rfl) rfl rfl (by simp [Act.eval]) ?_
      refine HP.out.mono ?_
      rintro e wE ⟨s,rfl,hmem,_,hRE⟩
      have hs1:Hid (s.size=1):=by
       show s.size=1
       simp only [List.mem_cons,List.not_mem_nil,or_false] at hmem
       rcases hmem with rfl | rfl<;>rfl
      have HRE:Hid (Roll c wo wE):=HRd.out.trans hRE
      have cE:wE.cell? ⟨wo.heap.size,1,none⟩=some (.slice aQ j cQ):=(((HBF.out.ext X1).tf hRE.tf (show ¬ wo.heap.size=c by omega)).cell 1).trans rfl
      have HBF2:=Lib.hid ((HBF.out.ext X1).tf hRE.tf (show ¬ wo.heap.size=c by omega))
      have HBI2:=Lib.hid ((HBI.out.ext X1).tf hRE.tf (show ¬ wA.heap.size=c by omega))
      have HS2:=Lib.hid ((HS.out.tf (Tf.ext (M:=fun _=>False) X1) (fun _ _ h=>h.elim)).tf hRE.tf (fun b _ hb=>by have e:b=c:=hb;omega))
      clear hRE HP
      refine ⟨_,rfl,?_⟩
      refine hK.out _ _ cE (fun hHeld=>?_)
      clear hK K
      refine norm_ (by show Act.put _ (some 52) _=_;simp only [pt_];rfl) ?_
      refine one_ (i:=6) (N:=some 54) #[true,true,true,true,true,true,true,false,false,false,false,false] rfl rfl (by kernel_rfl) (by decide) (fun K hK=>?_)
      refine goes_ (N:=some 54) Tryz.func93 (by kernel_rfl) rfl #[.int .i64 (j:Int)] (by rfl) rfl rfl (by simp [Act.eval]) ?_
      refine (d_digits (j:Int) wE (by omega) (by omega)).mono ?_
      rintro e wF ⟨t,rfl,ht,XF⟩
      refine ⟨_,rfl,?_⟩
      refine hK.out _ _ (XF.cell cE) (fun hHeld=>?_)
      clear hK K
      refine norm_ (by show Act.put _ (some 54) _=_;simp only [pt_];rfl) ?_
      have hss:¬ 9223372036854775807<s.size+t.size:=by have:=hs1.out;omega
      refine pu_ 7 (some 55) #[true,true,true,true,true,true,true,true,false,false,false,false] rfl rfl (by kernel_rfl) (fun _ _ _ h=>h) (by rfl) (by intro w';go_simp;with_reducible rfl) (by simp only [pt_];rfl) ?_
      have hst:(s ++ t).size≤maxLen:=by have:=hs1.out;rw [ByteArray.size_append];unfold maxLen;omega
      have HRF:Hid (Roll c wo wF):=HRE.out.ext XF
      have HSF:=HS2.out.tf (Tf.ext (M:=fun _=>False) XF) (fun _ _ h=>h.elim)
      obtain ⟨vH,wH,rH,OH,gH⟩:=HSF.app1 (ty:=80) (s ++ t) hst (by omega) HRF.out.tf.size
      obtain ⟨aH,cH,rfl,_,_⟩:=own_form OH.own
      have hlH:(ss ++ [s ++ t]).length=j+1:=by simp [hlen]
      rw [hlH] at rH OH
      have XG:Ext wF (wF.alloc (.cells #[.string (s ++ t)] 9)):=(Ext.refl wF).alloc _
      have hne:∀ b,(Value.slice aQ j cQ).ownBlock=some b→b≠wo.heap.size∧b≠wA.heap.size:=fun b hb =>
       ⟨fun e=>own_ne_blk HSF.own (HBF2.out.ext XF) (by decide) (by rw [← e];exact hb.symm),fun e=>own_ne_blk HSF.own (HBI2.out.ext XF) (by decide) (by rw [← e];exact hb.symm)⟩
      have TH:Tf (fun b=>(Value.slice aQ j cQ).ownBlock=some b) (wF.alloc (.cells #[.string (s ++ t)] 9)) wH:=⟨gH.os,gH.tape,gH.output,gH.size,fun k hk hn=>gH.block k hk (fun e=>hn e.symm)⟩
      have HBF3:=Lib.hid (((HBF2.out.ext XF).ext XG).tf TH (fun e=>(hne _ e).1 rfl))
      have HBI3:=Lib.hid (((HBI2.out.ext XF).ext XG).tf TH (fun e=>(hne _ e).2 rfl))
      have RH:Roll c wo wH:=(HRF.out.ext XG).grown (fun b hb=>(own_ge HSF.own b hb).1) (Nat.le_refl _) (by omega) gH
      refine one_ (i:=8) (N:=some 56) #[true,true,true,true,true,true,true,true,true,false,false,false] rfl rfl (by kernel_rfl) (by decide) (fun K hK=>?_)
      refine value_ (by rfl) rfl (by go_simp;constructor<;>rfl) ?_
      refine hK.out _ _ (XG.cell (XF.cell cE)) (fun hHeld=>?_)
      clear hK K
      refine norm_ (by show Act.put _ (some 56) _=_;simp only [pt_];rfl) ?_
      refine one_ (i:=9) (N:=some 57) #[true,true,true,true,true,true,true,true,true,true,false,false] rfl rfl (by kernel_rfl) (by decide) (fun K hK=>?_)
      refine value_ (w1:=wH) (v:=.slice aH (j+1) cH) (by rfl) rfl (exec_append rfl rH) ?_
      refine hK.out _ _ ((HBF3.out.cell 1).trans rfl) (fun hHeld=>?_)
      clear hK K
      refine norm_ (by show Act.put _ (some 57) _=_;simp only [pt_];rfl) ?_
      refine pu_ 10 (some 58) #[true,true,true,true,true,true,true,true,true,true,true,false] rfl rfl (by kernel_rfl) (fun _ _ _ h=>h) (by rfl) (by intro w';go_simp;with_reducible rfl) (by simp only [pt_];rfl) ?_
      have q1:wH.cell? ⟨wo.heap.size,1,none⟩=some (.slice aQ j cQ):=(HBF3.out.cell 1).trans rfl
      have q2:wH.frozen? ⟨wo.heap.size,1,none⟩=false:=HBF3.out.frozen 1
      have TI:Tf (Is wo.heap.size) wH (wH.setCell ⟨wo.heap.size,1,none⟩ (.slice aH (j+1) cH)):=set_tf _ _ _ _
      have HR4:Hid (Roll c wo (wH.setCell ⟨wo.heap.size,1,none⟩ (.slice aH (j+1) cH))):=⟨RH.cur.tf TI (fun b hb e=>by have e:b=wo.heap.size:=e;omega),RH.tf.trans2 TI (fun i hi e=>by have e:i=wo.heap.size:=e;omega)⟩
      have HBF4:Hid (Blk (wH.setCell ⟨wo.heap.size,1,none⟩ (.slice aH (j+1) cH)) wo.heap.size 83 #[.string nm,.slice aH (j+1) cH,.slice none 0 0]):=HBF3.out.set 1 _
      have HBI4:=Lib.hid (HBI3.out.tf TI (fun e=>by have e:wA.heap.size=wo.heap.size:=e;omega))
      have HS4:Hid (OwnStr wo.heap.size (wH.setCell ⟨wo.heap.size,1,none⟩ (.slice aH (j+1) cH)) (.slice aH (j+1) cH) (ss ++ [s ++ t])):=⟨own_set OH.own (own_ne_blk OH.own HBF3.out (by decide)),OH.ok⟩
      refine last_ (i:=11) (N:=none) #[true,true,true,true,true,true,true,true,true,true,true,true] rfl rfl (by kernel_rfl) (by decide) (fun K hK=>?_)
      go_simp
      refine hK.out _ _ ?_
      clear hK K
      refine done_ (by kernel_rfl) ?_
      clear hHeld q1 q2 TI OH gH rH TH hne XG HSF cE XF X1 X2
      go_wp2
      go_roundw
      case rel=>exact ⟨j+1,_,_,by omega,by go_num,hlH,HR4.out,HBF4.out,HS4.out,HBI4.out⟩
      case measure=>simp [intOf];omega
     ·have c1:=(HBF.out.cell 1).trans (show _=some (Value.slice aQ j cQ) from rfl)
      have i2:wr.cell? ⟨wA.heap.size,2,none⟩=some (.slice none 0 0):=(HBI.out.cell 2).trans rfl
      have i2f:=HBI.out.frozen 2
      have hne:∀ b,(Value.slice aQ j cQ).ownBlock=some b→b≠wA.heap.size:=fun b hb e=>own_ne_blk HS.out.own HBI.out (by decide) (by rw [← e];exact hb.symm)
      have TI:=set_tf wr wA.heap.size 2 (.slice aQ j cQ)
      have hSl:=HS.out.slne (K:=fun b=>b≠c∧b≠wA.heap.size) (fun b hb ho=>⟨by omega,hne b ho⟩)
      have hGV:=(HCK.out.step (K':=fun b=>b≠c∧b≠wA.heap.size) (HR.out.tf.keep (fun b hb e=>hb.1.1 e)) (fun b hb hlt=>⟨hb.1,by omega⟩)).gv (K':=fun b=>b≠c∧b≠wA.heap.size) (by omega) (fun b hb _=>hb)
      have hGA:GenAt c wA.heap.size 0 (wr.setCell ⟨wA.heap.size,2,none⟩ (.slice aQ j cQ)):=GenAt.set2 (⟨_,_,_,_,0,HBI.out,hGV⟩:GenAt c wA.heap.size 0 wr) hSl (by omega)
      have HRa:Hid (Roll c wo (wr.setCell ⟨wA.heap.size,2,none⟩ (.slice aQ j cQ))):=⟨HR.out.cur.tf TI (fun b hb e=>by have e:b=wA.heap.size:=e;omega),HR.out.tf.trans2 TI (fun i hi e=>by have e:i=wA.heap.size:=e;omega)⟩
      have HBFa:=Lib.hid (HBF.out.tf TI (fun e=>by have e:wo.heap.size=wA.heap.size:=e;omega))
      have HSa:Hid (OwnStr wo.heap.size (wr.setCell ⟨wA.heap.size,2,none⟩ (.slice aQ j cQ)) (.slice aQ j cQ) ss):=⟨own_tf HS.out.own TI (fun b hb e=>hne b hb e),HS.out.ok⟩
      have HBIa:=Lib.hid (HBI.out.set 2 (.slice aQ j cQ))
      have HGA:=Lib.hid hGA
      have hIr:=HBI.out.lt
      have hTIs:=TI.size
      generalize hwa:wr.setCell ⟨wA.heap.size,2,none⟩ (.slice aQ j cQ)=wa at hTIs HRa HBFa HSa HGA HBIa
      clear TI hSl hGV hGA hne
      go_wp2_with fail
      refine (HBw.out 4 wa (by omega) HRa.out.cur).mono ?_
      rintro e wb ⟨x,rfl,h5,h6,hRb⟩
      obtain ⟨u,rfl⟩:∃ u:Nat,x=u:=⟨x.toNat,by omega⟩
      have HR2b:Hid (Roll2 c wA.heap.size 0 wa wb):=(Roll2.refl HRa.out.cur HGA.out).roll hRb (by omega)
      clear hRb c1 i2 i2f hwa HR HBF HS HBI
      go_wp2_with fail
      refine (HGB.out wA.heap.size u wb (by omega) (by omega) HR2b.out.cur HR2b.out.gen).mono ?_
      rintro e wc ⟨vB,lB,rfl,hOB,hloB,hlB,hRc⟩
      obtain ⟨aB,cB,rfl,_,_⟩:=hOB.len
      have hRC:Roll2 c wA.heap.size 256 wa wc:=HR2b.out.trans hRc
      have hFn:¬ Is2 c wA.heap.size wo.heap.size:=fun e=>by rcases e with e | e<;>omega
      have hBFc:=HBFa.out.tf hRC.tf hFn
      have q2:wc.cell? ⟨wo.heap.size,2,none⟩=some (.slice none 0 0):=(hBFc.cell 2).trans rfl
      have q2f:=hBFc.frozen 2
      have TF:=set_tf wc wo.heap.size 2 (.slice aB lB.length cB)
      have hge:=hRa_size HRa.out
      have HRd:Hid (Roll c wo (wc.setCell ⟨wo.heap.size,2,none⟩ (.slice aB lB.length cB))):=⟨hRC.cur.tf TF (fun b hb e=>by have e:b=wo.heap.size:=e;omega),(HRa.out.tf.trans2 hRC.tf (fun i hi e=>by rcases e with e | e;exact e;omega)).trans2 TF (fun i hi e=>by have e:i=wo.heap.size:=e;omega)⟩
      have HGd:=Lib.hid (hRC.gen.setF (i:=2) (v:=.slice aB lB.length cB) hBFc (by omega))
      have HBFd:=Lib.hid (hBFc.set 2 (.slice aB lB.length cB))
      have HOd:Hid (OwnS wa.heap.size (wc.setCell ⟨wo.heap.size,2,none⟩ (.slice aB lB.length cB)) (.slice aB lB.length cB) lB):=(hOB.tf TF (fun b hb=>by have e:b=wo.heap.size:=hb;have:=HR2b.out.tf.size;omega)).base HR2b.out.tf.size
      have HSd:Hid (OwnStr wo.heap.size (wc.setCell ⟨wo.heap.size,2,none⟩ (.slice aB lB.length cB)) (.slice aQ j cQ) ss):=⟨own_tf (own_tf HSa.out.own hRC.tf (fun b hb hm=>by
        rcases hm with e | e
        ·have:=(own_ge HSa.out.own b hb).1;omega
        ·exact own_ne_blk HSa.out.own HBIa.out (by decide) (by rw [← e];exact hb.symm))) TF (fun b hb e=>own_ne_blk HSa.out.own HBFa.out (by decide) (by have e:b=wo.heap.size:=e;rw [← e];exact hb.symm)),HSa.out.ok⟩
      have hRSz:=hRC.tf.size
      have hRb:=HR2b.out.tf.size
      have hTFs:=TF.size
      generalize hwd:wc.setCell ⟨wo.heap.size,2,none⟩ (.slice aB lB.length cB)=wd at hTFs HRd HGd HBFd HOd HSd
      have HlB:Hid (1≤lB.length∧lB.length≤256):=⟨hloB,hlB⟩
      clear hOB hRc hRC hBFc TF HRa HBFa HSa HBIa HGA HR2b
      obtain ⟨bC,mC,dC,bP,mP,dP,bS,mS,dS,bL,mL,dL,m,c0,c1,c2,c3,c4,_,_,_,HV⟩:=HGd.out.op
      have cB2:wd.cell? ⟨wo.heap.size,2,none⟩=some (.slice aB lB.length cB):=(HBFd.out.cell 2).trans rfl
      go_wp2_with fail
      have X1:Ext wd wd.drew:=(Ext.refl wd).drew
      have hFI:wo.heap.size≠wA.heap.size:=by omega
      obtain ⟨hBIop⟩:Nonempty (∃ arr,Blk wd wA.heap.size 153 arr):=by
       obtain ⟨_,_,_,_,_,hb,_⟩:=HGd.out
       exact ⟨_,hb⟩
      obtain ⟨arrI,hBIop⟩:=hBIop
      have HBId:=Lib.hid hBIop
      have hwda:=HRd.out.tf.size
      refine start_ (n:=10) (S:=fun w'=>w'.cell? ⟨wo.heap.size,2,none⟩=some (.slice aB lB.length cB)∧w'.cell? ⟨wA.heap.size,0,none⟩=some (.slice bC mC dC)∧w'.cell? ⟨wA.heap.size,1,none⟩=some (.slice bP mP dP)∧w'.cell? ⟨wA.heap.size,2,none⟩=some (.slice bS mS dS)∧w'.cell? ⟨wA.heap.size,3,none⟩=some (.slice bL mL dL)∧w'.cell? ⟨wA.heap.size,4,none⟩=some (.int .i64 (m:Nat))) (ds:=[9]) #[false,false,false,false,false,false,false,false,false,false] (by kernel_rfl) rfl rfl ?hS (fun hHeld=>?_)
      case hS=>exact ⟨X1.cell cB2,X1.cell c0,X1.cell c1,X1.cell c2,X1.cell c3,X1.cell c4⟩
      refine pu_ 0 (some 68) #[true,false,false,false,false,false,false,false,false,false] rfl rfl (by kernel_rfl) (fun _ _ _ h=>h) (by rfl) (by intro w';go_simp;with_reducible rfl) (by simp only [pt_];rfl) ?_
      refine ta_ 1 (some 69) #[true,true,false,false,false,false,false,false,false,false] rfl rfl (by kernel_rfl) (fun _ _ _ h=>h) hHeld (by rfl) (by rintro w' ⟨s0,s1,s2,s3,s4,s5⟩;go_simp;with_reducible rfl) (by simp only [pt_];rfl) ?_
      refine pu_ 2 (some 70) #[true,true,true,false,false,false,false,false,false,false] rfl rfl (by kernel_rfl) (fun _ _ _ h=>h) (by rfl) (by intro w';go_simp;with_reducible rfl) (by simp only [pt_];rfl) ?_
      refine ta_ 3 (some 71) #[true,true,true,true,false,false,false,false,false,false] rfl rfl (by kernel_rfl) (fun _ _ _ h=>h) hHeld (by rfl) (by rintro w' ⟨s0,s1,s2,s3,s4,s5⟩;go_simp;with_reducible rfl) (by simp only [pt_];rfl) ?_
      generalize wd.drew=we at X1 hHeld ⊢
      have HRe:Hid (Roll c wo we):=HRd.out.ext X1
      have HW:=Lib.hid (d_l2GenWhole c _ _ _ _ _ m 256 we HRe.out.cur (HV.out.step (X1.keep _)) (fun b hb=>hb.1.1))
      refine one_ (i:=4) (N:=some 72) #[true,true,true,true,true,false,false,false,false,false] rfl rfl (by kernel_rfl) (by decide) (fun K hK=>?_)
      refine goes_ (N:=some 72) Tryz.func95 (by kernel_rfl) rfl #[.pointer (some ⟨c,0,none⟩),.agg #[.slice bC mC dC,.slice bP mP dP,.slice bS mS dS,.slice bL mL dL,.int .i64 (m:Nat)]] (by rfl) rfl rfl (by simp [Act.eval]) ?_
      refine HW.out.mono ?_
      rintro e wf ⟨v9,l9,rfl,hO9,hl9,hR9⟩
      obtain ⟨a9,n9,e9,rfl⟩:=hO9.form
      have hcF:¬ wo.heap.size=c:=by omega
      have hcI:¬ wA.heap.size=c:=by omega
      obtain ⟨e0,e1,e2,e3,e4,e5⟩:=hHeld
      refine ⟨_,rfl,?_⟩
      refine hK.out _ _ ⟨hR9.tf.cell (a:=⟨wo.heap.size,2,none⟩) hcF e0,hR9.tf.cell (a:=⟨wA.heap.size,0,none⟩) hcI e1,hR9.tf.cell (a:=⟨wA.heap.size,1,none⟩) hcI e2,hR9.tf.cell (a:=⟨wA.heap.size,2,none⟩) hcI e3,hR9.tf.cell (a:=⟨wA.heap.size,3,none⟩) hcI e4,hR9.tf.cell (a:=⟨wA.heap.size,4,none⟩) hcI e5⟩ (fun hHeld=>?_)
      clear hK K
      refine norm_ (by show Act.put _ (some 72) _=_;simp only [pt_];rfl) ?_
      refine pu_ 5 (some 73) #[true,true,true,true,true,true,false,false,false,false] rfl rfl (by kernel_rfl) (fun _ _ _ h=>h) (by rfl) (by intro w';go_simp;with_reducible rfl) (by simp only [pt_];rfl) ?_
      have HRf:Hid (Roll c wo wf):=HRe.out.trans hR9
      have hBFf:=(HBFd.out.ext X1).tf hR9.tf hcF
      have hBIf:=(HBId.out.ext X1).tf hR9.tf hcI
      have hOf:=(HOd.out.ext X1).tf hR9.tf (fun b hb=>by have e:b=c:=hb;omega)
      have hSf:OwnStr wo.heap.size wf (.slice aQ j cQ) ss:=(HSd.out.tf (Tf.ext (M:=fun _=>False) X1) (fun _ _ h=>h.elim)).tf hR9.tf (fun b _ hb=>by have e:b=c:=hb;omega)
      have hge:=own_ge (HOd.out.ext X1).own
      have hweS:=X1.size
      have hx10:SOk (fun b=>wa.heap.size≤b∧some b≠(Value.slice aB lB.length cB).ownBlock) wf ⟨⟨6,⟨#[]⟩,l9,[],0,0⟩,a9,n9,e9,none,0,0⟩ :=
       (SOkN.e1 hO9 (by omega) (i64s 6 (by omega)) (i64s 0 (by omega)) (i64s 0 (by omega)) noName).keep (Keep.refl _ _) (fun b hb=>⟨by omega,fun e=>by have:=(hge b e.symm).2;omega⟩)
      obtain ⟨v10,w10,r10,O10,g10⟩:=OwnSN.app1 (ty:=81) hOf _ hx10 (by have:=HlB.out;omega) (by have:=hR9.tf.size;omega)
      obtain ⟨l10,hl10⟩:∃ l10,l10=lB ++ [(⟨⟨6,⟨#[]⟩,l9,[],0,0⟩,a9,n9,e9,none,0,0⟩:SRow)]:=⟨_,rfl⟩
      rw [← hl10] at O10
      have hl10':1≤l10.length∧l10.length≤257:=by have:=HlB.out;rw [hl10];simp;omega
      clear hl10
      obtain ⟨a10,c10,rfl,_,_⟩:=O10.len
      have XG:Ext wf (wf.alloc (.cells #[.int .i64 6,.string ⟨#[]⟩,.slice a9 n9 e9,.slice none 0 0,.int .i64 0,.int .i64 0] 102)):=(Ext.refl wf).alloc _
      have T10:=grown_tf2 g10
      have hBFx:=(hBFf.ext XG).tf T10 (fun e=>own_ne_blk hOf.own hBFf (by decide) (by simpa using e.symm))
      have hBIx:=(hBIf.ext XG).tf T10 (fun e=>own_ne_blk hOf.own hBIf (by decide) (by simpa using e.symm))
      have hSx:OwnStr wo.heap.size w10 (.slice aQ j cQ) ss:=⟨own_tf (hSf.tf (Tf.ext (M:=fun _=>False) XG) (fun _ _ h=>h.elim)).own T10 (fun b hb e=>own_ne_own hSf.own hOf.own (by decide) b hb e),hSf.ok⟩
      have RX:Roll c wo w10:=(HRf.out.ext XG).grown (fun b hb=>(own_ge hOf.own b hb).1) (by omega) (by omega) g10
      refine one_ (i:=6) (N:=some 74) #[true,true,true,true,true,true,true,false,false,false] rfl rfl (by kernel_rfl) (by decide) (fun K hK=>?_)
      refine value_ (by rfl) rfl (by go_simp;constructor<;>rfl) ?_
      refine hK.out _ _ ⟨(hBFf.ext XG).cell 2 |>.trans rfl,XG.cell (hR9.tf.cell (a:=⟨wA.heap.size,0,none⟩) hcI e1),XG.cell (hR9.tf.cell (a:=⟨wA.heap.size,1,none⟩) hcI e2),XG.cell (hR9.tf.cell (a:=⟨wA.heap.size,2,none⟩) hcI e3),XG.cell (hR9.tf.cell (a:=⟨wA.heap.size,3,none⟩) hcI e4),XG.cell (hR9.tf.cell (a:=⟨wA.heap.size,4,none⟩) hcI e5)⟩ (fun hHeld=>?_)
      clear hK K
      refine norm_ (by show Act.put _ (some 74) _=_;simp only [pt_];rfl) ?_
      have hnI:¬ (Value.slice aB lB.length cB).ownBlock=some wA.heap.size:=fun e=>own_ne_blk hOf.own hBIf (by decide) (by simpa using e.symm)
      refine one_ (i:=7) (N:=some 75) #[true,true,true,true,true,true,true,true,false,false] rfl rfl (by kernel_rfl) (by decide) (fun K hK=>?_)
      refine value_ (w1:=w10) (v:=_) (by rfl) rfl (exec_append rfl r10) ?_
      refine hK.out _ _ ⟨(hBFx.cell 2).trans rfl,T10.cell (a:=⟨wA.heap.size,0,none⟩) hnI (XG.cell (hR9.tf.cell (a:=⟨wA.heap.size,0,none⟩) hcI e1)),T10.cell (a:=⟨wA.heap.size,1,none⟩) hnI (XG.cell (hR9.tf.cell (a:=⟨wA.heap.size,1,none⟩) hcI e2)),T10.cell (a:=⟨wA.heap.size,2,none⟩) hnI (XG.cell (hR9.tf.cell (a:=⟨wA.heap.size,2,none⟩) hcI e3)),T10.cell (a:=⟨wA.heap.size,3,none⟩) hnI (XG.cell (hR9.tf.cell (a:=⟨wA.heap.size,3,none⟩) hcI e4)),T10.cell (a:=⟨wA.heap.size,4,none⟩) hnI (XG.cell (hR9.tf.cell (a:=⟨wA.heap.size,4,none⟩) hcI e5))⟩ (fun hHeld=>?_)
      clear hK K
      refine norm_ (by show Act.put _ (some 75) _=_;simp only [pt_];rfl) ?_
      refine pu_ 8 (some 76) #[true,true,true,true,true,true,true,true,true,false] rfl rfl (by kernel_rfl) (fun _ _ _ h=>h) (by rfl) (by intro w';go_simp;with_reducible rfl) (by simp only [pt_];rfl) ?_
      have q3:w10.cell? ⟨wo.heap.size,2,none⟩=some (.slice aB lB.length cB):=(hBFx.cell 2).trans rfl
      have q4:w10.frozen? ⟨wo.heap.size,2,none⟩=false:=hBFx.frozen 2
      have TW:=set_tf w10 wo.heap.size 2 (.slice a10 l10.length c10)
      have HRg:Hid (Roll c wo (w10.setCell ⟨wo.heap.size,2,none⟩ (.slice a10 l10.length c10))):=⟨RX.cur.tf TW (fun b hb e=>by have e:b=wo.heap.size:=e;omega),RX.tf.trans2 TW (fun i hi e=>by have e:i=wo.heap.size:=e;omega)⟩
      have HBFg:Hid (Blk (w10.setCell ⟨wo.heap.size,2,none⟩ (.slice a10 l10.length c10)) wo.heap.size 83 #[.string nm,.slice aQ j cQ,.slice a10 l10.length c10]):=hBFx.set 2 _
      have HSg:Hid (OwnStr wo.heap.size (w10.setCell ⟨wo.heap.size,2,none⟩ (.slice a10 l10.length c10)) (.slice aQ j cQ) ss):=⟨own_tf hSx.own TW (fun b hb e=>own_ne_blk hSx.own hBFx (by decide) (by have e:b=wo.heap.size:=e;rw [← e];exact hb.symm)),hSx.ok⟩
      have HOg:Hid (OwnS wa.heap.size (w10.setCell ⟨wo.heap.size,2,none⟩ (.slice a10 l10.length c10)) (.slice a10 l10.length c10) l10):=O10.tf TW (fun b hb=>by have e:b=wo.heap.size:=hb;omega)
      refine last_ (i:=9) (N:=none) #[true,true,true,true,true,true,true,true,true,true] rfl rfl (by kernel_rfl) (by decide) (fun K hK=>?_)
      go_simp
      refine hK.out _ _ ?_
      clear hK K
      refine done_ (by kernel_rfl) ?_
      generalize hwg:w10.setCell ⟨wo.heap.size,2,none⟩ (.slice a10 l10.length c10)=wg at HRg HBFg HSg HOg ⊢
      clear hwg TW q3 q4 RX hSx hBIx hBFx T10 XG O10 g10 r10 hx10 hge hSf hOf hBIf hBFf hO9 hR9 e0 e1 e2 e3 e4 e5 hHeld HW X1 HRe HRf HRd HBFd HSd HOd HGd HV HBId hBIop c0 c1 c2 c3 c4 cB2 hnI hwd HlB
      have hwgS:=HRg.out.tf.size
      have hwgF:=HBFg.out.lt
      have hBTg:=HBT.out.tf HRg.out.tf (show ¬ w2.heap.size=c by omega)
      have hOFg:=HOF.out.tf HRg.out.tf (fun b _ hb=>by have e:b=c:=hb;omega)
      have t1:wg.cell? ⟨w2.heap.size,1,none⟩=some (.slice aF lF.length cF):=(hBTg.cell 1).trans rfl
      have f0:wg.cell? ⟨wo.heap.size,0,none⟩=some (.string nm):=(HBFg.out.cell 0).trans rfl
      have f1:wg.cell? ⟨wo.heap.size,1,none⟩=some (.slice aQ j cQ):=(HBFg.out.cell 1).trans rfl
      have f2:wg.cell? ⟨wo.heap.size,2,none⟩=some (.slice a10 l10.length c10):=(HBFg.out.cell 2).trans rfl
      have hgeF:=own_ge HOF.out.own
      have hx20:FOk (fun b=>w6.heap.size≤b∧some b≠(Value.slice aF lF.length cF).ownBlock) wg ⟨⟨nm,ss,l10.map SRow.s⟩,aQ,j,cQ,a10,l10.length,c10⟩:=by
       refine ⟨(HSg.out.sl (K:=fun b=>wo.heap.size≤b) (fun _ h=>h)).keep (Keep.refl _ _) (fun _ _ _ h=>h) (fun b hb=>⟨by have:=hb.1;omega,fun e=>by have:=(hgeF b e.symm).2;have:=hb.1;omega⟩),(HOg.out.sl (K:=fun b=>wa.heap.size≤b) (fun _ h=>h)).keep (Keep.refl _ _) (fun _ _ _ h=>h.keep (Keep.refl _ _) (fun b hb=>⟨by omega,fun e=>by have:=(hgeF b e.symm).2;omega⟩)) (fun b hb=>⟨by omega,fun e=>by have:=(hgeF b e.symm).2;omega⟩),hnm,?_,by simp only [List.length_map];omega,by show 50*ss.length≤5000;omega⟩
       intro x hx
       obtain ⟨y,hy,rfl⟩:=List.mem_map.1 hx
       exact ⟨(HOg.out.ok y hy).le,(HOg.out.ok y hy).lf⟩
      obtain ⟨vF2,wh,rF,OF2,gF⟩:=OwnFN.app1 (ty:=30) hOFg _ hx20 (by have:=HlF.out;omega) (by omega)
      obtain ⟨lF2,hlF2⟩:∃ lF2,lF2=lF ++ [(⟨⟨nm,ss,l10.map SRow.s⟩,aQ,j,cQ,a10,l10.length,c10⟩:FRow)]:=⟨_,rfl⟩
      rw [← hlF2] at OF2
      have HlF2:Hid (lF2.length=k+1):=by
       show _=_
       rw [hlF2]
       simp [HlF.out]
      obtain ⟨aF2,cF2,rfl,_,_⟩:=OF2.len
      have XW:Ext wg (wg.alloc (.cells #[.string nm,.slice aQ j cQ,.slice a10 l10.length c10] 83)):=(Ext.refl wg).alloc _
      have T20:=grown_tf2 gF
      have hBGg:=HBG.out.tf HRg.out.tf (show ¬ w5.heap.size=c by omega)
      have hBTh:=(hBTg.ext XW).tf T20 (fun e=>own_ne_blk hOFg.own hBTg (by decide) (by simpa using e.symm))
      have hBGh:=(hBGg.ext XW).tf T20 (fun e=>own_ne_blk hOFg.own hBGg (by decide) (by simpa using e.symm))
      have hBFh:=(HBFg.out.ext XW).tf T20 (fun e=>by have:=(hgeF _ e).2;omega)
      have hcurh:=(HRg.out.cur.ext XW).tf T20 (fun b hb e=>by have:=(hgeF _ e).1;omega)
      have TS:=set_tf wh w2.heap.size 1 (.slice aF2 lF2.length cF2)
      have HBTi:Hid (Blk (wh.setCell ⟨w2.heap.size,1,none⟩ (.slice aF2 lF2.length cF2)) w2.heap.size 32 #[.slice (some ⟨w1.heap.size,0,none⟩) 4 4,.slice aF2 lF2.length cF2]):=hBTh.set 1 _
      have HOFi:=Lib.hid (OF2.tf TS (fun b _ hb=>by have e:b=w2.heap.size:=hb;omega))
      have HBGi:=Lib.hid (hBGh.tf TS (fun e=>by have e:w5.heap.size=w2.heap.size:=e;omega))
      have HBFi:=Lib.hid (hBFh.tf TS (fun e=>by have e:wo.heap.size=w2.heap.size:=e;omega))
      have Hcuri:=Lib.hid (hcurh.tf TS (fun b hb e=>by have e:b=w2.heap.size:=e;omega))
      have TTi:Tf (fun b=>b=c∨b=w2.heap.size∨(Value.slice aF lF.length cF).ownBlock=some b) wo (wh.setCell ⟨w2.heap.size,1,none⟩ (.slice aF2 lF2.length cF2)) :=
       (((HRg.out.tf.mono (fun b e=>.inl e)).then_ext XW).trans (T20.mono (fun b e=>.inr (.inr e)))).trans (TS.mono (fun b e=>.inr (.inl e)))
      obtain ⟨cs0,ps0,S1,S2,hl1,hl2,hl3⟩:=HCK.out
      have Hl1:=Lib.hid hl1
      have Hl2:=Lib.hid hl2
      have Hl3:=Lib.hid hl3
      clear hl1 hl2 hl3
      have hkp:Keep (fun b=>(b≠c∧b≠w2.heap.size∧b≠w5.heap.size)∧NotS wo b∧NotF wo b) wo (wh.setCell ⟨w2.heap.size,1,none⟩ (.slice aF2 lF2.length cF2)):=TTi.keep (fun b hb e=>by
       rcases e with e | e | e
       ·exact hb.1.1 e
       ·exact hb.1.2.1 e
       ·rcases HOF.out.own.2 with ⟨h0,_⟩ | ⟨g',cap',cur',h0,_,hh',_⟩
        ·rw [h0] at e;cases e
        ·rw [h0] at e
         simp only [Value.ownBlock,Option.some.injEq] at e
         rw [e] at hh'
         exact hb.2.2 _ _ hh')
      have HS1:=Lib.hid (sl3_step S1 hkp (fun _ _ h=>CStr.any h) (fun b hb _=>hb))
      have HS2:=Lib.hid (sl3_step S2 hkp (fun _ _ h=>CInt.any h) (fun b hb _=>hb))
      have HTTi:Hid (Tf (fun b=>b=c∨b=w2.heap.size∨b=w5.heap.size) w6 (wh.setCell ⟨w2.heap.size,1,none⟩ (.slice aF2 lF2.length cF2))):=Htf6.out.trans2 TTi (fun i hi e=>by
       rcases e with e | e | e
       ·exact .inl e
       ·exact .inr (.inl e)
       ·have:=(hgeF _ e).1;omega)
      have t2:wh.cell? ⟨w2.heap.size,1,none⟩=some (.slice aF lF.length cF):=(hBTh.cell 1).trans rfl
      have t3:wh.frozen? ⟨w2.heap.size,1,none⟩=false:=hBTh.frozen 1
      have HA20:=Lib.hid rF
      have hwiS:wo.heap.size≤(wh.setCell ⟨w2.heap.size,1,none⟩ (.slice aF2 lF2.length cF2)).heap.size:=TTi.size
      generalize hwi:wh.setCell ⟨w2.heap.size,1,none⟩ (.slice aF2 lF2.length cF2)=wi at HBTi HOFi HBGi HBFi Hcuri HS1 HS2 HTTi hwiS
      clear hBTg hOFg hgeF hx20 rF OF2 gF hlF2 XW T20 hBGg hBTh hBGh hBFh hcurh TS TTi S1 S2 hkp
      go_wp2_with (at_builtin;refine dst_is 81 rfl ?_;refine Lib.wpList_append_run _ rfl _ _ _ _ rfl _ _ rfl rfl _ _ HA20.out ?_)
      clear HA20 t1 t2 t3 f0 f1 f2 hwi HRg HBFg HSg HOg
      have hk3:k≤3:=by omega
      have HHS:Hid (∀ w',Ext wi w'→w'.cell? ⟨w5.heap.size,0,none⟩=some (.slice aC k cC)∧w'.cell? ⟨wo.heap.size,0,none⟩=some (.string nm)):=fun w' hX=>⟨hX.cell ((HBGi.out.cell 0).trans rfl),hX.cell ((HBFi.out.cell 0).trans rfl)⟩
      have HA1:Hid (∀ w',Ext wi w'→SlStr _ w' (.slice aC k cC) cs0):=fun w' hX=>HS1.out.ext hX (fun _ _ h=>h.any)
      have X1:Ext wi wi.drew:=(Ext.refl wi).drew
      have hlc:cs0.length≤3:=by have:=Hl1.out;omega
      refine start_ (n:=10) (S:=fun w'=>w'.cell? ⟨w5.heap.size,0,none⟩=some (.slice aC k cC)∧w'.cell? ⟨wo.heap.size,0,none⟩=some (.string nm)) (ds:=[9]) #[false,false,false,false,false,false,false,false,false,false] (by kernel_rfl) rfl rfl ?hS (fun hHeld=>?_)
      case hS=>exact HHS.out _ X1
      refine pu_ 1 (some 84) #[false,true,false,false,false,false,false,false,false,false] rfl rfl (by kernel_rfl) (fun _ _ _ h=>h) (by rfl) (by intro w';go_simp;with_reducible rfl) (by simp only [pt_];rfl) ?_
      refine ta_ 2 (some 85) #[false,true,true,false,false,false,false,false,false,false] rfl rfl (by kernel_rfl) (fun _ _ _ h=>h) hHeld (by rfl) (by rintro w' ⟨s0,s1⟩;go_simp;with_reducible rfl) (by simp only [pt_];rfl) ?_
      refine pu_ 4 (some 87) #[false,true,true,false,true,false,false,false,false,false] rfl rfl (by kernel_rfl) (fun _ _ _ h=>h) (by rfl) (by intro w';go_simp;with_reducible rfl) (by simp only [pt_];rfl) ?_
      refine ta_ 5 (some 88) #[false,true,true,false,true,true,false,false,false,false] rfl rfl (by kernel_rfl) (fun _ _ _ h=>h) hHeld (by rfl) (by rintro w' ⟨s0,s1⟩;go_simp;with_reducible rfl) (by simp only [pt_];rfl) ?_
      generalize wi.drew=wd at X1 hHeld ⊢
      refine two_ (i:=0) (j:=6) (Ni:=some 83) (Nj:=some 89) #[true,true,true,false,true,true,false,false,false,false] #[false,true,true,false,true,true,true,false,false,false] rfl rfl rfl rfl (by kernel_rfl) (by simp) (by simp) (fun K hK=>?_) (fun K hK=>?_)
      ·skip
       refine value_ (by rfl) rfl (by go_simp;constructor<;>rfl) ?_
       have Y0:Ext wi (wd.alloc (.cells #[] 9)):=X1.alloc _
       have O0:=OwnStr.new wd wi.heap.size X1.size
       have e7:Ext wd (wd.alloc (.cells #[] 9)):=(Ext.refl _).alloc _
       have z7:wd.heap.size<(wd.alloc (.cells #[] 9)).heap.size:=by simp
       refine hK.out _ _ (HHS.out _ Y0) (fun hHeld=>?_)
       clear hK K
       refine norm_ (by show Act.put _ (some 83) _=_;simp only [pt_];rfl) ?_
       generalize wd.alloc (.cells #[] 9)=wn at Y0 O0 z7 e7 hHeld ⊢
       refine two_ (i:=3) (j:=6) (Ni:=some 86) (Nj:=some 89) #[true,true,true,true,true,true,false,false,false,false] #[true,true,true,false,true,true,true,false,false,false] rfl rfl rfl rfl (by kernel_rfl) (by simp) (by simp) (fun K hK=>?_) (fun K hK=>?_)
       ·skip
        obtain ⟨va,wx,ra,Oa,ga,ta⟩:=OwnStr.app (ty:=80) O0 (HA1.out _ Y0) (by simp;omega) Y0.size
        have Xa:Ext wi wx:=Below.grown Y0 ga Y0.size (fun k hk=>(own_ge O0.own k hk).1)
        refine value_ (w1:=wx) (v:=va) (by rfl) rfl (exec_append rfl ra) ?_
        refine hK.out _ _ (HHS.out _ Xa) (fun hHeld=>?_)
        clear hK K
        refine norm_ (by show Act.put _ (some 86) _=_;simp only [pt_];rfl) ?_
        refine one_ (i:=6) (N:=some 89) #[true,true,true,true,true,true,true,false,false,false] rfl rfl (by kernel_rfl) (by decide) (fun K hK=>?_)
        refine value_ (by rfl) rfl (by go_simp;constructor<;>rfl) ?_
        have Y6:Ext wi (wx.alloc (.cells #[.string nm] 9)):=Xa.alloc _
        have hN:=box_str wx nm hnm
        have z13:wx.heap.size<(wx.alloc (.cells #[.string nm] 9)).heap.size:=by simp
        have e13:Ext wx (wx.alloc (.cells #[.string nm] 9)):=(Ext.refl _).alloc _
        refine hK.out _ _ (HHS.out _ Y6) (fun hHeld=>?_)
        clear hK K
        refine norm_ (by show Act.put _ (some 89) _=_;simp only [pt_];rfl) ?_
        generalize wx.alloc (.cells #[.string nm] 9)=wb2 at Y6 hN z13 e13 hHeld ⊢
        have Oa':=Oa.tf (Tf.ext (M:=fun _=>False) e13) (fun _ _ h=>h.elim)
        obtain ⟨vb,wy,rb,Ob,gb,tb⟩:=OwnStr.app (ty:=80) Oa' hN (by simp;omega) Y6.size
        have Xb:Ext wi wy:=Below.grown Y6 gb Y6.size (fun k hk=>(own_ge Oa'.own k hk).1)
        obtain ⟨cs1,hcs1⟩:∃ cs1,cs1=[] ++ cs0 ++ [nm]:=⟨_,rfl⟩
        rw [← hcs1] at Ob
        have Hlc1:Hid (cs1.length=k+1):=by
         have:=Hl1.out
         show _=_
         rw [hcs1]
         simp
         omega
        clear hcs1
        obtain ⟨ab,cb,rfl,_,_⟩:=own_form Ob.own
        refine one_ (i:=7) (N:=some 90) #[true,true,true,true,true,true,true,true,false,false] rfl rfl (by kernel_rfl) (by decide) (fun K hK=>?_)
        refine value_ (w1:=wy) (v:=.slice ab cs1.length cb) (by rfl) rfl (exec_append rfl rb) ?_
        refine hK.out _ _ (HHS.out _ Xb) (fun hHeld=>?_)
        clear hK K
        refine norm_ (by show Act.put _ (some 90) _=_;simp only [pt_];rfl) ?_
        refine pu_ 8 (some 91) #[true,true,true,true,true,true,true,true,true,false] rfl rfl (by kernel_rfl) (fun _ _ _ h=>h) (by rfl) (by intro w';go_simp;with_reducible rfl) (by simp only [pt_];rfl) ?_
        have q0:wy.cell? ⟨w5.heap.size,0,none⟩=some (.slice aC k cC):=Xb.cell ((HBGi.out.cell 0).trans rfl)
        have q1:wy.frozen? ⟨w5.heap.size,0,none⟩=false:=(HBGi.out.ext Xb).frozen 0
        refine last_ (i:=9) (N:=none) #[true,true,true,true,true,true,true,true,true,true] rfl rfl (by kernel_rfl) (by decide) (fun K hK=>?_)
        go_simp
        refine hK.out _ _ ?_
        clear hK K
        refine done_ (by kernel_rfl) ?_
        have TZ:=set_tf wy w5.heap.size 0 (.slice ab cs1.length cb)
        have hgi:=HBGi.out.lt
        have hzS:wi.heap.size≤(wy.setCell ⟨w5.heap.size,0,none⟩ (.slice ab cs1.length cb)).heap.size:=Nat.le_trans Xb.size TZ.size
        have HBG2:Hid (Blk (wy.setCell ⟨w5.heap.size,0,none⟩ (.slice ab cs1.length cb)) w5.heap.size 153 #[.slice ab cs1.length cb,.slice aP k cP,.slice none 0 0,.slice none 0 0,.int .i64 0]):=(HBGi.out.ext Xb).set 0 _
        have HTZ:Hid (Tf (Is w5.heap.size) wi (wy.setCell ⟨w5.heap.size,0,none⟩ (.slice ab cs1.length cb))):=(Tf.ext Xb).trans TZ
        have HC1:=Lib.hid (sl3_step (K':=fun b=>b≠c∧b≠w2.heap.size∧b≠w5.heap.size) Ob.slx (TZ.keep (fun b hb e=>by have e:b=w5.heap.size:=e;have:=hb.1;omega)) (fun _ _ h=>CStr.any h) (fun b hb _=>⟨by omega,by omega,by omega⟩))
        have HC2:=Lib.hid (sl3_step (K':=fun b=>b≠c∧b≠w2.heap.size∧b≠w5.heap.size) HS2.out (HTZ.out.keep (fun b hb e=>hb.1.2.2 e)) (fun _ _ h=>CInt.any h) (fun b hb _=>hb))
        generalize hwz:wy.setCell ⟨w5.heap.size,0,none⟩ (.slice ab cs1.length cb)=wz at HBG2 HTZ HC1 HC2 hzS ⊢
        clear hwz q0 q1 TZ Ob gb tb rb Xb hHeld
        obtain ⟨vn,wp,an,cn,wq,rn1,rn2,Xn2,Xn4,SN⟩:=app_num wz _ _ ps0 HC2.out (np:Int) (wf64 (by unfold I64;omega)) (by have:=Hl2.out;omega)
        have HN1:=Lib.hid rn1
        have HN2:=Lib.hid rn2
        have q1:(wz.alloc (.cells #[] 2)).cell? ⟨w5.heap.size,1,none⟩=some (.slice aP k cP):=Ext.cell ((Ext.refl wz).alloc _) ((HBG2.out.cell 1).trans rfl)
        have q2:wq.cell? ⟨w5.heap.size,1,none⟩=some (.slice aP k cP):=Xn4.cell ((HBG2.out.cell 1).trans rfl)
        have q3:wq.frozen? ⟨w5.heap.size,1,none⟩=false:=(HBG2.out.ext Xn4).frozen 1
        have TK:=set_tf wq w5.heap.size 1 (.slice an (ps0.length+1) cn)
        have TZK:Tf (Is w5.heap.size) wi (wq.setCell ⟨w5.heap.size,1,none⟩ (.slice an (ps0.length+1) cn)):=(HTZ.out.then_ext Xn4).trans TK
        have HD2:Hid (DInv c w6 w2.heap.size w5.heap.size (.slice (some ⟨w1.heap.size,0,none⟩) 4 4) (k+1) (wq.setCell ⟨w5.heap.size,1,none⟩ (.slice an (ps0.length+1) cn))):=by
         refine ⟨Hcuri.out.tf TZK (fun b hb e=>by have e:b=w5.heap.size:=e;omega),HTTi.out.trans (TZK.mono (fun b e=>.inr (.inr e))),⟨_,lF2,HBTi.out.tf TZK (fun e=>by have e:w2.heap.size=w5.heap.size:=e;omega),HOFi.out.tf TZK (fun b _ hb=>by have e:b=w5.heap.size:=hb;omega),HlF2.out⟩,⟨_,_,(HBG2.out.ext Xn4).set 1 _,⟨cs1,ps0 ++ [(np:Int)],?_,?_,Hlc1.out,by simp [Hl2.out],?_⟩⟩⟩
         ·exact sl3_step HC1.out (((Tf.ext (M:=Is w5.heap.size) Xn4).trans TK).keep (fun b hb e=>hb.1.2.2 e)) (fun _ _ h=>CStr.any h) (fun b hb _=>hb)
         ·exact sl3_step SN (TK.keep (fun b hb e=>by have e:b=w5.heap.size:=e;have:=hb.1;omega)) (fun _ _ h=>CInt.any h) (fun b hb _=>⟨by omega,by omega,by omega⟩)
         ·intro x hx
          rcases List.mem_append.1 hx with hx | hx
          ·exact Hl3.out x hx
          ·rw [List.mem_singleton.1 hx];omega
        clear TK TZK SN Xn2 Xn4 rn1 rn2
        go_wp2_with (at_builtin;first
         | (refine dst_is 95 rfl ?_;refine Lib.wpList_append_run _ rfl _ _ _ _ rfl _ _ rfl rfl _ _ HN1.out ?_)
         | (refine dst_is 98 rfl ?_;refine Lib.wpList_append_run _ rfl _ _ _ _ rfl _ _ rfl rfl _ _ HN2.out ?_))
        go_roundw
        case rel=>exact ⟨k+1,by omega,by go_num,HD2.out⟩
        case measure=>simp [intOf];omega
       ·skip
        refine value_ (by rfl) rfl (by go_simp;constructor<;>rfl) ?_
        have Y6:Ext wi (wn.alloc (.cells #[.string nm] 9)):=Y0.alloc _
        have hN:=box_str wn nm hnm
        have z13:wn.heap.size<(wn.alloc (.cells #[.string nm] 9)).heap.size:=by simp
        have e13:Ext wn (wn.alloc (.cells #[.string nm] 9)):=(Ext.refl _).alloc _
        refine hK.out _ _ (HHS.out _ Y6) (fun hHeld=>?_)
        clear hK K
        refine norm_ (by show Act.put _ (some 89) _=_;simp only [pt_];rfl) ?_
        generalize wn.alloc (.cells #[.string nm] 9)=wb2 at Y6 hN z13 e13 hHeld ⊢
        have O0':=O0.tf (Tf.ext (M:=fun _=>False) e13) (fun _ _ h=>h.elim)
        have n0:∀ k,(Value.slice (some ⟨wd.heap.size,0,none⟩) 0 0).ownBlock=some k→k≠wn.heap.size:=fun k hk=>by have:=(own_ge O0.own k hk).2;omega
        refine one_ (i:=3) (N:=some 86) #[true,true,true,true,true,true,true,false,false,false] rfl rfl (by kernel_rfl) (by decide) (fun K hK=>?_)
        obtain ⟨va,wx,ra,Oa,ga,ta⟩:=OwnStr.app (ty:=80) O0' (HA1.out _ Y6) (by simp;omega) Y6.size
        have Xa:Ext wi wx:=Below.grown Y6 ga Y6.size (fun k hk=>(own_ge O0'.own k hk).1)
        refine value_ (w1:=wx) (v:=va) (by rfl) rfl (exec_append rfl ra) ?_
        refine hK.out _ _ (HHS.out _ Xa) (fun hHeld=>?_)
        clear hK K
        refine norm_ (by show Act.put _ (some 86) _=_;simp only [pt_];rfl) ?_
        have hN2:=box_other hN ga n0
        obtain ⟨vb,wy,rb,Ob,gb,tb⟩:=OwnStr.app (ty:=80) Oa hN2 (by simp;omega) Xa.size
        have Xb:Ext wi wy:=Below.grown Xa gb Xa.size (fun k hk=>(own_ge Oa.own k hk).1)
        obtain ⟨cs1,hcs1⟩:∃ cs1,cs1=[] ++ cs0 ++ [nm]:=⟨_,rfl⟩
        rw [← hcs1] at Ob
        have Hlc1:Hid (cs1.length=k+1):=by
         have:=Hl1.out
         show _=_
         rw [hcs1]
         simp
         omega
        clear hcs1
        obtain ⟨ab,cb,rfl,_,_⟩:=own_form Ob.own
        refine one_ (i:=7) (N:=some 90) #[true,true,true,true,true,true,true,true,false,false] rfl rfl (by kernel_rfl) (by decide) (fun K hK=>?_)
        refine value_ (w1:=wy) (v:=.slice ab cs1.length cb) (by rfl) rfl (exec_append rfl rb) ?_
        refine hK.out _ _ (HHS.out _ Xb) (fun hHeld=>?_)
        clear hK K
        refine norm_ (by show Act.put _ (some 90) _=_;simp only [pt_];rfl) ?_
        refine pu_ 8 (some 91) #[true,true,true,true,true,true,true,true,true,false] rfl rfl (by kernel_rfl) (fun _ _ _ h=>h) (by rfl) (by intro w';go_simp;with_reducible rfl) (by simp only [pt_];rfl) ?_
        have q0:wy.cell? ⟨w5.heap.size,0,none⟩=some (.slice aC k cC):=Xb.cell ((HBGi.out.cell 0).trans rfl)
        have q1:wy.frozen? ⟨w5.heap.size,0,none⟩=false:=(HBGi.out.ext Xb).frozen 0
        refine last_ (i:=9) (N:=none) #[true,true,true,true,true,true,true,true,true,true] rfl rfl (by kernel_rfl) (by decide) (fun K hK=>?_)
        go_simp
        refine hK.out _ _ ?_
        clear hK K
        refine done_ (by kernel_rfl) ?_
        have TZ:=set_tf wy w5.heap.size 0 (.slice ab cs1.length cb)
        have hgi:=HBGi.out.lt
        have hzS:wi.heap.size≤(wy.setCell ⟨w5.heap.size,0,none⟩ (.slice ab cs1.length cb)).heap.size:=Nat.le_trans Xb.size TZ.size
        have HBG2:Hid (Blk (wy.setCell ⟨w5.heap.size,0,none⟩ (.slice ab cs1.length cb)) w5.heap.size 153 #[.slice ab cs1.length cb,.slice aP k cP,.slice none 0 0,.slice none 0 0,.int .i64 0]):=(HBGi.out.ext Xb).set 0 _
        have HTZ:Hid (Tf (Is w5.heap.size) wi (wy.setCell ⟨w5.heap.size,0,none⟩ (.slice ab cs1.length cb))):=(Tf.ext Xb).trans TZ
        have HC1:=Lib.hid (sl3_step (K':=fun b=>b≠c∧b≠w2.heap.size∧b≠w5.heap.size) Ob.slx (TZ.keep (fun b hb e=>by have e:b=w5.heap.size:=e;have:=hb.1;omega)) (fun _ _ h=>CStr.any h) (fun b hb _=>⟨by omega,by omega,by omega⟩))
        have HC2:=Lib.hid (sl3_step (K':=fun b=>b≠c∧b≠w2.heap.size∧b≠w5.heap.size) HS2.out (HTZ.out.keep (fun b hb e=>hb.1.2.2 e)) (fun _ _ h=>CInt.any h) (fun b hb _=>hb))
        generalize hwz:wy.setCell ⟨w5.heap.size,0,none⟩ (.slice ab cs1.length cb)=wz at HBG2 HTZ HC1 HC2 hzS ⊢
        clear hwz q0 q1 TZ Ob gb tb rb Xb hHeld
        obtain ⟨vn,wp,an,cn,wq,rn1,rn2,Xn2,Xn4,SN⟩:=app_num wz _ _ ps0 HC2.out (np:Int) (wf64 (by unfold I64;omega)) (by have:=Hl2.out;omega)
        have HN1:=Lib.hid rn1
        have HN2:=Lib.hid rn2
        have q1:(wz.alloc (.cells #[] 2)).cell? ⟨w5.heap.size,1,none⟩=some (.slice aP k cP):=Ext.cell ((Ext.refl wz).alloc _) ((HBG2.out.cell 1).trans rfl)
        have q2:wq.cell? ⟨w5.heap.size,1,none⟩=some (.slice aP k cP):=Xn4.cell ((HBG2.out.cell 1).trans rfl)
        have q3:wq.frozen? ⟨w5.heap.size,1,none⟩=false:=(HBG2.out.ext Xn4).frozen 1
        have TK:=set_tf wq w5.heap.size 1 (.slice an (ps0.length+1) cn)
        have TZK:Tf (Is w5.heap.size) wi (wq.setCell ⟨w5.heap.size,1,none⟩ (.slice an (ps0.length+1) cn)):=(HTZ.out.then_ext Xn4).trans TK
        have HD2:Hid (DInv c w6 w2.heap.size w5.heap.size (.slice (some ⟨w1.heap.size,0,none⟩) 4 4) (k+1) (wq.setCell ⟨w5.heap.size,1,none⟩ (.slice an (ps0.length+1) cn))):=by
         refine ⟨Hcuri.out.tf TZK (fun b hb e=>by have e:b=w5.heap.size:=e;omega),HTTi.out.trans (TZK.mono (fun b e=>.inr (.inr e))),⟨_,lF2,HBTi.out.tf TZK (fun e=>by have e:w2.heap.size=w5.heap.size:=e;omega),HOFi.out.tf TZK (fun b _ hb=>by have e:b=w5.heap.size:=hb;omega),HlF2.out⟩,⟨_,_,(HBG2.out.ext Xn4).set 1 _,⟨cs1,ps0 ++ [(np:Int)],?_,?_,Hlc1.out,by simp [Hl2.out],?_⟩⟩⟩
         ·exact sl3_step HC1.out (((Tf.ext (M:=Is w5.heap.size) Xn4).trans TK).keep (fun b hb e=>hb.1.2.2 e)) (fun _ _ h=>CStr.any h) (fun b hb _=>hb)
         ·exact sl3_step SN (TK.keep (fun b hb e=>by have e:b=w5.heap.size:=e;have:=hb.1;omega)) (fun _ _ h=>CInt.any h) (fun b hb _=>⟨by omega,by omega,by omega⟩)
         ·intro x hx
          rcases List.mem_append.1 hx with hx | hx
          ·exact Hl3.out x hx
          ·rw [List.mem_singleton.1 hx];omega
        clear TK TZK SN Xn2 Xn4 rn1 rn2
        go_wp2_with (at_builtin;first
         | (refine dst_is 95 rfl ?_;refine Lib.wpList_append_run _ rfl _ _ _ _ rfl _ _ rfl rfl _ _ HN1.out ?_)
         | (refine dst_is 98 rfl ?_;refine Lib.wpList_append_run _ rfl _ _ _ _ rfl _ _ rfl rfl _ _ HN2.out ?_))
        go_roundw
        case rel=>exact ⟨k+1,by omega,by go_num,HD2.out⟩
        case measure=>simp [intOf];omega
      ·skip
       refine value_ (by rfl) rfl (by go_simp;constructor<;>rfl) ?_
       have Y6:Ext wi (wd.alloc (.cells #[.string nm] 9)):=X1.alloc _
       have hN:=box_str wd nm hnm
       have z13:wd.heap.size<(wd.alloc (.cells #[.string nm] 9)).heap.size:=by simp
       have e13:Ext wd (wd.alloc (.cells #[.string nm] 9)):=(Ext.refl _).alloc _
       refine hK.out _ _ (HHS.out _ Y6) (fun hHeld=>?_)
       clear hK K
       refine norm_ (by show Act.put _ (some 89) _=_;simp only [pt_];rfl) ?_
       generalize wd.alloc (.cells #[.string nm] 9)=wb2 at Y6 hN z13 e13 hHeld ⊢
       refine one_ (i:=0) (N:=some 83) #[true,true,true,false,true,true,true,false,false,false] rfl rfl (by kernel_rfl) (by decide) (fun K hK=>?_)
       refine value_ (by rfl) rfl (by go_simp;constructor<;>rfl) ?_
       have Y0:Ext wi (wb2.alloc (.cells #[] 9)):=Y6.alloc _
       have O0:=OwnStr.new wb2 wi.heap.size Y6.size
       have e7:Ext wb2 (wb2.alloc (.cells #[] 9)):=(Ext.refl _).alloc _
       have z7:wb2.heap.size<(wb2.alloc (.cells #[] 9)).heap.size:=by simp
       refine hK.out _ _ (HHS.out _ Y0) (fun hHeld=>?_)
       clear hK K
       refine norm_ (by show Act.put _ (some 83) _=_;simp only [pt_];rfl) ?_
       generalize wb2.alloc (.cells #[] 9)=wn at Y0 O0 z7 e7 hHeld ⊢
       have n0:∀ k,(Value.slice (some ⟨wb2.heap.size,0,none⟩) 0 0).ownBlock=some k→k≠wd.heap.size:=fun k hk=>by cases hk;show wb2.heap.size≠wd.heap.size;omega
       have hN0:=Sl.ext hN e7 (fun _ _ h=>h.any)
       refine one_ (i:=3) (N:=some 86) #[true,true,true,true,true,true,true,false,false,false] rfl rfl (by kernel_rfl) (by decide) (fun K hK=>?_)
       obtain ⟨va,wx,ra,Oa,ga,ta⟩:=OwnStr.app (ty:=80) O0 (HA1.out _ Y0) (by simp;omega) Y0.size
       have Xa:Ext wi wx:=Below.grown Y0 ga Y0.size (fun k hk=>(own_ge O0.own k hk).1)
       refine value_ (w1:=wx) (v:=va) (by rfl) rfl (exec_append rfl ra) ?_
       refine hK.out _ _ (HHS.out _ Xa) (fun hHeld=>?_)
       clear hK K
       refine norm_ (by show Act.put _ (some 86) _=_;simp only [pt_];rfl) ?_
       have hN2:=box_other hN0 ga n0
       obtain ⟨vb,wy,rb,Ob,gb,tb⟩:=OwnStr.app (ty:=80) Oa hN2 (by simp;omega) Xa.size
       have Xb:Ext wi wy:=Below.grown Xa gb Xa.size (fun k hk=>(own_ge Oa.own k hk).1)
       obtain ⟨cs1,hcs1⟩:∃ cs1,cs1=[] ++ cs0 ++ [nm]:=⟨_,rfl⟩
       rw [← hcs1] at Ob
       have Hlc1:Hid (cs1.length=k+1):=by
        have:=Hl1.out
        show _=_
        rw [hcs1]
        simp
        omega
       clear hcs1
       obtain ⟨ab,cb,rfl,_,_⟩:=own_form Ob.own
       refine one_ (i:=7) (N:=some 90) #[true,true,true,true,true,true,true,true,false,false] rfl rfl (by kernel_rfl) (by decide) (fun K hK=>?_)
       refine value_ (w1:=wy) (v:=.slice ab cs1.length cb) (by rfl) rfl (exec_append rfl rb) ?_
       refine hK.out _ _ (HHS.out _ Xb) (fun hHeld=>?_)
       clear hK K
       refine norm_ (by show Act.put _ (some 90) _=_;simp only [pt_];rfl) ?_
       refine pu_ 8 (some 91) #[true,true,true,true,true,true,true,true,true,false] rfl rfl (by kernel_rfl) (fun _ _ _ h=>h) (by rfl) (by intro w';go_simp;with_reducible rfl) (by simp only [pt_];rfl) ?_
       have q0:wy.cell? ⟨w5.heap.size,0,none⟩=some (.slice aC k cC):=Xb.cell ((HBGi.out.cell 0).trans rfl)
       have q1:wy.frozen? ⟨w5.heap.size,0,none⟩=false:=(HBGi.out.ext Xb).frozen 0
       refine last_ (i:=9) (N:=none) #[true,true,true,true,true,true,true,true,true,true] rfl rfl (by kernel_rfl) (by decide) (fun K hK=>?_)
       go_simp
       refine hK.out _ _ ?_
       clear hK K
       refine done_ (by kernel_rfl) ?_
       have TZ:=set_tf wy w5.heap.size 0 (.slice ab cs1.length cb)
       have hgi:=HBGi.out.lt
       have hzS:wi.heap.size≤(wy.setCell ⟨w5.heap.size,0,none⟩ (.slice ab cs1.length cb)).heap.size:=Nat.le_trans Xb.size TZ.size
       have HBG2:Hid (Blk (wy.setCell ⟨w5.heap.size,0,none⟩ (.slice ab cs1.length cb)) w5.heap.size 153 #[.slice ab cs1.length cb,.slice aP k cP,.slice none 0 0,.slice none 0 0,.int .i64 0]):=(HBGi.out.ext Xb).set 0 _
       have HTZ:Hid (Tf (Is w5.heap.size) wi (wy.setCell ⟨w5.heap.size,0,none⟩ (.slice ab cs1.length cb))):=(Tf.ext Xb).trans TZ
       have HC1:=Lib.hid (sl3_step (K':=fun b=>b≠c∧b≠w2.heap.size∧b≠w5.heap.size) Ob.slx (TZ.keep (fun b hb e=>by have e:b=w5.heap.size:=e;have:=hb.1;omega)) (fun _ _ h=>CStr.any h) (fun b hb _=>⟨by omega,by omega,by omega⟩))
       have HC2:=Lib.hid (sl3_step (K':=fun b=>b≠c∧b≠w2.heap.size∧b≠w5.heap.size) HS2.out (HTZ.out.keep (fun b hb e=>hb.1.2.2 e)) (fun _ _ h=>CInt.any h) (fun b hb _=>hb))
       generalize hwz:wy.setCell ⟨w5.heap.size,0,none⟩ (.slice ab cs1.length cb)=wz at HBG2 HTZ HC1 HC2 hzS ⊢
       clear hwz q0 q1 TZ Ob gb tb rb Xb hHeld
       obtain ⟨vn,wp,an,cn,wq,rn1,rn2,Xn2,Xn4,SN⟩:=app_num wz _ _ ps0 HC2.out (np:Int) (wf64 (by unfold I64;omega)) (by have:=Hl2.out;omega)
       have HN1:=Lib.hid rn1
       have HN2:=Lib.hid rn2
       have q1:(wz.alloc (.cells #[] 2)).cell? ⟨w5.heap.size,1,none⟩=some (.slice aP k cP):=Ext.cell ((Ext.refl wz).alloc _) ((HBG2.out.cell 1).trans rfl)
       have q2:wq.cell? ⟨w5.heap.size,1,none⟩=some (.slice aP k cP):=Xn4.cell ((HBG2.out.cell 1).trans rfl)
       have q3:wq.frozen? ⟨w5.heap.size,1,none⟩=false:=(HBG2.out.ext Xn4).frozen 1
       have TK:=set_tf wq w5.heap.size 1 (.slice an (ps0.length+1) cn)
       have TZK:Tf (Is w5.heap.size) wi (wq.setCell ⟨w5.heap.size,1,none⟩ (.slice an (ps0.length+1) cn)):=(HTZ.out.then_ext Xn4).trans TK
       have HD2:Hid (DInv c w6 w2.heap.size w5.heap.size (.slice (some ⟨w1.heap.size,0,none⟩) 4 4) (k+1) (wq.setCell ⟨w5.heap.size,1,none⟩ (.slice an (ps0.length+1) cn))):=by
        refine ⟨Hcuri.out.tf TZK (fun b hb e=>by have e:b=w5.heap.size:=e;omega),HTTi.out.trans (TZK.mono (fun b e=>.inr (.inr e))),⟨_,lF2,HBTi.out.tf TZK (fun e=>by have e:w2.heap.size=w5.heap.size:=e;omega),HOFi.out.tf TZK (fun b _ hb=>by have e:b=w5.heap.size:=hb;omega),HlF2.out⟩,⟨_,_,(HBG2.out.ext Xn4).set 1 _,⟨cs1,ps0 ++ [(np:Int)],?_,?_,Hlc1.out,by simp [Hl2.out],?_⟩⟩⟩
        ·exact sl3_step HC1.out (((Tf.ext (M:=Is w5.heap.size) Xn4).trans TK).keep (fun b hb e=>hb.1.2.2 e)) (fun _ _ h=>CStr.any h) (fun b hb _=>hb)
        ·exact sl3_step SN (TK.keep (fun b hb e=>by have e:b=w5.heap.size:=e;have:=hb.1;omega)) (fun _ _ h=>CInt.any h) (fun b hb _=>⟨by omega,by omega,by omega⟩)
        ·intro x hx
         rcases List.mem_append.1 hx with hx | hx
         ·exact Hl3.out x hx
         ·rw [List.mem_singleton.1 hx];omega
       clear TK TZK SN Xn2 Xn4 rn1 rn2
       go_wp2_with (at_builtin;first
        | (refine dst_is 95 rfl ?_;refine Lib.wpList_append_run _ rfl _ _ _ _ rfl _ _ rfl rfl _ _ HN1.out ?_)
        | (refine dst_is 98 rfl ?_;refine Lib.wpList_append_run _ rfl _ _ _ _ rfl _ _ rfl rfl _ _ HN2.out ?_))
       go_roundw
       case rel=>exact ⟨k+1,by omega,by go_num,HD2.out⟩
       case measure=>simp [intOf];omega
  ·have hs6r:=Htf6.out.size
   have hgT:=HBT.out.lt
   have hgG:=HBG.out.lt
   have g0:=(HBG.out.cell 0).trans (show _=some (Value.slice aC k cC) from rfl)
   have g1:=(HBG.out.cell 1).trans (show _=some (Value.slice aP k cP) from rfl)
   have BI:=Blk.alloc wo 153 #[.slice aC k cC,.slice aP k cP,.slice none 0 0,.slice none 0 0,.int .i64 0]
   have XB:Ext wo (wo.alloc (.cells #[.slice aC k cC,.slice aP k cP,.slice none 0 0,.slice none 0 0,.int .i64 0] 153)):=(Ext.refl wo).alloc _
   have sB:wo.heap.size<(wo.alloc (.cells #[.slice aC k cC,.slice aP k cP,.slice none 0 0,.slice none 0 0,.int .i64 0] 153)).heap.size:=by simp
   generalize hwB:wo.alloc (.cells #[.slice aC k cC,.slice aP k cP,.slice none 0 0,.slice none 0 0,.int .i64 0] 153)=wB at BI XB sB
   have HRB:Hid (Roll c wo wB):=(Roll.refl cur).ext XB
   have hGV:=(HCK.out.step (K':=fun b=>b≠c∧b≠wo.heap.size) (XB.keep _) (fun b hb hlt=>⟨hb.1,by omega⟩)).gv (K':=fun b=>b≠c∧b≠wo.heap.size) (by omega) (fun b hb _=>hb)
   have HGA:Hid (GenAt c wo.heap.size 0 wB):=⟨_,_,_,_,0,BI,hGV⟩
   have hB1:wB.frozen? ⟨wo.heap.size,2,none⟩=false:=BI.frozen 2
   have hB2:wB.frozen? ⟨wo.heap.size,3,none⟩=false:=BI.frozen 3
   have hB3:wB.frozen? ⟨wo.heap.size,4,none⟩=false:=BI.frozen 4
   have hB4:wB.cell? ⟨wo.heap.size,2,none⟩=some (.slice none 0 0):=(BI.cell 2).trans rfl
   have hB5:wB.cell? ⟨wo.heap.size,3,none⟩=some (.slice none 0 0):=(BI.cell 3).trans rfl
   have hB6:wB.cell? ⟨wo.heap.size,4,none⟩=some (.int .i64 0):=(BI.cell 4).trans rfl
   have hB7:wB.setCell ⟨wo.heap.size,2,none⟩ (.slice none 0 0)=wB:=set_same BI rfl
   have hB8:wB.setCell ⟨wo.heap.size,3,none⟩ (.slice none 0 0)=wB:=set_same BI rfl
   have hB9:wB.setCell ⟨wo.heap.size,4,none⟩ (.int .i64 0)=wB:=set_same BI rfl
   clear cur tf6 BT OF BG CK BI XB hGV
   go_wp2_with fail
   refine (HBw.out 6 wB (by omega) HRB.out.cur).mono ?_
   rintro e wC ⟨x,rfl,h3,h4,hRC⟩
   obtain ⟨u,rfl⟩:∃ u:Nat,x=u:=⟨x.toNat,by omega⟩
   have HR2:Hid (Roll2 c wo.heap.size 0 wB wC):=(Roll2.refl HRB.out.cur HGA.out).roll hRC (by omega)
   clear hRC hB1 hB2 hB3 hB4 hB5 hB6 hB7 hB8 hB9 g0 g1 hwB HGA
   go_wp2_with fail
   refine (HGB2.out wo.heap.size u wC (by omega) (by omega) HR2.out.cur HR2.out.gen).mono ?_
   rintro e wD ⟨vB,lB,rfl,hOB,hloB,hlB,hRD⟩
   obtain ⟨aB,cB,rfl,_,_⟩:=hOB.len
   have hR2:=HR2.out.trans hRD
   have HRD:Hid (Roll c wo wD):=⟨hR2.cur,HRB.out.tf.trans2 hR2.tf (fun i hi e=>by rcases e with e | e;exact e;omega)⟩
   have hsC:=HR2.out.tf.size
   have HOB:=Lib.hid (hOB.base (Nat.le_trans (Nat.le_of_lt sB) hsC))
   have HlB:Hid (1≤lB.length∧lB.length≤3584):=⟨hloB,hlB⟩
   have BM:=Blk.alloc wD 83 #[.string ⟨#[109,97,105,110]⟩,.slice none 0 0,.slice aB lB.length cB]
   have XM:Ext wD (wD.alloc (.cells #[.string ⟨#[109,97,105,110]⟩,.slice none 0 0,.slice aB lB.length cB] 83)):=(Ext.refl wD).alloc _
   generalize hwM:wD.alloc (.cells #[.string ⟨#[109,97,105,110]⟩,.slice none 0 0,.slice aB lB.length cB] 83)=wM at BM XM
   have HRM:Hid (Roll c wo wM):=HRD.out.ext XM
   have HOM:=Lib.hid (HOB.out.ext XM)
   have HBM:=Lib.hid BM
   clear hOB hRD hR2 HOB XM BM HR2 HRB
   go_wp2_with fail
   refine (HOn.out 2 wM (by omega) HRM.out.cur).mono ?_
   rintro e wE ⟨b2,rfl,hRE⟩
   have hsD:=HRD.out.tf.size
   have HBM:=Lib.hid (HBM.out.tf hRE.tf (show ¬ wD.heap.size=c by omega))
   have HOM:=Lib.hid (HOM.out.tf hRE.tf (fun b hb=>by have e:b=c:=hb;omega))
   have HRE:Hid (Roll c wo wE):=HRM.out.trans hRE
   have hME:=hRE.tf.size
   have hBMl:=HBM.out.lt
   clear hRE HRM hwM
   have hBT:=HBT.out.tf HRE.out.tf (show ¬ w2.heap.size=c by omega)
   have hOF:=HOF.out.tf HRE.out.tf (fun b _ hb=>by have e:b=c:=hb;omega)
   have hgeF:=own_ge HOF.out.own
   have m0:wE.cell? ⟨wD.heap.size,0,none⟩=some (.string ⟨#[109,97,105,110]⟩):=(HBM.out.cell 0).trans rfl
   have m1:wE.cell? ⟨wD.heap.size,1,none⟩=some (.slice none 0 0):=(HBM.out.cell 1).trans rfl
   have m2:wE.cell? ⟨wD.heap.size,2,none⟩=some (.slice aB lB.length cB):=(HBM.out.cell 2).trans rfl
   have t0:wE.cell? ⟨w2.heap.size,0,none⟩=some (.slice (some ⟨w1.heap.size,0,none⟩) 4 4):=(hBT.cell 0).trans rfl
   have t1:wE.cell? ⟨w2.heap.size,1,none⟩=some (.slice aF lF.length cF):=(hBT.cell 1).trans rfl
   have hmain:∀ K:Foot,(∀ b,wo.heap.size≤b→K b)→FOk K wE ⟨⟨⟨#[109,97,105,110]⟩,[],lB.map SRow.s⟩,none,0,0,aB,lB.length,cB⟩:=fun K hK=>by
    refine ⟨Sl.nil _ _ _ _,HOM.out.sl hK,by simp [ByteArray.size,maxLen],?_,by have:=HlB.out;simp;omega,by simp⟩
    intro x hx
    obtain ⟨y,hy,rfl⟩:=List.mem_map.1 hx
    exact ⟨(HOM.out.ok y hy).le,(HOM.out.ok y hy).lf⟩
   cases b2 with
   | true =>
     have XY:Ext wE (wE.alloc (.cells #[.string ⟨#[109,97,105,110]⟩,.slice none 0 0,.slice aB lB.length cB] 83)):=(Ext.refl wE).alloc _
     have O1:=OwnFN.one (base:=w6.heap.size) (w:=wE) ⟨⟨⟨#[109,97,105,110]⟩,[],lB.map SRow.s⟩,none,0,0,aB,lB.length,cB⟩ (by omega) (hmain _ (fun b hb=>by omega))
     simp only at O1
     have hkF:Keep (fun b=>w6.heap.size≤b∧b<wo.heap.size) wo (wE.alloc (.cells #[.string ⟨#[109,97,105,110]⟩,.slice none 0 0,.slice aB lB.length cB] 83)):=(HRE.out.tf.then_ext XY).keep (fun b hb e=>by have e:b=c:=e;have:=hb.1;omega)
     have PF:Sl (fun b=>w6.heap.size≤b∧b<wo.heap.size) (wE.alloc (.cells #[.string ⟨#[109,97,105,110]⟩,.slice none 0 0,.slice aB lB.length cB] 83)) 3 CFRow (.slice aF lF.length cF) lF:=(Sl.bound (HOF.out.rows (K:=fun b=>w6.heap.size≤b) (fun _ h=>h)) (by decide)).keep hkF (fun _ _ _ h=>h) (fun _ h=>h)
     have PO:∀ x∈lF,FOk (fun b=>w6.heap.size≤b∧b<wo.heap.size) (wE.alloc (.cells #[.string ⟨#[109,97,105,110]⟩,.slice none 0 0,.slice aB lB.length cB] 83)) x:=fun x hx =>
      ((HOF.out.ok x hx).bound.keep (Keep.refl _ wo) (fun b hb=>⟨hb.1.1,hb.2⟩)).keep hkF (fun _ h=>h)
     obtain ⟨vR,wz,rr,OR,gR,_⟩:=OwnFN.app (ty:=30) (K2:=fun b=>w6.heap.size≤b∧b<wo.heap.size) O1 PF PO (fun b hb _=>⟨hb.1,fun e=>by
      simp only [Value.ownBlock,Option.some.injEq] at e
      have:=hb.2
      omega⟩) (by have:=HlF.out;simp;omega) (by have:=XY.size;omega)
     obtain ⟨lR,hlR⟩:∃ lR,lR=[(⟨⟨⟨#[109,97,105,110]⟩,[],lB.map SRow.s⟩,none,0,0,aB,lB.length,cB⟩:FRow)] ++ lF:=⟨_,rfl⟩
     rw [← hlR] at OR
     have HlR:Hid (lR.length=k+1):=by
      show _=_
      rw [hlR]
      simp [HlF.out]
     clear hlR
     obtain ⟨aR,cR,rfl,_,_⟩:=OR.len
     have HAR:=Lib.hid rr
     have XZ:=XY
     have TZ:=grown_tf2 gR
     have hnT:¬ (Value.slice (some ⟨wE.heap.size,0,none⟩) 1 1).ownBlock=some w2.heap.size:=fun e=>by
      simp only [Value.ownBlock,Option.some.injEq] at e
      omega
     have hnW:∀ b,(Value.slice (some ⟨wE.heap.size,0,none⟩) 1 1).ownBlock=some b→w6.heap.size≤b:=fun b e=>by
      simp only [Value.ownBlock,Option.some.injEq] at e
      omega
     have t3:(wE.alloc (.cells #[.string ⟨#[109,97,105,110]⟩,.slice none 0 0,.slice aB lB.length cB] 83)).cell? ⟨w2.heap.size,1,none⟩=some (.slice aF lF.length cF):=XY.cell t1
     clear rr gR hkF PF PO O1 XY
     have hBTz:=(hBT.ext XZ).tf TZ (fun e=>hnT e)
     have q1:wz.cell? ⟨w2.heap.size,1,none⟩=some (.slice aF lF.length cF):=(hBTz.cell 1).trans rfl
     have q2:wz.frozen? ⟨w2.heap.size,1,none⟩=false:=hBTz.frozen 1
     have q3:wz.frozen? ⟨w2.heap.size,0,none⟩=false:=hBTz.frozen 0
     have TS:=set_tf wz w2.heap.size 1 (.slice aR lR.length cR)
     have hBTy:=hBTz.set 1 (.slice aR lR.length cR)
     have Toy:Tf (fun b=>b=c∨b=w2.heap.size∨w6.heap.size≤b) wo (wz.setCell ⟨w2.heap.size,1,none⟩ (.slice aR lR.length cR)) :=
      (((HRE.out.tf.mono (fun b e=>.inl e)).then_ext XZ).trans (TZ.mono (fun b e=>.inr (.inr (hnW b e))))).trans (TS.mono (fun b e=>.inr (.inl e)))
     have T6y:Tf (fun b=>b=c∨b=w2.heap.size∨b=w5.heap.size) w6 (wz.setCell ⟨w2.heap.size,1,none⟩ (.slice aR lR.length cR)):=Htf6.out.trans2 Toy (fun i hi e=>by
      rcases e with e | e | e
      ·exact .inl e
      ·exact .inr (.inl e)
      ·omega)
     have hBRy:=HBR6.out.tf T6y (fun e=>by rcases e with e | e | e<;>omega)
     have hOGy:OwnG w1.heap.size (wz.setCell ⟨w2.heap.size,1,none⟩ (.slice aR lR.length cR)) (.slice (some ⟨w1.heap.size,0,none⟩) 4 4) [⟨⟨#[103]⟩,0⟩,⟨⟨#[97]⟩,8⟩,⟨⟨#[104]⟩,0⟩,⟨⟨#[98]⟩,2⟩]:=⟨own_tf HOG6.out.own T6y (fun b hb e=>by
      simp only [Value.ownBlock,Option.some.injEq] at hb
      rcases e with e | e | e<;>omega),HOG6.out.ok⟩
     have hORy:=OR.tf TS (fun b _ hb=>by have e:b=w2.heap.size:=hb;omega)
     have hcury:CurAt (wz.setCell ⟨w2.heap.size,1,none⟩ (.slice aR lR.length cR)) c:=((HRE.out.cur.ext XZ).tf TZ (fun b hb e=>by have:=hnW b e;omega)).tf TS (fun b hb e=>by have e:b=w2.heap.size:=e;omega)
     have TR:=fun i v=>set_tf (wz.setCell ⟨w2.heap.size,1,none⟩ (.slice aR lR.length cR)) w.heap.size i v
     have y0:(wz.setCell ⟨w2.heap.size,1,none⟩ (.slice aR lR.length cR)).cell? ⟨w2.heap.size,0,none⟩=some (.slice (some ⟨w1.heap.size,0,none⟩) 4 4):=(hBTy.cell 0).trans rfl
     have y1:(wz.setCell ⟨w2.heap.size,1,none⟩ (.slice aR lR.length cR)).cell? ⟨w2.heap.size,1,none⟩=some (.slice aR lR.length cR):=(hBTy.cell 1).trans rfl
     generalize hwy:wz.setCell ⟨w2.heap.size,1,none⟩ (.slice aR lR.length cR)=wy at hBTy T6y hBRy hOGy hORy hcury TR y0 y1
     have r0:wy.cell? ⟨w.heap.size,0,none⟩=some (.slice none 0 0):=(hBRy.cell 0).trans rfl
     have r1:wy.cell? ⟨w.heap.size,1,none⟩=some (.slice none 0 0):=(hBRy.cell 1).trans rfl
     have r2:wy.frozen? ⟨w.heap.size,0,none⟩=false:=hBRy.frozen 0
     have r3:wy.frozen? ⟨w.heap.size,1,none⟩=false:=hBRy.frozen 1
     have B1:=(hBRy.set 0 (.slice (some ⟨w1.heap.size,0,none⟩) 4 4)).set 1 (.slice aR lR.length cR)
     have B0:=hBRy.set 0 (.slice (some ⟨w1.heap.size,0,none⟩) 4 4)
     have TR2:Tf (Is w.heap.size) wy ((wy.setCell ⟨w.heap.size,0,none⟩ (.slice (some ⟨w1.heap.size,0,none⟩) 4 4)).setCell ⟨w.heap.size,1,none⟩ (.slice aR lR.length cR)):=(set_tf wy w.heap.size 0 _).trans (set_tf _ w.heap.size 1 _)
     have r4:(wy.setCell ⟨w.heap.size,0,none⟩ (.slice (some ⟨w1.heap.size,0,none⟩) 4 4)).cell? ⟨w.heap.size,1,none⟩=some (.slice none 0 0):=(B0.cell 1).trans rfl
     have r5:(wy.setCell ⟨w.heap.size,0,none⟩ (.slice (some ⟨w1.heap.size,0,none⟩) 4 4)).frozen? ⟨w.heap.size,1,none⟩=false:=B0.frozen 1
     have r6:((wy.setCell ⟨w.heap.size,0,none⟩ (.slice (some ⟨w1.heap.size,0,none⟩) 4 4)).setCell ⟨w.heap.size,1,none⟩ (.slice aR lR.length cR)).cell? ⟨w.heap.size,0,none⟩=some (.slice (some ⟨w1.heap.size,0,none⟩) 4 4):=(B1.cell 0).trans rfl
     have r7:((wy.setCell ⟨w.heap.size,0,none⟩ (.slice (some ⟨w1.heap.size,0,none⟩) 4 4)).setCell ⟨w.heap.size,1,none⟩ (.slice aR lR.length cR)).cell? ⟨w.heap.size,1,none⟩=some (.slice aR lR.length cR):=(B1.cell 1).trans rfl
     have Hfin:Hid (MadeTree c w (.returned (.agg #[.slice (some ⟨w1.heap.size,0,none⟩) 4 4,.slice aR lR.length cR])) ((wy.setCell ⟨w.heap.size,0,none⟩ (.slice (some ⟨w1.heap.size,0,none⟩) 4 4)).setCell ⟨w.heap.size,1,none⟩ (.slice aR lR.length cR))):=by
      have hO2:=hORy.tf TR2 (fun b _ hb=>by have e:b=w.heap.size:=hb;omega)
      have hG2:=hOGy.tf TR2 (fun b _ hb=>by have e:b=w.heap.size:=hb;omega)
      exact ⟨_,_,_,lR,rfl,⟨hG2.sl (fun b hb=>by omega),hO2.rows (fun b hb=>by omega),fun x hx=>(hO2.ok x hx).keep (Keep.refl _ _) (fun b hb=>by have:=hb.1;omega),by simp,by have:=HlR.out;omega⟩,⟨hcury.tf TR2 (fun b hb e=>by have e:b=w.heap.size:=e;omega),(HR6.out.tf.trans2 T6y (fun i hi e=>by
       rcases e with e | e | e
       ·exact e
       ·omega
       ·omega)).trans2 TR2 (fun i hi e=>by have e:i=w.heap.size:=e;omega)⟩⟩
     have HBfin:Hid (Blk ((wy.setCell ⟨w.heap.size,0,none⟩ (.slice (some ⟨w1.heap.size,0,none⟩) 4 4)).setCell ⟨w.heap.size,1,none⟩ (.slice aR lR.length cR)) w.heap.size 32 #[.slice (some ⟨w1.heap.size,0,none⟩) 4 4,.slice aR lR.length cR]):=B1
     clear hBTz TS hBTy Toy T6y hBRy hOGy hORy hcury TR B1 B0 TR2 XZ TZ OR hnT hnW hBT hOF hmain hgeF
     go_wp2_with (at_builtin;refine dst_is 117 rfl ?_;refine Lib.wpList_append_run _ rfl _ _ _ _ rfl _ _ rfl rfl _ _ HAR.out ?_)
     refine bodyPost_ret (results_cell_row rfl _ _ w.heap.size 32 _ (0,0) _ (by rfl) HBfin.out Tryz.underlying32 (by rfl) (by kernel_rfl)) rfl ?_
     exact Hfin.out
   | false =>
     obtain ⟨vR,wz,rr,OR,gR⟩:=OwnFN.app1 (ty:=30) hOF ⟨⟨⟨#[109,97,105,110]⟩,[],lB.map SRow.s⟩,none,0,0,aB,lB.length,cB⟩ (hmain _ (fun b hb=>⟨by omega,fun e=>by have:=(hgeF b e.symm).2;omega⟩)) (by have:=HlF.out;omega) (by omega)
     obtain ⟨lR,hlR⟩:∃ lR,lR=lF ++ [(⟨⟨⟨#[109,97,105,110]⟩,[],lB.map SRow.s⟩,none,0,0,aB,lB.length,cB⟩:FRow)]:=⟨_,rfl⟩
     rw [← hlR] at OR
     have HlR:Hid (lR.length=k+1):=by
      show _=_
      rw [hlR]
      simp [HlF.out]
     clear hlR
     obtain ⟨aR,cR,rfl,_,_⟩:=OR.len
     have HAR:=Lib.hid rr
     have XZ:Ext wE (wE.alloc (.cells #[.string ⟨#[109,97,105,110]⟩,.slice none 0 0,.slice aB lB.length cB] 83)):=(Ext.refl wE).alloc _
     have TZ:=grown_tf2 gR
     have hnT:¬ (Value.slice aF lF.length cF).ownBlock=some w2.heap.size:=fun e=>own_ne_blk hOF.own hBT (by decide) (by simpa using e.symm)
     have hnW:∀ b,(Value.slice aF lF.length cF).ownBlock=some b→w6.heap.size≤b:=fun b e=>(hgeF b e).1
     clear rr gR
     have hBTz:=(hBT.ext XZ).tf TZ (fun e=>hnT e)
     have q1:wz.cell? ⟨w2.heap.size,1,none⟩=some (.slice aF lF.length cF):=(hBTz.cell 1).trans rfl
     have q2:wz.frozen? ⟨w2.heap.size,1,none⟩=false:=hBTz.frozen 1
     have q3:wz.frozen? ⟨w2.heap.size,0,none⟩=false:=hBTz.frozen 0
     have TS:=set_tf wz w2.heap.size 1 (.slice aR lR.length cR)
     have hBTy:=hBTz.set 1 (.slice aR lR.length cR)
     have Toy:Tf (fun b=>b=c∨b=w2.heap.size∨w6.heap.size≤b) wo (wz.setCell ⟨w2.heap.size,1,none⟩ (.slice aR lR.length cR)) :=
      (((HRE.out.tf.mono (fun b e=>.inl e)).then_ext XZ).trans (TZ.mono (fun b e=>.inr (.inr (hnW b e))))).trans (TS.mono (fun b e=>.inr (.inl e)))
     have T6y:Tf (fun b=>b=c∨b=w2.heap.size∨b=w5.heap.size) w6 (wz.setCell ⟨w2.heap.size,1,none⟩ (.slice aR lR.length cR)):=Htf6.out.trans2 Toy (fun i hi e=>by
      rcases e with e | e | e
      ·exact .inl e
      ·exact .inr (.inl e)
      ·omega)
     have hBRy:=HBR6.out.tf T6y (fun e=>by rcases e with e | e | e<;>omega)
     have hOGy:OwnG w1.heap.size (wz.setCell ⟨w2.heap.size,1,none⟩ (.slice aR lR.length cR)) (.slice (some ⟨w1.heap.size,0,none⟩) 4 4) [⟨⟨#[103]⟩,0⟩,⟨⟨#[97]⟩,8⟩,⟨⟨#[104]⟩,0⟩,⟨⟨#[98]⟩,2⟩]:=⟨own_tf HOG6.out.own T6y (fun b hb e=>by
      simp only [Value.ownBlock,Option.some.injEq] at hb
      rcases e with e | e | e<;>omega),HOG6.out.ok⟩
     have hORy:=OR.tf TS (fun b _ hb=>by have e:b=w2.heap.size:=hb;omega)
     have hcury:CurAt (wz.setCell ⟨w2.heap.size,1,none⟩ (.slice aR lR.length cR)) c:=((HRE.out.cur.ext XZ).tf TZ (fun b hb e=>by have:=hnW b e;omega)).tf TS (fun b hb e=>by have e:b=w2.heap.size:=e;omega)
     have TR:=fun i v=>set_tf (wz.setCell ⟨w2.heap.size,1,none⟩ (.slice aR lR.length cR)) w.heap.size i v
     have y0:(wz.setCell ⟨w2.heap.size,1,none⟩ (.slice aR lR.length cR)).cell? ⟨w2.heap.size,0,none⟩=some (.slice (some ⟨w1.heap.size,0,none⟩) 4 4):=(hBTy.cell 0).trans rfl
     have y1:(wz.setCell ⟨w2.heap.size,1,none⟩ (.slice aR lR.length cR)).cell? ⟨w2.heap.size,1,none⟩=some (.slice aR lR.length cR):=(hBTy.cell 1).trans rfl
     generalize hwy:wz.setCell ⟨w2.heap.size,1,none⟩ (.slice aR lR.length cR)=wy at hBTy T6y hBRy hOGy hORy hcury TR y0 y1
     have r0:wy.cell? ⟨w.heap.size,0,none⟩=some (.slice none 0 0):=(hBRy.cell 0).trans rfl
     have r1:wy.cell? ⟨w.heap.size,1,none⟩=some (.slice none 0 0):=(hBRy.cell 1).trans rfl
     have r2:wy.frozen? ⟨w.heap.size,0,none⟩=false:=hBRy.frozen 0
     have r3:wy.frozen? ⟨w.heap.size,1,none⟩=false:=hBRy.frozen 1
     have B1:=(hBRy.set 0 (.slice (some ⟨w1.heap.size,0,none⟩) 4 4)).set 1 (.slice aR lR.length cR)
     have B0:=hBRy.set 0 (.slice (some ⟨w1.heap.size,0,none⟩) 4 4)
     have TR2:Tf (Is w.heap.size) wy ((wy.setCell ⟨w.heap.size,0,none⟩ (.slice (some ⟨w1.heap.size,0,none⟩) 4 4)).setCell ⟨w.heap.size,1,none⟩ (.slice aR lR.length cR)):=(set_tf wy w.heap.size 0 _).trans (set_tf _ w.heap.size 1 _)
     have r4:(wy.setCell ⟨w.heap.size,0,none⟩ (.slice (some ⟨w1.heap.size,0,none⟩) 4 4)).cell? ⟨w.heap.size,1,none⟩=some (.slice none 0 0):=(B0.cell 1).trans rfl
     have r5:(wy.setCell ⟨w.heap.size,0,none⟩ (.slice (some ⟨w1.heap.size,0,none⟩) 4 4)).frozen? ⟨w.heap.size,1,none⟩=false:=B0.frozen 1
     have r6:((wy.setCell ⟨w.heap.size,0,none⟩ (.slice (some ⟨w1.heap.size,0,none⟩) 4 4)).setCell ⟨w.heap.size,1,none⟩ (.slice aR lR.length cR)).cell? ⟨w.heap.size,0,none⟩=some (.slice (some ⟨w1.heap.size,0,none⟩) 4 4):=(B1.cell 0).trans rfl
     have r7:((wy.setCell ⟨w.heap.size,0,none⟩ (.slice (some ⟨w1.heap.size,0,none⟩) 4 4)).setCell ⟨w.heap.size,1,none⟩ (.slice aR lR.length cR)).cell? ⟨w.heap.size,1,none⟩=some (.slice aR lR.length cR):=(B1.cell 1).trans rfl
     have Hfin:Hid (MadeTree c w (.returned (.agg #[.slice (some ⟨w1.heap.size,0,none⟩) 4 4,.slice aR lR.length cR])) ((wy.setCell ⟨w.heap.size,0,none⟩ (.slice (some ⟨w1.heap.size,0,none⟩) 4 4)).setCell ⟨w.heap.size,1,none⟩ (.slice aR lR.length cR))):=by
      have hO2:=hORy.tf TR2 (fun b _ hb=>by have e:b=w.heap.size:=hb;omega)
      have hG2:=hOGy.tf TR2 (fun b _ hb=>by have e:b=w.heap.size:=hb;omega)
      exact ⟨_,_,_,lR,rfl,⟨hG2.sl (fun b hb=>by omega),hO2.rows (fun b hb=>by omega),fun x hx=>(hO2.ok x hx).keep (Keep.refl _ _) (fun b hb=>by have:=hb.1;omega),by simp,by have:=HlR.out;omega⟩,⟨hcury.tf TR2 (fun b hb e=>by have e:b=w.heap.size:=e;omega),(HR6.out.tf.trans2 T6y (fun i hi e=>by
       rcases e with e | e | e
       ·exact e
       ·omega
       ·omega)).trans2 TR2 (fun i hi e=>by have e:i=w.heap.size:=e;omega)⟩⟩
     have HBfin:Hid (Blk ((wy.setCell ⟨w.heap.size,0,none⟩ (.slice (some ⟨w1.heap.size,0,none⟩) 4 4)).setCell ⟨w.heap.size,1,none⟩ (.slice aR lR.length cR)) w.heap.size 32 #[.slice (some ⟨w1.heap.size,0,none⟩) 4 4,.slice aR lR.length cR]):=B1
     clear hBTz TS hBTy Toy T6y hBRy hOGy hORy hcury TR B1 B0 TR2 XZ TZ OR hnT hnW hBT hOF hmain hgeF
     go_wp2_with (at_builtin;refine dst_is 123 rfl ?_;refine Lib.wpList_append_run _ rfl _ _ _ _ rfl _ _ rfl rfl _ _ HAR.out ?_)
     refine bodyPost_ret (results_cell_row rfl _ _ w.heap.size 32 _ (0,0) _ (by rfl) HBfin.out Tryz.underlying32 (by rfl) (by kernel_rfl)) rfl ?_
     exact Hfin.out
end Go.Proofs.YtcfggjmdcaoecaaGreatDoor
