/- A part of the proofs of FnBound and FnCheck: the lemmas and walks SpecCheck. -/
import Derived.Test.YtcfggjmdcaoecaaGreatDoorB16
import Derived.Test.YtcfggjmdcaoecaaGreatDoorB06
import Derived.Test.YtcfggjmdcaoecaaGreatDoorB17
set_option linter.unusedVariables false
set_option linter.unusedSimpArgs false
namespace Go.Proofs.YtcfggjmdcaoecaaGreatDoor
open Go Go.RowKit Md
set_option maxHeartbeats 1000000 in
theorem s_l3Has (xs:List Int) (x:Int) (v:Value) (b:Nat) (w:World) (h:RowI w b v xs) :
  Calls Tryz.prog 48 #[v,.int .i64 x] w (Same (.bool (decide (x∈xs))) w):=by
 obtain ⟨n,hn⟩:∃ n,n=xs.length:=⟨_,rfl⟩
 rw [RowI,← hn] at h
 obtain ⟨a,c,rfl⟩:=rw_form0 h
 have H0:=Lib.hid h
 have HN:=Lib.hid hn
 clear h hn
 go_enter Tryz.func48,Tryz.ntmps48
 go_wp2
 go_loop [5] (fun i=>∃ k:Nat,k≤n∧i=.int .i64 k∧Hid (¬ x∈xs.take k)) (fun i=>n - (intOf i).toNat)
 case atStart=>exact ⟨0,Nat.zero_le _,rfl,by intro h;simp at h⟩
 case round =>
  obtain ⟨k,hk,rfl,hA⟩:=hrel
  by_cases hlt:k<n
  ·obtain ⟨g0,d0,e0,_,_,hl0,hm0⟩:=rw_form H0.out (by omega)
   obtain ⟨rfl,rfl⟩:some ⟨g0,0,none⟩=a∧d0=c:=by cases e0;exact ⟨rfl,rfl⟩
   obtain ⟨y,hy⟩:∃ y,xs[k]? = some y:=⟨xs[k]'(by have:=HN.out;omega),List.getElem?_eq_getElem _⟩
   have q0:=(RowI.at_ H0.out hy).1
   have Hy:=Lib.hid hy
   have z0:(0:Int)≤(k:Int):=by omega
   have z1:(k:Int)<(n:Int):=by omega
   clear e0 hy
   by_cases he:y=x
   ·subst he
    go_wp2
    go_ret
    exact Same.bool (by rw [decide_eq_true (List.mem_of_getElem? Hy.out)])
   ·have hq:(y == x)=false:=by simpa using he
    go_wp2
    go_round
    case rel =>
     refine ⟨k+1,by omega,by go_num,?_⟩
     rw [take_snoc Hy.out]
     intro h
     rcases List.mem_append.1 h with h | h
     ·exact hA.out h
     ·exact he (List.mem_singleton.1 h).symm
    case measure=>simp [intOf];omega
  ·go_wp2
   go_ret
   exact Same.bool (by
    have:=hA.out
    rw [List.take_of_length_le (by rw [← HN.out];omega)] at this
    rw [decide_eq_false this])
def lenOf:Value→Nat
 | .slice _ n _=>n
 | _=>0
theorem rw_lt {w:World} {base E sz n:Nat} {v:Value} {xs:List Value} (h:w.ownsRow base E sz v n xs):∀ g,v.ownBlock=some g→g<w.heap.size:=by
 intro g hg
 rcases h.2 with ⟨rfl,_⟩ | ⟨g',cap,cur,rfl,_,hh,_⟩
 ·cases hg
 ·cases hg;exact (Array.getElem?_eq_some_iff.1 hh).1
theorem rowI_len {w:World} {base n:Nat} {v:Value} {xs:List Int} (h:w.ownsRow base 2 1 v n (xs.map (Value.int .i64))):xs.length=n:=by
 have:=h.1
 simpa using this
theorem app_one2 (w0 wr:World) (hX:Ext w0 wr) (base:Nat) (hb:base≤wr.heap.size) {i1:TypeInfo} (hi:Tryz.prog.info? 2=some i1) (hz:i1.zero=some (.int .i64 0)) (hs:i1.size=1) (hby:i1.bytes=8) (v:Value) (n:Nat) (xs:List Int)
  (ho:wr.ownsRow base 2 1 v n (xs.map (Value.int .i64))) (x:Int) (hB:n≤2000000) :
  ∃ v' w',(Builtin.append_ #[27,27] 27 #[v,.slice (some ⟨wr.heap.size,0,none⟩) 1 1]).run Tryz.prog (wr.alloc (.cells #[.int .i64 x] 2))=.ok v' w'∧w'.ownsRow base 2 1 v' (n+1) ((xs ++ [x]).map (Value.int .i64)) ∧
   (wr.alloc (.cells #[.int .i64 x] 2)).grownBy w' v.ownBlock∧(v'.ownBlock=v.ownBlock∨v'.ownBlock=some (wr.heap.size+1)):=by
 have hX4:Ext wr (wr.alloc (.cells #[.int .i64 x] 2)):=(Ext.refl wr).alloc _
 have ho4:(wr.alloc (.cells #[.int .i64 x] 2)).ownsRow base 2 1 v n (xs.map (Value.int .i64)):=ho.alloc _
 have hsl:Sl AnyB (wr.alloc (.cells #[.int .i64 x] 2)) 1 (fun _ cs (y:Int)=>cs=[Value.int .i64 y]) (.slice (some ⟨wr.heap.size,0,none⟩) 1 1) [x] :=
  ⟨some ⟨wr.heap.size,0,none⟩,1,rfl,Nat.le_refl _,by simp [maxLen],fun _=>⟨wr.heap.size,0,rfl,trivial,fun i hi=>by
   have h0:i=0:=by simp at hi;omega
   subst h0
   exact ⟨[.int .i64 x],rfl,rfl,fun p u hu=>by
    have hp0:p=0:=by
     have:=(List.getElem?_eq_some_iff.1 hu).1
     simp at this
     omega
    subst hp0
    simp at hu
    subst hu
    exact ((Blk.alloc wr 2 #[.int .i64 x]).cell 0).trans rfl⟩⟩⟩
 have hn:xs.length=n:=by have:=ho.1;simpa using this
 subst hn
 obtain ⟨v',w',r1,r2,r3,r4⟩:=run_app (P:=Tryz.prog) (Value.int .i64) _ (fun _ _ _ h=>h) (fun _=>rfl) AnyB (wr.alloc (.cells #[.int .i64 x] 2)) base Tryz.underlying27 hi hz hs hby rfl v (xs.map (Value.int .i64)) (by simpa using ho4) _ [x] hsl (by simp;omega) (by simp;omega) (Nat.le_trans hb hX4.size) 27
 refine ⟨v',w',r1,by rw [List.map_append];simpa using r2,r3,?_⟩
 simpa using r4
theorem tail_sl {w:World} {base g c n:Nat} {h0:Int} {rest:List Int} (h:w.ownsRow base 2 1 (.slice (some ⟨g,0,none⟩) n c) n ((h0 :: rest).map (Value.int .i64))) (hn:0<n) :
  Sl AnyB w 1 (fun _ cs (y:Int)=>cs=[Value.int .i64 y]) (.slice (some ⟨g,1,none⟩) (n - 1) (c - 1)) rest:=by
 have hl:rest.length=n - 1:=by have:=rowI_len h;simp at this;omega
 obtain ⟨g',c',e,_,_,h1,h2⟩:=rw_form h hn
 cases e
 refine ⟨some ⟨g,1,none⟩,c - 1,by rw [hl],by omega,by unfold maxLen;omega,fun hp=>⟨g,1,rfl,trivial,fun i hi=>⟨[.int .i64 rest[i]],rfl,rfl,fun p u hu=>?_⟩⟩⟩
 have hp0:p=0:=by
  have:=(List.getElem?_eq_some_iff.1 hu).1
  simp at this
  omega
 subst hp0
 simp at hu
 subst hu
 have:=(RowI.at_ h (i:=i+1) (x:=rest[i]) (by simp [hi])).1
 rw [show 1+i*1+0=i+1 by omega]
 exact this
def Reached (t:PTree) (src:List Int) (w:World) (e:Ending) (w':World):Prop:=∃ v out,e=.returned v∧RowI w' w.heap.size v out∧(∀ x,x∈out↔Rch t src x)∧out.length≤t.funcs.length∧Ext w w'
theorem rw_grown {w w':World} {base E sz n:Nat} {v:Value} {xs:List Value} {row:Option Nat} (h:w.ownsRow base E sz v n xs) (hg:w.grownBy w' row) (hne:∀ g,v.ownBlock=some g→row≠some g):w'.ownsRow base E sz v n xs:=by
 refine ⟨h.1,?_⟩
 rcases h.2 with e | ⟨g,cap,cur,rfl,hg1,hh,r⟩
 ·exact .inl e
 ·exact .inr ⟨g,cap,cur,rfl,hg1,(hg.block g (Array.getElem?_eq_some_iff.1 hh).1 (fun e=>hne g rfl e.symm)).trans hh,r⟩
theorem bodyOf_at {t:PTree} {h:Int} {x:PFunc} (hx:t.funcs[h.toNat]? = some x):succ t h=callsL t x.body:=by
 unfold succ bodyOf
 simp [hx]
set_option maxRecDepth 1000000 in
set_option maxHeartbeats 0 in
theorem s_l3Reach (K:Foot) (t:PTree) (vG vF:Value) (src:List Int) (v:Value) (b:Nat) (w:World) (hG:SlGlob K w vG t.globals) (hF:SlFunc K w vF t.funcs) (hval:valid t=true) (hs:RowI w b v src) (hr:∀ x∈src,0≤x∧x<t.funcs.length) (hl:src.length≤1) :
  Calls Tryz.prog 47 #[.agg #[vG,vF],v] w (Reached t src w):=by
 obtain ⟨aG,nG,cG,rfl⟩:=hG.shape
 obtain ⟨aF,nF,cF,rfl⟩:=hF.shape
 have hlF:t.funcs.length=nF:=sl_len hF
 have HG:=Lib.hid hG
 have HF:=Lib.hid hF
 have hvb:=valid_bounds hval
 have hnF:nF≤50:=by have:=hvb.2.1;omega
 have HlF:=Lib.hid hlF
 have HSr:=Lib.hid hr
 have HSl:=Lib.hid hl
 obtain ⟨i1,hi1,hy0,hy1,hy2⟩:=info_parts info_int64
 have BT:=Blk.alloc w 32 #[.slice aG nG cG,.slice aF nF cF]
 have X0:Ext w (w.alloc (.cells #[.slice aG nG cG,.slice aF nF cF] 32)):=(Ext.refl w).alloc _
 obtain ⟨a0,c0,rfl⟩:=rw_form0 hs
 have HS:=Lib.hid hs
 have HC:Hid (∀ (h:Int) (w':World),Ext w w'→0≤h∧h<nF→Calls Tryz.prog 35 #[.agg #[.slice aG nG cG,.slice aF nF cF],.int .i64 h] w' (Listed64 w' (succ t h))):=fun h w' hX hh=>by
  obtain ⟨x,hx⟩:∃ x,t.funcs[h.toNat]? = some x:=⟨t.funcs[h.toNat]'(by omega),List.getElem?_eq_getElem _⟩
  have hb:=hvb.2.2 x (List.mem_of_getElem? hx)
  have:=s_l3Calls K t _ _ h.toNat h (by omega) x w' (Sl.ext HG.out hX (fun _ _ h=>h.any)) (Sl.ext HF.out hX (fun _ _ h=>h.ext hX)) hx (by omega) ⟨by omega,fun s hs=>by have:=nodes_mem hs;omega⟩
  rw [bodyOf_at hx]
  exact this
 clear hG hF hlF hr hl hs hval hvb
 go_enter Tryz.func47,Tryz.ntmps47
 go_wp2
 obtain ⟨w1,hw1⟩:∃ w1,w1=w.alloc (.cells #[.slice aG nG cG,.slice aF nF cF] 32):=⟨_,rfl⟩
 have hs1:w.heap.size+1=w1.heap.size:=by rw [hw1];simp
 rw [← hw1] at BT X0 ⊢
 have HR0:=Lib.hid (rw_new0 w1 w1.heap.size 2 1 (Nat.le_refl _))
 have hXa:Ext w1 (w1.alloc (.cells #[] 2)):=(Ext.refl w1).alloc _
 have HX0:=Lib.hid X0
 have HBT:=Lib.hid BT
 have HS1:=Lib.hid (rw_ext HS.out X0)
 clear hw1 BT X0
 try rw [hs1]
 go_loopw [5,6] (fun v5 v6 wr=>∃ (out work:List Int) (n5 n6 b6 c5 c6:Nat) (a5 a6:Option Addr),v5=.slice a5 n5 c5∧v6=.slice a6 n6 c6∧Hid (wr.ownsRow w1.heap.size 2 1 (.slice a5 n5 c5) n5 (out.map (Value.int .i64)))∧Hid (wr.ownsRow b6 2 1 (.slice a6 n6 c6) n6 (work.map (Value.int .i64)))∧Hid (∀ g,(Value.slice a5 n5 c5).ownBlock=some g→(Value.slice a6 n6 c6).ownBlock≠some g) ∧
  Hid (Wk t src out work)∧Hid (n6+2*(50 - n5)≤1000)∧Hid (Ext w1 wr)) (fun v5 v6 _=>lenOf v6+2*(50 - lenOf v5))
 case atStart=>exact ⟨[],src,0,src.length,b,_,_,_,_,rfl,rfl,HR0.out,rw_ext HS1.out hXa,fun g hg e=>by
  have h1:=rw_lt HS1.out g e
  have h2:w1.heap.size=g:=Option.some.inj hg
  omega,Wk.start t src,by have:=HSl.out;show _≤_;omega,hXa⟩
 case round =>
  clear HS HR0 hXa HS1
  obtain ⟨out,work,n5,n6,b6,c5,c6,a5,a6,rfl,rfl,HO,HW,HD,HK,HM,HX⟩:=hrel
  by_cases hn:0<n6
  ·obtain ⟨h0,rest,rfl⟩:∃ h0 rest,work=h0 :: rest:=by
    cases work with
    | nil=>have:=rowI_len HW.out;simp at this;omega
    | cons a r=>exact ⟨a,r,rfl⟩
   obtain ⟨g6,d6,e6,hg6,hgl6,hl6,hm6⟩:=rw_form HW.out hn
   obtain ⟨rfl,rfl⟩:some ⟨g6,0,none⟩=a6∧d6=c6:=by cases e6;exact ⟨rfl,rfl⟩
   have q0:=(RowI.at_ HW.out (i:=0) (x:=h0) rfl).1
   have hh0:0≤h0∧h0<nF:=by
    rw [← HlF.out]
    rcases HK.out.from_ h0 (List.mem_cons_self ..) with h | h
    ·exact HSr.out h0 h
    ·exact (HK.out.rch h0 h).range
   have HH:=Lib.hid hh0
   have u0:wr.cell? ⟨w.heap.size,0,none⟩=some (.slice aG nG cG):=HX.out.cell ((HBT.out.cell 0).trans rfl)
   have u1:wr.cell? ⟨w.heap.size,1,none⟩=some (.slice aF nF cF):=HX.out.cell ((HBT.out.cell 1).trans rfl)
   have z0:(0:Int)<(n6:Int):=by omega
   clear e6 hh0
   go_wp2_with fail
   go_region_held3 (fun w'=>w'.cell? ⟨w.heap.size,0,none⟩=some (.slice aG nG cG)∧w'.cell? ⟨w.heap.size,1,none⟩=some (.slice aF nF cF)∧w'.cell? ⟨g6,0,none⟩=some (.int .i64 h0))
    (first | go_keep | (refine ⟨hX3.cell ?_,hX3.cell ?_,hX3.cell ?_⟩<;>simp [*]))
    (first
     | (go_at_call 35;(refine (HC.out h0 _ (HX0.out.trans (HX.out.trans ((Ext.refl _).drew))) HH.out).mono ?_);rintro e3 w3 ⟨v7,rfl,ho7,hX3⟩))
   have hX13:Ext wr w3:=((Ext.refl _).drew).trans hX3
   have HO3:=Lib.hid (rw_ext HO.out hX13)
   have HW3:=Lib.hid (rw_ext HW.out hX13)
   have HX3:=Lib.hid (HX.out.trans hX13)
   have HSz:=Lib.hid hX13.size
   obtain ⟨m,hm⟩:∃ m,m=(succ t h0).length:=⟨_,rfl⟩
   rw [← hm] at ho7
   obtain ⟨a7,c7,rfl⟩:=rw_form0 ho7
   have H7:Hid (w3.ownsRow wr.heap.size 2 1 (.slice a7 m c7) m ((succ t h0).map (Value.int .i64))):=by
    show World.ownsRow _ _ _ _ _ _ _
    exact ho7
   have HMl:=Lib.hid hm
   clear hX13 hX3 ho7 hm u0 u1 q0
   have HApp:Hid (∀ (w0 wr:World) (hX:Ext w0 wr) (base:Nat) (hb:base≤wr.heap.size) (v:Value) (n:Nat) (xs:List Int)
     (ho:wr.ownsRow base 2 1 v n (xs.map (Value.int .i64))) (x:Int) (hB:n≤2000000),
     ∃ v' w',(Builtin.append_ #[27,27] 27 #[v,.slice (some ⟨wr.heap.size,0,none⟩) 1 1]).run Tryz.prog (wr.alloc (.cells #[.int .i64 x] 2))=.ok v' w'∧w'.ownsRow base 2 1 v' (n+1) ((xs ++ [x]).map (Value.int .i64)) ∧
      (wr.alloc (.cells #[.int .i64 x] 2)).grownBy w' v.ownBlock∧(v'.ownBlock=v.ownBlock∨v'.ownBlock=some (wr.heap.size+1))) :=
    fun w0 wr hX base hb v n xs ho x hB=>app_one2 w0 wr hX base hb hi1 hy0 hy1 hy2 v n xs ho x hB
   have hTail:=tail_sl HW3.out hn
   have hrl:rest.length=n6 - 1:=by have:=rowI_len HW.out;simp at this;omega
   have hX4:Ext w3 (w3.alloc (.cells #[] 2)):=(Ext.refl w3).alloc _
   have hO4:=rw_new0 w3 w3.heap.size 2 1 (Nat.le_refl _)
   have HT:Hid (∀ T,Sl AnyB (w3.alloc (.cells #[] 2)) 1 (fun _ cs (y:Int)=>cs=[Value.int .i64 y]) T rest→∃ v' w',(Builtin.append_ #[27,27] 27 #[.slice (some ⟨w3.heap.size,0,none⟩) 0 0,T]).run Tryz.prog (w3.alloc (.cells #[] 2))=.ok v' w' ∧
     w'.ownsRow w3.heap.size 2 1 v' (n6 - 1) (rest.map (Value.int .i64))∧Ext w3 w'):=fun T hT=>by
    have hr50:n6≤1000:=by have:=HM.out;omega
    obtain ⟨v',w',r1,r2,r3,r4⟩:=run_app (P:=Tryz.prog) (Value.int .i64) _ (fun _ _ _ h=>h) (fun _=>rfl) AnyB (w3.alloc (.cells #[] 2)) w3.heap.size Tryz.underlying27 hi1 hy0 hy1 hy2 rfl _ [] hO4 T rest hT (by simp;omega) (by simp;omega) hX4.size 27
    refine ⟨v',w',r1,?_,Below.grown hX4 r3 hX4.size (fun k hk=>by cases hk;exact Nat.le_refl _)⟩
    rw [List.nil_append,List.length_map,hrl] at r2
    exact r2
   obtain ⟨n8,hn8⟩:∃ n8,n8=n6 - 1:=⟨_,rfl⟩
   have HN8:Hid (n8+1=n6):=by show _=_;omega
   rw [← hn8] at HT
   have HRl:=Lib.hid hrl
   clear hrl hO4 hn8
   by_cases hd:d6=1
   ·subst hd
    obtain rfl:n6=1:=by omega
    have hT0:Sl AnyB (w3.alloc (.cells #[] 2)) 1 (fun _ cs (y:Int)=>cs=[Value.int .i64 y]) (.slice (some ⟨g6,0,none⟩) 0 0) rest:=by
     have h0:rest=[]:=List.eq_nil_of_length_eq_zero HRl.out
     subst h0
     exact ⟨some ⟨g6,0,none⟩,0,rfl,Nat.le_refl _,by simp [maxLen],fun h=>absurd h (by simp)⟩
    obtain ⟨v8,w4,r1,r2,r3⟩:=HT.out _ hT0
    have HR1:=Lib.hid r1
    have HW4:=Lib.hid r2
    have HX4:=Lib.hid r3
    clear r1 r2 r3 hT0 hTail hX4
    go_wp2_with (at_builtin;refine Lib.wpList_append_run _ rfl _ _ _ _ rfl _ _ rfl rfl _ _ HR1.out ?_)
    obtain ⟨a8,c8,rfl⟩:=rw_form0 HW4.out
    have H74:=Lib.hid (rw_ext H7.out HX4.out)
    have HO4:=Lib.hid (rw_ext HO3.out HX4.out)
    have HE14:=Lib.hid (HX3.out.trans HX4.out)
    obtain ⟨S0,hS0⟩:∃ S0,S0=wr.heap.size:=⟨_,rfl⟩
    have HLr3:Hid (S0≤w3.heap.size):=by rw [hS0];exact HSz.out
    have HO5lt:Hid (∀ g,(Value.slice a5 n5 c5).ownBlock=some g→g<S0):=by rw [hS0];exact rw_lt HO.out
    have H7lt:=Lib.hid (rw_lt H7.out)
    have H7ge:Hid (∀ g,(Value.slice a7 m c7).ownBlock=some g→S0≤g):=by rw [hS0];exact rw_ge H7.out
    rw [← hS0] at H74
    clear hS0
    have HBig:Hid (∀ q,(founds (out,rest) ((succ t h0).take q)).1.length≤2000∧(founds (out,rest) ((succ t h0).take q)).2.length≤2000):=fun q=>by
     have h1:=founds_len ((succ t h0).take q) (out,rest)
     have h2:((succ t h0).take q).length≤(succ t h0).length:=by rw [List.length_take];omega
     have h3:(succ t h0).length≤t.funcs.length:=callsL_len t _
     have h4:=HK.out.len
     have h5:=HlF.out
     have h6:=HRl.out
     have h7:=HM.out
     simp only at h1
     omega
    have HB1:Hid (w1.heap.size≤w3.heap.size):=HX3.out.size
    clear HW3 HO3 HR1 HT
    go_loopw [5,6,8] (fun v5 v6 i wi=>∃ (q n5' n8' c5' c8':Nat) (a5' a8':Option Addr),q≤m∧i=.int .i64 q∧v5=.slice a5' n5' c5'∧v6=.slice a8' n8' c8' ∧
     Hid (wi.ownsRow w1.heap.size 2 1 (.slice a5' n5' c5') n5' ((founds (out,rest) ((succ t h0).take q)).1.map (Value.int .i64))) ∧
     Hid (wi.ownsRow w3.heap.size 2 1 (.slice a8' n8' c8') n8' ((founds (out,rest) ((succ t h0).take q)).2.map (Value.int .i64))) ∧
     Hid (wi.ownsRow S0 2 1 (.slice a7 m c7) m ((succ t h0).map (Value.int .i64))) ∧
     Hid (∀ g,(Value.slice a5' n5' c5').ownBlock=some g→(g<S0∨w3.heap.size≤g)∧(Value.slice a8' n8' c8').ownBlock≠some g)∧Hid (Ext w1 wi)∧Hid (w3.heap.size≤wi.heap.size)) (fun _ _ i _=>m - (intOf i).toNat)
    case atStart=>exact ⟨0,n5,n8,c5,c8,a5,a8,Nat.zero_le _,rfl,rfl,rfl,HO4.out,HW4.out,H74.out,fun g hg=>⟨.inl (HO5lt.out g hg),fun e=>by
     have h1:=rw_ge HW4.out g e
     have h2:=HO5lt.out g hg
     have h3:=HLr3.out
     omega⟩,HE14.out,HX4.out.size⟩
    case round =>
     clear HW4 H74 HO4 HE14
     obtain ⟨q,n5',n8',c5',c8',a5',a8',hq,rfl,rfl,rfl,HP,HQ,H77,HD5,HXi,HE3i⟩:=hrel
     have HPl:=Lib.hid (rowI_len HP.out)
     have HQl:=Lib.hid (rowI_len HQ.out)
     by_cases hqt:q<m
     ·obtain ⟨x,hx⟩:∃ x,(succ t h0)[q]? = some x:=⟨(succ t h0)[q]'(by have:=HMl.out;omega),List.getElem?_eq_getElem _⟩
      obtain ⟨g7,d7,e7,hg7,_,hl7,hm7⟩:=rw_form H77.out (by omega)
      obtain ⟨rfl,rfl⟩:some ⟨g7,0,none⟩=a7∧d7=c7:=by cases e7;exact ⟨rfl,rfl⟩
      have Q0:=Lib.hid (RowI.at_ H77.out hx).1
      have q0:=Q0.out
      have HS:=Lib.hid (founds_snoc (out,rest) ((succ t h0).take q) x)
      rw [← take_snoc hx] at HS
      have HHas:=Lib.hid (s_l3Has (founds (out,rest) ((succ t h0).take q)).1 x _ _ wr (by have h:=HP.out;rw [← HPl.out] at h;exact h))
      have z0:(0:Int)≤(q:Int):=by omega
      have z1:(q:Int)<(m:Int):=by omega
      have Hx:=Lib.hid hx
      clear e7 hx
      by_cases hin:x∈(founds (out,rest) ((succ t h0).take q)).1
      ·have HS2:Hid (founds (out,rest) ((succ t h0).take (q+1))=founds (out,rest) ((succ t h0).take q)):=by
        show _=_
        rw [HS.out];exact if_pos hin
       rw [decide_eq_true hin] at HHas
       rw [HPl.out] at HHas
       clear hin HS
       go_wp2_with fail
       refine HHas.out.mono ?_
       rintro e w5 ⟨rfl,rfl⟩
       go_wp2
       go_roundw
       case rel=>exact ⟨q+1,n5',n8',c5',c8',a5',a8',by omega,by go_num,rfl,rfl,by rw [HS2.out];exact HP.out,by rw [HS2.out];exact HQ.out,H77.out,HD5.out,HXi.out,HE3i.out⟩
       case measure=>simp [intOf];omega
      ·have HS2:Hid (founds (out,rest) ((succ t h0).take (q+1))=((founds (out,rest) ((succ t h0).take q)).1 ++ [x],(founds (out,rest) ((succ t h0).take q)).2 ++ [x])):=by
        show _=_
        rw [HS.out];exact if_neg hin
       rw [decide_eq_false hin] at HHas
       rw [HPl.out] at HHas
       clear hin HS
       have hwr:wr.heap.size≤wr.heap.size:=Nat.le_refl _
       have hn5:n5'≤2000000:=by
        have h1:=HBig.out q
        have h2:=HPl.out
        omega
       have hn8:n8'≤2000000:=by
        have h1:=HBig.out q
        have h2:=HQl.out
        omega
       have hX4:Ext wr (wr.alloc (.cells #[.int .i64 x] 2)):=(Ext.refl wr).alloc _
       obtain ⟨v9,w5,r1,r2,r3,r4⟩:=HApp.out w1 wr HXi.out w1.heap.size HXi.out.size _ n5' _ HP.out x hn5
       obtain ⟨a9,c9,rfl⟩:=rw_form0 r2
       have E15:Ext w1 w5:=Below.grown (HXi.out.trans hX4) r3 (Nat.le_trans HXi.out.size hX4.size) (rw_ge HP.out)
       have Q5:=rw_grown (rw_ext HQ.out hX4) r3 (fun g hg e=>(HD5.out g e).2 hg)
       have S5:=rw_grown (rw_ext H77.out hX4) r3 (fun g hg e=>by
        have h1:=(HD5.out g e).1
        have h2:=H7ge.out g hg
        have h3:=H7lt.out g hg
        omega)
       have D5:∀ g,(Value.slice a9 (n5'+1) c9).ownBlock=some g→(g<S0∨w3.heap.size≤g)∧(Value.slice a8' n8' c8').ownBlock≠some g:=fun g hg=>by
        rcases r4 with r4 | r4
        ·exact HD5.out g (r4 ▸ hg)
        ·have e:wr.heap.size+1=g:=Option.some.inj (r4.symm.trans hg)
         have h1:=HE3i.out
         exact ⟨.inr (by omega),fun e2=>by have:=rw_lt HQ.out g e2;omega⟩
       have hX5:Ext w5 (w5.alloc (.cells #[.int .i64 x] 2)):=(Ext.refl w5).alloc _
       have s15:wr.heap.size≤w5.heap.size:=Nat.le_trans hX4.size r3.size
       have s35:w3.heap.size≤w5.heap.size:=Nat.le_trans HE3i.out s15
       obtain ⟨v10,w6,p1,p2,p3,p4⟩:=HApp.out w5 w5 (Ext.refl w5) w3.heap.size s35 _ n8' _ Q5 x hn8
       obtain ⟨a10,c10,rfl⟩:=rw_form0 p2
       have E16:Ext w1 w6:=Below.grown (E15.trans hX5) p3 (Nat.le_trans E15.size hX5.size) (fun k hk=>Nat.le_trans HB1.out (rw_ge Q5 k hk))
       have P6:=rw_grown (rw_ext r2 hX5) p3 (fun g hg e=>(D5 g hg).2 e)
       have S6:=rw_grown (rw_ext S5 hX5) p3 (fun g hg e=>by
        have h1:=rw_ge Q5 g e
        have h2:=H7lt.out g hg
        omega)
       have D6:∀ g,(Value.slice a9 (n5'+1) c9).ownBlock=some g→(g<S0∨w3.heap.size≤g)∧(Value.slice a10 (n8'+1) c10).ownBlock≠some g:=fun g hg=>by
        refine ⟨(D5 g hg).1,?_⟩
        rcases p4 with p4 | p4
        ·rw [p4];exact (D5 g hg).2
        ·rw [p4]
         intro e
         have e2:=Option.some.inj e
         have:=rw_lt r2 g hg
         omega
       have s36:w3.heap.size≤w6.heap.size:=Nat.le_trans s35 (Nat.le_trans hX5.size p3.size)
       have HR1:=Lib.hid r1
       have HR2:=Lib.hid p1
       have HP6:=Lib.hid P6
       have HQ6:=Lib.hid p2
       have HS6:=Lib.hid S6
       have HD6:=Lib.hid D6
       have HE16:=Lib.hid E16
       have Hs36:=Lib.hid s36
       have q5:=(RowI.at_ S5 Hx.out).1
       clear r1 r2 r3 r4 p1 p2 p3 p4 P6 S6 D6 E16 s36 s35 s15 hX5 hX4 D5 S5 Q5 E15 hn5 hn8 hwr
       go_wp2_with fail
       refine HHas.out.mono ?_
       rintro e w7 ⟨rfl,rfl⟩
       go_wp2_with (at_builtin;refine Lib.wpList_append_run _ rfl _ _ _ _ rfl _ _ rfl rfl _ _ (by first | exact HR1.out | exact HR2.out) ?_)
       go_roundw
       case rel=>exact ⟨q+1,n5'+1,n8'+1,c9,c10,a9,a10,by omega,by go_num,rfl,rfl,by rw [HS2.out];exact HP6.out,by rw [HS2.out];exact HQ6.out,HS6.out,HD6.out,HE16.out,Hs36.out⟩
       case measure=>simp [intOf];omega
     ·have hke:(succ t h0).take q=succ t h0:=List.take_of_length_le (by rw [← HMl.out];omega)
      have hP:=HP.out
      have hQ:=HQ.out
      rw [hke] at hP hQ
      have HN:=Lib.hid HK.out.next
      have HAr:Hid (n8'+2*(50 - n5')<(n8+1)+2*(50 - n5)∧n8'+2*(50 - n5')≤1000):=by
       have h1:=(founds_mem (succ t h0) (out,rest)).2.2.2.2.2
       have h2:=founds_le (succ t h0) (out,rest)
       have h3:=HN.out.len
       have h4:=rowI_len hP
       have h5:=rowI_len hQ
       have h6:=rowI_len HO.out
       have h7:=HRl.out
       have h8:=HN8.out
       have h9:=HlF.out
       have h10:=HM.out
       simp only at h1 h2
       show _∧_
       omega
      have HP2:=Lib.hid hP
      have HQ2:=Lib.hid hQ
      clear hke hP hQ
      go_wp2
      go_roundw
      case rel=>exact ⟨_,_,n5',n8',w3.heap.size,c5',c8',a5',a8',rfl,rfl,HP2.out,HQ2.out,fun g hg=>(HD5.out g hg).2,HN.out,HAr.out.2,HXi.out⟩
      case measure=>have:=HAr.out.1;have:=HN8.out;simp only [lenOf];omega
   ·obtain ⟨v8,w4,r1,r2,r3⟩:=HT.out _ (Sl.ext hTail hX4 (fun _ _ h=>h))
    have HR1:=Lib.hid r1
    have HW4:=Lib.hid r2
    have HX4:=Lib.hid r3
    clear r1 r2 r3 hTail hX4
    go_wp2_with (at_builtin;refine Lib.wpList_append_run _ rfl _ _ _ _ rfl _ _ rfl rfl _ _ HR1.out ?_)
    obtain ⟨a8,c8,rfl⟩:=rw_form0 HW4.out
    have H74:=Lib.hid (rw_ext H7.out HX4.out)
    have HO4:=Lib.hid (rw_ext HO3.out HX4.out)
    have HE14:=Lib.hid (HX3.out.trans HX4.out)
    obtain ⟨S0,hS0⟩:∃ S0,S0=wr.heap.size:=⟨_,rfl⟩
    have HLr3:Hid (S0≤w3.heap.size):=by rw [hS0];exact HSz.out
    have HO5lt:Hid (∀ g,(Value.slice a5 n5 c5).ownBlock=some g→g<S0):=by rw [hS0];exact rw_lt HO.out
    have H7lt:=Lib.hid (rw_lt H7.out)
    have H7ge:Hid (∀ g,(Value.slice a7 m c7).ownBlock=some g→S0≤g):=by rw [hS0];exact rw_ge H7.out
    rw [← hS0] at H74
    clear hS0
    have HBig:Hid (∀ q,(founds (out,rest) ((succ t h0).take q)).1.length≤2000∧(founds (out,rest) ((succ t h0).take q)).2.length≤2000):=fun q=>by
     have h1:=founds_len ((succ t h0).take q) (out,rest)
     have h2:((succ t h0).take q).length≤(succ t h0).length:=by rw [List.length_take];omega
     have h3:(succ t h0).length≤t.funcs.length:=callsL_len t _
     have h4:=HK.out.len
     have h5:=HlF.out
     have h6:=HRl.out
     have h7:=HM.out
     simp only at h1
     omega
    have HB1:Hid (w1.heap.size≤w3.heap.size):=HX3.out.size
    clear HW3 HO3 HR1 HT
    go_loopw [5,6,8] (fun v5 v6 i wi=>∃ (q n5' n8' c5' c8':Nat) (a5' a8':Option Addr),q≤m∧i=.int .i64 q∧v5=.slice a5' n5' c5'∧v6=.slice a8' n8' c8' ∧
     Hid (wi.ownsRow w1.heap.size 2 1 (.slice a5' n5' c5') n5' ((founds (out,rest) ((succ t h0).take q)).1.map (Value.int .i64))) ∧
     Hid (wi.ownsRow w3.heap.size 2 1 (.slice a8' n8' c8') n8' ((founds (out,rest) ((succ t h0).take q)).2.map (Value.int .i64))) ∧
     Hid (wi.ownsRow S0 2 1 (.slice a7 m c7) m ((succ t h0).map (Value.int .i64))) ∧
     Hid (∀ g,(Value.slice a5' n5' c5').ownBlock=some g→(g<S0∨w3.heap.size≤g)∧(Value.slice a8' n8' c8').ownBlock≠some g)∧Hid (Ext w1 wi)∧Hid (w3.heap.size≤wi.heap.size)) (fun _ _ i _=>m - (intOf i).toNat)
    case atStart=>exact ⟨0,n5,n8,c5,c8,a5,a8,Nat.zero_le _,rfl,rfl,rfl,HO4.out,HW4.out,H74.out,fun g hg=>⟨.inl (HO5lt.out g hg),fun e=>by
     have h1:=rw_ge HW4.out g e
     have h2:=HO5lt.out g hg
     have h3:=HLr3.out
     omega⟩,HE14.out,HX4.out.size⟩
    case round =>
     clear HW4 H74 HO4 HE14
     obtain ⟨q,n5',n8',c5',c8',a5',a8',hq,rfl,rfl,rfl,HP,HQ,H77,HD5,HXi,HE3i⟩:=hrel
     have HPl:=Lib.hid (rowI_len HP.out)
     have HQl:=Lib.hid (rowI_len HQ.out)
     by_cases hqt:q<m
     ·obtain ⟨x,hx⟩:∃ x,(succ t h0)[q]? = some x:=⟨(succ t h0)[q]'(by have:=HMl.out;omega),List.getElem?_eq_getElem _⟩
      obtain ⟨g7,d7,e7,hg7,_,hl7,hm7⟩:=rw_form H77.out (by omega)
      obtain ⟨rfl,rfl⟩:some ⟨g7,0,none⟩=a7∧d7=c7:=by cases e7;exact ⟨rfl,rfl⟩
      have Q0:=Lib.hid (RowI.at_ H77.out hx).1
      have q0:=Q0.out
      have HS:=Lib.hid (founds_snoc (out,rest) ((succ t h0).take q) x)
      rw [← take_snoc hx] at HS
      have HHas:=Lib.hid (s_l3Has (founds (out,rest) ((succ t h0).take q)).1 x _ _ wr (by have h:=HP.out;rw [← HPl.out] at h;exact h))
      have z0:(0:Int)≤(q:Int):=by omega
      have z1:(q:Int)<(m:Int):=by omega
      have Hx:=Lib.hid hx
      clear e7 hx
      by_cases hin:x∈(founds (out,rest) ((succ t h0).take q)).1
      ·have HS2:Hid (founds (out,rest) ((succ t h0).take (q+1))=founds (out,rest) ((succ t h0).take q)):=by
        show _=_
        rw [HS.out];exact if_pos hin
       rw [decide_eq_true hin] at HHas
       rw [HPl.out] at HHas
       clear hin HS
       go_wp2_with fail
       refine HHas.out.mono ?_
       rintro e w5 ⟨rfl,rfl⟩
       go_wp2
       go_roundw
       case rel=>exact ⟨q+1,n5',n8',c5',c8',a5',a8',by omega,by go_num,rfl,rfl,by rw [HS2.out];exact HP.out,by rw [HS2.out];exact HQ.out,H77.out,HD5.out,HXi.out,HE3i.out⟩
       case measure=>simp [intOf];omega
      ·have HS2:Hid (founds (out,rest) ((succ t h0).take (q+1))=((founds (out,rest) ((succ t h0).take q)).1 ++ [x],(founds (out,rest) ((succ t h0).take q)).2 ++ [x])):=by
        show _=_
        rw [HS.out];exact if_neg hin
       rw [decide_eq_false hin] at HHas
       rw [HPl.out] at HHas
       clear hin HS
       have hwr:wr.heap.size≤wr.heap.size:=Nat.le_refl _
       have hn5:n5'≤2000000:=by
        have h1:=HBig.out q
        have h2:=HPl.out
        omega
       have hn8:n8'≤2000000:=by
        have h1:=HBig.out q
        have h2:=HQl.out
        omega
       have hX4:Ext wr (wr.alloc (.cells #[.int .i64 x] 2)):=(Ext.refl wr).alloc _
       obtain ⟨v9,w5,r1,r2,r3,r4⟩:=HApp.out w1 wr HXi.out w1.heap.size HXi.out.size _ n5' _ HP.out x hn5
       obtain ⟨a9,c9,rfl⟩:=rw_form0 r2
       have E15:Ext w1 w5:=Below.grown (HXi.out.trans hX4) r3 (Nat.le_trans HXi.out.size hX4.size) (rw_ge HP.out)
       have Q5:=rw_grown (rw_ext HQ.out hX4) r3 (fun g hg e=>(HD5.out g e).2 hg)
       have S5:=rw_grown (rw_ext H77.out hX4) r3 (fun g hg e=>by
        have h1:=(HD5.out g e).1
        have h2:=H7ge.out g hg
        have h3:=H7lt.out g hg
        omega)
       have D5:∀ g,(Value.slice a9 (n5'+1) c9).ownBlock=some g→(g<S0∨w3.heap.size≤g)∧(Value.slice a8' n8' c8').ownBlock≠some g:=fun g hg=>by
        rcases r4 with r4 | r4
        ·exact HD5.out g (r4 ▸ hg)
        ·have e:wr.heap.size+1=g:=Option.some.inj (r4.symm.trans hg)
         have h1:=HE3i.out
         exact ⟨.inr (by omega),fun e2=>by have:=rw_lt HQ.out g e2;omega⟩
       have hX5:Ext w5 (w5.alloc (.cells #[.int .i64 x] 2)):=(Ext.refl w5).alloc _
       have s15:wr.heap.size≤w5.heap.size:=Nat.le_trans hX4.size r3.size
       have s35:w3.heap.size≤w5.heap.size:=Nat.le_trans HE3i.out s15
       obtain ⟨v10,w6,p1,p2,p3,p4⟩:=HApp.out w5 w5 (Ext.refl w5) w3.heap.size s35 _ n8' _ Q5 x hn8
       obtain ⟨a10,c10,rfl⟩:=rw_form0 p2
       have E16:Ext w1 w6:=Below.grown (E15.trans hX5) p3 (Nat.le_trans E15.size hX5.size) (fun k hk=>Nat.le_trans HB1.out (rw_ge Q5 k hk))
       have P6:=rw_grown (rw_ext r2 hX5) p3 (fun g hg e=>(D5 g hg).2 e)
       have S6:=rw_grown (rw_ext S5 hX5) p3 (fun g hg e=>by
        have h1:=rw_ge Q5 g e
        have h2:=H7lt.out g hg
        omega)
       have D6:∀ g,(Value.slice a9 (n5'+1) c9).ownBlock=some g→(g<S0∨w3.heap.size≤g)∧(Value.slice a10 (n8'+1) c10).ownBlock≠some g:=fun g hg=>by
        refine ⟨(D5 g hg).1,?_⟩
        rcases p4 with p4 | p4
        ·rw [p4];exact (D5 g hg).2
        ·rw [p4]
         intro e
         have e2:=Option.some.inj e
         have:=rw_lt r2 g hg
         omega
       have s36:w3.heap.size≤w6.heap.size:=Nat.le_trans s35 (Nat.le_trans hX5.size p3.size)
       have HR1:=Lib.hid r1
       have HR2:=Lib.hid p1
       have HP6:=Lib.hid P6
       have HQ6:=Lib.hid p2
       have HS6:=Lib.hid S6
       have HD6:=Lib.hid D6
       have HE16:=Lib.hid E16
       have Hs36:=Lib.hid s36
       have q5:=(RowI.at_ S5 Hx.out).1
       clear r1 r2 r3 r4 p1 p2 p3 p4 P6 S6 D6 E16 s36 s35 s15 hX5 hX4 D5 S5 Q5 E15 hn5 hn8 hwr
       go_wp2_with fail
       refine HHas.out.mono ?_
       rintro e w7 ⟨rfl,rfl⟩
       go_wp2_with (at_builtin;refine Lib.wpList_append_run _ rfl _ _ _ _ rfl _ _ rfl rfl _ _ (by first | exact HR1.out | exact HR2.out) ?_)
       go_roundw
       case rel=>exact ⟨q+1,n5'+1,n8'+1,c9,c10,a9,a10,by omega,by go_num,rfl,rfl,by rw [HS2.out];exact HP6.out,by rw [HS2.out];exact HQ6.out,HS6.out,HD6.out,HE16.out,Hs36.out⟩
       case measure=>simp [intOf];omega
     ·have hke:(succ t h0).take q=succ t h0:=List.take_of_length_le (by rw [← HMl.out];omega)
      have hP:=HP.out
      have hQ:=HQ.out
      rw [hke] at hP hQ
      have HN:=Lib.hid HK.out.next
      have HAr:Hid (n8'+2*(50 - n5')<(n8+1)+2*(50 - n5)∧n8'+2*(50 - n5')≤1000):=by
       have h1:=(founds_mem (succ t h0) (out,rest)).2.2.2.2.2
       have h2:=founds_le (succ t h0) (out,rest)
       have h3:=HN.out.len
       have h4:=rowI_len hP
       have h5:=rowI_len hQ
       have h6:=rowI_len HO.out
       have h7:=HRl.out
       have h8:=HN8.out
       have h9:=HlF.out
       have h10:=HM.out
       simp only at h1 h2
       show _∧_
       omega
      have HP2:=Lib.hid hP
      have HQ2:=Lib.hid hQ
      clear hke hP hQ
      go_wp2
      go_roundw
      case rel=>exact ⟨_,_,n5',n8',w3.heap.size,c5',c8',a5',a8',rfl,rfl,HP2.out,HQ2.out,fun g hg=>(HD5.out g hg).2,HN.out,HAr.out.2,HXi.out⟩
      case measure=>have:=HAr.out.1;have:=HN8.out;simp only [lenOf];omega
  ·have h0:work=[]:=by
    have:=rowI_len HW.out
    exact List.eq_nil_of_length_eq_zero (by omega)
   subst h0
   have hl5:out.length=n5:=rowI_len HO.out
   have HO2:Hid (RowI wr w.heap.size (.slice a5 n5 c5) out):=by
    have:=rw_base HO.out HX0.out.size
    rw [← hl5] at this ⊢
    exact this
   have HF2:=Lib.hid HK.out.fin
   have HL2:=Lib.hid HK.out.len
   have HX2:=Lib.hid (HX0.out.trans HX.out)
   obtain rfl:n6=0:=by omega
   clear hl5 hn
   go_wp2
   go_ret
   exact ⟨_,out,rfl,HO2.out,HF2.out,HL2.out,HX2.out⟩
open Go Go.RowKit Md
def ResV (r:Int×Int×Int):Value:=.agg #[.int .i64 r.1,.int .i64 r.2.1,.int .i64 r.2.2]
def GivesR (r:Int×Int×Int) (w:World) (e:Ending) (w':World):Prop:=e=.returned (ResV r)∧Ext w w'
theorem strs_own {w:World} {base n:Nat} {v:Value} {xs:List ByteArray} (h:w.ownsRow base 9 1 v n (xs.map Value.string)) (hs:∀ x∈xs,x.size≤maxLen):SlStr AnyB w v xs :=
 sl_own (.string) CStr (fun _ _=>.inr trivial) h (fun _ _=>trivial) (fun y hy=>⟨rfl,hs y hy⟩)
theorem ext_set3 {w wr:World} (h:Ext w wr) {g:Nat} (hg:w.heap.size≤g) (a b c:Value):Ext w (((wr.setCell ⟨g,0,none⟩ a).setCell ⟨g,1,none⟩ b).setCell ⟨g,2,none⟩ c) :=
 Below.setCell (Below.setCell (Below.setCell h (p:=⟨g,0,none⟩) hg a) (p:=⟨g,1,none⟩) hg b) (p:=⟨g,2,none⟩) hg c
set_option maxRecDepth 1000000 in
set_option maxHeartbeats 0 in
theorem s_l3Names (K:Foot) (t:PTree) (vG vF:Value) (w:World) (hG:SlGlob K w vG t.globals) (hF:SlFunc K w vF t.funcs) (hv:valid t=true) :
  Calls Tryz.prog 44 #[.agg #[vG,vF]] w (GivesR (namesR t) w):=by
 obtain ⟨iS,hiS,hzS,hsS,hbS⟩:=info_parts info_str
 have hvb:=valid_bounds hv
 have HG:=Lib.hid hG
 have HF:=Lib.hid hF
 have HGs:Hid (∀ x∈gNames t,x.size≤maxLen):=fun x hx=>by
  obtain ⟨g,hg,rfl⟩:=List.mem_map.1 hx
  obtain ⟨cs,h⟩:=Sl.mem hG g hg
  exact h.2.2
 have HFs:Hid (∀ x∈fNames t,x.size≤maxLen):=fun x hx=>by
  obtain ⟨g,hg,rfl⟩:=List.mem_map.1 hx
  obtain ⟨cs,vP,vB,_,_,_,h⟩:=Sl.mem hF g hg
  exact h
 obtain ⟨aG,nG,cG,rfl,HlG,hlcG,hcmG,helG⟩:=hG.op
 obtain ⟨aF,nF,cF,rfl,HlF,hlcF,hcmF,helF⟩:=hF.op
 have hnG:nG≤50:=by have:=HlG.out;omega
 have hnF:nF≤50:=by have:=HlF.out;omega
 obtain ⟨w1,hw1⟩:∃ w1,w1=(w.alloc (.cells #[.slice aG nG cG,.slice aF nF cF] 32)).alloc (.cells #[.int .i64 0,.int .i64 0,.int .i64 0] 40):=⟨_,rfl⟩
 have BT:Blk w1 w.heap.size 32 #[.slice aG nG cG,.slice aF nF cF]:=by rw [hw1];exact (Blk.alloc2 w _ _ _ _).1
 have BR:Blk w1 (w.heap.size+1) 40 #[.int .i64 0,.int .i64 0,.int .i64 0]:=by rw [hw1];exact (Blk.alloc2 w _ _ _ _).2
 have X0:Ext w w1:=by rw [hw1];exact ((Ext.refl w).alloc _).alloc _
 have HApp:Hid (∀ (wr:World) (v:Value) (n:Nat) (xs:List ByteArray) (y:ByteArray),Ext w1 wr→wr.ownsRow w1.heap.size 9 1 v n (xs.map Value.string)→n≤2000000 →
   ∃ v' w',(Builtin.append_ #[80,80] 80 #[v,.slice (some ⟨wr.heap.size,0,none⟩) 1 1]).run Tryz.prog (wr.alloc (.cells #[.string y] 9))=.ok v' w'∧w'.ownsRow w1.heap.size 9 1 v' (n+1) ((xs ++ [y]).map Value.string)∧Ext w1 w') :=
  fun wr v n xs y hX ho hl=>app_one (P:=Tryz.prog) Value.string (fun _=>rfl) Tryz.underlying80 hiS hzS hsS hbS rfl 80 hX ho y (by omega) (by omega)
 obtain ⟨R,hR⟩:∃ R,R=namesR t:=⟨_,rfl⟩
 rw [← hR]
 have HR:=Lib.hid hR
 have HX0:=Lib.hid X0
 have HBT:=Lib.hid BT
 have HBR:=Lib.hid BR
 clear hG hF hv hvb hR BT BR X0
 go_enter Tryz.func44,Tryz.ntmps44
 go_wp2
 rw [← hw1]
 have hs1:w.heap.size+1+1=w1.heap.size:=by rw [hw1];simp
 have HR0:=Lib.hid (rw_new0 w1 w1.heap.size 9 1 (Nat.le_refl _))
 have hXa:Ext w1 (w1.alloc (.cells #[] 9)):=(Ext.refl w1).alloc _
 clear hw1
 try rw [hs1]
 go_loopw [3,4] (fun v i wr=>∃ k:Nat,k≤nG∧i=.int .i64 k∧Hid (wr.ownsRow w1.heap.size 9 1 v k (((gNames t).take k).map Value.string))∧Hid (dupAt [] (gNames t) 0=dupAt ((gNames t).take k) ((gNames t).drop k) k)∧Ext w1 wr) (fun _ i _=>nG - (intOf i).toNat)
 case atStart=>exact ⟨0,Nat.zero_le _,rfl,HR0.out,rfl,hXa⟩
 case round =>
  clear HR0 hXa
  obtain ⟨k,hk,rfl,HO,HA,hX⟩:=hrel
  obtain ⟨av,cv,rfl⟩:=rw_form0 HO.out
  have t0:wr.cell? ⟨w.heap.size,0,none⟩=some (.slice aG nG cG):=hX.cell ((HBT.out.cell 0).trans rfl)
  have t1:wr.cell? ⟨w.heap.size,1,none⟩=some (.slice aF nF cF):=hX.cell ((HBT.out.cell 1).trans rfl)
  have b0:wr.cell? ⟨w.heap.size+1,0,none⟩=some (.int .i64 0):=hX.cell ((HBR.out.cell 0).trans rfl)
  have b1:wr.cell? ⟨w.heap.size+1,1,none⟩=some (.int .i64 0):=hX.cell ((HBR.out.cell 1).trans rfl)
  have b2:wr.cell? ⟨w.heap.size+1,2,none⟩=some (.int .i64 0):=hX.cell ((HBR.out.cell 2).trans rfl)
  have f0:=(HBR.out.ext hX).frozen 0
  have f1:=(HBR.out.ext hX).frozen 1
  have f2:=(HBR.out.ext hX).frozen 2
  by_cases hlt:k<nG
  ·obtain ⟨b,o,rfl,_,hel⟩:=helG (by omega)
   obtain ⟨g,cs,hg,_,hC,hcs⟩:=hel k hlt
   obtain ⟨rfl,_⟩:=hC
   have c0:=(HX0.out.trans hX).cell (hcs.z rfl)
   have hgn:(gNames t)[k]? = some g.name:=by unfold gNames;rw [List.getElem?_map,hg];rfl
   have HS:=Lib.hid (dupAt_step (seen:=(gNames t).take k) hgn)
   have HIn:=Lib.hid (s_l3In AnyB ((gNames t).take k) _ g.name wr (strs_own HO.out (fun x hx=>HGs.out x (List.mem_of_mem_take hx))))
   have Hgn:=Lib.hid hgn
   clear hel hcs hg hgn
   have g0:(0:Int)≤(k:Int):=by omega
   have g1:(k:Int)<(nG:Int):=by omega
   by_cases hin:g.name∈(gNames t).take k
   ·rw [decide_eq_true hin] at HIn
    have HRr:Hid (R=(2,-1,-1)):=by
     show _=_
     rw [HR.out]
     unfold namesR
     rw [HA.out,HS.out,if_pos hin]
     rfl
    clear hin
    go_wp2_with fail
    refine HIn.out.mono ?_
    rintro e w2 ⟨rfl,rfl⟩
    go_wp2
    refine bodyPost_ret (v:=.agg #[.int .i64 2,.int .i64 (-1),.int .i64 (-1)]) (by simp [results,Tryz.results44,go_sem,b0,b1,b2]) rfl ?_
    exact ⟨by rw [HRr.out];rfl,ext_set3 (HX0.out.trans hX) (Nat.le_succ _) _ _ _⟩
   ·rw [decide_eq_false hin] at HIn
    have HA2:Hid (dupAt [] (gNames t) 0=dupAt ((gNames t).take (k+1)) ((gNames t).drop (k+1)) (k+1)):=by
     show _=_
     rw [HA.out,HS.out,if_neg hin,take_snoc Hgn.out]
    obtain ⟨v',w',r1,r2,r3⟩:=HApp.out wr _ k _ g.name hX HO.out (by omega)
    rw [← take_snoc Hgn.out] at r2
    have HR1:=Lib.hid r1
    have HO3:=Lib.hid r2
    have HX3:=Lib.hid r3
    clear r1 r2 r3 hin HS
    go_wp2_with fail
    refine HIn.out.mono ?_
    rintro e w2 ⟨rfl,rfl⟩
    go_wp2_with (at_builtin;refine Lib.wpList_append_run _ rfl _ _ _ _ rfl _ _ rfl rfl _ _ HR1.out ?_)
    go_roundw
    case rel=>exact ⟨k+1,by omega,by go_num,HO3.out,HA2.out,HX3.out⟩
    case measure=>simp [intOf];omega
  ·have hlg:(gNames t).length=nG:=by unfold gNames;rw [List.length_map];exact HlG.out
   have hke:(gNames t).take k=gNames t:=List.take_of_length_le (by omega)
   have hNo:dupAt [] (gNames t) 0=none:=by
    rw [HA.out,List.drop_eq_nil_of_le (by omega)];rfl
   have hO:=HO.out
   rw [hke] at hO
   obtain rfl:nG=k:=by omega
   have HO2:=Lib.hid hO
   have HNo:=Lib.hid hNo
   clear hlg hke hNo hO HA HO b0 b1 b2 f0 f1 f2 hk hlt
   go_wp2
   go_loopw [3,5] (fun v i wq=>∃ k n:Nat,k≤nF∧n≤50+k∧i=.int .i64 k∧Hid (wq.ownsRow w1.heap.size 9 1 v n ((gNames t ++ (fNames t).take k).map Value.string))∧Hid (dupAt (gNames t) (fNames t) 0=dupAt (gNames t ++ (fNames t).take k) ((fNames t).drop k) k)∧Ext w1 wq) (fun _ i _=>nF - (intOf i).toNat)
   case atStart=>exact ⟨0,nG,Nat.zero_le _,by omega,rfl,by rw [List.take_zero,List.append_nil];exact HO2.out,by rw [List.take_zero,List.append_nil];rfl,hX⟩
   case round =>
    clear HO2 hX t0 t1
    obtain ⟨k,n,hk,hnk,rfl,HO,HA,hX⟩:=hrel
    obtain ⟨av,cv,rfl⟩:=rw_form0 HO.out
    have t0:wr.cell? ⟨w.heap.size,0,none⟩=some (.slice aG nG cG):=hX.cell ((HBT.out.cell 0).trans rfl)
    have t1:wr.cell? ⟨w.heap.size,1,none⟩=some (.slice aF nF cF):=hX.cell ((HBT.out.cell 1).trans rfl)
    have b0:wr.cell? ⟨w.heap.size+1,0,none⟩=some (.int .i64 0):=hX.cell ((HBR.out.cell 0).trans rfl)
    have b1:wr.cell? ⟨w.heap.size+1,1,none⟩=some (.int .i64 0):=hX.cell ((HBR.out.cell 1).trans rfl)
    have b2:wr.cell? ⟨w.heap.size+1,2,none⟩=some (.int .i64 0):=hX.cell ((HBR.out.cell 2).trans rfl)
    have f0:=(HBR.out.ext hX).frozen 0
    have f1:=(HBR.out.ext hX).frozen 1
    have f2:=(HBR.out.ext hX).frozen 2
    by_cases hlt:k<nF
    ·obtain ⟨b,o,rfl,_,hel⟩:=helF (by omega)
     obtain ⟨g,cs,hg,_,hC,hcs⟩:=hel k hlt
     obtain ⟨vP,vB,rfl,_⟩:=hC
     have c0:=(HX0.out.trans hX).cell (hcs.z rfl)
     have hgn:(fNames t)[k]? = some g.name:=by unfold fNames;rw [List.getElem?_map,hg];rfl
     have HS:=Lib.hid (dupAt_step (seen:=gNames t ++ (fNames t).take k) hgn)
     have HIn:=Lib.hid (s_l3In AnyB (gNames t ++ (fNames t).take k) _ g.name wr (strs_own HO.out (fun x hx=>by
      rcases List.mem_append.1 hx with hx | hx
      ·exact HGs.out x hx
      ·exact HFs.out x (List.mem_of_mem_take hx))))
     have Hgn:=Lib.hid hgn
     clear hel hcs hg hgn
     have g0:(0:Int)≤(k:Int):=by omega
     have g1:(k:Int)<(nF:Int):=by omega
     by_cases hin:g.name∈gNames t ++ (fNames t).take k
     ·rw [decide_eq_true hin] at HIn
      have HRr:Hid (R=(2,(k:Int),-1)):=by
       show _=_
       rw [HR.out]
       unfold namesR
       rw [HNo.out,HA.out,HS.out,if_pos hin]
       rfl
      clear hin
      go_wp2_with fail
      refine HIn.out.mono ?_
      rintro e w2 ⟨rfl,rfl⟩
      go_wp2
      refine bodyPost_ret (v:=.agg #[.int .i64 2,.int .i64 (k:Int),.int .i64 (-1)]) (by simp [results,Tryz.results44,go_sem,b0,b1,b2]) rfl ?_
      exact ⟨by rw [HRr.out];rfl,ext_set3 (HX0.out.trans hX) (Nat.le_succ _) _ _ _⟩
     ·rw [decide_eq_false hin] at HIn
      have HA2:Hid (dupAt (gNames t) (fNames t) 0=dupAt (gNames t ++ (fNames t).take (k+1)) ((fNames t).drop (k+1)) (k+1)):=by
       show _=_
       rw [HA.out,HS.out,if_neg hin,take_snoc Hgn.out,List.append_assoc]
      obtain ⟨v',w',r1,r2,r3⟩:=HApp.out wr _ n _ g.name hX HO.out (by omega)
      rw [List.append_assoc,← take_snoc Hgn.out] at r2
      have HR1:=Lib.hid r1
      have HO3:=Lib.hid r2
      have HX3:=Lib.hid r3
      clear r1 r2 r3 hin HS
      go_wp2_with fail
      refine HIn.out.mono ?_
      rintro e w2 ⟨rfl,rfl⟩
      go_wp2_with (at_builtin;refine Lib.wpList_append_run _ rfl _ _ _ _ rfl _ _ rfl rfl _ _ HR1.out ?_)
      go_roundw
      case rel=>exact ⟨k+1,n+1,by omega,by omega,by go_num,HO3.out,HA2.out,HX3.out⟩
      case measure=>simp [intOf];omega
    ·have hlf:(fNames t).length=nF:=by unfold fNames;rw [List.length_map];exact HlF.out
     have hNo:dupAt (gNames t) (fNames t) 0=none:=by
      rw [HA.out,List.drop_eq_nil_of_le (by omega)];rfl
     have HRm:Hid (R=mainR t):=by
      show _=_
      rw [HR.out]
      unfold namesR
      rw [HNo.out,hNo]
      rfl
     have HFn:=Lib.hid (s_l3Func K t _ _ mainB wr (Sl.ext HG.out (HX0.out.trans hX) (fun _ _ h=>h.any)) (Sl.ext HF.out (HX0.out.trans hX) (fun _ _ h=>h.ext (HX0.out.trans hX))))
     have hr:=findF_range t mainB
     unfold mainR at HRm
     unfold arityF at HRm
     clear hlf hNo HA HO b0 b1 b2 f0 f1 f2
     go_wp2_with fail
     refine HFn.out.mono ?_
     rintro e w2 ⟨rfl,hX2⟩
     have hXX:=hX.trans hX2
     have HXX:=Lib.hid hXX
     have t1:w2.cell? ⟨w.heap.size,1,none⟩=some (.slice aF nF cF):=hXX.cell ((HBT.out.cell 1).trans rfl)
     have b0:w2.cell? ⟨w.heap.size+1,0,none⟩=some (.int .i64 0):=hXX.cell ((HBR.out.cell 0).trans rfl)
     have b1:w2.cell? ⟨w.heap.size+1,1,none⟩=some (.int .i64 0):=hXX.cell ((HBR.out.cell 1).trans rfl)
     have b2:w2.cell? ⟨w.heap.size+1,2,none⟩=some (.int .i64 0):=hXX.cell ((HBR.out.cell 2).trans rfl)
     have f0:=(HBR.out.ext hXX).frozen 0
     have f1:=(HBR.out.ext hXX).frozen 1
     have f2:=(HBR.out.ext hXX).frozen 2
     clear hX2 hX hXX t0 hlt HFn
     generalize findF t mainB=u at hr HRm
     rcases hr with rfl | ⟨u0,u1,fm,hfm,_⟩
     ·have HRr:Hid (R=(3,-1,-1)):=by
       show _=_
       rw [HRm.out,if_pos (.inl (by omega))]
      go_wp2
      refine bodyPost_ret (v:=.agg #[.int .i64 3,.int .i64 (-1),.int .i64 (-1)]) (by simp [results,Tryz.results44,go_sem,b0,b1,b2]) rfl ?_
      exact ⟨by rw [HRr.out];rfl,ext_set3 (HX0.out.trans HXX.out) (Nat.le_succ _) _ _ _⟩
     ·obtain ⟨m,rfl⟩:∃ m:Nat,u=m:=⟨u.toNat,by omega⟩
      have hmF:m<nF:=by have:=HlF.out;omega
      obtain ⟨b,o,rfl,_,hel⟩:=helF (by omega)
      obtain ⟨g,cs,hg,_,hC,hcs⟩:=hel m hmF
      obtain ⟨vP,vB,rfl,sP,_⟩:=hC
      obtain ⟨aP,nP,cP,rfl⟩:=sP.shape
      have hlP:=sl_len sP
      have c1:=(HX0.out.trans HXX.out).cell (hcs 1 _ rfl)
      have hgm:g=fm:=by
       rw [Int.toNat_natCast] at hfm
       exact Option.some.inj (hg.symm.trans hfm)
      have HRr:Hid (R=if 0<nP then (3,-1,-1) else (0,-1,-1)):=by
       show _=_
       rw [HRm.out,Int.toNat_natCast,hg]
       simp only
       by_cases hp:0<nP
       ·rw [if_pos (.inr (by rw [hlP];omega)),if_pos hp]
       ·rw [if_neg (by rw [hlP];omega),if_neg hp]
      have g0:¬ ((m:Int)<0):=by omega
      have g1:(0:Int)≤(m:Int):=by omega
      have g2:(m:Int)<(nF:Int):=by omega
      clear hel hcs hg hgm hfm sP hlP u0 u1 HRm
      by_cases hp:(0:Int)<(nP:Int)
      ·have HR3:Hid (R=(3,-1,-1)):=by
        show _=_
        rw [HRr.out,if_pos (by omega)]
       go_wp2
       refine bodyPost_ret (v:=.agg #[.int .i64 3,.int .i64 (-1),.int .i64 (-1)]) (by simp [results,Tryz.results44,go_sem,b0,b1,b2]) rfl ?_
       exact ⟨by rw [HR3.out];rfl,ext_set3 (HX0.out.trans HXX.out) (Nat.le_succ _) _ _ _⟩
      ·have HR3:Hid (R=(0,-1,-1)):=by
        show _=_
        rw [HRr.out,if_neg (by omega)]
       go_wp2
       refine bodyPost_ret (v:=.agg #[.int .i64 0,.int .i64 (-1),.int .i64 (-1)]) (by simp [results,Tryz.results44,go_sem,b0,b1,b2]) rfl ?_
       exact ⟨by rw [HR3.out];rfl,ext_set3 (HX0.out.trans HXX.out) (Nat.le_succ _) _ _ _⟩
open Go Go.RowKit Md
theorem cut_head {P:Program} {t e:TypeId} {i:TypeInfo} {sz:Nat} (ht:P.underlying t=some (.slice e)) (hi:P.info? e=some i) (hsz:i.size=sz) (a:Option Addr) (n c up:Nat) (h1:up≤n) (h2:n≤c) :
  ∃ a',(∀ W:World,(Instr.slice t (.slice a n c) none (some (.int .i64 up)) none).run P W=.ok (.slice a' up c) W)∧CutAt sz 0 up a a':=by
 refine ⟨_,fun W=>?_,CutAt.mk_ sz 0 up c a (by omega)⟩
 have hel:P.elem t=e:=by simp [Program.elem,ht]
 have hu:P.underlying t=some (.slice (P.elem t)):=by rw [hel];exact ht
 rw [run_slice_h W t a n c hu .i64 (up:Int) (by omega) (by omega),hel]
 simp [sizeOf,typeInfo,hi,hsz,sliced,Result.andThen]
set_option maxRecDepth 1000000 in
set_option maxHeartbeats 0 in
theorem s_l3Body (K:Foot) (t:PTree) (vG vF:Value) (f:Nat) (fi:Int) (hfi:fi=f) (x:PFunc) (sts:List St) (w:World) (hG:SlGlob K w vG t.globals) (hF:SlFunc K w vF t.funcs) (hx:t.funcs[f]? = some x) (hb:blocks x.body 0=some sts) (hp:x.params.length≤6) (hbl:x.body.length≤500) :
  Calls Tryz.prog 45 #[.agg #[vG,vF],.int .i64 fi] w (GivesR (bodyR t f x sts) w):=by
 subst hfi
 have HG:=Lib.hid hG
 have HF:=Lib.hid hF
 obtain ⟨aG,nG,cG,rfl⟩:=hG.shape
 obtain ⟨aF,nF,cF,rfl,HlF,hlcF,hcmF,helF⟩:=hF.op
 have hiF:f<nF:=by have:=HlF.out;have:=(List.getElem?_eq_some_iff.1 hx).1;omega
 obtain ⟨bF,oF,rfl,_,helF⟩:=helF (by omega)
 obtain ⟨x',csF,hx',_,hCF,hcsF⟩:=helF f hiF
 obtain rfl:x=x':=Option.some.inj (hx.symm.trans hx')
 obtain ⟨vP,vB,rfl,sP,sB,hsz⟩:=hCF
 have HP:=Lib.hid sP
 have HB:=Lib.hid sB
 obtain ⟨aP,nP,cP,rfl,HlP,hlcP,hcmP,helP⟩:=sP.op
 obtain ⟨aB,nB,cB,rfl⟩:=sB.shape
 obtain ⟨w1,hw1⟩:∃ w1,w1=(w.alloc (.cells #[.slice aG nG cG,.slice (some ⟨bF,oF,none⟩) nF cF] 32)).alloc (.cells #[.int .i64 0,.int .i64 0,.int .i64 0] 40):=⟨_,rfl⟩
 have BT:Blk w1 w.heap.size 32 #[.slice aG nG cG,.slice (some ⟨bF,oF,none⟩) nF cF]:=by rw [hw1];exact (Blk.alloc2 w _ _ _ _).1
 have BR:Blk w1 (w.heap.size+1) 40 #[.int .i64 0,.int .i64 0,.int .i64 0]:=by rw [hw1];exact (Blk.alloc2 w _ _ _ _).2
 have X0:Ext w w1:=by rw [hw1];exact ((Ext.refl w).alloc _).alloc _
 have Hs1:Hid (w.heap.size+1+1=w1.heap.size):=by rw [hw1];show _=_;simp
 have c0:=X0.cell (hcsF.z rfl)
 have c1:=X0.cell (hcsF 1 _ rfl)
 have c2:=X0.cell (hcsF 2 _ rfl)
 obtain ⟨R,hR⟩:∃ R,R=bodyR t f x sts:=⟨_,rfl⟩
 rw [← hR]
 have HR:=Lib.hid hR
 have HX0:=Lib.hid X0
 have HBT:=Lib.hid BT
 have HBR:=Lib.hid BR
 have HBk:=Lib.hid hb
 have t1:=(BT.cell 1).trans (show _=some (Value.slice (some ⟨bF,oF,none⟩) nF cF) from rfl)
 have g8:(0:Int)≤(f:Int):=by omega
 have g9:(f:Int)<(nF:Int):=by omega
 clear hG hF hR BT BR X0 hx hx' hcsF helF sP sB hb
 rw [hw1] at c0 c1 c2 t1
 have HW1:=Lib.hid hw1
 clear hw1
 go_enter Tryz.func45,Tryz.ntmps45
 go_wp2
 obtain ⟨w2,hw2⟩:∃ w2,w2=w1.alloc (.cells #[.string x.name,.slice aP nP cP,.slice aB nB cB] 83):=⟨_,rfl⟩
 have BF:Blk w2 w1.heap.size 83 #[.string x.name,.slice aP nP cP,.slice aB nB cB]:=by rw [hw2];exact Blk.alloc _ _ _
 have X2:Ext w1 w2:=by rw [hw2];exact (Ext.refl w1).alloc _
 try rw [← HW1.out]
 try rw [Hs1.out]
 try rw [← hw2]
 go_loopw [6] (fun i wr=>∃ k:Nat,k≤nP∧i=.int .i64 k∧Hid (parBad t [] x.params=parBad t (x.params.take k) (x.params.drop k))∧Ext w2 wr) (fun i _=>nP - (intOf i).toNat)
 case atStart=>exact ⟨0,Nat.zero_le _,rfl,rfl,Ext.refl _⟩
 case round =>
  obtain ⟨k,hk,rfl,HA,hX⟩:=hrel
  have hXw:=HX0.out.trans (X2.trans hX)
  have t0:wr.cell? ⟨w.heap.size,0,none⟩=some (.slice aG nG cG):=(X2.trans hX).cell ((HBT.out.cell 0).trans rfl)
  have t1:wr.cell? ⟨w.heap.size,1,none⟩=some (.slice (some ⟨bF,oF,none⟩) nF cF):=(X2.trans hX).cell ((HBT.out.cell 1).trans rfl)
  have d1:wr.cell? ⟨w1.heap.size,1,none⟩=some (.slice aP nP cP):=hX.cell ((BF.cell 1).trans rfl)
  have d2:wr.cell? ⟨w1.heap.size,2,none⟩=some (.slice aB nB cB):=hX.cell ((BF.cell 2).trans rfl)
  have b0:wr.cell? ⟨w.heap.size+1,0,none⟩=some (.int .i64 0):=(X2.trans hX).cell ((HBR.out.cell 0).trans rfl)
  have b1:wr.cell? ⟨w.heap.size+1,1,none⟩=some (.int .i64 0):=(X2.trans hX).cell ((HBR.out.cell 1).trans rfl)
  have b2:wr.cell? ⟨w.heap.size+1,2,none⟩=some (.int .i64 0):=(X2.trans hX).cell ((HBR.out.cell 2).trans rfl)
  have f0:=(HBR.out.ext (X2.trans hX)).frozen 0
  have f1:=(HBR.out.ext (X2.trans hX)).frozen 1
  have f2:=(HBR.out.ext (X2.trans hX)).frozen 2
  by_cases hlt:k<nP
  ·obtain ⟨iS,hiS,hzS,hsS,hbS⟩:=info_parts info_str
   obtain ⟨aQ,hcut,hat⟩:=cut_head Tryz.underlying80 hiS hsS aP nP cP k (by omega) hlcP
   have hSl:SlStr K wr (.slice aQ k cP) (x.params.take k):=by
    have:=Sl.cutAt (Sl.ext HP.out hXw (fun _ _ h=>h.any)) 0 k (by omega) (by omega) (Nat.le_refl _) hat
    rwa [List.drop_zero] at this
   obtain ⟨b,o,rfl,_,hel⟩:=helP (by omega)
   obtain ⟨p,cs,hpk,_,hC,hcs⟩:=hel k hlt
   obtain ⟨rfl,hps⟩:=hC
   have c0:=hXw.cell (hcs.z rfl)
   rw [Nat.mul_one] at c0
   have HIn:Hid (∀ w',Ext wr w'→Calls Tryz.prog 82 #[.slice aQ k cP,.string p] w' (Same (.bool (decide (p∈x.params.take k))) w')):=fun w' hX' =>
    s_l3In K (x.params.take k) _ p w' (Sl.ext hSl hX' (fun _ _ h=>h.any))
   have HGl:Hid (∀ w',Ext wr w'→Calls Tryz.prog 83 #[.agg #[.slice aG nG cG,.slice (some ⟨bF,oF,none⟩) nF cF],.string p] w' (Gives (.int .i64 (gsize t p)) w')):=fun w' hX' =>
    s_l3Global K t _ _ p w' (Sl.ext HG.out (hXw.trans hX') (fun _ _ h=>h.any)) (Sl.ext HF.out (hXw.trans hX') (fun _ _ h=>h.ext (hXw.trans hX')))
   have HSt:=Lib.hid (parBad_step (t:=t) (seen:=x.params.take k) hpk)
   have Hpk:=Lib.hid hpk
   have g0:(0:Int)≤(k:Int):=by omega
   have g1:(k:Int)<(nP:Int):=by omega
   clear hSl hel hcs hpk
   by_cases hin:p∈x.params.take k
   ·rw [decide_eq_true hin] at HIn
    have HRr:Hid (R=(2,(f:Int),-1)):=by
     show _=_
     rw [HR.out]
     unfold bodyR
     rw [HA.out,HSt.out,if_pos (show p∈x.params.take k∨0≤gsize t p from .inl hin)]
     rfl
    clear hin
    go_wp2_with fail
    go_quiet (exact Same.quiet (HIn.out _ ((Ext.refl wr).trans (drewN_ext wr _))))
    go_wp2
    refine bodyPost_ret (v:=.agg #[.int .i64 2,.int .i64 (f:Int),.int .i64 (-1)]) (by simp [results,Tryz.results45,go_sem,b0,b1,b2]) rfl ?_
    exact ⟨by rw [HRr.out];rfl,ext_set3 (hXw.trans (drewN_ext wr _)) (Nat.le_succ _) _ _ _⟩
   ·rw [decide_eq_false hin] at HIn
    have hSt2:parBad t (x.params.take k) (x.params.drop k)=if 0≤gsize t p then true else parBad t (x.params.take (k+1)) (x.params.drop (k+1)):=by
     rw [HSt.out,take_snoc Hpk.out]
     by_cases hg:0≤gsize t p
     ·rw [if_pos (show p∈x.params.take k∨0≤gsize t p from .inr hg),if_pos hg]
     ·rw [if_neg (fun h=>h.elim hin hg),if_neg hg]
    have HSt2:=Lib.hid hSt2
    have HXr:=Lib.hid hX
    clear hin hSt2
    go_wp2_with fail
    go_region_held3 (fun w'=>w'.cell? ⟨w.heap.size,0,none⟩=some (.slice aG nG cG)∧w'.cell? ⟨w.heap.size,1,none⟩=some (.slice (some ⟨bF,oF,none⟩) nF cF)∧w'.cell? ⟨w1.heap.size,1,none⟩=some (.slice (some ⟨b,o,none⟩) nP cP)∧w'.cell? ⟨b,o+k,none⟩=some (.string p))
     (first | go_keep | (refine ⟨hX3.cell ?_,hX3.cell ?_,hX3.cell ?_,hX3.cell ?_⟩<;>simp [*]))
     (first
      | (go_at_call 82;(refine (HIn.out _ ((Ext.refl wr).drew)).mono ?_);rintro e2 w2 ⟨rfl,rfl⟩)
      | (go_at_call 83;(refine (HGl.out _ ((Ext.refl wr).drew)).mono ?_);rintro e3 w3 ⟨rfl,hX3⟩))
    have hX3r:Ext wr w3:=((Ext.refl wr).drew).trans hX3
    have b0':=hX3r.cell b0
    have b1':=hX3r.cell b1
    have b2':=hX3r.cell b2
    have f0':=(HBR.out.ext ((X2.trans HXr.out).trans hX3r)).frozen 0
    have f1':=(HBR.out.ext ((X2.trans HXr.out).trans hX3r)).frozen 1
    have f2':=(HBR.out.ext ((X2.trans HXr.out).trans hX3r)).frozen 2
    have HXn:=Lib.hid (HXr.out.trans hX3r)
    clear b0 b1 b2 f0 f1 f2 t0 t1 d1 d2 hX hX3 hX3r
    generalize gsize t p=u at HSt2
    by_cases hu:0≤u
    ·have HRr:Hid (R=(2,(f:Int),-1)):=by
      show _=_
      rw [HR.out]
      unfold bodyR
      rw [HA.out,HSt2.out,if_pos hu]
      rfl
     go_wp2
     refine bodyPost_ret (v:=.agg #[.int .i64 2,.int .i64 (f:Int),.int .i64 (-1)]) (by simp [results,Tryz.results45,go_sem,b0',b1',b2']) rfl ?_
     exact ⟨by rw [HRr.out];rfl,ext_set3 (HX0.out.trans (X2.trans HXn.out)) (Nat.le_succ _) _ _ _⟩
    ·have HA2:Hid (parBad t [] x.params=parBad t (x.params.take (k+1)) (x.params.drop (k+1))):=by
      show _=_
      rw [HA.out,HSt2.out,if_neg hu]
     go_wp2
     go_roundw
     case rel=>exact ⟨k+1,by omega,by go_num,HA2.out,HXn.out⟩
     case measure=>simp [intOf];omega
  ·have hno:parBad t [] x.params=false:=by
    rw [HA.out,List.drop_eq_nil_of_le (by rw [HlP.out];omega)]
    rfl
   have HC:=Lib.hid (s_l3Block K t _ _ _ x.body 0 0 rfl sts x.params x.params _ _ _ wr (Sl.ext HG.out hXw (fun _ _ h=>h.any)) (Sl.ext HF.out hXw (fun _ _ h=>h.ext hXw)) (Sl.ext HB.out hXw (fun _ _ h=>h.ext hXw)) ((Sl.ext HP.out hXw (fun _ _ h=>h.any)).keep (Keep.refl _ _) (fun _ _ _ h=>h) (fun _ _=>trivial)) ((Sl.ext HP.out hXw (fun _ _ h=>h.any)).keep (Keep.refl _ _) (fun _ _ _ h=>h) (fun _ _=>trivial)) rfl HBk.out (by omega) (by omega) (by omega))
   have HN:=Lib.hid hno
   have HXr:=Lib.hid hX
   clear hno hp hbl
   go_wp2_with fail
   refine HC.out.mono ?_
   rintro e w3 ⟨er,ea,v,tk,rfl,hX3,_,hres⟩
   have hX3r:Ext w2 w3:=HXr.out.trans hX3
   have b0':w3.cell? ⟨w.heap.size+1,0,none⟩=some (.int .i64 0):=hX3.cell b0
   have b1':w3.cell? ⟨w.heap.size+1,1,none⟩=some (.int .i64 0):=hX3.cell b1
   have b2':w3.cell? ⟨w.heap.size+1,2,none⟩=some (.int .i64 0):=hX3.cell b2
   have f0':=(HBR.out.ext (X2.trans hX3r)).frozen 0
   have f1':=(HBR.out.ext (X2.trans hX3r)).frozen 1
   have f2':=(HBR.out.ext (X2.trans hX3r)).frozen 2
   have HXn:=Lib.hid hX3r
   clear b0 b1 b2 f0 f1 f2 t0 t1 d1 d2 hX hX3 hX3r hXw
   rcases hres with ⟨hr,he⟩ | ⟨rfl,rfl,hr⟩
   ·have HRr:Hid (R=(er,(f:Int),ea)):=by
     show _=_
     rw [HR.out]
     unfold bodyR
     rw [HN.out,hr]
     rfl
    have hq:(er == 0)=false:=by simpa using he
    clear hr he
    go_wp2
    refine bodyPost_ret (v:=.agg #[.int .i64 er,.int .i64 (f:Int),.int .i64 ea]) (by simp [results,Tryz.results45,go_sem,b0',b1',b2']) rfl ?_
    exact ⟨by rw [HRr.out];rfl,ext_set3 (HX0.out.trans (X2.trans HXn.out)) (Nat.le_succ _) _ _ _⟩
   ·have HRr:Hid (R=(0,-1,-1)):=by
     show _=_
     rw [HR.out]
     unfold bodyR
     rw [HN.out,hr]
     rfl
    clear hr
    go_wp2
    refine bodyPost_ret (v:=.agg #[.int .i64 0,.int .i64 (-1),.int .i64 (-1)]) (by simp [results,Tryz.results45,go_sem,b0',b1',b2']) rfl ?_
    exact ⟨by rw [HRr.out];rfl,ext_set3 (HX0.out.trans (X2.trans HXn.out)) (Nat.le_succ _) _ _ _⟩
open Go Go.RowKit Md
theorem one_row (w:World) (x:Int):RowI (w.alloc (.cells #[.int .i64 x] 2)) w.heap.size (.slice (some ⟨w.heap.size,0,none⟩) 1 1) [x] :=
 ⟨rfl,.inr ⟨w.heap.size,1,#[.int .i64 x],rfl,Nat.le_refl _,heap_alloc_new w _,Nat.le_refl _,by unfold maxLen;omega,rfl,rfl⟩⟩
theorem ret3 {P:Program} {n:Nat} {args:Array Value} {w:World} {r:Int×Int×Int} (h:Calls P n args w (GivesR r w)):∃ a b c,r=(a,b,c)∧Calls P n args w (fun e w'=>e=.returned (.agg #[.int .i64 a,.int .i64 b,.int .i64 c])∧Ext w w') :=
 ⟨r.1,r.2.1,r.2.2,rfl,h⟩
set_option maxRecDepth 1000000 in
set_option maxHeartbeats 0 in
theorem s_CheckC (K:Foot) (t:PTree) (vG vF:Value) (w:World) (hG:SlGlob K w vG t.globals) (hF:SlFunc K w vF t.funcs) (hz:Small t) :
  Calls Tryz.prog 18 #[.agg #[vG,vF]] w (GivesR (checkAns t) w):=by
 have HG:=Lib.hid hG
 have HF:=Lib.hid hF
 obtain ⟨aG,nG,cG,rfl⟩:=hG.shape
 obtain ⟨aF,nF,cF,rfl⟩:=hF.shape
 have hlF:t.funcs.length=nF:=sl_len hF
 have HlF:=Lib.hid hlF
 obtain ⟨w1,hw1⟩:∃ w1,w1=(w.alloc (.cells #[.slice aG nG cG,.slice aF nF cF] 32)).alloc (.cells #[.int .i64 0,.int .i64 0,.int .i64 0] 40):=⟨_,rfl⟩
 have BT:Blk w1 w.heap.size 32 #[.slice aG nG cG,.slice aF nF cF]:=by rw [hw1];exact (Blk.alloc2 w _ _ _ _).1
 have BR:Blk w1 (w.heap.size+1) 40 #[.int .i64 0,.int .i64 0,.int .i64 0]:=by rw [hw1];exact (Blk.alloc2 w _ _ _ _).2
 have X0:Ext w w1:=by rw [hw1];exact ((Ext.refl w).alloc _).alloc _
 have HG1:Hid (∀ w',Ext w1 w'→SlGlob K w' (.slice aG nG cG) t.globals):=fun w' hX=>Sl.ext HG.out (X0.trans hX) (fun _ _ h=>h.any)
 have HF1:Hid (∀ w',Ext w1 w'→SlFunc K w' (.slice aF nF cF) t.funcs):=fun w' hX=>Sl.ext HF.out (X0.trans hX) (fun _ _ h=>h.ext (X0.trans hX))
 have HV:=Lib.hid (s_ValidTree K t _ _ w1 (HG1.out _ (Ext.refl _)) (HF1.out _ (Ext.refl _)) hz)
 obtain ⟨R,hR⟩:∃ R,R=checkAns t:=⟨_,rfl⟩
 rw [← hR]
 have HR:=Lib.hid hR
 have HX0:=Lib.hid X0
 have HBT:=Lib.hid BT
 have HBR:=Lib.hid BR
 clear hG hF hlF hz hR BT BR X0
 have HW1:=Lib.hid hw1
 clear hw1
 by_cases hv:valid t=true
 case neg =>
  have hq:valid t=false:=by simpa using hv
  rw [hq] at HV
  have HRr:Hid (R=(1,-1,-1)):=by
   show _=_
   rw [HR.out]
   unfold checkAns
   rw [if_neg hv]
  clear hv hq
  have t0:w1.cell? ⟨w.heap.size,0,none⟩=some (.slice aG nG cG):=(HBT.out.cell 0).trans rfl
  have t1:w1.cell? ⟨w.heap.size,1,none⟩=some (.slice aF nF cF):=(HBT.out.cell 1).trans rfl
  rw [HW1.out] at t0 t1
  go_enter Tryz.func18,Tryz.ntmps18
  go_wp2_with fail
  rw [← HW1.out]
  refine HV.out.mono ?_
  rintro e w2 ⟨rfl,hX2⟩
  have b0:w2.cell? ⟨w.heap.size+1,0,none⟩=some (.int .i64 0):=hX2.cell ((HBR.out.cell 0).trans rfl)
  have b1:w2.cell? ⟨w.heap.size+1,1,none⟩=some (.int .i64 0):=hX2.cell ((HBR.out.cell 1).trans rfl)
  have b2:w2.cell? ⟨w.heap.size+1,2,none⟩=some (.int .i64 0):=hX2.cell ((HBR.out.cell 2).trans rfl)
  have f0:=(HBR.out.ext hX2).frozen 0
  have f1:=(HBR.out.ext hX2).frozen 1
  have f2:=(HBR.out.ext hX2).frozen 2
  go_wp2
  refine bodyPost_ret (v:=.agg #[.int .i64 1,.int .i64 (-1),.int .i64 (-1)]) (by simp [results,Tryz.results18,go_sem,b0,b1,b2]) rfl ?_
  exact ⟨by rw [HRr.out];rfl,ext_set3 (HX0.out.trans hX2) (Nat.le_succ _) _ _ _⟩
 case pos =>
  rw [hv] at HV
  have HVd:=Lib.hid hv
  have hvb:=valid_bounds hv
  have hnF:nF≤50:=by have:=hvb.2.1;have:=HlF.out;omega
  have HN:Hid (∀ w',Ext w1 w'→Calls Tryz.prog 44 #[.agg #[.slice aG nG cG,.slice aF nF cF]] w' (GivesR (namesR t) w')):=fun w' hX=>s_l3Names K t _ _ w' (HG1.out _ hX) (HF1.out _ hX) HVd.out
  have HB:Hid (∀ (f:Nat) (x:PFunc×List St) w',Ext w1 w'→(bodiesOf t)[f]? = some x→Calls Tryz.prog 45 #[.agg #[.slice aG nG cG,.slice aF nF cF],.int .i64 (f:Int)] w' (GivesR (bodyR t f x.1 x.2) w')):=fun f x w' hX hx=>by
   have hxm:=List.mem_of_getElem? hx
   have hfx:t.funcs[f]? = some x.1:=by
    unfold bodiesOf at hx
    rw [List.getElem?_map] at hx
    cases h:t.funcs[f]? with
    | none=>rw [h] at hx;cases hx
    | some y=>rw [h] at hx;cases hx;rfl
   have hb:=(valid_bounds HVd.out).2.2 x.1 (List.mem_of_getElem? hfx)
   exact s_l3Body K t _ _ f (f:Int) rfl x.1 x.2 w' (HG1.out _ hX) (HF1.out _ hX) hfx (bodies_valid HVd.out x hxm) hb.1 hb.2.1
  have HFn:Hid (∀ w',Ext w1 w'→Calls Tryz.prog 46 #[.agg #[.slice aG nG cG,.slice aF nF cF],.string mainB] w' (Gives (.int .i64 (findF t mainB)) w')):=fun w' hX=>s_l3Func K t _ _ mainB w' (HG1.out _ hX) (HF1.out _ hX)
  have HRc:Hid (∀ (x:Int) w',Ext w1 w'→0≤x∧x<nF→Calls Tryz.prog 47 #[.agg #[.slice aG nG cG,.slice aF nF cF],.slice (some ⟨w'.heap.size,0,none⟩) 1 1] (w'.alloc (.cells #[.int .i64 x] 2)) (Reached t [x] (w'.alloc (.cells #[.int .i64 x] 2)))):=fun x w' hX hx =>
   s_l3Reach K t _ _ [x] _ _ _ (HG1.out _ (hX.alloc _)) (HF1.out _ (hX.alloc _)) HVd.out (one_row w' x) (fun y hy=>by rw [List.mem_singleton.1 hy];have:=HlF.out;omega) (Nat.le_refl _)
  have HRv:Hid (R=checkR t (bodiesOf t)):=by
   show _=_
   rw [HR.out]
   unfold checkAns
   rw [if_pos HVd.out]
  have hlB:(bodiesOf t).length=nF:=by unfold bodiesOf;rw [List.length_map];exact HlF.out
  have HlB:=Lib.hid hlB
  obtain ⟨i1,hi1,hy0,hy1,hy2⟩:=info_parts info_int64
  have HApp:Hid (∀ (w0 wr:World) (v:Value) (n:Nat) (xs:List Int) (y:Int),Ext w0 wr→wr.ownsRow w0.heap.size 2 1 v n (xs.map (Value.int .i64))→n≤2000000 →
    ∃ v' w',(Builtin.append_ #[27,27] 27 #[v,.slice (some ⟨wr.heap.size,0,none⟩) 1 1]).run Tryz.prog (wr.alloc (.cells #[.int .i64 y] 2))=.ok v' w'∧w'.ownsRow w0.heap.size 2 1 v' (n+1) ((xs ++ [y]).map (Value.int .i64))∧Ext w0 w') :=
   fun w0 wr v n xs y hX ho hl=>app_one (P:=Tryz.prog) (Value.int .i64) (fun _=>rfl) Tryz.underlying27 hi1 hy0 hy1 hy2 rfl 27 hX ho y (by omega) (by omega)
  obtain ⟨m,hm⟩:∃ m,m=findF t mainB:=⟨_,rfl⟩
  have hmr:=findF_range t mainB
  rw [← hm] at HFn hmr
  have hmn:m<nF:=by
   rcases hmr with h | ⟨_,h,_⟩
   ·omega
   ·have:=HlF.out;omega
  have Hm:=Lib.hid hm
  clear hv hvb hlB hmr hm
  have t0:w1.cell? ⟨w.heap.size,0,none⟩=some (.slice aG nG cG):=(HBT.out.cell 0).trans rfl
  have t1:w1.cell? ⟨w.heap.size,1,none⟩=some (.slice aF nF cF):=(HBT.out.cell 1).trans rfl
  have t0':=t0
  have t1':=t1
  rw [HW1.out] at t0' t1'
  go_enter Tryz.func18,Tryz.ntmps18
  go_wp2_with fail
  rw [← HW1.out]
  refine HV.out.mono ?_
  rintro e w2 ⟨rfl,hX2⟩
  have t0:=hX2.cell t0
  have t1:=hX2.cell t1
  obtain ⟨ra,rb,rc,hr,HN2⟩:=ret3 (HN.out _ hX2)
  have HN2:=Lib.hid HN2
  have Hr:=Lib.hid hr
  clear t0' t1' hr
  go_wp2_with fail
  refine HN2.out.mono ?_
  rintro e w3 ⟨rfl,hX3⟩
  have HX3:=Lib.hid (hX2.trans hX3)
  obtain ⟨C,hC⟩:∃ C,C=w3.heap.size:=⟨_,rfl⟩
  obtain ⟨w4,hw4⟩:∃ w4,w4=w3.alloc (.cells #[.int .i64 ra,.int .i64 rb,.int .i64 rc] 40):=⟨_,rfl⟩
  have BC:Blk w4 C 40 #[.int .i64 ra,.int .i64 rb,.int .i64 rc]:=by rw [hw4,hC];exact Blk.alloc _ _ _
  have HX4:Hid (Ext w1 w4):=by
   show Ext _ _
   rw [hw4];exact HX3.out.alloc _
  have HC1:Hid (w1.heap.size≤C):=by rw [hC];exact HX3.out.size
  have HI0:Hid ((ra=0∧rb = -1∧rc = -1∧0≤m∧R=tailR t (bodiesOf t) 0)∨(ra≠0∧R=(ra,rb,rc))):=by
   by_cases h0:ra=0
   ·have h1:(namesR t).1=0:=by rw [Hr.out];exact h0
    obtain ⟨h2,h3⟩:=namesR_ok h1
    rw [Hr.out] at h2
    cases h2
    exact .inl ⟨rfl,rfl,rfl,by rw [Hm.out];exact h3,by rw [HRv.out,checkR_ok h1]⟩
   ·have h1:(namesR t).1≠0:=by rw [Hr.out];exact h0
    exact .inr ⟨h0,by rw [HRv.out,checkR_bad h1,Hr.out]⟩
  have HBC:=Lib.hid BC
  have HW4:=Lib.hid hw4
  have HC:=Lib.hid hC
  clear hX2 hX3 t0 t1 BC hw4 hC
  go_wp2
  try rw [← HW4.out]
  try rw [← HC.out]
  go_loopw [4] (fun i wr=>∃ (k:Nat) (a b c:Int),k≤nF∧i=.int .i64 k∧Hid (Blk wr C 40 #[.int .i64 a,.int .i64 b,.int .i64 c])∧Hid (Ext w1 wr)∧Hid ((a=0∧b = -1∧c = -1∧0≤m∧R=tailR t (bodiesOf t) k)∨(a≠0∧R=(a,b,c)))) (fun i _=>nF - (intOf i).toNat)
  case atStart=>exact ⟨0,ra,rb,rc,Nat.zero_le _,rfl,HBC.out,HX4.out,HI0.out⟩
  case round =>
   clear HBC HX4 HI0 HX3 HW4 HC
   obtain ⟨k,a,b,c,hk,rfl,HBC,HX,HI⟩:=hrel
   have t0:wr.cell? ⟨w.heap.size,0,none⟩=some (.slice aG nG cG):=HX.out.cell ((HBT.out.cell 0).trans rfl)
   have t1:wr.cell? ⟨w.heap.size,1,none⟩=some (.slice aF nF cF):=HX.out.cell ((HBT.out.cell 1).trans rfl)
   have b0:wr.cell? ⟨w.heap.size+1,0,none⟩=some (.int .i64 0):=HX.out.cell ((HBR.out.cell 0).trans rfl)
   have b1:wr.cell? ⟨w.heap.size+1,1,none⟩=some (.int .i64 0):=HX.out.cell ((HBR.out.cell 1).trans rfl)
   have b2:wr.cell? ⟨w.heap.size+1,2,none⟩=some (.int .i64 0):=HX.out.cell ((HBR.out.cell 2).trans rfl)
   have f0:=(HBR.out.ext HX.out).frozen 0
   have f1:=(HBR.out.ext HX.out).frozen 1
   have f2:=(HBR.out.ext HX.out).frozen 2
   have q0:wr.cell? ⟨C,0,none⟩=some (.int .i64 a):=(HBC.out.cell 0).trans rfl
   have q1:wr.cell? ⟨C,1,none⟩=some (.int .i64 b):=(HBC.out.cell 1).trans rfl
   have q2:wr.cell? ⟨C,2,none⟩=some (.int .i64 c):=(HBC.out.cell 2).trans rfl
   by_cases ha:a=0
   ·obtain ⟨hb1,hc1,hm0,HRk⟩:b = -1∧c = -1∧0≤m∧Hid (R=tailR t (bodiesOf t) k):=by
     rcases HI.out with ⟨_,h1,h2,h3,h4⟩ | ⟨h,_⟩
     ·exact ⟨h1,h2,h3,h4⟩
     ·exact absurd ha h
    subst ha
    subst hb1
    subst hc1
    clear HI
    by_cases hlt:k<nF
    ·obtain ⟨x,hx⟩:∃ x,(bodiesOf t)[k]? = some x:=⟨(bodiesOf t)[k]'(by have:=HlB.out;omega),List.getElem?_eq_getElem _⟩
     obtain ⟨a',b',c',hr,HBd⟩:=ret3 (HB.out k x wr HX.out hx)
     have HBd:=Lib.hid HBd
     have HI2:Hid ((a'=0∧b' = -1∧c' = -1∧0≤m∧R=tailR t (bodiesOf t) (k+1))∨(a'≠0∧R=(a',b',c'))):=by
      by_cases h0:a'=0
      ·have h1:(bodyR t k x.1 x.2).1=0:=by rw [hr];exact h0
       have h2:=bodyR_ok (bodies_valid HVd.out x (List.mem_of_getElem? hx)) h1
       rw [hr] at h2
       cases h2
       exact .inl ⟨rfl,rfl,rfl,hm0,by rw [HRk.out,tailR_ok hx h1]⟩
      ·have h1:(bodyR t k x.1 x.2).1≠0:=by rw [hr];exact h0
       exact .inr ⟨h0,by rw [HRk.out,tailR_bad hx h1,hr]⟩
     have fq:=HBC.out.frozen
     have g1:(k:Int)<(nF:Int):=by omega
     clear hr hx
     clear b0 b1 b2 f0 f1 f2
     go_wp2_with fail
     refine HBd.out.mono ?_
     rintro e w5 ⟨rfl,hX5⟩
     have HBC5:=Lib.hid (HBC.out.ext hX5)
     have HX5:=Lib.hid (HX.out.trans hX5)
     have q0:w5.cell? ⟨C,0,none⟩=some (.int .i64 0):=(HBC5.out.cell 0).trans rfl
     have q1:w5.cell? ⟨C,1,none⟩=some (.int .i64 (-1)):=(HBC5.out.cell 1).trans rfl
     have q2:w5.cell? ⟨C,2,none⟩=some (.int .i64 (-1)):=(HBC5.out.cell 2).trans rfl
     have e0:=HBC5.out.frozen 0
     have e1:=HBC5.out.frozen 1
     have e2:=HBC5.out.frozen 2
     have HB6:Hid (Blk (((w5.setCell ⟨C,0,none⟩ (.int .i64 a')).setCell ⟨C,1,none⟩ (.int .i64 b')).setCell ⟨C,2,none⟩ (.int .i64 c')) C 40 #[.int .i64 a',.int .i64 b',.int .i64 c']) :=
      (((HBC5.out.set 0 (.int .i64 a')).set 1 (.int .i64 b')).set 2 (.int .i64 c'))
     have HX6:Hid (Ext w1 (((w5.setCell ⟨C,0,none⟩ (.int .i64 a')).setCell ⟨C,1,none⟩ (.int .i64 b')).setCell ⟨C,2,none⟩ (.int .i64 c'))):=ext_set3 HX5.out HC1.out _ _ _
     clear hX5 t0 t1
     go_wp2
     go_roundw
     case rel=>exact ⟨k+1,a',b',c',by omega,by go_num,HB6.out,HX6.out,HI2.out⟩
     case measure=>simp [intOf];omega
    ·have HRe:Hid (R=recR t m 0):=by
      show _=_
      rw [HRk.out,tailR_end (by rw [HlB.out];omega),← Hm.out]
     have HFn2:=Lib.hid (HFn.out _ HX.out)
     have g1:¬ ((k:Int)<(nF:Int)):=by omega
     clear HRk b0 b1 b2 f0 f1 f2
     go_wp2_with fail
     refine HFn2.out.mono ?_
     rintro e w5 ⟨rfl,hX5⟩
     have t0:=hX5.cell t0
     have t1:=hX5.cell t1
     have HX5:=Lib.hid (HX.out.trans hX5)
     have HRc5:=Lib.hid (HRc.out m w5 HX5.out ⟨hm0,hmn⟩)
     have HBC5:=Lib.hid (HBC.out.ext hX5)
     have t0':(w5.alloc (.cells #[.int .i64 m] 2)).cell? ⟨w.heap.size,0,none⟩=some (.slice aG nG cG):=((Ext.refl w5).alloc _).cell t0
     have t1':(w5.alloc (.cells #[.int .i64 m] 2)).cell? ⟨w.heap.size,1,none⟩=some (.slice aF nF cF):=((Ext.refl w5).alloc _).cell t1
     clear hX5 q0 q1 q2
     go_wp2_with fail
     refine HRc5.out.mono ?_
     rintro e w6 ⟨v,out,rfl,ho,hout,hlen,hX6⟩
     have HX6:=Lib.hid ((HX5.out.alloc (.cells #[.int .i64 m] 2)).trans hX6)
     have HBC6:=Lib.hid ((HBC5.out.ext ((Ext.refl w5).alloc (.cells #[.int .i64 m] 2))).ext hX6)
     obtain ⟨av,cv,rfl⟩:=rw_form0 ho
     have hlen2:out.length≤50:=by have:=HlF.out;omega
     obtain ⟨v',w7,r1,r2,r3⟩:=HApp.out (w5.alloc (.cells #[.int .i64 m] 2)) w6 _ out.length out m hX6 ho (by omega)
     have Hout:=Lib.hid hout
     have HR1:=Lib.hid r1
     have HO:=Lib.hid r2
     have HX7:=Lib.hid ((HX5.out.alloc (.cells #[.int .i64 m] 2)).trans r3)
     have HBC7:=Lib.hid ((HBC5.out.ext ((Ext.refl w5).alloc (.cells #[.int .i64 m] 2))).ext r3)
     obtain ⟨n,hn⟩:∃ n,n=out.length:=⟨_,rfl⟩
     rw [← hn] at HR1 HO
     obtain ⟨bs,hbs⟩:∃ bs,bs=(w5.alloc (.cells #[.int .i64 m] 2)).heap.size:=⟨_,rfl⟩
     rw [← hbs] at HO
     obtain ⟨a7,c7,rfl⟩:=rw_form0 HO.out
     have Hn:=Lib.hid hn
     clear ho hout hlen hX6 r1 r2 r3 t0 t1 t0' t1' HRc5 HX6 HBC6 hbs hlen2
     try rw [← hn]
     clear hn
     go_wp2_with (at_builtin;refine Lib.wpList_append_run _ rfl _ _ _ _ rfl _ _ rfl rfl _ _ HR1.out ?_)
     clear HX hlt g1 hk
     go_loopw [7] (fun i wr=>∃ k:Nat,k≤nF∧i=.int .i64 k∧Hid (Ext w7 wr)∧Hid (R=recR t m k)) (fun i _=>nF - (intOf i).toNat)
     case atStart=>exact ⟨0,Nat.zero_le _,rfl,Ext.refl _,HRe.out⟩
     case round =>
      clear HRe
      obtain ⟨k,hk,rfl,HX,HRk⟩:=hrel
      have HXw:=Lib.hid (HX7.out.trans HX.out)
      have t0:wr.cell? ⟨w.heap.size,0,none⟩=some (.slice aG nG cG):=HXw.out.cell ((HBT.out.cell 0).trans rfl)
      have t1:wr.cell? ⟨w.heap.size,1,none⟩=some (.slice aF nF cF):=HXw.out.cell ((HBT.out.cell 1).trans rfl)
      have b0:wr.cell? ⟨w.heap.size+1,0,none⟩=some (.int .i64 0):=HXw.out.cell ((HBR.out.cell 0).trans rfl)
      have b1:wr.cell? ⟨w.heap.size+1,1,none⟩=some (.int .i64 0):=HXw.out.cell ((HBR.out.cell 1).trans rfl)
      have b2:wr.cell? ⟨w.heap.size+1,2,none⟩=some (.int .i64 0):=HXw.out.cell ((HBR.out.cell 2).trans rfl)
      have f0:=(HBR.out.ext HXw.out).frozen 0
      have f1:=(HBR.out.ext HXw.out).frozen 1
      have f2:=(HBR.out.ext HXw.out).frozen 2
      by_cases hlt:k<nF
      ·have hkl:k<t.funcs.length:=by have:=HlF.out;omega
       have HHas:=Lib.hid (s_l3Has (out ++ [m]) (k:Int) _ _ wr (by
        have h:=rw_ext HO.out HX.out
        rw [Hn.out] at h
        rw [RowI,List.length_append,List.length_singleton]
        exact h))
       have g1:(k:Int)<(nF:Int):=by omega
       by_cases hin:(k:Int)∈out ++ [m]
       ·rw [decide_eq_true hin,← Hn.out] at HHas
        have HRc8:=Lib.hid (HRc.out (k:Int) wr HXw.out (by omega))
        have hin2:Rch t [m] (k:Int)∨(k:Int)=m:=by
         rcases List.mem_append.1 hin with h | h
         ·exact .inl ((Hout.out _).1 h)
         ·exact .inr (List.mem_singleton.1 h)
        have Hin:=Lib.hid hin2
        have t0':(wr.alloc (.cells #[.int .i64 (k:Int)] 2)).cell? ⟨w.heap.size,0,none⟩=some (.slice aG nG cG):=((Ext.refl wr).alloc _).cell t0
        have t1':(wr.alloc (.cells #[.int .i64 (k:Int)] 2)).cell? ⟨w.heap.size,1,none⟩=some (.slice aF nF cF):=((Ext.refl wr).alloc _).cell t1
        clear hin hin2
        go_wp2_with fail
        refine HHas.out.mono ?_
        rintro e w8 ⟨rfl,rfl⟩
        go_wp2_with fail
        refine HRc8.out.mono ?_
        rintro e w9 ⟨v9,out9,rfl,ho9,hout9,_,hX9⟩
        have HHas9:=Lib.hid (s_l3Has out9 (k:Int) _ _ w9 ho9)
        have HX9:=Lib.hid (((Ext.refl wr).alloc (.cells #[.int .i64 (k:Int)] 2)).trans hX9)
        have b0:=HX9.out.cell b0
        have b1:=HX9.out.cell b1
        have b2:=HX9.out.cell b2
        have f0:=(HBR.out.ext (HXw.out.trans HX9.out)).frozen 0
        have f1:=(HBR.out.ext (HXw.out.trans HX9.out)).frozen 1
        have f2:=(HBR.out.ext (HXw.out.trans HX9.out)).frozen 2
        by_cases h9:(k:Int)∈out9
        ·rw [decide_eq_true h9] at HHas9
         have HRr:Hid (R=(7,(k:Int),-1)):=by
          show _=_
          rw [HRk.out,recR_yes hkl ⟨Hin.out,(hout9 _).1 h9⟩]
         clear h9 hout9 ho9 hX9
         go_wp2_with fail
         refine HHas9.out.mono ?_
         rintro e w8 ⟨rfl,rfl⟩
         go_wp2
         refine bodyPost_ret (v:=.agg #[.int .i64 7,.int .i64 (k:Int),.int .i64 (-1)]) (by simp [results,Tryz.results18,go_sem,b0,b1,b2]) rfl ?_
         exact ⟨by rw [HRr.out];rfl,ext_set3 ((HX0.out.trans HXw.out).trans HX9.out) (Nat.le_succ _) _ _ _⟩
        ·rw [decide_eq_false h9] at HHas9
         have HRr:Hid (R=recR t m (k+1)):=by
          show _=_
          rw [HRk.out,recR_no hkl (fun h=>h9 ((hout9 _).2 h.2))]
         have HX10:=Lib.hid (HX.out.trans HX9.out)
         clear h9 hout9 ho9 hX9 t0 t1 t0' t1' b0 b1 b2 f0 f1 f2
         go_wp2_with fail
         refine HHas9.out.mono ?_
         rintro e w8 ⟨rfl,rfl⟩
         go_wp2
         go_roundw
         case rel=>exact ⟨k+1,by omega,by go_num,HX10.out,HRr.out⟩
         case measure=>simp [intOf];omega
       ·rw [decide_eq_false hin,← Hn.out] at HHas
        have HRr:Hid (R=recR t m (k+1)):=by
         show _=_
         rw [HRk.out,recR_no hkl (fun h=>hin (by
          rcases h.1 with h | h
          ·exact List.mem_append_left _ ((Hout.out _).2 h)
          ·rw [h];simp))]
        clear hin t0 b0 b1 b2 f0 f1 f2
        go_wp2_with fail
        refine HHas.out.mono ?_
        rintro e w8 ⟨rfl,rfl⟩
        go_wp2
        go_roundw
        case rel=>exact ⟨k+1,by omega,by go_num,HX.out,HRr.out⟩
        case measure=>simp [intOf];omega
      ·have HRr:Hid (R=(0,-1,-1)):=by
        show _=_
        rw [HRk.out,recR_end (by rw [HlF.out];omega)]
       have q0:wr.cell? ⟨C,0,none⟩=some (.int .i64 0):=((HBC7.out.ext HX.out).cell 0).trans rfl
       have q1:wr.cell? ⟨C,1,none⟩=some (.int .i64 (-1)):=((HBC7.out.ext HX.out).cell 1).trans rfl
       have q2:wr.cell? ⟨C,2,none⟩=some (.int .i64 (-1)):=((HBC7.out.ext HX.out).cell 2).trans rfl
       have g1:¬ ((k:Int)<(nF:Int)):=by omega
       clear t0
       go_wp2
       refine bodyPost_ret (v:=.agg #[.int .i64 0,.int .i64 (-1),.int .i64 (-1)]) (by simp [results,Tryz.results18,go_sem,b0,b1,b2]) rfl ?_
       exact ⟨by rw [HRr.out];rfl,ext_set3 (HX0.out.trans HXw.out) (Nat.le_succ _) _ _ _⟩
   ·have HRr:Hid (R=(a,b,c)):=by
     rcases HI.out with ⟨h,_⟩ | ⟨_,h⟩
     ·exact absurd h ha
     ·exact h
    have hq:(a == 0)=false:=by simpa using ha
    clear HI
    by_cases hlt:(k:Int)<(nF:Int)
    ·go_wp2
     refine bodyPost_ret (v:=.agg #[.int .i64 a,.int .i64 b,.int .i64 c]) (by simp [results,Tryz.results18,go_sem,b0,b1,b2]) rfl ?_
     exact ⟨by rw [HRr.out];rfl,ext_set3 (HX0.out.trans HX.out) (Nat.le_succ _) _ _ _⟩
    ·go_wp2
     refine bodyPost_ret (v:=.agg #[.int .i64 a,.int .i64 b,.int .i64 c]) (by simp [results,Tryz.results18,go_sem,b0,b1,b2]) rfl ?_
     exact ⟨by rw [HRr.out];rfl,ext_set3 (HX0.out.trans HX.out) (Nat.le_succ _) _ _ _⟩
end Go.Proofs.YtcfggjmdcaoecaaGreatDoor
