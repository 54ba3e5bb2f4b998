/- A part of the proofs of FnBound and FnCheck: the lemmas and walks ImplCheck. -/
import Derived.Carry
import Derived.Test.YtcfggjmdcaoecaaGreatDoorB20
import Derived.Test.YtcfggjmdcaoecaaGreatDoorB03
import Derived.Test.YtcfggjmdcaoecaaGreatDoorB06
import Derived.Test.YtcfggjmdcaoecaaGreatDoorB15
import Derived.Test.YtcfggjmdcaoecaaGreatDoorB16
import Derived.Test.YtcfggjmdcaoecaaGreatDoorB02
set_option linter.unusedVariables false
set_option linter.unusedSimpArgs false
namespace Go.Proofs.YtcfggjmdcaoecaaGreatDoor
open Go Go.RowKit Md Go.Proofs.YtcfggjmdcaoecaaGreatDoorW.PrintLast
theorem sl_one {α:Type} (enc:α→Value) (w:World) (E:TypeId) (x:α):Sl AnyB (w.alloc (.cells #[enc x] E)) 1 (fun _ cs (y:α)=>cs=[enc y]) (.slice (some ⟨w.heap.size,0,none⟩) 1 1) [x] :=
 ⟨some ⟨w.heap.size,0,none⟩,1,rfl,Nat.le_refl _,by simp [maxLen],fun _=>⟨w.heap.size,0,rfl,trivial,fun i hi=>by
  have h0:i=0:=by simp at hi;omega
  subst h0
  exact ⟨[enc x],rfl,rfl,fun p u hu=>by
   have hp0:p=0:=by
    have:=(List.getElem?_eq_some_iff.1 hu).1
    simp at this
    omega
   subst hp0
   simp at hu
   subst hu
   exact ((Blk.alloc w E #[enc x]).cell 0).trans rfl⟩⟩⟩
theorem exec_makeMap {P:Program} {o:Oper} {t:TypeId} {a:Act} {w:World} (ho:o.op=.makeMap t none):(execOp a.eval o).run P w=.ok (.value (.map (some w.heap.size))) (w.alloc (.map #[] 0)):=by
 have h:(Instr.makeMap t none).run P w=.ok (.map (some w.heap.size)) (w.alloc (.map #[] 0)):=rfl
 unfold execOp
 simp [ho,h,Result.andThen]
theorem ckBlk_cons (t:PTree) (sc tk:List ByteArray) (s:PStmt) (p:Nat) (x:Ex) (y:Option Ex) (T U R:List St):ckBlk t sc tk (.mk s p x y T U :: R)=match ckSt t sc tk (.mk s p x y T U) with
  | .bad e a=>.bad e a
  | .ok tk1=>ckBlk t (sc1 s sc) tk1 R:=by
 rw [ckBlk]
 rfl
def AtBlk (t:PTree) (base:Nat) (ub:Value) (fn:Int) (C T Bc bm n:Nat) (ms:List Nat) (mm:List MP) (v:Value) (w wr:World) (R:Ck) (rest:List St):Prop :=
 ∃ (v2:Value) (m2 tk2:MP) (sc2 tkl2:List ByteArray) (l2:List PStmt) (p2:Nat),CkS wr base ub fn C T v2 (ms ++ [bm]) (mm ++ [m2]) tk2∧Tch w wr C T ms v v2∧Blk wr Bc 208 #[.pointer (some ⟨C,0,none⟩)]∧Names t (mm ++ [m2]) sc2∧TkRel t tk2 tkl2 ∧
  R=ckBlk t sc2 tkl2 rest∧blocks l2 p2=some rest∧l2.length≤n∧∀ s∈l2,s.e.length≤1048576∧s.f.length≤1048576
theorem last_of {α:Type} {l:List α} {n:Nat} (h:l.length=n+1):∃ i x,l=i ++ [x]:=by
 have hne:l≠[]:=fun e=>by rw [e] at h;simp at h
 exact ⟨l.dropLast,l.getLast hne,(List.dropLast_concat_getLast hne).symm⟩
set_option maxRecDepth 1000000 in
set_option maxHeartbeats 0 in
theorem i_block (K:Foot) (base:Nat) (t:PTree) (fs:List Fn) (ub:Value) (fn:Int) (C T:Nat) (hK:∀ b,K b→b<base) (n:Nat):∀ (l:List PStmt) (p:Nat) (sts:List St),l.length≤n→blocks l p=some sts→(∀ s∈l,s.e.length≤1048576∧s.f.length≤1048576)→BlockOk K base t fs ub fn C T n sts:=by
 induction n using Nat.strongRecOn with
 | ind n ih =>
 intro l p sts hl hbk hsz w vb ts v ms mm tk sc tkl hts hall hU h hpos hlen hN hT hbase
 obtain ⟨R,hR⟩:∃ R,R=ckBlk t sc tkl sts:=⟨_,rfl⟩
 rw [← hR]
 obtain ⟨a,c,rfl⟩:=rw_form0 h.sc.row
 obtain ⟨N,hNm⟩:∃ N,N=ms.length:=⟨_,rfl⟩
 have hrow:=h.sc.row
 rw [← hNm] at h hrow ⊢
 obtain ⟨i0,hi0,hz0,hz1,hz2⟩:=info_parts info_map
 obtain ⟨w1,hw1⟩:∃ w1,w1=w.alloc (.cells #[.pointer (some ⟨C,0,none⟩)] 208):=⟨_,rfl⟩
 have X1:Ext w w1:=by rw [hw1];exact (Ext.refl w).alloc _
 have BB:Blk w1 w.heap.size 208 #[.pointer (some ⟨C,0,none⟩)]:=by rw [hw1];exact Blk.alloc _ _ _
 obtain ⟨w2,hw2⟩:∃ w2,w2=(w1.drew.alloc (.map #[] 0)).alloc (.cells #[.map (some w1.heap.size)] 142):=⟨_,rfl⟩
 have X13:Ext w1 (w1.drew.alloc (.map #[] 0)):=((Ext.refl w1).drew).alloc _
 have X12:Ext w1 w2:=by rw [hw2];exact X13.alloc _
 have X02:=X1.trans X12
 have hbm:w.heap.size≤w1.heap.size:=X1.size
 have hmap:MapAt strKey w2 w1.heap.size ([]:MP):=by
  rw [hw2]
  exact (MapAt.new strKey w1.drew).ext ((Ext.refl _).alloc _)
 have hs2:(w1.drew.alloc (.map #[] 0)).heap.size=w1.heap.size+1:=by simp
 have hsl:Sl AnyB w2 1 (fun _ cs (y:Nat)=>cs=[Value.map (some y)]) (.slice (some ⟨w1.heap.size+1,0,none⟩) 1 1) [w1.heap.size]:=by
  rw [hw2,← hs2]
  exact sl_one (fun y:Nat=>Value.map (some y)) _ _ _
 obtain ⟨v3,w3,r1,r2,r3,r4⟩:=run_app (P:=Tryz.prog) (fun y:Nat=>Value.map (some y)) _ (fun _ _ _ h=>h) (fun _=>rfl) AnyB w2 base Tryz.underlying210 hi0 hz0 hz1 hz2 rfl (.slice a N c) (ms.map fun b=>Value.map (some b)) (by simpa [← hNm] using rw_ext hrow X02) (.slice (some ⟨w1.heap.size+1,0,none⟩) 1 1) [w1.heap.size] hsl (by simp;omega) (by simp;omega) (Nat.le_trans hbase X02.size) 210
 have r2':w3.ownsRow base 142 1 v3 (ms.length+1) ((ms.map fun b=>Value.map (some b)) ++ [.map (some w1.heap.size)]):=by simpa using r2
 obtain ⟨hS3,hB3⟩:=h.push (w1:=w2) (w2:=w3) (b:=w1.heap.size) X02 hbm hmap hbase r3 r2'
 have hT3:Tch w (w3.setCell ⟨C,2,none⟩ v3) C T ms (.slice a N c) v3:=Tch.grown X02 r3 r4 2
 have hbk3:Blk w3 w.heap.size 208 #[.pointer (some ⟨C,0,none⟩)]:=blk_grownBy (BB.ext X12) r3 (own_ne_blk (rw_ext hrow X02) (BB.ext X12) (by decide))
 have hC3:Blk w3 C 212 #[ub,.int .i64 fn,.slice a N c,.map (some T)]:=blk_grownBy (h.blk.ext X02) r3 (own_ne_blk (rw_ext hrow X02) (h.blk.ext X02) (by decide))
 have hCw:C<w.heap.size:=h.blk.lt
 have hbk4:Blk (w3.setCell ⟨C,2,none⟩ v3) w.heap.size 208 #[.pointer (some ⟨C,0,none⟩)]:=hbk3.setOther (by show _≠C;omega) _
 obtain ⟨a3,c3,e3⟩:=rw_form0 r2'
 have b0:w1.cell? ⟨w.heap.size,0,none⟩=some (.pointer (some ⟨C,0,none⟩)):=(BB.cell 0).trans rfl
 have c0:w1.cell? ⟨C,2,none⟩=some (.slice a N c):=(h.blk.ext X1).cell 2
 have HR1:=Lib.hid r1
 have HS3:=Lib.hid hS3
 have HT3:=Lib.hid hT3
 have HBk4:=Lib.hid hbk4
 have HBk3:=Lib.hid hbk3
 have HC3:=Lib.hid hC3
 have HI0:Hid (AtBlk t base ub fn C T w.heap.size w1.heap.size n ms mm (.slice a N c) w (w3.setCell ⟨C,2,none⟩ v3) R sts):=⟨v3,[],tk,sc,tkl,l,p,hS3,hT3,hbk4,hN.push,hT,hR,hbk,hl,hsz⟩
 obtain ⟨aT,nT,cT,rfl⟩:=hts.shape
 obtain ⟨hln,hTc,hcTm⟩:=SlV.len hts
 have hlA:=hall.1
 have hlsts:sts.length=nT:=by omega
 have HTs:Hid (∀ w',Below base w w'→SlV K w' (.slice aT nT cT) ts∧All2 (StAt K w') ts sts∧UnitAt K w' ub t fs):=fun w' k=>⟨hts.keep (keep_below hK k) (fun _ h=>h),hall.stKeep (keep_below hK k) (fun _ h=>h),hU.keep (keep_below hK k) (fun _ h=>h)⟩
 have Hls:=Lib.hid hlsts
 have Hlt:=Lib.hid hln
 have HS:=Lib.hid h
 have Hih:=Lib.hid ih
 have Hb:=Lib.hid hbase
 have Hlen:=Lib.hid hlen
 have Hpos:=Lib.hid hpos
 have HNm:=Lib.hid hNm
 have HX13:=Lib.hid X13
 have HX12:=Lib.hid X12
 have HW1:=Lib.hid hw1
 have HW2:=Lib.hid hw2
 obtain ⟨bm,hbmd⟩:∃ bm,bm=w1.heap.size:=⟨_,rfl⟩
 have hmf:∀ (fn:Go.Fn) (first cap:Array Value) (w:World),(Instr.makeFunc fn first cap).run Tryz.prog w=.ok (.func fn first cap) w:=fun _ _ _ _=>rfl
 clear hts hall hU h hpos hlen hN hT hbase hR hrow hl hbk hsz hNm X1 BB X13 X12 X02 hbm hmap hs2 hsl r1 r2 r3 r4 r2' hS3 hB3 hT3 hbk3 hC3 hCw hbk4 hln hlA hlsts ih hw1 hw2
 go_enter_defers Tryz.func130,Tryz.ntmps130
 go_wp2_with fail
 rw [← HW1.out]
 refine wp_region_noPanic ?_
 refine start_ (n:=11) (S:=fun w'=>w'.cell? ⟨w.heap.size,0,none⟩=some (.pointer (some ⟨C,0,none⟩))∧w'.cell? ⟨C,2,none⟩=some (.slice a N c)) (ds:=[10]) #[false,false,false,false,false,false,false,false,false,false,false] (by kernel_rfl) rfl rfl ?hS (fun hHeld=>?_)
 case hS=>exact ⟨by simpa using b0,by simpa using c0⟩
 refine ta_ 0 (some 8) #[true,false,false,false,false,false,false,false,false,false,false] rfl rfl (by kernel_rfl) (fun _ _ _ h=>h) hHeld (by rfl) (by rintro w' ⟨s0,s1⟩;go_simp;with_reducible rfl) (by simp only [pt_];rfl) ?_
 refine ta_ 1 (some 9) #[true,true,false,false,false,false,false,false,false,false,false] rfl rfl (by kernel_rfl) (fun _ _ _ h=>h) hHeld (by rfl) (by rintro w' ⟨s0,s1⟩;go_simp;with_reducible rfl) (by simp only [pt_];rfl) ?_
 refine pu_ 2 (some 10) #[true,true,true,false,false,false,false,false,false,false,false] rfl rfl (by kernel_rfl) (fun _ _ _ h=>h) (by rfl) (by intro w';go_simp;with_reducible rfl) (by simp only [pt_];rfl) ?_
 refine pu_ 3 (some 11) #[true,true,true,true,false,false,false,false,false,false,false] rfl rfl (by kernel_rfl) (fun _ _ _ h=>h) (by rfl) (by intro w';go_simp;with_reducible rfl) (by simp only [pt_];rfl) ?_
 refine ta_ 4 (some 12) #[true,true,true,true,true,false,false,false,false,false,false] rfl rfl (by kernel_rfl) (fun _ _ _ h=>h) hHeld (by rfl) (by rintro w' ⟨s0,s1⟩;go_simp;with_reducible rfl) (by simp only [pt_];rfl) ?_
 refine one_ (i:=5) (N:=some 13) #[true,true,true,true,true,true,false,false,false,false,false] rfl rfl (by kernel_rfl) (by decide) (fun K hK=>?_)
 refine value_ (w1:=w1.drew.alloc (.map #[] 0)) (v:=.map (some w1.heap.size)) (by rfl) rfl (exec_makeMap rfl) ?_
 refine hK.out _ _ ⟨HX13.out.cell b0,HX13.out.cell c0⟩ (fun hHeld=>?_)
 clear hK K
 refine norm_ (by show Act.put _ (some 13) _=_;simp only [pt_];rfl) ?_
 refine one_ (i:=6) (N:=some 14) #[true,true,true,true,true,true,true,false,false,false,false] rfl rfl (by kernel_rfl) (by decide) (fun K hK=>?_)
 refine value_ (by rfl) rfl (by go_simp;constructor<;>rfl) ?_
 refine hK.out _ _ ⟨(HX13.out.alloc _).cell b0,(HX13.out.alloc _).cell c0⟩ (fun hHeld=>?_)
 clear hK K
 refine norm_ (by show Act.put _ (some 14) _=_;simp only [pt_];rfl) ?_
 refine one_ (i:=7) (N:=some 15) #[true,true,true,true,true,true,true,true,false,false,false] rfl rfl (by kernel_rfl) (by decide) (fun K hK=>?_)
 refine value_ (w1:=w3) (v:=v3) (by rfl) rfl (exec_append rfl (by rw [HW2.out] at HR1;exact HR1.out)) ?_
 refine hK.out _ _ ⟨(HBk3.out.cell 0).trans rfl,(HC3.out.cell 2).trans rfl⟩ (fun hHeld=>?_)
 clear hK K
 refine norm_ (by show Act.put _ (some 15) _=_;simp only [pt_];rfl) ?_
 refine pu_ 8 (some 16) #[true,true,true,true,true,true,true,true,true,false,false] rfl rfl (by kernel_rfl) (fun _ _ _ h=>h) (by rfl) (by intro w';go_simp;with_reducible rfl) (by simp only [pt_];rfl) ?_
 refine pu_ 9 (some 17) #[true,true,true,true,true,true,true,true,true,true,false] rfl rfl (by kernel_rfl) (fun _ _ _ h=>h) (by rfl) (by intro w';go_simp;with_reducible rfl) (by simp only [pt_];rfl) ?_
 subst e3
 refine last_ (i:=10) (N:=none) #[true,true,true,true,true,true,true,true,true,true,true] rfl rfl (by kernel_rfl) (by decide) (fun K hK=>?_)
 have q2:w3.cell? ⟨C,2,none⟩=some (.slice a N c):=(HC3.out.cell 2).trans rfl
 have q3:w3.frozen? ⟨C,2,none⟩=false:=HC3.out.frozen 2
 go_simp
 refine hK.out _ _ ?_
 clear hK K
 refine done_ (by kernel_rfl) ?_
 refine NoPanic.normal ?_
 obtain ⟨w5,hw5⟩:∃ w5,w5=w3.setCell ⟨C,2,none⟩ (.slice a3 (ms.length+1) c3):=⟨_,rfl⟩
 rw [← hw5]
 have HI5:Hid (AtBlk t base ub fn C T w.heap.size w1.heap.size n ms mm (.slice a N c) w w5 R sts):=by rw [hw5];exact HI0.out
 obtain ⟨Bc,hBc⟩:∃ Bc,Bc=w.heap.size:=⟨_,rfl⟩
 rw [← hbmd,← hBc] at HI5
 rw [← hBc]
 have HBc:=Lib.hid hBc
 have Hbm:Hid (w.heap.size≤bm):=by rw [hbmd,HW1.out];show _≤_;simp
 clear hw5 HI0 HS3 HT3 HBk4 HBk3 HC3 HR1 b0 c0 hHeld q2 q3 HX13 HX12 HW2 hBc hbmd
 go_wp2_with fail
 go_loopw [21] (fun i wr=>∃ k:Nat,k≤nT∧i=.int .i64 k∧Hid (AtBlk t base ub fn C T Bc bm n ms mm (.slice a N c) w wr R (sts.drop k))) (fun i _=>nT - (intOf i).toNat)
 case atStart=>exact ⟨0,Nat.zero_le _,rfl,HI5.out⟩
 case round =>
  clear HI5
  obtain ⟨k,hk,rfl,HI⟩:=hrel
  obtain ⟨v2,m2,tk2,sc2,tkl2,l2,p2,hS2,hT2,hB2,hN2,hK2,hR2,hb2,hl2,hz2⟩:=HI.out
  have HS2:=Lib.hid hS2
  have HT2:=Lib.hid hT2
  have HB2:=Lib.hid hB2
  have HBw:Hid (Below base w wr):=hT2.below HS.out
  clear HI
  by_cases hlt:k<nT
  ·have hks:k<sts.length:=by have:=Hls.out;omega
   obtain ⟨htsr,hallr,hUr⟩:=HTs.out _ HBw.out
   obtain ⟨bT,oT,rfl,_,hcT⟩:=SlV.at_ htsr (by omega)
   obtain ⟨pv,hpv,hSt⟩:=hallr.get (List.getElem?_eq_getElem hks)
   have cpv:=hcT k pv hpv
   have hdrop:sts.drop k=sts[k] :: sts.drop (k+1):=List.drop_eq_getElem_cons hks
   rw [hdrop] at hb2 hR2
   obtain ⟨s,rest,rfl⟩:∃ s rest,l2=s :: rest:=by
    cases l2 with
    | nil=>rw [blocks] at hb2;cases hb2
    | cons s rest=>exact ⟨s,rest,rfl⟩
   obtain ⟨ex,TT,UU,RR,hg1,_,_,_,hle,k1,k2,k3,ke⟩:=blocks_inv hb2
   simp only [List.length_cons] at hl2
   injection ke with ke1 ke2
   rw [ke1] at hSt hR2
   rw [ckBlk_cons] at hR2
   have hz3:=hz2 s (List.mem_cons_self ..)
   have hzr:∀ z∈rest,z.e.length≤1048576∧z.f.length≤1048576:=fun z hz=>hz2 z (List.mem_cons_of_mem _ hz)
   have IT:=Hih.out (n - 1) (by omega) _ _ TT (by simp;omega) k1 (fun z hz=>hzr z (List.mem_of_mem_take hz))
   have IU:=Hih.out (n - 1) (by omega) _ _ UU (by simp;omega) k2 (fun z hz=>hzr z (List.mem_of_mem_drop (List.mem_of_mem_take hz)))
   have HSm:=Lib.hid (i_stmt K base t fs ub fn C T (n - 1) hK s p2 ex (grow s.f) TT UU IT IU wr pv v2 ms bm mm m2 tk2 sc2 tkl2 hSt hUr hS2 (by have:=Hlen.out;omega) hN2 hK2 hz3 (Nat.le_trans Hb.out HBw.out.size))
   obtain ⟨sb,_,_,_,_,_,_,_,_,rfl,_⟩:=hSt.op
   have HR2:=Lib.hid hR2
   have Hk3:Hid (blocks (rest.drop (s.thn.toNat+s.els.toNat)) (p2+1+s.thn.toNat+s.els.toNat)=some (sts.drop (k+1))):=by rw [ke2];exact k3
   have Hl3:Hid ((rest.drop (s.thn.toNat+s.els.toNat)).length≤n):=by show _≤_;simp;omega
   have Hz4:Hid (∀ z∈rest.drop (s.thn.toNat+s.els.toNat),z.e.length≤1048576∧z.f.length≤1048576):=fun z hz=>hzr z (List.mem_of_mem_drop hz)
   have bc:=(hB2.cell 0).trans (show _=some (Value.pointer (some ⟨C,0,none⟩)) from rfl)
   have z0:(0:Int)≤(k:Int):=by omega
   have z1:(k:Int)<(nT:Int):=by omega
   clear hS2 hT2 hB2 hN2 hK2 hR2 hb2 hl2 hz2 htsr hallr hUr hcT hpv hSt hdrop hg1 hle k1 k2 k3 ke1 ke2 hz3 hzr IT IU
   go_wp2_with fail
   refine HSm.out.mono ?_
   rintro e w6 ⟨v6,mm6,tk6,hS6,hT6,hres⟩
   have HS6:=Lib.hid hS6
   have HB6:=Lib.hid (hT6.blk HS2.out HB2.out (by decide) (by decide))
   have HT6:Hid (Tch w w6 C T ms (.slice a N c) v6):=HT2.out.trans hT6 (fun b hb=>by
    rcases List.mem_append.1 hb with h | h
    ·exact .inl h
    ·rw [List.mem_singleton.1 h];exact .inr Hbm.out)
   clear hS6 hT6 HSm bc cpv
   rcases hres with ⟨er,ea,hr,rfl⟩ | ⟨tkl6,hr,rfl,hk6,m6,rfl,hn6⟩
   ·have HRr:Hid (R=.bad er ea):=by
     show _=_
     rw [HR2.out,hr]
    obtain ⟨mi,mx,rfl⟩:∃ i x,mm6=i ++ [x]:=last_of (n:=ms.length) (by have:=HS6.out.sc.len;simpa using this.symm)
    clear hr
    go_wp2
    refine leaves_cons (f:=157) (args:=#[.pointer (some ⟨Bc,0,none⟩)]) (by simp) (by simp [go_sem]) ?_
    refine (i_pop base ub fn C T Bc v6 ms bm mi mx tk6 _ _ HB6.out HS6.out Hpos.out (by have:=Hlen.out;omega)).mono ?_
    rintro e u' w9 ⟨rfl,rfl,v9,hS9,hT9⟩
    refine ⟨_,results_tmp rfl _ _ _,?_⟩
    exact ⟨v9,mi,tk6,hS9,HT6.out.trans hT9 (fun _ h=>.inl h),.inl ⟨er,ea,HRr.out,rfl⟩⟩
   ·have HI7:Hid (AtBlk t base ub fn C T Bc bm n ms mm (.slice a N c) w w6 R (sts.drop (k+1))) :=
     ⟨v6,m6,tk6,_,tkl6,_,_,HS6.out,HT6.out,HB6.out,hn6,hk6,by rw [HR2.out,hr],Hk3.out,Hl3.out,Hz4.out⟩
    clear hr hk6 hn6
    go_wp2
    go_roundw
    case rel=>exact ⟨k+1,by omega,by go_num,HI7.out⟩
    case measure=>simp [intOf];omega
  ·have HRr:Hid (R=.ok tkl2):=by
    show _=_
    rw [hR2,List.drop_eq_nil_of_le (by rw [Hls.out];omega),ck_nil]
   have HK2:=Lib.hid hK2
   clear hS2 hT2 hB2 hN2 hK2 hR2 hb2 hl2 hz2
   go_wp2
   refine leaves_cons (f:=157) (args:=#[.pointer (some ⟨Bc,0,none⟩)]) (by simp) (by simp [go_sem]) ?_
   refine (i_pop base ub fn C T Bc v2 ms bm mm m2 tk2 _ _ HB2.out HS2.out Hpos.out (by have:=Hlen.out;omega)).mono ?_
   rintro e u' w9 ⟨rfl,rfl,v9,hS9,hT9⟩
   refine ⟨_,results_tmp rfl _ _ _,?_⟩
   exact ⟨v9,mm,tk2,hS9,HT2.out.trans hT9 (fun _ h=>.inl h),.inr ⟨tkl2,HRr.out,rfl,HK2.out,rfl⟩⟩
open Go Go.RowKit Md Go.Proofs.YtcfggjmdcaoecaaGreatDoorW.PrintLast
theorem Turned.below {w w':World} {b base:Nat} (h:Turned w b w') (hb:base≤b):Below base w w' :=
 ⟨h.1,h.2.1,h.2.2.1,by rw [h.2.2.2.1];exact Nat.le_refl _,fun k hk=>h.2.2.2.2 k (by omega)⟩
def AllL (m:MP):Prop:=∀ p∈m,∃ b,p.2=varV b
theorem AllL.nil:AllL []:=fun p h=>by cases h
theorem AllL.upd {m:MP} (h:AllL m) (x:ByteArray) (b:Bool):AllL (updA m x (varV b)):=by
 induction m with
 | nil =>
   intro p hp
   rw [updA,List.mem_singleton] at hp
   subst hp
   exact ⟨b,rfl⟩
 | cons a r ih =>
   intro p hp
   unfold updA at hp
   split at hp
   ·rcases List.mem_cons.1 hp with rfl | hp
    ·exact ⟨b,rfl⟩
    ·exact h p (List.mem_cons_of_mem _ hp)
   ·rcases List.mem_cons.1 hp with rfl | hp
    ·exact h _ (List.mem_cons_self ..)
    ·exact ih (fun q hq=>h q (List.mem_cons_of_mem _ hq)) p hp
theorem assoc_mem {m:MP} {s:ByteArray} {v:Value} (h:assoc m s=some v):(s,v)∈m:=by
 induction m with
 | nil=>cases h
 | cons a r ih =>
   unfold assoc at h
   split at h
   ·rename_i he
    cases h
    rw [he]
    exact List.mem_cons_self ..
   ·exact List.mem_cons_of_mem _ (ih h)
theorem AllL.allV {m:MP} (h:AllL m):AllV m:=fun s v hs=>h _ (assoc_mem hs)
theorem assoc_some {m:MP} {p:ByteArray×Value} (h:p∈m):(assoc m p.1).isSome=true:=by
 induction m with
 | nil=>cases h
 | cons a r ih =>
   unfold assoc
   split
   ·rfl
   ·rename_i hne
    rcases List.mem_cons.1 h with rfl | h
    ·exact absurd rfl hne
    ·exact ih h
def ErrOf (r:Int×Int×Int) (e:Ending):Prop:=(r.1=0∧e=.returned .nilIface)∨(r.1≠0∧e=.returned (.iface 69 (.agg #[.int .i64 r.1,.int .i64 r.2.1,.int .i64 r.2.2])))
def CfOut (r:Int×Int×Int) (base G:Nat) (gm:MP) (w:World) (e:Ending) (w':World):Prop:=ErrOf r e∧Below base w w'∧(r.1=0→MapAt strKey w' G gm)
theorem ErrOf.ok:ErrOf (0,-1,-1) (.returned .nilIface):=.inl ⟨rfl,rfl⟩
theorem ErrOf.bad {a b c:Int} (h:a≠0):ErrOf (a,b,c) (.returned (.iface 69 (.agg #[.int .i64 a,.int .i64 b,.int .i64 c]))):=.inr ⟨h,rfl⟩
def AtCp (base G C T r:Nat) (gm:MP) (arr:Array Value) (w wr:World):Prop :=
 ∃ (tk:MP) (left:List MapEntry),Blk wr C 212 arr∧MapAt strKey wr T tk∧RgAt strKey wr G r gm left∧AllV tk∧(∀ s,(assoc tk s).isSome=true→(assoc gm s).isSome=true) ∧
  (∀ s v,assoc gm s=some v→(assoc tk s).isSome=true∨∃ en∈left,en.key=.string s)∧Below base w wr
def AtPar (t:PTree) (base G C T P:Nat) (gm:MP) (arr:Array Value) (ps:List ByteArray) (k:Nat) (w wr:World):Prop :=
 ∃ tk pm:MP,Blk wr C 212 arr∧MapAt strKey wr T tk∧MapAt strKey wr P pm∧MapAt strKey wr G gm∧TkRel t tk (ps.take k)∧PM pm (ps.take k)∧parBad t [] ps=parBad t (ps.take k) (ps.drop k)∧Below base w wr
set_option maxRecDepth 1000000 in
set_option maxHeartbeats 0 in
theorem i_checkFunc (K:Foot) (base:Nat) (t:PTree) (fs:List Fn) (ub:Value) (i:Nat) (fi:Int) (hfi:fi=i) (x:PFunc) (sts:List St) (G:Nat) (gm:MP) (w:World) (hK:∀ b,K b→b<base) (hb:base≤w.heap.size)
  (hU:UnitAt K w ub t fs) (hx:fs[i]? = some (x,sts)) (hbk:blocks x.body 0=some sts) (hp:x.params.length≤6) (hl:x.body.length≤500) (hsz:∀ s∈x.body,s.e.length≤1048576∧s.f.length≤1048576)
  (hG:MapAt strKey w G gm) (hgb:base≤G) (hgm:GM t gm) (hga:AllL gm) :
  Calls Tryz.prog 90 #[ub,.int .i64 fi,.map (some G)] w (CfOut (bodyR t i x sts) base G gm w):=by
 subst hfi
 obtain ⟨R,hR⟩:∃ R,R=bodyR t i x sts:=⟨_,rfl⟩
 rw [← hR]
 have HR:=Lib.hid hR
 have HU:Hid (∀ w',Below base w w'→UnitAt K w' ub t fs):=fun w' k=>hU.keep (keep_below hK k) (fun _ h=>h)
 obtain ⟨b,vG,vF,vs,ps,rfl,hbK,hc,_,_,sP,aP⟩:=hU
 obtain ⟨aS,nS,cS,rfl⟩:=sP.shape
 obtain ⟨fv,hfv,hF⟩:=aP.get hx
 have hiS:i<nS:=by have h1:=(SlV.len sP).1;have h2:=(List.getElem?_eq_some_iff.1 hfv).1;omega
 obtain ⟨bS,oS,rfl,hbS,hcS⟩:=SlV.at_ sP (by omega)
 have e1:=hcS i fv hfv
 obtain ⟨bf,vP,vB,vt,ts,rfl,hbf,hcf,sPar,_,_,sT,aT⟩:=hF
 obtain ⟨aP2,nP,cP,rfl,HlP,hlcP,hcmP,helP⟩:=sPar.op
 obtain ⟨aT2,nT2,cT2,rfl⟩:=sT.shape
 have e0:=hc 2 _ rfl
 have e2:=hcf 1 _ rfl
 have e3:=hcf 3 _ rfl
 have HCl:Hid (∀ w',Below base w w'→w'.cell? ⟨b,2,none⟩=some (.slice (some ⟨bS,oS,none⟩) nS cS)∧w'.cell? ⟨bS,oS+i,none⟩=some (.pointer (some ⟨bf,0,none⟩))∧w'.cell? ⟨bf,1,none⟩=some (.slice aP2 nP cP)∧w'.cell? ⟨bf,3,none⟩=some (.slice aT2 nT2 cT2)):=fun w' k =>
  ⟨(Below.cell k (hK _ hbK)).trans (by simpa using e0),(Below.cell k (hK _ hbS)).trans e1,(Below.cell k (hK _ hbf)).trans (by simpa using e2),(Below.cell k (hK _ hbf)).trans (by simpa using e3)⟩
 have HPl:Hid (∀ k,k<nP→∃ bP oP p,aP2=some ⟨bP,oP,none⟩∧x.params[k]? = some p∧∀ w',Below base w w'→w'.cell? ⟨bP,oP+k,none⟩=some (.string p)):=fun k hk=>by
  obtain ⟨bP,oP,e,hKP,hel⟩:=helP (by omega)
  obtain ⟨p,cs,hpk,_,hC,hcs⟩:=hel k hk
  obtain ⟨rfl,_⟩:=hC
  refine ⟨bP,oP,p,e,hpk,fun w' k2=>(Below.cell k2 (hK _ hKP)).trans ?_⟩
  have:=hcs.z rfl
  rwa [Nat.mul_one] at this
 have HTs:Hid (∀ w',Below base w w'→SlV K w' (.slice aT2 nT2 cT2) ts∧All2 (StAt K w') ts sts):=fun w' k=>⟨sT.keep (keep_below hK k) (fun _ h=>h),aT.stKeep (keep_below hK k) (fun _ h=>h)⟩
 have hnP:nP≤6:=by have h:x.params.length=nP:=HlP.out;omega
 obtain ⟨w1,hw1⟩:∃ w1,w1=(w.alloc (.map #[] 0)).alloc (.cells #[.pointer (some ⟨b,0,none⟩),.int .i64 (i:Int),.slice none 0 0,.map (some w.heap.size)] 212):=⟨_,rfl⟩
 have X1:Ext w w1:=by rw [hw1];exact ((Ext.refl w).alloc _).alloc _
 have hs0:(w.alloc (.map #[] 0)).heap.size=w.heap.size+1:=by simp
 have BC:Blk w1 (w.heap.size+1) 212 #[.pointer (some ⟨b,0,none⟩),.int .i64 (i:Int),.slice none 0 0,.map (some w.heap.size)]:=by rw [hw1,← hs0];exact Blk.alloc _ _ _
 have MT:MapAt strKey w1 w.heap.size ([]:MP):=by rw [hw1];exact (MapAt.new strKey w).ext ((Ext.refl _).alloc _)
 have hmm:=@run_makeMap Tryz.prog
 obtain ⟨w2,left,hrg,hRg,X12,hleft⟩:=RgAt.start (hG.ext X1) (P:=Tryz.prog) Tryz.underlying142
 have hs1:w1.heap.size=w.heap.size+2:=by rw [hw1];simp
 have HI0:Hid (AtCp base G (w.heap.size+1) w.heap.size w1.heap.size gm #[.pointer (some ⟨b,0,none⟩),.int .i64 (i:Int),.slice none 0 0,.map (some w.heap.size)] w w2) :=
  ⟨[],left,BC.ext X12,MT.ext X12,hRg,fun s v h=>(by cases h),fun s h=>(by cases h),fun s v h=>.inr (hleft s v h),(X1.trans X12).mono hb⟩
 have hGlt:=hG.lt
 obtain ⟨r,hr⟩:∃ r,r=w1.heap.size:=⟨_,rfl⟩
 rw [← hr] at HI0 hrg
 have Hr:Hid (w.heap.size+2=r):=by rw [hr,hs1];rfl
 have HW1:=Lib.hid hw1
 have Hgm:=Lib.hid hgm
 have Hga:=Lib.hid hga
 have HG0:=Lib.hid hG
 have Hgb:=Lib.hid hgb
 have Hb:=Lib.hid hb
 have Hx:=Lib.hid hx
 have Hbk:=Lib.hid hbk
 have HGlt:=Lib.hid hGlt
 clear hR hbK hc sP aP hfv hbS hcS e0 e1 e2 e3 hbf hcf sPar sT aT helP hw1 X1 hs0 BC MT hRg X12 hleft hs1 hGlt hr hgm hga hG hgb hb hx hbk
 rw [HW1.out] at hrg
 go_enter Tryz.func90,Tryz.ntmps90
 go_wp2
 go_loopw [8] (fun _ wr=>Hid (AtCp base G (w.heap.size+1) w.heap.size r gm #[.pointer (some ⟨b,0,none⟩),.int .i64 (i:Int),.slice none 0 0,.map (some w.heap.size)] w wr)) (fun _ wr=>rgLeft wr G r)
 case atStart=>exact HI0.out
 case round =>
  clear HI0 hrg HG0
  obtain ⟨tk,left,hBC,hMT,hRg,hAV,hA1,hA2,hBl⟩:=hrel.out
  have hLe:=hRg.left_eq
  rcases hRg.next (P:=Tryz.prog) with ⟨rfl,hnx⟩ | ⟨pr,hpm,wn,left',hnx,hRn,hTn,hlt,hls,hen⟩
  rotate_left
  ·obtain ⟨bb,hbb⟩:=Hga.out pr hpm
   have hsm:=assoc_some hpm
   obtain ⟨ks,kv⟩:=pr
   simp only at hbb hsm
   subst hbb
   have hnx':∀ ty,(Instr.next (.pointer (some ⟨r,0,none⟩)) false ty).run Tryz.prog wr=.ok (.tuple #[.bool true,.string ks,.agg #[.bool bb]]) wn:=hnx
   have hen':(Instr.entry (.pointer (some ⟨r,0,none⟩))).run Tryz.prog wn=.ok (.tuple #[.string ks,.agg #[.bool bb]]) wn:=hen
   have hBCn:=hBC.turned hTn (by have:=Hr.out;omega)
   have hMTn:=hMT.other hTn (by have:=Hr.out;omega)
   have Xa:Ext wn (wn.alloc (.cells #[.bool bb] 144)):=(Ext.refl wn).alloc _
   have BV:=Blk.alloc wn 144 #[.bool bb]
   obtain ⟨w6,r6,hM6,hT6⟩:=run_upd (kk:=strKey) (P:=Tryz.prog) (hMTn.ext (Xa.trans ((Ext.refl _).drew))) Tryz.underlying142 Tryz.underlying9 ks (varV bb)
   have hrne:r≠w.heap.size:=by have:=Hr.out;omega
   have hGne:G≠w.heap.size:=by have:=HGlt.out;omega
   have hXd:Ext wn (wn.alloc (.cells #[.bool bb] 144)).drew:=Xa.trans ((Ext.refl _).drew)
   have hRd:RgAt strKey (wn.alloc (.cells #[.bool bb] 144)).drew G r gm left':=hRn.keep (hXd.block r hRn.ne.1) (hXd.block G hRn.map.lt)
   have hR6:=hRd.keep (hT6.2.2.2.2 r hrne) (hT6.2.2.2.2 G hGne)
   have hB6:Below base w w6:=((hBl.trans (hTn.below (by have:=Hr.out;have:=Hb.out;omega))).trans (hXd.mono (by
    have h1:=(hBl.trans (hTn.below (b:=r) (base:=base) (by have:=Hr.out;have:=Hb.out;omega))).size
    have:=Hb.out;omega))).trans (hT6.below Hb.out)
   have HI6:Hid (AtCp base G (w.heap.size+1) w.heap.size r gm #[.pointer (some ⟨b,0,none⟩),.int .i64 (i:Int),.slice none 0 0,.map (some w.heap.size)] w w6):=by
    refine ⟨_,left',(hBCn.ext hXd).turned hT6 (by omega),hM6,hR6,hAV.upd ks bb,fun s hs=>?_,fun s v hs=>?_,hB6⟩
    ·rw [assoc_upd] at hs
     by_cases he:s=ks
     ·rw [he];exact hsm
     ·rw [if_neg he] at hs;exact hA1 s hs
    ·rw [assoc_upd]
     by_cases he:s=ks
     ·rw [if_pos he];exact .inl rfl
     ·rw [if_neg he]
      rcases hA2 s v hs with h | ⟨en,h1,h2⟩
      ·exact .inl h
      ·rcases hls en h1 with h3 | h3
       ·exact .inr ⟨en,h3,h2⟩
       ·rw [h2] at h3
        exact absurd (Value.string.inj h3) he
   have hM7:rgLeft w6 G r<rgLeft wr G r:=by rw [hR6.left_eq,hLe];exact hlt
   have HR6:=Lib.hid r6
   have HM7:=Lib.hid hM7
   have c3:(wn.alloc (.cells #[.bool bb] 144)).cell? ⟨w.heap.size+1,3,none⟩=some (.map (some w.heap.size)):=((hBCn.ext Xa).cell 3).trans rfl
   have v0:(wn.alloc (.cells #[.bool bb] 144)).cell? ⟨wn.heap.size,0,none⟩=some (.bool bb):=(BV.cell 0).trans rfl
   clear hrel hBC hMT hRg hAV hA1 hA2 hBl hLe hpm hnx hRn hTn hlt hls hen hsm hBCn hMTn Xa BV r6 hM6 hT6 hrne hGne hXd hRd hR6 hB6 hM7
   go_wp2_with fail
   refine start_ (n:=7) (S:=fun w'=>w'.cell? ⟨w.heap.size+1,3,none⟩=some (.map (some w.heap.size))∧w'.cell? ⟨wn.heap.size,0,none⟩=some (.bool bb)) (ds:=[6]) #[false,false,false,false,false,false,false] (by kernel_rfl) rfl rfl ?hS (fun hHeld=>?_)
   case hS=>exact ⟨Ext.cell ((Ext.refl _).drew) c3,Ext.cell ((Ext.refl _).drew) v0⟩
   refine pu_ 0 (some 27) #[true,false,false,false,false,false,false] rfl rfl (by kernel_rfl) (fun _ _ _ h=>h) (by rfl) (by intro w';go_simp;with_reducible rfl) (by simp only [pt_];rfl) ?_
   refine pu_ 1 (some 28) #[true,true,false,false,false,false,false] rfl rfl (by kernel_rfl) (fun _ _ _ h=>h) (by rfl) (by intro w';go_simp;with_reducible rfl) (by simp only [pt_];rfl) ?_
   refine pu_ 2 (some 29) #[true,true,true,false,false,false,false] rfl rfl (by kernel_rfl) (fun _ _ _ h=>h) (by rfl) (by intro w';go_simp;with_reducible rfl) (by simp only [pt_];rfl) ?_
   refine ta_ 3 (some 30) #[true,true,true,true,false,false,false] rfl rfl (by kernel_rfl) (fun _ _ _ h=>h) hHeld (by rfl) (by rintro w' ⟨s0,s1⟩;go_simp;with_reducible rfl) (by simp only [pt_];rfl) ?_
   refine pu_ 4 (some 31) #[true,true,true,true,true,false,false] rfl rfl (by kernel_rfl) (fun _ _ _ h=>h) (by rfl) (by intro w';go_simp;with_reducible rfl) (by simp only [pt_];rfl) ?_
   refine ta_ 5 (some 32) #[true,true,true,true,true,true,false] rfl rfl (by kernel_rfl) (fun _ _ _ h=>h) hHeld (by rfl) (by rintro w' ⟨s0,s1⟩;go_simp;with_reducible rfl) (by simp only [pt_];rfl) ?_
   refine last_ (i:=6) (N:=none) #[true,true,true,true,true,true,true] rfl rfl (by kernel_rfl) (by decide) (fun K hK=>?_)
   refine skip_ (w1:=w6) (by rfl) rfl (exec_upd rfl rfl rfl rfl HR6.out) ?_
   refine hK.out _ _ ?_
   clear hK K
   refine done_ (by kernel_rfl) ?_
   go_wp2
   go_roundw
   case rel=>exact HI6.out
   case measure=>exact HM7.out
  ·have hkeys:∀ s,(assoc tk s).isSome=(assoc gm s).isSome:=fun s=>by
    rw [Bool.eq_iff_iff]
    refine ⟨hA1 s,fun h=>?_⟩
    obtain ⟨v,hv⟩:=Option.isSome_iff_exists.1 h
    rcases hA2 s v hv with h | ⟨en,h1,_⟩
    ·exact h
    ·cases h1
   have hTk:=TkRel.start Hgm.out hkeys hAV
   have Xp:Ext wr (wr.alloc (.map #[] 0)):=(Ext.refl wr).alloc _
   obtain ⟨wp,hwp⟩:∃ wp,wp=wr.alloc (.map #[] 0):=⟨_,rfl⟩
   have MP0:MapAt strKey wp wr.heap.size ([]:Md.MP):=by rw [hwp];exact MapAt.new strKey wr
   rw [← hwp] at Xp
   have hBlp:Below base w wp:=hBl.trans (Xp.mono (by have:=hBl.size;have:=Hb.out;omega))
   have HJ0:Hid (AtPar t base G (w.heap.size+1) w.heap.size wr.heap.size gm #[.pointer (some ⟨b,0,none⟩),.int .i64 (i:Int),.slice none 0 0,.map (some w.heap.size)] x.params 0 w wp) :=
    ⟨tk,[],hBC.ext Xp,hMT.ext Xp,MP0,(hRg.map).ext Xp,by rw [List.take_zero];exact hTk,by rw [List.take_zero];exact PM.nil,rfl,hBlp⟩
   obtain ⟨P,hP⟩:∃ P,P=wr.heap.size:=⟨_,rfl⟩
   have HPw:Hid (w.heap.size+2≤P):=by
    have h1:=hRg.ne.1
    have:=Hr.out
    rw [hP]
    show _≤_
    omega
   obtain ⟨e0,e1,e2,e3⟩:=HCl.out wp hBlp
   have hnx':∀ ty,(Instr.next (.pointer (some ⟨r,0,none⟩)) false ty).run Tryz.prog wr=.ok (.tuple #[.bool false]) wr:=hnx
   rw [← hP] at HJ0
   have g0:(0:Int)≤(i:Int):=by omega
   have g1:(i:Int)<(nS:Int):=by omega
   have Hwp:=Lib.hid hwp
   rw [hwp] at e0 e1 e2 e3
   clear hrel hBC hMT hRg hAV hA1 hA2 hBl hLe hnx hkeys hTk Xp hwp MP0 hBlp
   go_wp2
   try rw [← Hwp.out]
   try rw [← hP]
   clear hP e0 e1 e2 e3
   go_loopw [46] (fun j wq=>∃ k:Nat,k≤nP∧j=.int .i64 k∧Hid (AtPar t base G (w.heap.size+1) w.heap.size P gm #[.pointer (some ⟨b,0,none⟩),.int .i64 (i:Int),.slice none 0 0,.map (some w.heap.size)] x.params k w wq)) (fun j _=>nP - (intOf j).toNat)
   case atStart=>exact ⟨0,Nat.zero_le _,rfl,HJ0.out⟩
   case round =>
    clear HJ0 Hwp
    obtain ⟨k,hk,rfl,HJ⟩:=hrel
    obtain ⟨tk,pm,hBC,hMT,hMP,hMG,hTk,hPM,hPB,hBl⟩:=HJ.out
    have c1:=(hBC.cell 1).trans (show _=some (Value.int .i64 (i:Int)) from rfl)
    have c3:=(hBC.cell 3).trans (show _=some (Value.map (some w.heap.size)) from rfl)
    by_cases hlt:k<nP
    ·obtain ⟨bP,oP,p,rfl,hpk,hpc⟩:=HPl.out k hlt
     have pc:=hpc wr hBl
     obtain ⟨uu,huu⟩:∃ uu,(assoc tk p).getD (.agg #[.bool false])=.agg #[.bool uu]:=by
      cases h:assoc tk p with
      | none=>exact ⟨false,rfl⟩
      | some u =>
        obtain ⟨b',hb'⟩:=hTk.allV p u h
        exact ⟨b',hb'⟩
     have hlk:(Instr.lookup 142 (.map (some w.heap.size)) (.string p) true).run Tryz.prog wr=.ok (.tuple #[.agg #[.bool uu],.bool (decide (p∈x.params.take k∨0≤gsize t p))]) wr:=by
      have h:=run_look (kk:=strKey) hMT Tryz.underlying142 Tryz.underlying9 (zero_var wr) p
      rw [huu,hTk.has p] at h
      exact h
     have HSt:=Lib.hid (parBad_step (t:=t) (seen:=x.params.take k) hpk)
     have Xb:Ext wr (wr.alloc (.cells #[.bool uu] 144)):=(Ext.refl wr).alloc _
     have z0:(0:Int)≤(k:Int):=by omega
     have z1:(k:Int)<(nP:Int):=by omega
     by_cases hin:p∈x.params.take k∨0≤gsize t p
     ·rw [decide_eq_true hin] at hlk
      have HRr:Hid (R=(2,(i:Int),-1)):=by
       show _=_
       rw [HR.out]
       unfold bodyR
       rw [hPB,HSt.out,if_pos hin]
       rfl
      have hBe:Hid (Below base w (wr.alloc (.cells #[.bool uu] 144))):=hBl.trans (Xb.mono (by have:=hBl.size;have:=Hb.out;omega))
      have d1:(wr.alloc (.cells #[.bool uu] 144)).cell? ⟨w.heap.size+1,1,none⟩=some (.int .i64 (i:Int)):=Xb.cell c1
      clear hBC hMT hMP hMG hTk hPM hPB hBl HJ hpc hpk huu hin HSt Xb
      go_wp2_with fail
      refine (i_wrongAt _ _ _ _).mono ?_
      rintro e w8 ⟨rfl,rfl⟩
      go_wp2
      go_ret
      exact ⟨by rw [HRr.out];exact ErrOf.bad (by decide),hBe.out,fun h=>by rw [HRr.out] at h;exact absurd h (by simp)⟩
     ·rw [decide_eq_false hin] at hlk
      have hPB2:parBad t [] x.params=parBad t (x.params.take (k+1)) (x.params.drop (k+1)):=by
       rw [hPB,HSt.out,if_neg hin,take_snoc hpk]
      obtain ⟨w6,r6,hM6,hT6⟩:=run_upd (kk:=strKey) (P:=Tryz.prog) (hMT.ext Xb) Tryz.underlying142 Tryz.underlying9 p (varV false)
      have hPT:P≠w.heap.size:=by have:=HPw.out;omega
      have hGT:G≠w.heap.size:=by have:=HGlt.out;omega
      have hGP:G≠P:=by have:=HGlt.out;have:=HPw.out;omega
      have hMP6:=(hMP.ext Xb).other hT6 hPT
      obtain ⟨w7,r7,hM7,hT7⟩:=run_upd (kk:=strKey) (P:=Tryz.prog) hMP6 Tryz.underlying142 Tryz.underlying9 p (varV false)
      have hB7:Below base w w7:=((hBl.trans (Xb.mono (by have:=hBl.size;have:=Hb.out;omega))).trans (hT6.below Hb.out)).trans (hT7.below (by have:=HPw.out;have:=Hb.out;omega))
      have HJ7:Hid (AtPar t base G (w.heap.size+1) w.heap.size P gm #[.pointer (some ⟨b,0,none⟩),.int .i64 (i:Int),.slice none 0 0,.map (some w.heap.size)] x.params (k+1) w w7) :=
       ⟨_,_,((hBC.ext Xb).turned hT6 (by omega)).turned hT7 (by have:=HPw.out;omega),hM6.other hT7 (Ne.symm hPT),hM7,((hMG.ext Xb).other hT6 hGT).other hT7 hGP,by rw [take_snoc hpk];exact hTk.decl p false,by rw [take_snoc hpk];exact hPM.decl p,hPB2,hB7⟩
      have r6':(Instr.mapUpdate 142 (.map (some w.heap.size)) (.string p) (.agg #[.bool false])).run Tryz.prog (wr.alloc (.cells #[.bool uu] 144))=.ok () w6:=r6
      have r7':(Instr.mapUpdate 142 (.map (some P)) (.string p) (.agg #[.bool false])).run Tryz.prog w6=.ok () w7:=r7
      have d3:(wr.alloc (.cells #[.bool uu] 144)).cell? ⟨w.heap.size+1,3,none⟩=some (.map (some w.heap.size)):=Xb.cell c3
      clear hBC hMT hMP hMG hTk hPM hPB hBl HJ hpc hpk huu hin HSt Xb r6 r7 hM6 hM7 hT6 hT7 hMP6 hB7 hPB2 hPT hGT hGP
      go_wp2
      go_roundw
      case rel=>exact ⟨k+1,by omega,by go_num,HJ7.out⟩
      case measure=>simp [intOf];omega
    ·have hkl:x.params.length≤k:=by have h:x.params.length=nP:=HlP.out;omega
     rw [List.take_of_length_le hkl] at hTk hPM hPB
     rw [List.drop_eq_nil_of_le hkl] at hPB
     have HN:Hid (parBad t [] x.params=false):=hPB
     have hsw:(wr.alloc (.cells #[.map (some G),.map (some P)] 142)).ownsRow base 142 1 (.slice (some ⟨wr.heap.size,0,none⟩) 2 2) 2 ([G,P].map fun b=>Value.map (some b)) :=
      ⟨rfl,.inr ⟨wr.heap.size,2,#[.map (some G),.map (some P)],rfl,Nat.le_trans Hb.out hBl.size,heap_alloc_new wr _,Nat.le_refl _,by unfold maxLen;omega,rfl,rfl⟩⟩
     have Xb:Ext wr (wr.alloc (.cells #[.map (some G),.map (some P)] 142)):=(Ext.refl wr).alloc _
     have hBCb:=hBC.ext Xb
     have hCS:CkS ((wr.alloc (.cells #[.map (some G),.map (some P)] 142)).setCell ⟨w.heap.size+1,2,none⟩ (.slice (some ⟨wr.heap.size,0,none⟩) 2 2)) base (.pointer (some ⟨b,0,none⟩)) (i:Int) (w.heap.size+1) w.heap.size (.slice (some ⟨wr.heap.size,0,none⟩) 2 2) [G,P] [gm,pm] tk:=by
      have keep:∀ (c':Nat) (n':Md.MP),MapAt strKey (wr.alloc (.cells #[.map (some G),.map (some P)] 142)) c' n'→MapAt strKey ((wr.alloc (.cells #[.map (some G),.map (some P)] 142)).setCell ⟨w.heap.size+1,2,none⟩ (.slice (some ⟨wr.heap.size,0,none⟩) 2 2)) c' n':=fun c' n' hc=>hc.at_ (Below.heap_setCell _ _ _ _ (hc.ne_blk hBCb))
      have h1:=HGlt.out
      have h2:=HPw.out
      have h3:=Hb.out
      have h4:=Hgb.out
      refine ⟨hBCb.set 2 _,⟨own_set hsw (own_ne_blk hsw hBCb (by decide)),rfl,fun j c' n' h5 h6=>?_⟩,keep _ _ (hMT.ext Xb),?_,?_,by omega,by omega,?_⟩
      ·match j,h5,h6 with
       | 0,h5,h6=>cases h5;cases h6;exact keep _ _ (hMG.ext Xb)
       | 1,h5,h6=>cases h5;cases h6;exact keep _ _ (hMP.ext Xb)
       | j+2,h5,_=>simp at h5
      ·simp;omega
      ·simp;omega
      ·intro c' hc'
       simp at hc'
       omega
     have hBd:Below base w ((wr.alloc (.cells #[.map (some G),.map (some P)] 142)).setCell ⟨w.heap.size+1,2,none⟩ (.slice (some ⟨wr.heap.size,0,none⟩) 2 2)) :=
      Below.setCell (hBl.trans (Xb.mono (by have:=hBl.size;have:=Hb.out;omega))) (p:=⟨w.heap.size+1,2,none⟩) (by have:=Hb.out;show base≤w.heap.size+1;omega) _
     obtain ⟨wd,hwd⟩:∃ wd,wd=(wr.alloc (.cells #[.map (some G),.map (some P)] 142)).setCell ⟨w.heap.size+1,2,none⟩ (.slice (some ⟨wr.heap.size,0,none⟩) 2 2):=⟨_,rfl⟩
     rw [← hwd] at hCS hBd
     rw [World.setCell_alloc_past _ _ _ _ hBC.lt] at hwd
     obtain ⟨hts,hta⟩:=HTs.out wd hBd
     have HBlk:=Lib.hid (i_block K base t fs (.pointer (some ⟨b,0,none⟩)) (i:Int) (w.heap.size+1) w.heap.size hK 500 x.body 0 sts hl Hbk.out hsz wd _ ts _ [G,P] [gm,pm] tk x.params x.params hts hta (HU.out wd hBd) hCS (by simp) (by simp) (Names.start Hgm.out hPM) hTk (Nat.le_trans Hb.out hBd.size))
     obtain ⟨e0,e1,e2,e3⟩:=HCl.out wd hBd
     have HCS:=Lib.hid hCS
     have HBd:=Lib.hid hBd
     have b2:=(hBCb.cell 2).trans (show _=some (Value.slice none 0 0) from rfl)
     have b2f:=hBCb.frozen 2
     have g0:(0:Int)≤(i:Int):=by omega
     have g1:(i:Int)<(nS:Int):=by omega
     have Hwd:=Lib.hid hwd
     have hwsz:w.heap.size+1<wr.heap.size:=hBC.lt
     rw [hwd] at e0 e1 e3
     clear hBC hMT hMP hMG hTk hPM hPB hBl HJ hsw Xb hBCb hCS hBd hwd hts hta e2 hkl c1 c3
     go_wp2_with fail
     rw [← Hwd.out]
     refine HBlk.out.mono ?_
     rintro e w8 ⟨v8,mm8,tk8,hS8,hT8,hres⟩
     have HB8:Hid (Below base w w8):=HBd.out.trans (hT8.below HCS.out)
     rcases hres with ⟨er,ea,hr,rfl⟩ | ⟨tkl8,hr,rfl,_,rfl⟩
     ·have HRr:Hid (R=(er,(i:Int),ea)):=by
       show _=_
       rw [HR.out]
       unfold bodyR
       rw [HN.out,hr]
       rfl
      have he:=ck_bad t x.body.length x.body 0 sts _ _ er ea (Nat.le_refl _) Hbk.out hr
      have He:=Lib.hid he
      clear hr he hS8 hT8
      go_wp2
      go_ret
      exact ⟨by rw [HRr.out];exact ErrOf.bad He.out,HB8.out,fun h=>by rw [HRr.out] at h;exact absurd h He.out⟩
     ·have HRr:Hid (R=(0,-1,-1)):=by
       show _=_
       rw [HR.out]
       unfold bodyR
       rw [HN.out,hr]
       rfl
      have HG8:=Lib.hid (hS8.sc.maps 0 G gm rfl rfl)
      clear hr hS8 hT8
      go_wp2
      go_ret
      exact ⟨by rw [HRr.out];exact ErrOf.ok,HB8.out,fun _=>HG8.out⟩
open Go Go.RowKit Md
def mapLen (w:World) (b:Nat):Nat:=match w.heap[b]? with
 | some (.map es _)=>es.size
 | _=>0
theorem MapAt.len_eq {α:Type} [DecidableEq α] {kk:KeyKind α} {w:World} {b:Nat} {m:List (α×Value)} (h:MapAt kk w b m):mapLen w b=m.length:=by
 obtain ⟨es,clock,h1,h2,_⟩:=h
 unfold mapLen
 rw [h1]
 have:=congrArg List.length h2
 simpa using this
def MetM (m:List (Int×Value)) (met:List Int):Prop:=∀ x,assoc m x=if x∈met then some (.bool true) else none
theorem MetM.nil:MetM [] []:=fun x=>rfl
theorem MetM.add {m:List (Int×Value)} {met:List Int} (h:MetM m met) (k:Int):MetM (updA m k (.bool true)) (met ++ [k]):=fun x=>by
 rw [assoc_upd]
 by_cases he:x=k
 ·rw [if_pos he,if_pos (by rw [he];simp)]
 ·rw [if_neg he,h x]
  by_cases hs:x∈met
  ·rw [if_pos hs,if_pos (List.mem_append_left _ hs)]
  ·rw [if_neg hs,if_neg (fun h=>(List.mem_append.1 h).elim hs (fun h=>he (List.mem_singleton.1 h)))]
theorem MetM.len {m:List (Int×Value)} {met:List Int} (h:MetM m met) {k:Int} (hk:¬ k∈met) (v:Value):(updA m k v).length=m.length+1:=by
 rw [updA_len,h k,if_neg hk]
 rfl
def AtRch (t:PTree) (i:Int) (M:Nat) (w wr:World) (v:Value):Prop :=
 ∃ (a:Option Addr) (n c:Nat) (todo met:List Int) (m:List (Int×Value)),v=.slice a n c∧TailRow wr w.heap.size 3 (.slice a n c) n (todo.map (Value.int .i64))∧MapAt intKey wr M m∧Wi t i met todo∧MetM m met∧m.length=met.length∧n≤50*(met.length+1)∧Ext w wr
def RchOut (t:PTree) (i:Int) (w:World) (e:Ending) (w':World):Prop :=
 ∃ (M:Nat) (m:List (Int×Value)) (met:List Int),e=.returned (.map (some M))∧MapAt intKey w' M m∧w.heap.size≤M∧MetM m met∧(∀ x,x∈met↔Rch t [i] x)∧Ext w w'
def lenV:Value→Nat
 | .slice _ n _=>n
 | _=>0
theorem zero_bool (w:World):(zeroValue 4).run Tryz.prog w=.ok (.bool false) w:=by kernel_rfl
set_option maxRecDepth 1000000 in
set_option maxHeartbeats 0 in
theorem i_reach (K:Foot) (t:PTree) (fs:List Fn) (ub:Value) (i:Int) (w:World) (hU:UnitAt K w ub t fs) (hv:valid t=true) (hi:0≤i∧i<t.funcs.length) :
  Calls Tryz.prog 91 #[ub,.int .i64 i] w (RchOut t i w):=by
 have hvb:=valid_bounds hv
 have HC:Hid (∀ (h:Int) w',Ext w w'→0≤h∧h<t.funcs.length→Calls Tryz.prog 39 #[ub,.int .i64 h] w' (Listed w' (succ t h))):=fun h w' hX hh=>by
  obtain ⟨x,hx⟩:∃ x,t.funcs[h.toNat]? = some x:=⟨t.funcs[h.toNat]'(by omega),List.getElem?_eq_getElem _⟩
  have hxb:=hvb.2.2 x (List.mem_of_getElem? hx)
  have:=i_calls K t fs ub h.toNat h (by omega) x w' (hU.ext hX) hx (by omega) (by omega) (fun s hs=>by have:=nodes_mem hs;omega) (by have:=outL_nodes t x.body;omega)
  unfold succ bodyOf
  simpa [hx] using this
 have HSl:Hid (∀ h,(succ t h).length≤t.funcs.length):=fun h=>callsL_len t _
 have hn50:t.funcs.length≤50:=hvb.2.1
 have Hn:=Lib.hid hn50
 have Hi:=Lib.hid hi
 obtain ⟨ubb,_,_,_,_,rfl,_⟩:=hU
 obtain ⟨i0,hi0,hz0,hz1,hz2⟩:=info_parts info_int
 obtain ⟨w1,hw1⟩:∃ w1,w1=w.alloc (.map #[] 0):=⟨_,rfl⟩
 have X1:Ext w w1:=by rw [hw1];exact (Ext.refl w).alloc _
 have MM:MapAt intKey w1 w.heap.size ([]:List (Int×Value)):=by rw [hw1];exact MapAt.new intKey w
 have HC1:=Lib.hid (HC.out i w1 X1 hi)
 have HX1:=Lib.hid X1
 have HMM:=Lib.hid MM
 have HW1:=Lib.hid hw1
 have hmm:=@run_makeMap Tryz.prog
 clear hvb hv hi hn50 hw1 X1 MM
 go_enter Tryz.func91,Tryz.ntmps91
 go_wp2_with fail
 rw [← HW1.out]
 refine HC1.out.mono ?_
 rintro e w2 ⟨v2,rfl,ho2,hX2⟩
 obtain ⟨a2,c2,rfl⟩:=rw_form0 ho2
 have HI0:Hid (AtRch t i w.heap.size w w2 (.slice a2 (succ t i).length c2)) :=
  ⟨a2,_,c2,succ t i,[],[],rfl,TailRow.of_own (rw_base ho2 HX1.out.size),HMM.out.ext hX2,Wi.start t i,MetM.nil,rfl,by have:=HSl.out i;have:=Hn.out;simp;omega,HX1.out.trans hX2⟩
 obtain ⟨M,hM⟩:∃ M,M=w.heap.size:=⟨_,rfl⟩
 rw [← hM] at HI0
 have HM:=Lib.hid hM
 clear ho2 hX2 HC1 HMM
 try rw [← hM]
 clear hM
 generalize (succ t i).length=n2 at HI0
 go_wp2_with fail
 go_loopw [6] (fun v6 wr=>Hid (AtRch t i M w wr v6)) (fun v6 wr=>lenV v6+51*(50 - mapLen wr M))
 case atStart=>exact HI0.out
 case round =>
  clear HI0
  obtain ⟨a,n,c,todo,met,m,rfl,hT,hMA,hW,hMM,hml,hnb,hX⟩:=hrel.out
  have HT:=Lib.hid hT
  have HMA:=Lib.hid hMA
  have HW:=Lib.hid hW
  have HMM:=Lib.hid hMM
  have HX:=Lib.hid hX
  obtain ⟨hl,hnc,hcm,hcl⟩:=hT.op
  have hln:todo.length=n:=by simpa using hl
  by_cases hn:0<n
  ·obtain ⟨k,rest,rfl⟩:∃ k rest,todo=k :: rest:=by
    cases todo with
    | nil=>simp at hln;omega
    | cons k rest=>exact ⟨k,rest,rfl⟩
   obtain ⟨g,o,rfl,_,hc⟩:=hcl hn
   have k0:wr.cell? ⟨g,o,none⟩=some (.int .i64 k):=by have:=hc 0 _ (by simp;rfl);simpa using this
   have hlk:(Instr.lookup 148 (.map (some M)) (.int .i64 k) false).run Tryz.prog wr=.ok (if k∈met then .bool true else .bool false) wr:=by
    have h:=run_look1 (kk:=intKey) hMA Tryz.underlying148 Tryz.underlying3 (zero_bool wr) k
    rw [hMM k] at h
    by_cases hk:k∈met
    ·rw [if_pos hk] at h ⊢;exact h
    ·rw [if_neg hk] at h ⊢;exact h
   have hlen:=hMA.len_eq
   have hnp:(0:Int)<(n:Int):=by omega
   by_cases hk:k∈met
   ·rw [if_pos hk] at hlk
    obtain ⟨a',hcut,hT'⟩:=TailRow.tail (P:=Tryz.prog) Tryz.underlying59 hi0 hz1 (x:=.int .i64 k) (xs:=rest.map (Value.int .i64)) hT
    have HI:Hid (AtRch t i M w wr (.slice a' (n - 1) (c - 1))):=⟨a',n - 1,c - 1,rest,met,m,rfl,hT',hMA,hW.old hk,hMM,hml,by omega,hX⟩
    clear hrel hT hMA hW hMM hX hl hcl hc hlen hk hT'
    go_wp2
    go_roundw
    case rel=>exact HI.out
    case measure=>simp only [lenV];omega
   ·rw [if_neg hk] at hlk
    have hkr:=(hW.rcht k (List.mem_cons_self ..)).range
    obtain ⟨w3,r3,hM3,hT3⟩:=run_upd (kk:=intKey) (P:=Tryz.prog) hMA Tryz.underlying148 Tryz.underlying3 k (.bool true)
    have hX3:Ext w w3:=hT3.ext hX (by rw [HM.out];exact Nat.le_refl _)
    have HC3:=Lib.hid (HC.out k w3 hX3 hkr)
    have hTk3:TailRow w3 w.heap.size 3 (.slice (some ⟨g,o,none⟩) n c) n ((k :: rest).map (Value.int .i64)):=hT.keep fun g' hg' _=>hT3.2.2.2.2 g' (by
     rintro rfl
     obtain ⟨es,clock,h1,_⟩:=hMA
     rcases hT.2 with ⟨h0,_⟩ | ⟨g2,o2,cap,cur,e2,_,hh,_⟩
     ·omega
     ·cases e2
      cases hg'
      rw [h1] at hh
      cases hh)
    have HT3:=Lib.hid hTk3
    have HM3:=Lib.hid hM3
    have HX3:=Lib.hid hX3
    have Hwn:=Lib.hid (hW.new hk)
    have Hlt:=Lib.hid (hW.lt hk)
    have Hadd:=Lib.hid (hMM.add k)
    have Hadl:=Lib.hid (hMM.len hk (.bool true))
    have r3':(Instr.mapUpdate 148 (.map (some M)) (.int .i64 k) (.bool true)).run Tryz.prog wr=.ok () w3:=r3
    clear hrel hT hMA hW hMM hX hl hcl hc hk hkr r3 hM3 hT3 hX3 hTk3
    go_wp2_with fail
    refine HC3.out.mono ?_
    rintro e w4 ⟨v9,rfl,ho9,hX4⟩
    have hs9:=HSl.out k
    obtain ⟨a9,c9,rfl⟩:=rw_form0 ho9
    have hsrc:=Src.ofOwn (P:=Tryz.prog) Tryz.underlying59 ho9 (by intro u hu;obtain ⟨y,_,rfl⟩:=List.mem_map.1 hu;rfl)
    obtain ⟨v10,w5,r5,hT5,hg5,hat5⟩:=run_append_tail (P:=Tryz.prog) Tryz.underlying59 hi0 hz0 hz1 hz2 rfl 59 (HT3.out.ext hX4) (.slice a9 (succ t k).length c9) (succ t k).length _ hsrc (HX3.out.trans hX4).size (by have:=Hn.out;have:=Hlt.out;omega) (by have:=Hn.out;have:=Hlt.out;omega)
    obtain ⟨a10,c10,rfl⟩:=hT5.shape
    have hT5':TailRow w5 w.heap.size 3 (.slice a10 (n+(succ t k).length) c10) (n+(succ t k).length) (.int .i64 k :: (rest ++ succ t k).map (Value.int .i64)):=by
     have h:=hT5
     rw [List.map_cons,List.cons_append,← List.map_append] at h
     exact h
    obtain ⟨a',hcut,hT6⟩:=TailRow.tail (P:=Tryz.prog) Tryz.underlying59 hi0 hz1 hT5'
    have hX5:Ext w w5:=Below.grown ((HX3.out.trans hX4)) hg5 (HX3.out.trans hX4).size (fun g2 hg2=>by
     rcases HT3.out.2 with ⟨h0,_⟩ | ⟨g3,o3,cap,cur,e3,hge,_⟩
     ·omega
     ·cases e3
      cases hg2
      exact hge)
    have hM5:MapAt intKey w5 M (updA m k (.bool true)):=by
     have h4:=HM3.out.ext hX4
     refine h4.at_ (hg5.block M h4.lt (fun e=>?_))
     obtain ⟨es,clock,h1,_⟩:=HM3.out
     rcases HT3.out.2 with ⟨h0,_⟩ | ⟨g2,o2,cap,cur,e2,_,hh,_⟩
     ·omega
     ·cases e2
      have e':M=g:=Option.some.inj e
      rw [← e',h1] at hh
      cases hh
    have HI:Hid (AtRch t i M w w5 (.slice a' (n+(succ t k).length - 1) (c10 - 1))) :=
     ⟨a',_,c10 - 1,rest ++ succ t k,met ++ [k],_,rfl,hT6,hM5,Hwn.out,Hadd.out,by rw [Hadl.out,hml];simp,by have:=Hn.out;simp;omega,hX5⟩
    have hlen5:=hM5.len_eq
    rw [Hadl.out] at hlen5
    have HR5:=Lib.hid r5
    obtain ⟨sl,hsl⟩:∃ sl,sl=(succ t k).length:=⟨_,rfl⟩
    rw [← hsl] at HI hs9 hcut ⊢
    have HAr:Hid (n+sl - 1+51*(50 - (m.length+1))<n+51*(50 - m.length)):=by
     have h1:=Hlt.out
     have h2:=Hn.out
     show _<_
     omega
    try rw [← hsl] at HR5
    clear ho9 hX4 hsrc r5 hT5 hg5 hat5 hT5' hT6 hX5 hM5 hsl HC3
    go_wp2_with (at_builtin;refine Lib.wpList_append_run _ rfl _ _ _ _ rfl _ _ rfl rfl _ _ HR5.out ?_)
    go_roundw
    case rel=>exact HI.out
    case measure=>simp only [lenV];rw [hlen5,hlen];exact HAr.out
  ·obtain rfl:n=0:=by omega
   obtain rfl:todo=[]:=List.eq_nil_of_length_eq_zero hln
   have HO:Hid (RchOut t i w (.returned (.map (some M))) wr):=⟨M,m,met,rfl,hMA,by rw [HM.out];exact Nat.le_refl _,hMM,hW.fin,hX⟩
   clear hrel hT hMA hW hMM hX hl hcl HT HMA HW HMM HX
   go_wp2
   go_ret
   exact HO.out
open Go Go.RowKit Md Go.Proofs.YtcfggjmdcaoecaaGreatDoorW.PrintLast
theorem names_g {t:PTree} {fs:List (PFunc×List St)} {i:Nat} (h:dupAt [] (gNames t) 0=some i):checkR t fs=(2,-1,-1):=by
 have hn:namesR t=(2,-1,-1):=by
  unfold namesR
  rw [h]
  rfl
 rw [checkR_bad (by rw [hn];decide),hn]
theorem names_f {t:PTree} {fs:List (PFunc×List St)} {i:Nat} (h0:dupAt [] (gNames t) 0=none) (h:dupAt (gNames t) (fNames t) 0=some i):checkR t fs=(2,(i:Int),-1):=by
 have hn:namesR t=(2,(i:Int),-1):=by
  unfold namesR
  rw [h0,h]
  rfl
 rw [checkR_bad (by rw [hn];simp),hn]
theorem names_m {t:PTree} {fs:List (PFunc×List St)} (h0:dupAt [] (gNames t) 0=none) (h:dupAt (gNames t) (fNames t) 0=none) (hm:findF t mainB<0∨0<arityF t (findF t mainB)):checkR t fs=(3,-1,-1):=by
 have hn:namesR t=(3,-1,-1):=by
  unfold namesR
  rw [h0,h]
  show mainR t=_
  unfold mainR
  rw [if_pos hm]
 rw [checkR_bad (by rw [hn];decide),hn]
theorem names_k {t:PTree} {fs:List (PFunc×List St)} (h0:dupAt [] (gNames t) 0=none) (h:dupAt (gNames t) (fNames t) 0=none) (hm:¬ (findF t mainB<0∨0<arityF t (findF t mainB))):checkR t fs=tailR t fs 0:=by
 have hn:namesR t=(0,-1,-1):=by
  unfold namesR
  rw [h0,h]
  show mainR t=_
  unfold mainR
  rw [if_neg hm]
 exact checkR_ok (by rw [hn])
theorem Ext.trans' {a b c:World} (h:Ext a b) (k:Below a.heap.size b c):Ext a c:=Below.trans h k
theorem valid_globs {t:PTree} (h:valid t=true):∀ g∈t.globals,0≤g.size:=by
 unfold valid at h
 simp only [Bool.and_eq_true,decide_eq_true_eq,List.all_eq_true] at h
 intro g hg
 have:=h.1.2 g hg
 unfold okGlob at this
 simp only [Bool.and_eq_true,decide_eq_true_eq] at this
 exact this.1.2
def AtGl (t:PTree) (G k:Nat) (w wr:World):Prop :=
 ∃ gm:Md.MP,MapAt strKey wr G gm∧(∀ s,assoc gm s=gmapL (t.globals.take k) s)∧AllL gm∧dupAt [] (gNames t) 0=dupAt ((gNames t).take k) ((gNames t).drop k) k∧Ext w wr
def AtFn (t:PTree) (G k:Nat) (gm:Md.MP) (w wr:World):Prop :=
 MapAt strKey wr G gm∧dupAt (gNames t) (fNames t) 0=dupAt (gNames t ++ (fNames t).take k) ((fNames t).drop k) k∧Ext w wr
def AtBd (t:PTree) (fs:List Fn) (G k:Nat) (gm:Md.MP) (R:Int×Int×Int) (w wr:World):Prop:=MapAt strKey wr G gm∧R=tailR t fs k∧Ext w wr
def AtRc (t:PTree) (m:Int) (M k:Nat) (lm:List (Int×Value)) (R:Int×Int×Int) (w wr:World):Prop:=MapAt intKey wr M lm∧R=recR t m k∧Ext w wr
set_option maxRecDepth 1000000 in
set_option maxHeartbeats 0 in
theorem i_check (K:Foot) (t:PTree) (fs:List Fn) (ub:Value) (w:World) (hK:∀ b,K b→b<w.heap.size) (hU:UnitAt K w ub t fs) (hB:Bodies t.funcs fs) (hv:valid t=true) :
  Calls Tryz.prog 50 #[ub] w (fun e w'=>ErrOf (checkR t fs) e∧Ext w w'):=by
 have hvb:=valid_bounds hv
 have hvg:=valid_globs hv
 have HV:=Lib.hid hv
 have HB:=Lib.hid hB
 have HU:Hid (∀ w',Ext w w'→UnitAt K w' ub t fs):=fun w' k=>hU.ext k
 obtain ⟨b,vG,vF,vs,ps,rfl,hbK,hc,sG,sF,sP,aP⟩:=hU
 obtain ⟨aG,nG,cG,rfl,HlG,hlcG,hcmG,helG⟩:=sG.op
 obtain ⟨aF,nF,cF,rfl,HlF,hlcF,hcmF,helF⟩:=sF.op
 obtain ⟨aS,nS,cS,rfl⟩:=sP.shape
 have hlS:=(SlV.len sP).1
 have hlA:=aP.1
 have hlB:=congrArg List.length hB.1
 rw [List.length_map] at hlB
 have hnG:nG≤50:=by have:=HlG.out;omega
 have hnF:nF≤50:=by have:=HlF.out;omega
 have hSF:nS=nF:=by have:=HlF.out;omega
 subst hSF
 have HlS:Hid (fs.length=nS):=by show _=_;omega
 have uc0:=hc 0 _ rfl
 have uc1:=hc 1 _ rfl
 have uc2:=hc 2 _ rfl
 obtain ⟨R,hR⟩:∃ R,R=checkR t fs:=⟨_,rfl⟩
 rw [← hR]
 have HR:=Lib.hid hR
 have HFN:Hid (∀ s w',Ext w w'→Calls Tryz.prog 74 #[.agg #[.slice aG nG cG,.slice aF nS cF],.string s] w' (Gives (.int .i64 (findF t s)) w')):=fun s w' hX=>i_funcNamed K t _ _ s w' (sG.ext hX (fun _ _ h=>h.any)) (sF.ext hX (fun _ _ h=>h.ext hX))
 have HGz:=Lib.hid hvg
 have HCF:Hid (∀ (k:Nat) (x:PFunc) (sts:List St) (G:Nat) (gm:Md.MP) (w':World),Ext w w'→fs[k]? = some (x,sts)→MapAt strKey w' G gm→w.heap.size≤G→GM t gm→AllL gm →
   Calls Tryz.prog 90 #[.pointer (some ⟨b,0,none⟩),.int .i64 (k:Int),.map (some G)] w' (CfOut (bodyR t k x sts) w.heap.size G gm w')):=fun k x sts G gm w' hX hx hG hge hgm hga=>by
  have hxm:=List.mem_of_getElem? hx
  have hxf:x∈t.funcs:=by rw [← HB.out.1];exact List.mem_map.2 ⟨(x,sts),hxm,rfl⟩
  have hb3:=hvb.2.2 x hxf
  exact i_checkFunc K w.heap.size t fs _ k (k:Int) rfl x sts G gm w' hK hX.size (HU.out w' hX) hx (HB.out.2 _ hxm) hb3.1 hb3.2.1 (fun s hs=>by have:=nodes_mem hs;omega) hG hge hgm hga
 have HRc:Hid (∀ (i:Int) w',Ext w w'→0≤i∧i<nS→Calls Tryz.prog 91 #[.pointer (some ⟨b,0,none⟩),.int .i64 i] w' (RchOut t i w')):=fun i w' hX hi=>i_reach K t fs _ i w' (HU.out w' hX) HV.out (by have:=HlF.out;omega)
 obtain ⟨w1,hw1⟩:∃ w1,w1=w.alloc (.map #[] 0):=⟨_,rfl⟩
 have X1:Ext w w1:=by rw [hw1];exact (Ext.refl w).alloc _
 have hG0:Hid (AtGl t w.heap.size 0 w w1):=⟨[],by rw [hw1];exact MapAt.new strKey w,fun s=>by rw [List.take_zero];rfl,AllL.nil,rfl,X1⟩
 obtain ⟨G,hGe⟩:∃ G,G=w.heap.size:=⟨_,rfl⟩
 rw [← hGe] at hG0
 have HGe:=Lib.hid hGe
 have HW1:=Lib.hid hw1
 have hmm:=@run_makeMap Tryz.prog
 have e0:=X1.cell uc0
 rw [hw1] at e0
 clear hB hv hvb hvg hbK hc sG sF sP aP hlS hlA hlB hR hw1
 go_enter Tryz.func50,Tryz.ntmps50
 go_wp2
 try rw [← HW1.out]
 try rw [← hGe]
 clear hGe e0 X1
 go_loopw [24] (fun j wr=>∃ k:Nat,k≤nG∧j=.int .i64 k∧Hid (AtGl t G k w wr)) (fun j _=>nG - (intOf j).toNat)
 case atStart=>exact ⟨0,Nat.zero_le _,rfl,hG0.out⟩
 case round =>
  clear hG0 HW1
  obtain ⟨k,hk,rfl,HJ⟩:=hrel
  obtain ⟨gm,hM,hgl,hal,hdu,hX⟩:=HJ.out
  by_cases hlt:k<nG
  ·obtain ⟨bG,oG,rfl,_,helG⟩:=helG (by omega)
   obtain ⟨g,cs,hg,_,hC,hcs⟩:=helG k hlt
   obtain ⟨rfl,hgI,hgs⟩:=hC
   have c0:=hX.cell (hcs.z rfl)
   have c1:=hX.cell (hcs 1 _ rfl)
   have hgn:(gNames t)[k]? = some g.name:=by unfold gNames;rw [List.getElem?_map,hg];rfl
   have HSt:=Lib.hid (dupAt_step (seen:=(gNames t).take k) hgn)
   have hsm:=gmapL_some (l:=t.globals.take k) (fun g hg=>HGz.out g (List.mem_of_mem_take hg)) g.name
   have htk:(t.globals.take k).map (fun g=>g.name)=(gNames t).take k:=by unfold gNames;rw [List.map_take]
   rw [htk,← hgl] at hsm
   obtain ⟨uu,huu⟩:∃ uu,(assoc gm g.name).getD (.agg #[.bool false])=.agg #[.bool uu]:=by
    cases h:assoc gm g.name with
    | none=>exact ⟨false,rfl⟩
    | some u =>
      obtain ⟨b',hb'⟩:=hal.allV g.name u h
      exact ⟨b',hb'⟩
   have Xa:Ext wr (wr.alloc (.cells #[.string g.name,.int .i64 g.size] 97)):=(Ext.refl wr).alloc _
   have BA:=Blk.alloc wr 97 #[.string g.name,.int .i64 g.size]
   have hlk:(Instr.lookup 142 (.map (some G)) (.string g.name) true).run Tryz.prog (wr.alloc (.cells #[.string g.name,.int .i64 g.size] 97))=.ok (.tuple #[.agg #[.bool uu],.bool (decide (g.name∈(gNames t).take k))]) (wr.alloc (.cells #[.string g.name,.int .i64 g.size] 97)):=by
    have h:=run_look (kk:=strKey) (hM.ext Xa) Tryz.underlying142 Tryz.underlying9 (zero_var _) g.name
    rw [huu,hsm] at h
    exact h
   have z0:(0:Int)≤(k:Int):=by omega
   have z1:(k:Int)<(nG:Int):=by omega
   by_cases hin:g.name∈(gNames t).take k
   ·rw [decide_eq_true hin] at hlk
    have HRr:Hid (R=(2,-1,-1)):=by
     show _=_
     rw [HR.out]
     exact names_g (i:=k) (by rw [hdu,HSt.out,if_pos hin])
    have HXa:=Lib.hid (hX.trans Xa)
    clear hM hgl hal hdu hX HJ hg hcs hgn hsm htk huu hin HSt BA Xa helG
    go_wp2_with fail
    refine (i_wrongAt _ _ _ _).mono ?_
    rintro e w8 ⟨rfl,rfl⟩
    go_wp2
    go_ret
    exact ⟨by rw [HRr.out];exact ErrOf.bad (by decide),HXa.out.alloc _⟩
   ·rw [decide_eq_false hin] at hlk
    have Xc:Ext wr ((wr.alloc (.cells #[.string g.name,.int .i64 g.size] 97)).alloc (.cells #[.bool uu] 144)):=Xa.alloc _
    obtain ⟨w6,r6,hM6,hT6⟩:=run_upd (kk:=strKey) (P:=Tryz.prog) (hM.ext Xc) Tryz.underlying142 Tryz.underlying9 g.name (varV (decide (0<g.size)))
    have HJ2:Hid (AtGl t G (k+1) w w6):=⟨_,hM6,by rw [take_snoc hg];exact gmapL_snoc (HGz.out g (List.mem_of_getElem? hg)) hgl (by rw [htk];exact hin),hal.upd _ _,by rw [hdu,HSt.out,if_neg hin,take_snoc hgn],hT6.ext (hX.trans Xc) (by rw [HGe.out];exact Nat.le_refl _)⟩
    have r6':(Instr.mapUpdate 142 (.map (some G)) (.string g.name) (.agg #[.bool (decide (0<g.size))])).run Tryz.prog ((wr.alloc (.cells #[.string g.name,.int .i64 g.size] 97)).alloc (.cells #[.bool uu] 144))=.ok () w6:=r6
    have d0:((wr.alloc (.cells #[.string g.name,.int .i64 g.size] 97)).alloc (.cells #[.bool uu] 144)).cell? ⟨wr.heap.size,0,none⟩=some (.string g.name):=((BA.ext ((Ext.refl _).alloc _)).cell 0).trans rfl
    have d1:((wr.alloc (.cells #[.string g.name,.int .i64 g.size] 97)).alloc (.cells #[.bool uu] 144)).cell? ⟨wr.heap.size,1,none⟩=some (.int .i64 g.size):=((BA.ext ((Ext.refl _).alloc _)).cell 1).trans rfl
    clear hM hgl hal hdu hX HJ hg hcs hgn hsm htk huu hin HSt BA Xa Xc r6 hM6 hT6 helG
    go_wp2
    go_roundw
    case rel=>exact ⟨k+1,by omega,by go_num,HJ2.out⟩
    case measure=>simp [intOf];omega
  ·have hlg:(gNames t).length=nG:=by unfold gNames;rw [List.length_map];exact HlG.out
   have htg:t.globals.take k=t.globals:=List.take_of_length_le (by rw [HlG.out];omega)
   rw [htg] at hgl
   have Hgm:Hid (GM t gm):=hgl
   have Hal:=Lib.hid hal
   have HN0:Hid (dupAt [] (gNames t) 0=none):=by
    show _=_
    rw [hdu,List.drop_eq_nil_of_le (by omega)];rfl
   have HJ0:Hid (AtFn t G 0 gm w wr):=⟨hM,by rw [List.take_zero,List.append_nil];rfl,hX⟩
   have hin0:∀ s,(assoc gm s).isSome=decide (s∈gNames t):=fun s=>by
    have:=gmapL_some (l:=t.globals) HGz.out s
    rw [hgl];exact this
   have Hin0:=Lib.hid hin0
   have e1:=hX.cell uc1
   clear hM hgl hal hdu hX HJ hlg htg hin0 helG
   go_wp2
   go_loopw [51] (fun j wr=>∃ k:Nat,k≤nS∧j=.int .i64 k∧Hid (AtFn t G k gm w wr)) (fun j _=>nS - (intOf j).toNat)
   case atStart=>exact ⟨0,Nat.zero_le _,rfl,HJ0.out⟩
   case round =>
    clear HJ0 e1 hlt hk
    obtain ⟨k,hk,rfl,HJ⟩:=hrel
    obtain ⟨hM,hdu,hX⟩:=HJ.out
    by_cases hlt:k<nS
    ·obtain ⟨bF,oF,rfl,_,helF⟩:=helF (by omega)
     obtain ⟨g,cs,hg,_,hC,hcs⟩:=helF k hlt
     obtain ⟨vP,vB,rfl,sP,sB,hgs⟩:=hC
     obtain ⟨aP,nP,cP,rfl⟩:=sP.shape
     obtain ⟨aB,nB,cB,rfl⟩:=sB.shape
     have c0:=hX.cell (hcs.z rfl)
     have c1:=hX.cell (hcs 1 _ rfl)
     have c2:=hX.cell (hcs 2 _ rfl)
     have hgn:(fNames t)[k]? = some g.name:=by unfold fNames;rw [List.getElem?_map,hg];rfl
     have HSt:=Lib.hid (dupAt_step (seen:=gNames t ++ (fNames t).take k) hgn)
     have hsm:=Hin0.out g.name
     have hfl:=find_lt hg
     have hfr:=findF_range t g.name
     obtain ⟨uu,huu⟩:∃ uu,(assoc gm g.name).getD (.agg #[.bool false])=.agg #[.bool uu]:=by
      cases h:assoc gm g.name with
      | none=>exact ⟨false,rfl⟩
      | some u =>
        obtain ⟨b',hb'⟩:=Hal.out.allV g.name u h
        exact ⟨b',hb'⟩
     have Xa:Ext wr (wr.alloc (.cells #[.string g.name,.slice aP nP cP,.slice aB nB cB] 83)):=(Ext.refl wr).alloc _
     have BA:=Blk.alloc wr 83 #[.string g.name,.slice aP nP cP,.slice aB nB cB]
     have hlk:(Instr.lookup 142 (.map (some G)) (.string g.name) true).run Tryz.prog (wr.alloc (.cells #[.string g.name,.slice aP nP cP,.slice aB nB cB] 83))=.ok (.tuple #[.agg #[.bool uu],.bool (decide (g.name∈gNames t))]) (wr.alloc (.cells #[.string g.name,.slice aP nP cP,.slice aB nB cB] 83)):=by
      have h:=run_look (kk:=strKey) (hM.ext Xa) Tryz.underlying142 Tryz.underlying9 (zero_var _) g.name
      rw [huu,hsm] at h
      exact h
     obtain ⟨wc,hwc⟩:∃ wc,wc=(wr.alloc (.cells #[.string g.name,.slice aP nP cP,.slice aB nB cB] 83)).alloc (.cells #[.bool uu] 144):=⟨_,rfl⟩
     have Xc:Ext wr wc:=by rw [hwc];exact Xa.alloc _
     have d0:wc.cell? ⟨wr.heap.size,0,none⟩=some (.string g.name):=by rw [hwc];exact ((BA.ext ((Ext.refl _).alloc _)).cell 0).trans rfl
     have d1:=(hX.trans Xc).cell uc0
     have d2:=(hX.trans Xc).cell uc1
     have z0:(0:Int)≤(k:Int):=by omega
     have z1:(k:Int)<(nS:Int):=by omega
     have HXc:=Lib.hid (hX.trans Xc)
     have HMc:=Lib.hid (hM.ext Xc)
     have Hdu:=Lib.hid hdu
     have Hwc:=Lib.hid hwc
     have HXwc:=Lib.hid Xc
     by_cases hin:g.name∈gNames t
     ·rw [decide_eq_true hin] at hlk
      have HRr:Hid (R=(2,(k:Int),-1)):=by
       show _=_
       rw [HR.out]
       exact names_f (i:=k) HN0.out (by rw [hdu,HSt.out,if_pos (List.mem_append_left _ hin)])
      clear hM hdu hX HJ hg hcs hgn hsm hfl hfr huu hin HSt BA Xa Xc helF sP sB hwc hgs
      go_wp2_with fail
      try rw [← Hwc.out]
      go_quiet (fail)
      go_wp2_with fail
      refine (i_wrongAt _ _ _ _).mono ?_
      rintro e w8 ⟨rfl,rfl⟩
      go_wp2
      go_ret
      exact ⟨by rw [HRr.out];exact ErrOf.bad (by decide),HXc.out.trans (drewN_ext wc _)⟩
     ·rw [decide_eq_false hin] at hlk
      have HFc:=Lib.hid (HFN.out g.name wc.drew (HXc.out.drew))
      obtain ⟨u,hu⟩:∃ u,u=findF t g.name:=⟨_,rfl⟩
      rw [← hu] at HFc hfl
      clear hM hdu hX HJ hcs hsm hfr huu BA Xa Xc helF sP sB hwc hgs hu
      by_cases hul:u<(k:Int)
      ·have HRr:Hid (R=(2,(k:Int),-1)):=by
        show _=_
        rw [HR.out]
        exact names_f (i:=k) HN0.out (by rw [Hdu.out,HSt.out,if_pos (List.mem_append_right _ (hfl.1 hul))])
       clear hg hgn hfl hin HSt
       go_wp2_with fail
       try rw [← Hwc.out]
       go_region_held3 (fun w'=>w'.cell? ⟨wr.heap.size,0,none⟩=some (.string g.name)∧w'.cell? ⟨b,0,none⟩=some (.slice aG nG cG)∧w'.cell? ⟨b,1,none⟩=some (.slice (some ⟨bF,oF,none⟩) nS cF))
        (first | go_keep | (refine ⟨hX3.cell ?_,hX3.cell ?_,hX3.cell ?_⟩<;>simp [*]))
        (first | (go_at_call 74;(refine HFc.out.mono ?_);rintro e3 w3 ⟨rfl,hX3⟩))
       have HX3:=Lib.hid (((Ext.refl wc).drew).trans hX3)
       clear hX3 d0 d1 d2
       go_wp2_with fail
       refine (i_wrongAt _ _ _ _).mono ?_
       rintro e w8 ⟨rfl,rfl⟩
       go_wp2
       go_ret
       exact ⟨by rw [HRr.out];exact ErrOf.bad (by decide),HXc.out.trans HX3.out⟩
      ·have Hdu2:Hid (dupAt (gNames t) (fNames t) 0=dupAt (gNames t ++ (fNames t).take (k+1)) ((fNames t).drop (k+1)) (k+1)):=by
        show _=_
        rw [Hdu.out,HSt.out,if_neg (fun h=>(List.mem_append.1 h).elim hin (fun h=>hul (hfl.2 h))),List.append_assoc,← take_snoc hgn]
       clear hg hgn hfl hin HSt
       go_wp2_with fail
       try rw [← Hwc.out]
       go_region_held3 (fun w'=>w'.cell? ⟨wr.heap.size,0,none⟩=some (.string g.name)∧w'.cell? ⟨b,0,none⟩=some (.slice aG nG cG)∧w'.cell? ⟨b,1,none⟩=some (.slice (some ⟨bF,oF,none⟩) nS cF))
        (first | go_keep | (refine ⟨hX3.cell ?_,hX3.cell ?_,hX3.cell ?_⟩<;>simp [*]))
        (first | (go_at_call 74;(refine HFc.out.mono ?_);rintro e3 w3 ⟨rfl,hX3⟩))
       have HX3:=Lib.hid (((Ext.refl wc).drew).trans hX3)
       clear hX3 d0 d1 d2
       have HJ2:Hid (AtFn t G (k+1) gm w w3):=⟨HMc.out.ext HX3.out,Hdu2.out,HXc.out.trans HX3.out⟩
       go_wp2
       go_roundw
       case rel=>exact ⟨k+1,by omega,by go_num,HJ2.out⟩
       case measure=>simp [intOf];omega
    ·have hlf:(fNames t).length=nS:=by unfold fNames;rw [List.length_map];exact HlF.out
     have HN1:Hid (dupAt (gNames t) (fNames t) 0=none):=by
      show _=_
      rw [hdu,List.drop_eq_nil_of_le (by omega)];rfl
     have HFm:=Lib.hid (HFN.out mainB wr hX)
     have hr:=findF_range t mainB
     have HRm:Hid (findF t mainB<0∨0<arityF t (findF t mainB)→R=(3,-1,-1)):=fun h=>by
      rw [HR.out];exact names_m HN0.out HN1.out h
     have HRk:Hid (¬ (findF t mainB<0∨0<arityF t (findF t mainB))→R=tailR t fs 0):=fun h=>by
      rw [HR.out];exact names_k HN0.out HN1.out h
     have HRe:Hid (∀ k,fs.length≤k→tailR t fs k=recR t (findF t mainB) 0):=fun k h=>tailR_end h
     have HM:=Lib.hid hM
     have HX:=Lib.hid hX
     have d1:=hX.cell uc0
     have d2:=hX.cell uc1
     clear hM hdu hX HJ hlf
     obtain ⟨u,hu⟩:∃ u,u=findF t mainB:=⟨_,rfl⟩
     rw [← hu] at HFm hr HRm HRk HRe
     clear hu
     unfold arityF at HRm HRk
     go_wp2_with fail
     refine HFm.out.mono ?_
     rintro e w3 ⟨rfl,hX3⟩
     have HX3:=Lib.hid (HX.out.trans hX3)
     have HM3:=Lib.hid (HM.out.ext hX3)
     have d2:=HX3.out.cell uc1
     have d3:=HX3.out.cell uc2
     clear hX3 d1 HFm
     rcases hr with rfl | ⟨hu0,hu1,fm,hfm,_⟩
     ·have HR3:Hid (R=(3,-1,-1)):=HRm.out (.inl (by omega))
      clear d3
      go_wp2_with fail
      refine (i_wrongAt _ _ _ _).mono ?_
      rintro e w8 ⟨rfl,rfl⟩
      go_wp2
      go_ret
      exact ⟨by rw [HR3.out];exact ErrOf.bad (by decide),HX3.out⟩
     ·obtain ⟨m,rfl⟩:∃ m:Nat,u=m:=⟨u.toNat,by omega⟩
      have hmF:m<nS:=by have:=HlF.out;omega
      obtain ⟨bF,oF,rfl,_,hel⟩:=helF (by omega)
      obtain ⟨g,cs,hg,_,hC,hcs⟩:=hel m hmF
      obtain ⟨vP,vB,rfl,sP,_⟩:=hC
      obtain ⟨aP,nP,cP,rfl⟩:=sP.shape
      have hlP:=sl_len sP
      have c1:=HX3.out.cell (hcs 1 _ rfl)
      rw [Int.toNat_natCast,hg] at HRm HRk
      simp only [hlP] at HRm HRk
      have g0:¬ ((m:Int)<0):=by omega
      have g1:(0:Int)≤(m:Int):=by omega
      have g2:(m:Int)<(nS:Int):=by omega
      clear hel hcs hg hfm sP hlP hu0 hu1 helF
      by_cases hp:(0:Int)<(nP:Int)
      ·have HR3:Hid (R=(3,-1,-1)):=HRm.out (.inr (by omega))
       clear d3
       go_wp2_with fail
       refine (i_wrongAt _ _ _ _).mono ?_
       rintro e w8 ⟨rfl,rfl⟩
       go_wp2
       go_ret
       exact ⟨by rw [HR3.out];exact ErrOf.bad (by decide),HX3.out⟩
      ·have HJ0:Hid (AtBd t fs G 0 gm R w w3):=⟨HM3.out,HRk.out (by omega),HX3.out⟩
       obtain rfl:nP=0:=by omega
       clear HRm HRk HM3 HX3 hp
       go_wp2
       clear c1 d2 d3
       go_loopw [104] (fun j wr=>∃ k:Nat,k≤nS∧j=.int .i64 k∧Hid (AtBd t fs G k gm R w wr)) (fun j _=>nS - (intOf j).toNat)
       case atStart=>exact ⟨0,Nat.zero_le _,rfl,HJ0.out⟩
       case round =>
        clear HJ0 hlt hk
        obtain ⟨k,hk,rfl,HJ⟩:=hrel
        obtain ⟨hM,hRk,hX⟩:=HJ.out
        by_cases hlt:k<nS
        ·obtain ⟨x,hx⟩:∃ x,fs[k]? = some x:=⟨fs[k]'(by have:=HlS.out;omega),List.getElem?_eq_getElem _⟩
         obtain ⟨x,sts⟩:=x
         have HCk:=Lib.hid (HCF.out k x sts G gm wr hX hx hM (by rw [HGe.out];exact Nat.le_refl _) Hgm.out Hal.out)
         have HRb:Hid ((bodyR t k x sts).1≠0→R=bodyR t k x sts):=fun h=>by rw [hRk];exact tailR_bad hx h
         have HRo:Hid ((bodyR t k x sts).1=0→R=tailR t fs (k+1)):=fun h=>by rw [hRk];exact tailR_ok hx h
         have HX:=Lib.hid hX
         have z0:(0:Int)≤(k:Int):=by omega
         have z1:(k:Int)<(nS:Int):=by omega
         obtain ⟨rr,hrr⟩:∃ rr,rr=bodyR t k x sts:=⟨_,rfl⟩
         rw [← hrr] at HCk HRb HRo
         obtain ⟨ra,rb,rc⟩:=rr
         simp only at HRb HRo
         clear hM hRk hX HJ hx hrr
         go_wp2_with fail
         refine HCk.out.mono ?_
         rintro e w5 ⟨he,hB5,hM5⟩
         have HX5:Hid (Ext w w5):=HX.out.trans' hB5
         have HM5:Hid (ra=0→MapAt strKey w5 G gm):=hM5
         clear hB5 hM5
         rcases he with ⟨h0,rfl⟩ | ⟨h0,rfl⟩
         ·have HJ2:Hid (AtBd t fs G (k+1) gm R w w5):=⟨HM5.out h0,HRo.out h0,HX5.out⟩
          clear h0
          go_wp2
          go_roundw
          case rel=>exact ⟨k+1,by omega,by go_num,HJ2.out⟩
          case measure=>simp [intOf];omega
         ·have HRr:=Lib.hid (HRb.out h0)
          have H0:=Lib.hid h0
          clear h0
          simp only
          go_wp2
          go_ret
          exact ⟨by rw [HRr.out];exact ErrOf.bad H0.out,HX5.out⟩
        ·have HRr:Hid (R=recR t (m:Int) 0):=by
          show _=_
          rw [hRk,HRe.out k (by rw [HlS.out];omega)]
         have HRm:=Lib.hid (HRc.out (m:Int) wr hX ⟨g1,g2⟩)
         have HX:=Lib.hid hX
         have g3:¬ ((k:Int)<(nS:Int)):=by omega
         clear hM hRk hX HJ HRe
         go_wp2_with fail
         refine HRm.out.mono ?_
         rintro e w4 ⟨M,lm,met,rfl,hM4,hge,hmm4,hmet,hX4⟩
         obtain ⟨w5,r5,hM5,hT5⟩:=run_upd (kk:=intKey) (P:=Tryz.prog) hM4 Tryz.underlying148 Tryz.underlying3 (m:Int) (.bool true)
         have hX5:Ext w w5:=hT5.ext (HX.out.trans hX4) (Nat.le_trans HX.out.size hge)
         have hmm5:=hmm4.add (m:Int)
         have r5':(Instr.mapUpdate 148 (.map (some M)) (.int .i64 (m:Int)) (.bool true)).run Tryz.prog w4=.ok () w5:=r5
         have d3:=hX5.cell uc2
         have HJ0:Hid (AtRc t (m:Int) M 0 (updA lm (m:Int) (.bool true)) R w w5):=⟨hM5,HRr.out,hX5⟩
         have Hmm:=Lib.hid hmm5
         have Hmt:Hid (∀ x,x∈met ++ [(m:Int)]↔Rch t [(m:Int)] x∨x=(m:Int)):=fun x=>by
          rw [List.mem_append,List.mem_singleton,hmet]
         clear hM4 hge hmm4 hmet hX4 r5 hM5 hT5 hX5 hmm5 HRr HRm
         go_wp2
         clear d3
         go_loopw [125] (fun j wr=>∃ k:Nat,k≤nS∧j=.int .i64 k∧Hid (AtRc t (m:Int) M k (updA lm (m:Int) (.bool true)) R w wr)) (fun j _=>nS - (intOf j).toNat)
         case atStart=>exact ⟨0,Nat.zero_le _,rfl,HJ0.out⟩
         case round =>
          clear HJ0 hlt hk g3
          obtain ⟨k,hk,rfl,HJ⟩:=hrel
          obtain ⟨hM,hRk,hX⟩:=HJ.out
          by_cases hlt:k<nS
          ·have hkl:k<t.funcs.length:=by have:=HlF.out;omega
           have hlk:(Instr.lookup 148 (.map (some M)) (.int .i64 (k:Int)) false).run Tryz.prog wr=.ok (if (k:Int)∈met ++ [(m:Int)] then .bool true else .bool false) wr:=by
            have h:=run_look1 (kk:=intKey) hM Tryz.underlying148 Tryz.underlying3 (zero_bool wr) (k:Int)
            rw [Hmm.out (k:Int)] at h
            by_cases hkm:(k:Int)∈met ++ [(m:Int)]
            ·rw [if_pos hkm] at h ⊢;exact h
            ·rw [if_neg hkm] at h ⊢;exact h
           have z0:(0:Int)≤(k:Int):=by omega
           have z1:(k:Int)<(nS:Int):=by omega
           by_cases hkm:(k:Int)∈met ++ [(m:Int)]
           ·rw [if_pos hkm] at hlk
            have HRq:=Lib.hid (HRc.out (k:Int) wr hX ⟨z0,z1⟩)
            have HX:=Lib.hid hX
            have HM:=Lib.hid hM
            have HRy:Hid (Rch t [(k:Int)] (k:Int)→R=(7,(k:Int),-1)):=fun h=>by rw [hRk];exact recR_yes hkl ⟨(Hmt.out _).1 hkm,h⟩
            have HRn:Hid (¬ Rch t [(k:Int)] (k:Int)→R=recR t (m:Int) (k+1)):=fun h=>by rw [hRk];exact recR_no hkl (fun h2=>h h2.2)
            clear hM hRk hX HJ hkl hkm
            go_wp2_with fail
            refine HRq.out.mono ?_
            rintro e w6 ⟨M2,lm2,met2,rfl,hM6,_,hmm6,hmet6,hX6⟩
            have hlk6:(Instr.lookup 148 (.map (some M2)) (.int .i64 (k:Int)) false).run Tryz.prog w6=.ok (if (k:Int)∈met2 then .bool true else .bool false) w6:=by
             have h:=run_look1 (kk:=intKey) hM6 Tryz.underlying148 Tryz.underlying3 (zero_bool w6) (k:Int)
             rw [hmm6 (k:Int)] at h
             by_cases hkm:(k:Int)∈met2
             ·rw [if_pos hkm] at h ⊢;exact h
             ·rw [if_neg hkm] at h ⊢;exact h
            by_cases hk2:(k:Int)∈met2
            ·rw [if_pos hk2] at hlk6
             have HRr:=Lib.hid (HRy.out ((hmet6 _).1 hk2))
             have HX6:=Lib.hid (HX.out.trans hX6)
             clear hM6 hmm6 hmet6 hX6 hk2 hlk
             go_wp2_with fail
             refine (i_wrongAt _ _ _ _).mono ?_
             rintro e w8 ⟨rfl,rfl⟩
             go_wp2
             go_ret
             exact ⟨by rw [HRr.out];exact ErrOf.bad (by decide),HX6.out⟩
            ·rw [if_neg hk2] at hlk6
             have HJ2:Hid (AtRc t (m:Int) M (k+1) (updA lm (m:Int) (.bool true)) R w w6):=⟨HM.out.ext hX6,HRn.out (fun h=>hk2 ((hmet6 _).2 h)),HX.out.trans hX6⟩
             clear hM6 hmm6 hmet6 hX6 hk2 hlk
             go_wp2
             go_roundw
             case rel=>exact ⟨k+1,by omega,by go_num,HJ2.out⟩
             case measure=>simp [intOf];omega
           ·rw [if_neg hkm] at hlk
            have HJ2:Hid (AtRc t (m:Int) M (k+1) (updA lm (m:Int) (.bool true)) R w wr):=⟨hM,by rw [hRk];exact recR_no hkl (fun h2=>hkm ((Hmt.out _).2 h2.1)),hX⟩
            clear hM hRk hX HJ hkl hkm
            go_wp2
            go_roundw
            case rel=>exact ⟨k+1,by omega,by go_num,HJ2.out⟩
            case measure=>simp [intOf];omega
          ·have HRr:Hid (R=(0,-1,-1)):=by
            show _=_
            rw [hRk,recR_end (by rw [HlF.out];omega)]
           have HX:=Lib.hid hX
           clear hM hRk hX HJ
           go_wp2
           go_ret
           exact ⟨by rw [HRr.out];exact ErrOf.ok,HX.out⟩
end Go.Proofs.YtcfggjmdcaoecaaGreatDoor
