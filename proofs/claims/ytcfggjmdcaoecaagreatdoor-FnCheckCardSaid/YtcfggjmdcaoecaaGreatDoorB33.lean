/- A part of the proofs of FnBound and FnCheck: the lemmas and walks GenS. -/
import Derived.Test.YtcfggjmdcaoecaaGreatDoorB32
import Derived.Test.YtcfggjmdcaoecaaGreatDoorB02
set_option linter.unusedVariables false
set_option linter.unusedSimpArgs false
namespace Go.Proofs.YtcfggjmdcaoecaaGreatDoor
open Go Go.RowKit Md Go.Proofs.YtcfggjmdcaoecaaGreatDoorW.PrintLast
set_option maxRecDepth 1000000 in
set_option maxHeartbeats 0 in
theorem d_l2SpoilTree:SpoilOk:=by
 intro c w K vG vF gs l h hK hT
 have HBw:Hid (∀ n w',1≤n∧n≤9223372036854775807→CurAt w' c→Calls Tryz.prog 53 #[.pointer (some ⟨c,0,none⟩),.int .i64 n] w' (Rolls c 0 n w')):=fun n w' hn hR=>d_l1Below c n w' hR hn
 have hcl:=h.lt
 obtain ⟨aG,nG,cG,rfl⟩:=hT.g.shape
 obtain ⟨aF,nF,cF,rfl⟩:=hT.f.shape
 have BP:=Blk.alloc w 32 #[.slice aG nG cG,.slice aF nF cF]
 have X1:Ext w (w.alloc (.cells #[.slice aG nG cG,.slice aF nF cF] 32)):=(Ext.refl w).alloc _
 have s1:(w.alloc (.cells #[.slice aG nG cG,.slice aF nF cF] 32)).heap.size=w.heap.size+1:=by simp
 generalize hw1:w.alloc (.cells #[.slice aG nG cG,.slice aF nF cF] 32)=w1 at BP X1 s1
 have BR:=Blk.alloc w1 32 #[.slice none 0 0,.slice none 0 0]
 have X2:Ext w1 (w1.alloc (.cells #[.slice none 0 0,.slice none 0 0] 32)):=(Ext.refl w1).alloc _
 have s2:(w1.alloc (.cells #[.slice none 0 0,.slice none 0 0] 32)).heap.size=w1.heap.size+1:=by simp
 generalize hw2:w1.alloc (.cells #[.slice none 0 0,.slice none 0 0] 32)=w2 at BR X2 s2
 have p0:w2.cell? ⟨w.heap.size,0,none⟩=some (.slice aG nG cG):=((BP.ext X2).cell 0).trans rfl
 have p1:w2.cell? ⟨w.heap.size,1,none⟩=some (.slice aF nF cF):=((BP.ext X2).cell 1).trans rfl
 have HX2:Hid (Ext w w2):=X1.trans X2
 have HBR:=Lib.hid BR
 have HT:=Lib.hid hT
 have HC:=Lib.hid h
 have HK:=Lib.hid hK
 have hs2:w2.heap.size=w.heap.size+2:=by omega
 have hs1:w1.heap.size=w.heap.size+1:=s1
 have Hs1:=Lib.hid hs1
 have Hs2:=Lib.hid hs2
 clear BP X1 BR X2 s1 s2 hT h hK hs1 hs2
 go_enter Tryz.func54,Tryz.ntmps54
 go_wp2_with fail
 clear hw1 hw2
 refine start_ (n:=11) (S:=(fun w'=>w'.cell? ⟨w.heap.size,0,none⟩=some (.slice aG nG cG)∧w'.cell? ⟨w.heap.size,1,none⟩=some (.slice aF nF cF))) (ds:=[10]) #[false,false,false,false,false,false,false,false,false,false,false] (by kernel_rfl) rfl rfl ?hS (fun hHeld=>?_)
 case hS=>exact ⟨Ext.cell ((Ext.refl w2).drew) p0,Ext.cell ((Ext.refl w2).drew) p1⟩
 refine pu_ 1 (some 12) #[false,true,false,false,false,false,false,false,false,false,false] rfl rfl (by kernel_rfl) (fun _ _ _ h=>h) (by rfl) (by intro w';go_simp;with_reducible rfl) (by simp only [pt_];rfl) ?_
 refine ta_ 2 (some 13) #[false,true,true,false,false,false,false,false,false,false,false] rfl rfl (by kernel_rfl) (fun _ _ _ h=>h) hHeld (by rfl) (by rintro w' ⟨s1,s2⟩;go_simp;with_reducible rfl) (by simp only [pt_];rfl) ?_
 refine pu_ 5 (some 16) #[false,true,true,false,false,true,false,false,false,false,false] rfl rfl (by kernel_rfl) (fun _ _ _ h=>h) (by rfl) (by intro w';go_simp;with_reducible rfl) (by simp only [pt_];rfl) ?_
 refine ta_ 6 (some 17) #[false,true,true,false,false,true,true,false,false,false,false] rfl rfl (by kernel_rfl) (fun _ _ _ h=>h) hHeld (by rfl) (by rintro w' ⟨s1,s2⟩;go_simp;with_reducible rfl) (by simp only [pt_];rfl) ?_
 generalize hwq:w2.drew=wq at hHeld ⊢
 have HXq:Hid (Ext w2 wq):=by rw [← hwq];exact (Ext.refl w2).drew
 clear hwq p0 p1
 refine dag_ [0,3,4,7,8,9] (fun i=>if i=3 then [0] else if i=7 then [3,4] else if i=8 then [3,7] else []) (fun o=>{ tmps:=#[.pointer (some ⟨c,0,none⟩),.agg #[.slice aG nG cG,.slice aF nF cF],undef,.pointer (some ⟨w.heap.size,0,none⟩),.pointer (some ⟨w1.heap.size,0,none⟩),(o 9).getD undef,undef,undef,undef,undef,undef,(o 0).getD undef,.pointer (some ⟨w.heap.size,0,none⟩),.slice aG nG cG,(o 3).getD undef,(o 4).getD undef,.pointer (some ⟨w.heap.size,1,none⟩),.slice aF nF cF,(o 7).getD undef,(o 8).getD undef,undef,undef,undef,undef,undef,undef,undef,undef,undef,undef,undef,undef,undef,undef,undef,undef,undef,undef,undef,undef,undef,undef,undef,undef,undef,undef,undef,undef,undef,undef,undef,undef,undef,undef,undef,undef,undef,undef,undef,undef,undef,undef,undef,undef,undef,undef,undef,undef,undef,undef,undef,undef,undef,undef,undef,undef,undef,undef,undef,undef,undef,undef,undef,undef,undef,undef,undef,undef,undef,undef,undef,undef,undef,undef,undef,undef,undef,undef,undef,undef,undef,undef,undef,undef,undef,undef,undef,undef,undef,undef,undef,undef,undef,undef,undef,undef,undef,undef,undef,undef,undef,undef,undef,undef,undef,undef,undef,undef,undef,undef,undef,undef,undef,undef,undef,undef,undef,undef,undef,undef,undef,undef,undef,undef,undef,undef,undef,undef,undef,undef,undef,undef,undef,undef,undef,undef,undef,undef,undef,undef,undef,undef,undef,undef,undef,undef,undef,undef,undef,undef,undef,undef,undef,undef,undef,undef,undef,undef,undef,undef,undef,undef,undef,undef,undef,undef,undef,undef,undef,undef,undef,undef,undef,undef,undef,undef,undef,undef,undef,undef,undef,undef,undef,undef,undef,undef,undef,undef,undef,undef,undef,undef,undef,undef,undef,undef,undef,undef,undef],defers:=[] }) (fun o=>#[(o 0).isSome,true,true,(o 3).isSome,(o 4).isSome,true,true,(o 7).isSome,(o 8).isSome,(o 9).isSome,false])
  (SpI gs l wq) 1 (by decide) (by decide) ?_ ?_ ?_ ?_ ?_ 6 (fun _=>none) wq rfl (fun _ _ h=>absurd rfl h) (SpI.start gs l wq) hHeld
 case refine_1 =>
  intro o hC hne
  have c1:o 3≠none→o 0≠none:=fun h=>hC 3 (by decide) h 0 (by decide)
  have c2:o 7≠none→o 3≠none:=fun h=>hC 7 (by decide) h 3 (by decide)
  have c3:o 7≠none→o 4≠none:=fun h=>hC 7 (by decide) h 4 (by decide)
  have c4:o 8≠none→o 7≠none:=fun h=>hC 8 (by decide) h 7 (by decide)
  clear hC
  revert hne c1 c2 c3 c4
  simp only [undone,List.filter]
  have e:readyV [0,3,4,7,8,9] (fun i=>if i=3 then [0] else if i=7 then [3,4] else if i=8 then [3,7] else []) o=readyV [0,3,4,7,8,9] (fun i=>if i=3 then [0] else if i=7 then [3,4] else if i=8 then [3,7] else []) (fun i=>if i=0 then o 0 else if i=3 then o 3 else if i=4 then o 4 else if i=7 then o 7 else if i=8 then o 8 else if i=9 then o 9 else none):=readyV_congr (fun i hi=>by
   simp only [List.mem_cons,List.not_mem_nil,or_false] at hi
   rcases hi with rfl | rfl | rfl | rfl | rfl | rfl<;>rfl) (by decide)
  rw [e]
  clear e
  generalize o 0=x0,o 3=x3,o 4=x4,o 7=x7,o 8=x8,o 9=x9
  cases x0<;>cases x3<;>cases x4<;>cases x7<;>cases x8<;>first
   | (intro _ c1 c2 c3 c4;exact absurd rfl (c1 (Option.some_ne_none _)))
   | (intro _ c1 c2 c3 c4;exact absurd rfl (c2 (Option.some_ne_none _)))
   | (intro _ c1 c2 c3 c4;exact absurd rfl (c3 (Option.some_ne_none _)))
   | (intro _ c1 c2 c3 c4;exact absurd rfl (c4 (Option.some_ne_none _)))
   | (cases x9<;>first | (intro hne;exact absurd rfl hne) | (intro _ _ _ _ _;exact ⟨by kernel_rfl,fun e=>Bool.noConfusion (show false=true from congrArg List.isEmpty e)⟩))
 case refine_2 =>
  intro o i v hi
  simp only [List.mem_cons,List.not_mem_nil,or_false] at hi
  rcases hi with rfl | rfl | rfl | rfl | rfl | rfl<;>simp [upd]
 case refine_3 =>
  intro i hi oi hoi o v
  simp only [List.mem_cons,List.not_mem_nil,or_false] at hi
  rcases hi with rfl | rfl | rfl | rfl | rfl | rfl<;>(obtain rfl:=Option.some.inj hoi;simp [Act.put,upd])
 case refine_4 =>
  intro i hi
  simp only [List.mem_cons,List.not_mem_nil,or_false] at hi
  rcases hi with rfl | rfl | rfl | rfl | rfl | rfl
  ·refine ⟨_,rfl,fun o wx ho hd hI hS K hK=>?_⟩
   have hX:Ext wx (wx.alloc (.cells #[] 97)):=(Ext.refl wx).alloc _
   refine value_ (N:=some 11) (w1:=wx.alloc (.cells #[] 97)) (v:=.slice (some ⟨wx.heap.size,0,none⟩) 0 0) (by rfl) rfl ?_ (hK _ _ ⟨Ext.cell hX hS.1,Ext.cell hX hS.2⟩ (hI.s0 hX (OwnG.new wx _ hI.ext.size)))
   go_simp
   first | done | rfl | (constructor<;>rfl)
  ·refine ⟨_,rfl,fun o wx ho hd hI hS K hK=>?_⟩
   obtain ⟨v0,h0⟩:=Option.ne_none_iff_exists'.1 (hd 0 (by decide))
   have O0:=hI.m0 v0 h0 ho
   have hXw:Ext w wx:=HX2.out.trans (HXq.out.trans hI.ext)
   obtain ⟨v',w',r1,O1,g1,_⟩:=O0.app (ty:=29) (HT.out.g.ext hXw (fun _ _ h=>h.any)) (by have:=HT.out.lg;simp;omega) hI.ext.size
   have hX:Ext wq w':=Below.grown hI.ext g1 hI.ext.size (fun k hk=>(own_ge O0.own k hk).1)
   have e:=r1
   rw [show v0=(o 0).getD undef by rw [h0];rfl] at e
   refine value_ (N:=some 14) (w1:=w') (v:=v') (by rfl) rfl (exec_append rfl e) (hK _ _ ⟨Ext.cell hX hHeld.1,Ext.cell hX hHeld.2⟩ (hI.s3 ho O0 O1 g1))
  ·refine ⟨_,rfl,fun o wx ho hd hI hS K hK=>?_⟩
   have hX:Ext wx (wx.alloc (.cells #[] 83)):=(Ext.refl wx).alloc _
   refine value_ (N:=some 15) (w1:=wx.alloc (.cells #[] 83)) (v:=.slice (some ⟨wx.heap.size,0,none⟩) 0 0) (by rfl) rfl ?_ (hK _ _ ⟨Ext.cell hX hS.1,Ext.cell hX hS.2⟩ (hI.s4 hX (own_new wx _ _ 3 hI.ext.size)))
   go_simp
   first | done | rfl | (constructor<;>rfl)
  ·refine ⟨_,rfl,fun o wx ho hd hI hS K hK=>?_⟩
   obtain ⟨v0,h0⟩:=Option.ne_none_iff_exists'.1 (hd 4 (by decide))
   have O0:=hI.m4 v0 h0 ho
   have hXw:Ext w wx:=HX2.out.trans (HXq.out.trans hI.ext)
   obtain ⟨v',w',r1,O1,g1⟩:=copy_funcs (ty:=30) O0 (HT.out.f.ext hXw (fun _ _ h=>h)) (by have:=HT.out.lf;omega) hI.ext.size
   have hX:Ext wq w':=Below.grown hI.ext g1 hI.ext.size (fun k hk=>(own_ge O0 k hk).1)
   have e:=r1
   rw [show v0=(o 4).getD undef by rw [h0];rfl] at e
   refine value_ (N:=some 18) (w1:=w') (v:=v') (by rfl) rfl (exec_append rfl e) (hK _ _ ⟨Ext.cell hX hHeld.1,Ext.cell hX hHeld.2⟩ (hI.s7 ho O0 O1 g1))
  ·refine ⟨_,rfl,fun o wx ho hd hI hS K hK=>?_⟩
   obtain ⟨v3,h3⟩:=Option.ne_none_iff_exists'.1 (hd 3 (by decide))
   obtain ⟨v7,h7⟩:=Option.ne_none_iff_exists'.1 (hd 7 (by decide))
   obtain ⟨a3,k3,rfl,_,_⟩:=own_form (hI.m3 _ h3).own
   obtain ⟨a7,k7,rfl,_,_⟩:=own_form (hI.m7 _ h7)
   refine value_ (N:=some 19) (w1:=wx) (v:=.agg #[.slice a3 gs.length k3,.slice a7 l.length k7]) (by rfl) rfl ?_ (hK _ _ hS (hI.s8 h3 h7))
   simp only [h3,h7,Option.getD_some]
   go_simp
   first | done | rfl | (constructor<;>rfl)
  ·refine ⟨_,rfl,fun o wx ho hd hI hS K hK=>?_⟩
   have hX:Ext wx (wx.alloc (.cells #[.slice none 0 0,.slice none 0 0] 32)):=(Ext.refl wx).alloc _
   refine value_ (N:=some 5) (w1:=wx.alloc (.cells #[.slice none 0 0,.slice none 0 0] 32)) (v:=.pointer (some ⟨wx.heap.size,0,none⟩)) (by rfl) rfl ?_ (hK _ _ ⟨Ext.cell hX hS.1,Ext.cell hX hS.2⟩ (hI.s9 hX hI.ext.size (Blk.alloc _ _ _)))
   go_simp
   first | done | rfl | (constructor<;>rfl)
 case refine_5 =>
  intro o wx hall hI hS
  obtain ⟨v0,h0⟩:=Option.ne_none_iff_exists'.1 (hall 0 (by decide))
  obtain ⟨v3,h3⟩:=Option.ne_none_iff_exists'.1 (hall 3 (by decide))
  obtain ⟨v4,h4⟩:=Option.ne_none_iff_exists'.1 (hall 4 (by decide))
  obtain ⟨v7,h7⟩:=Option.ne_none_iff_exists'.1 (hall 7 (by decide))
  obtain ⟨v8,h8⟩:=Option.ne_none_iff_exists'.1 (hall 8 (by decide))
  obtain ⟨v9,h9⟩:=Option.ne_none_iff_exists'.1 (hall 9 (by decide))
  obtain ⟨u3,u7,e3,e7,rfl⟩:=hI.m8 v8 h8
  obtain rfl:=Option.some.inj (h3.symm.trans e3)
  obtain rfl:=Option.some.inj (h7.symm.trans e7)
  obtain ⟨O,rfl,hO,BO⟩:=hI.m9 v9 h9
  have OG:=hI.m3 _ h3
  have OF:=hI.m7 _ h7
  simp only [h0,h3,h4,h7,h8,h9,Option.getD_some,Option.isSome_some]
  clear e3 e7 hall
  have lg1:=HT.out.lg
  have lf1:=HT.out.lf
  obtain ⟨G,cG1,rfl,hG1,hG2,hG3,hG4⟩:=rw_form OG.own (by omega)
  obtain ⟨F,cF1,rfl,hF1,hF2,hF3,hF4⟩:=rw_form OF (by omega)
  have nGF:¬ G=F:=fun e=>own_ne_own OG.own OF (by decide) G rfl (by rw [e];rfl)
  have nGO:¬ G=O:=fun e=>own_ne_blk OG.own BO (by decide) (by rw [e];rfl)
  have nFO:¬ F=O:=fun e=>own_ne_blk OF BO (by decide) (by rw [e];rfl)
  have hOl:=BO.lt
  have hXw:Ext w wx:=HX2.out.trans (HXq.out.trans hI.ext)
  have hXq:=HXq.out.size
  have hqs:=hI.ext.size
  have HR:=Lib.hid (HBR.out.ext (HXq.out.trans hI.ext))
  have HOG:=Lib.hid OG
  have HOF:=Lib.hid OF
  have HBO:=Lib.hid BO
  have HXw:=Lib.hid hXw
  clear hI h0 h3 h4 h7 h8 h9 OG OF hXw HBR
  have z0:wx.cell? ⟨O,0,none⟩=some (.slice none 0 0):=(BO.cell 0).trans rfl
  have z1:wx.cell? ⟨O,1,none⟩=some (.slice none 0 0):=(BO.cell 1).trans rfl
  have f0:wx.frozen? ⟨O,0,none⟩=false:=BO.frozen 0
  have f1:wx.frozen? ⟨O,1,none⟩=false:=BO.frozen 1
  clear BO o
  clear hS hHeld
  refine last_ (i:=10) (N:=none) #[true,true,true,true,true,true,true,true,true,true,true] rfl rfl (by kernel_rfl) (by decide) (fun K hK=>?_)
  go_simp
  refine hK.out _ _ ?_
  clear hK K z0 z1 f0 f1
  refine done_ (by kernel_rfl) ?_
  have BO1:Blk ((wx.setCell ⟨O,0,none⟩ (.slice (some ⟨G,0,none⟩) gs.length cG1)).setCell ⟨O,1,none⟩ (.slice (some ⟨F,0,none⟩) l.length cF1)) O 32 #[.slice (some ⟨G,0,none⟩) gs.length cG1,.slice (some ⟨F,0,none⟩) l.length cF1]:=(HBO.out.set 0 _).set 1 _
  have T1:Tf (Is O) wx ((wx.setCell ⟨O,0,none⟩ (.slice (some ⟨G,0,none⟩) gs.length cG1)).setCell ⟨O,1,none⟩ (.slice (some ⟨F,0,none⟩) l.length cF1)):=(set_tf wx O 0 _).trans (set_tf _ O 1 _)
  have X1:Ext w ((wx.setCell ⟨O,0,none⟩ (.slice (some ⟨G,0,none⟩) gs.length cG1)).setCell ⟨O,1,none⟩ (.slice (some ⟨F,0,none⟩) l.length cF1)):=Below.setCell (p:=⟨O,1,none⟩) (Below.setCell (p:=⟨O,0,none⟩) HXw.out (show w.heap.size≤O by have:=Hs2.out;omega) _) (show w.heap.size≤O by have:=Hs2.out;omega) _
  have s1:=T1.size
  generalize hy:(wx.setCell ⟨O,0,none⟩ (.slice (some ⟨G,0,none⟩) gs.length cG1)).setCell ⟨O,1,none⟩ (.slice (some ⟨F,0,none⟩) l.length cF1)=wy at BO1 T1 X1 s1
  have nRO:¬ w1.heap.size=O:=by have:=Hs1.out;have:=Hs2.out;omega
  have HR1:=Lib.hid (HR.out.tf T1 nRO)
  have HG1:Hid (OwnG w.heap.size wy (.slice (some ⟨G,0,none⟩) gs.length cG1) gs):=⟨own_base (own_tf HOG.out.own T1 (fun b hb e=>nGO (by cases hb;exact e))) (by have:=Hs2.out;omega),HOG.out.ok⟩
  have hK0:∀ x∈l,FOkN 6000 (fun b=>(K b∧b<w.heap.size)∧some b≠some F) wy x:=fun x hx=>((HT.out.ok x hx).bound.keep (X1.keep _) (fun b hb=>⟨hb,fun e=>by cases e;have:=Hs2.out;omega⟩)).more (by omega)
  have HF1:Hid (OwnFK 6000 (fun b=>K b∧b<w.heap.size) w.heap.size wy (.slice (some ⟨F,0,none⟩) l.length cF1) l):=⟨own_base (own_tf HOF.out T1 (fun b hb e=>nFO (by cases hb;exact e))) (by have:=Hs2.out;omega),hK0⟩
  have HBO1:=Lib.hid BO1
  have HC1:Hid (Roll c w wy):=(Roll.refl HC.out).ext X1
  have o1:wy.cell? ⟨O,1,none⟩=some (.slice (some ⟨F,0,none⟩) l.length cF1):=(BO1.cell 1).trans rfl
  have hO2:w.heap.size+2≤O∧O<wy.heap.size∧w.heap.size+2≤F∧F<wy.heap.size∧w.heap.size+2≤G∧G<wy.heap.size:=by have:=Hs2.out;omega
  clear BO1 T1 X1 s1 hK0 HOG HOF HBO HXw HR HXq hXq hqs hO hF1 hF2 hG1 hG2 hOl hy HC HX2
  go_wp2_with fail
  refine (HBw.out _ wy (by omega) HC1.out.cur).mono ?_
  rintro e w3 ⟨xf,rfl,h1,h2,hR3⟩
  obtain ⟨f,rfl⟩:∃ f:Nat,xf=f:=⟨xf.toNat,by omega⟩
  obtain ⟨x,hx⟩:∃ x,l[f]? = some x:=⟨_,List.getElem?_eq_getElem (by omega)⟩
  have hxm:=List.mem_of_getElem? hx
  have h13:=hR3.tf.size
  have nc:∀ b,w.heap.size≤b→¬ (b=c):=fun b hb e=>by omega
  have HC3:Hid (Roll c w w3):=HC1.out.trans hR3
  have HR3:=Lib.hid (HR1.out.tf hR3.tf (nc _ (by have:=Hs1.out;omega)))
  have HBO3:=Lib.hid (HBO1.out.tf hR3.tf (nc _ (by omega)))
  have HG3:=Lib.hid (HG1.out.tf hR3.tf (fun b _ hb=>by have e:b=c:=hb;omega))
  have HF3:=Lib.hid (HF1.out.tf hR3.tf (fun b hb=>by cases hb;exact nc F (by omega)) (fun b hb _ e=>HK.out b hb.1 e))
  have o3:w3.cell? ⟨O,1,none⟩=some (.slice (some ⟨F,0,none⟩) l.length cF1):=(HBO3.out.cell 1).trans rfl
  have b3:=(rw_atN encF_len HF3.out.own hx (q:=2) (by omega) (u:=.slice x.ba x.bn x.bc) rfl).1
  have XA:Ext w3 (w3.alloc (.cells #[] 102)):=(Ext.refl w3).alloc _
  have o4:=XA.cell o3
  have b4:=XA.cell b3
  obtain ⟨v',w4,lb,r4,hlb,OB,X4⟩:=copy_stmts (N:=6000) (K':=fun b=>K b∧b<w.heap.size) (base:=w.heap.size) (ty:=81) (HF3.out.ok x hxm).b (fun s hs=>by have:=(HT.out.ok x hxm).small s hs;omega) (fun b hb=>hb.1) (by have:=(HT.out.ok x hxm).lb;omega) (by omega)
  have hlbn:1≤lb.length∧lb.length≤50000:=by have:=(HT.out.ok x hxm).lb;rw [← hlb,List.length_map] at this;omega
  obtain ⟨B,cB,rfl,hB1,hB2,hB3,hB4⟩:=rw_form OB.own (by omega)
  have nBG:¬ B=G:=fun e=>own_ne_own OB.own (HG3.out.ext X4).own (by decide) B rfl (by rw [e];rfl)
  have nBF:¬ B=F:=fun e=>own_ne_own OB.own (rw_ext HF3.out.own X4) (by decide) B rfl (by rw [e];rfl)
  have nBO:¬ B=O:=fun e=>own_ne_blk OB.own (HBO3.out.ext X4) (by decide) (by rw [e];rfl)
  have nBR:¬ B=w1.heap.size:=fun e=>own_ne_blk OB.own (HR3.out.ext X4) (by decide) (by rw [e];rfl)
  have HC4:Hid (Roll c w w4):=HC3.out.ext X4
  have HR4:=Lib.hid (HR3.out.ext X4)
  have HBO4:=Lib.hid (HBO3.out.ext X4)
  have HG4:=Lib.hid (HG3.out.ext X4)
  have HF4:=Lib.hid (HF3.out.tf (Tf.ext (M:=fun _=>False) X4) (fun _ _ h=>h) (fun _ _ _ h=>h))
  have HB4:=Lib.hid OB
  have Hr:=Lib.hid r4
  have h34:=X4.size
  have Hx:=Lib.hid hx
  have Hlb:=Lib.hid hlb
  clear hR3 HC1 HR1 HBO1 HG1 HF1 o1 o3 b3 XA r4 OB X4 HC3 HR3 HBO3 HG3 HF3 hx hlb hxm
  go_wp2_with (at_builtin;refine Lib.wpList_append_run _ rfl _ _ _ _ rfl _ _ rfl rfl _ _ Hr.out ?_)
  have hRs:=Hs1.out
  have HM4:Hid (SpM K (fun b=>K b∧b<w.heap.size) (fun b=>K b∧b<w.heap.size) c O F cF1 w1.heap.size l.length w w4 (.slice (some ⟨G,0,none⟩) gs.length cG1) (.slice (some ⟨B,0,none⟩) lb.length cB) gs l lb) :=
   ⟨HC4.out,HR4.out,HBO4.out,HG4.out,HF4.out,HB4.out,hcl,by omega,by omega,nRO,fun b hb=>⟨HK.out b hb.1,by omega,by omega⟩,fun b hb=>⟨HK.out b hb.1,by omega,by omega,by omega⟩,fun b hb=>.inl hb,fun b hb=>.inl hb,by omega⟩
  clear HC4 HR4 HBO4 HG4 HF4 HB4 Hr o4 b4 hRs
  refine (HBw.out 14 w4 (by omega) HM4.out.roll.cur).mono ?_
  rintro e w5 ⟨xk,rfl,k1,k2,hR5⟩
  obtain ⟨k,rfl⟩:∃ k:Nat,xk=k:=⟨xk.toNat,by omega⟩
  have HM5:=Lib.hid (HM4.out.rolls hR5)
  clear hR5 HM4
  go_wp2_with fail
  refine (HBw.out lb.length w5 (by omega) HM5.out.roll.cur).mono ?_
  rintro e wz ⟨xi,rfl,i1,i2,hR6⟩
  obtain ⟨i,rfl⟩:∃ i:Nat,xi=i:=⟨xi.toNat,by omega⟩
  have HM:=Lib.hid (HM5.out.rolls hR6)
  obtain ⟨s,hs⟩:∃ s,lb[i]? = some s:=⟨_,List.getElem?_eq_getElem (by omega)⟩
  have Hs:=Lib.hid hs
  have Hok:=Lib.hid (HM.out.b.ok s (List.mem_of_getElem? hs))
  have hzw:=HM.out.roll.tf.size
  have hwB:w.heap.size≤B:=(HM.out.nB B rfl).1
  have nBK:∀ b,K b∧b<w.heap.size→b≠B:=fun b hb=>by omega
  have h5:s.s.e.length≤5000:=by
   have hm:s.s∈x.f.body:=by rw [← Hlb.out];exact List.mem_map_of_mem (List.mem_of_getElem? hs)
   exact ((HT.out.ok x (List.mem_of_getElem? Hx.out)).small s.s hm).1
  have hBl:=(HM.out.nB B rfl).2.1
  clear hR6 HM5 hs
  have hk14:k=0∨k=1∨k=2∨k=3∨k=4∨k=5∨k=6∨k=7∨k=8∨k=9∨k=10∨k=11∨k=12∨k=13:=by omega
  clear k1 k2
  rcases hk14 with rfl | rfl | rfl | rfl | rfl | rfl | rfl | rfl | rfl | rfl | rfl | rfl | rfl | rfl
  ·skip
   go_wp2_with fail
   have X1:Ext wz wz.drew:=(Ext.refl wz).drew
   have oz:wz.cell? ⟨O,0,none⟩=some (.slice (some ⟨G,0,none⟩) gs.length cG1):=(HM.out.o.cell 0).trans rfl
   refine start_ (n:=10) (S:=fun w'=>w'.cell? ⟨O,0,none⟩=some (.slice (some ⟨G,0,none⟩) gs.length cG1)) (ds:=[9]) #[false,false,false,false,false,false,false,false,false,false] (by kernel_rfl) rfl rfl ?hS (fun hHeld=>?_)
   case hS=>exact X1.cell oz
   refine pu_ 0 (some 42) #[true,false,false,false,false,false,false,false,false,false] rfl rfl (by kernel_rfl) (fun _ _ _ h=>h) (by rfl) (by intro w';go_simp;with_reducible rfl) (by simp only [pt_];rfl) ?_
   refine ta_ 1 (some 43) #[true,true,false,false,false,false,false,false,false,false] rfl rfl (by kernel_rfl) (fun _ _ _ h=>h) hHeld (by rfl) (by rintro w' s0;go_simp;with_reducible rfl) (by simp only [pt_];rfl) ?_
   refine pu_ 2 (some 44) #[true,true,true,false,false,false,false,false,false,false] rfl rfl (by kernel_rfl) (fun _ _ _ h=>h) (by rfl) (by intro w';go_simp;with_reducible rfl) (by simp only [pt_];rfl) ?_
   generalize wz.drew=wd at X1 hHeld ⊢
   have HMd:=Lib.hid (HM.out.ext X1)
   have X2:Ext wd (wd.alloc (.cells #[.string ⟨#[103]⟩,.string ⟨#[109,97,105,110]⟩,.string ⟨#[112,48]⟩,.string ⟨#[105,102]⟩,.string ⟨#[118,49]⟩] 9)):=(Ext.refl wd).alloc _
   have HP:=Lib.hid (d_pick_lit c wd HMd.out.roll.cur 9 [⟨#[103]⟩,⟨#[109,97,105,110]⟩,⟨#[112,48]⟩,⟨#[105,102]⟩,⟨#[118,49]⟩] 5 #[.string ⟨#[103]⟩,.string ⟨#[109,97,105,110]⟩,.string ⟨#[112,48]⟩,.string ⟨#[105,102]⟩,.string ⟨#[118,49]⟩] rfl rfl (by omega) (fun s hs=>by
    simp only [List.mem_cons,List.not_mem_nil,or_false] at hs
    rcases hs with rfl | rfl | rfl | rfl | rfl<;>decide))
   refine one_ (i:=3) (N:=some 45) #[true,true,true,true,false,false,false,false,false,false] rfl rfl (by kernel_rfl) (by decide) (fun K hK=>?_)
   refine value_ (by rfl) rfl (by go_simp;constructor<;>rfl) ?_
   refine hK.out _ _ (X2.cell hHeld) (fun hHeld=>?_)
   clear hK K
   refine norm_ (by show Act.put _ (some 45) _=_;simp only [pt_];rfl) ?_
   refine one_ (i:=4) (N:=some 46) #[true,true,true,true,true,false,false,false,false,false] rfl rfl (by kernel_rfl) (by decide) (fun K hK=>?_)
   refine goes_ (N:=some 46) Tryz.func92 (by kernel_rfl) rfl #[.pointer (some ⟨c,0,none⟩),.slice (some ⟨wd.heap.size,0,none⟩) 5 5] (by rfl) rfl rfl (by simp [Act.eval]) ?_
   refine HP.out.mono ?_
   rintro e wE ⟨y,rfl,_,hy,hRE⟩
   have HME:=Lib.hid (HMd.out.rolls hRE)
   have cE:wE.cell? ⟨O,0,none⟩=some (.slice (some ⟨G,0,none⟩) gs.length cG1):=(HME.out.o.cell 0).trans rfl
   refine ⟨_,rfl,?_⟩
   refine hK.out _ _ cE (fun hHeld=>?_)
   clear hK K
   refine norm_ (by show Act.put _ (some 46) _=_;simp only [pt_];rfl) ?_
   refine pu_ 5 (some 47) #[true,true,true,true,true,true,false,false,false,false] rfl rfl (by kernel_rfl) (fun _ _ _ h=>h) (by rfl) (by intro w';go_simp;with_reducible rfl) (by simp only [pt_];rfl) ?_
   obtain ⟨vH,wH,rH,kH,fH,MH⟩:=HME.out.appG ⟨y,0⟩ ⟨i64s 0 (by omega),hy⟩ (by omega) HME.out.k0G HME.out.k0G 29
   obtain ⟨aH,cH,rfl,_,_⟩:=own_form MH.g.own
   obtain ⟨nH,hnH⟩:∃ nH,nH=(gs ++ [(⟨y,0⟩:PGlob)]).length:=⟨_,rfl⟩
   rw [← hnH] at rH MH
   clear hnH
   have XG:Ext wE (wE.alloc (.cells #[.string y,.int .i64 0] 97)):=(Ext.refl wE).alloc _
   refine one_ (i:=6) (N:=some 48) #[true,true,true,true,true,true,true,false,false,false] rfl rfl (by kernel_rfl) (by decide) (fun K hK=>?_)
   refine value_ (by rfl) rfl (by go_simp;constructor<;>rfl) ?_
   refine hK.out _ _ (XG.cell cE) (fun hHeld=>?_)
   clear hK K
   refine norm_ (by show Act.put _ (some 48) _=_;simp only [pt_];rfl) ?_
   refine one_ (i:=7) (N:=some 49) #[true,true,true,true,true,true,true,true,false,false] rfl rfl (by kernel_rfl) (by decide) (fun K hK=>?_)
   refine value_ (w1:=wH) (v:=.slice aH nH cH) (by rfl) rfl (exec_append rfl rH) ?_
   refine hK.out _ _ kH (fun hHeld=>?_)
   clear hK K
   refine norm_ (by show Act.put _ (some 49) _=_;simp only [pt_];rfl) ?_
   refine pu_ 8 (some 50) #[true,true,true,true,true,true,true,true,true,false] rfl rfl (by kernel_rfl) (fun _ _ _ h=>h) (by rfl) (by intro w';go_simp;with_reducible rfl) (by simp only [pt_];rfl) ?_
   refine last_ (i:=9) (N:=none) #[true,true,true,true,true,true,true,true,true,true] rfl rfl (by kernel_rfl) (by decide) (fun K hK=>?_)
   go_simp
   refine hK.out _ _ ?_
   clear hK K
   refine done_ (by kernel_rfl) ?_
   have HMz:=Lib.hid MH
   clear MH rH kH fH cE XG HME HMd HM HP hRE X2 oz X1 hHeld
   obtain ⟨t1,t2,t3,t4,t5,t6,t7,t8,t9,t10,t11,t12⟩:=HMz.out.tail Hx.out
   have HBe:=Lib.hid t12
   have Hfin:=Lib.hid (HMz.out.fin Hx.out)
   clear t12
   go_wp2
   refine bodyPost_ret (results_cell_row rfl _ _ w1.heap.size 32 _ (0,0) _ (by rfl) HBe.out Tryz.underlying32 (by rfl) (by kernel_rfl)) rfl ?_
   exact Hfin.out
  ·skip
   obtain ⟨g0,hg0⟩:∃ g0,gs[0]? = some g0:=⟨_,List.getElem?_eq_getElem (by omega)⟩
   have Hg0:=Lib.hid hg0
   clear hg0
   go_wp2_with fail
   have X1:Ext wz wz.drew:=(Ext.refl wz).drew
   have oz:wz.cell? ⟨O,0,none⟩=some (.slice (some ⟨G,0,none⟩) gs.length cG1):=(HM.out.o.cell 0).trans rfl
   have gpos:(0:Int)<(gs.length:Int):=by omega
   have gpos2:0<gs.length:=by omega
   refine start_ (n:=8) (S:=fun w'=>w'.cell? ⟨O,0,none⟩=some (.slice (some ⟨G,0,none⟩) gs.length cG1)) (ds:=[7]) #[false,false,false,false,false,false,false,false] (by kernel_rfl) rfl rfl ?hS (fun hHeld=>?_)
   case hS=>exact X1.cell oz
   refine pu_ 0 (some 53) #[true,false,false,false,false,false,false,false] rfl rfl (by kernel_rfl) (fun _ _ _ h=>h) (by rfl) (by intro w';go_simp;with_reducible rfl) (by simp only [pt_];rfl) ?_
   refine ta_ 1 (some 54) #[true,true,false,false,false,false,false,false] rfl rfl (by kernel_rfl) (fun _ _ _ h=>h) hHeld (by rfl) (by rintro w' s0;go_simp;with_reducible rfl) (by simp only [pt_];rfl) ?_
   refine pu_ 2 (some 55) #[true,true,true,false,false,false,false,false] rfl rfl (by kernel_rfl) (fun _ _ _ h=>h) (by rfl) (by intro w';go_simp;with_reducible rfl) (by simp only [pt_];rfl) ?_
   generalize wz.drew=wd at X1 hHeld ⊢
   have HMd:=Lib.hid (HM.out.ext X1)
   refine one_ (i:=3) (N:=some 56) #[true,true,true,true,false,false,false,false] rfl rfl (by kernel_rfl) (by decide) (fun K hK=>?_)
   refine goes_ (N:=some 56) Tryz.func53 (by kernel_rfl) rfl #[.pointer (some ⟨c,0,none⟩),.int .i64 2] (by rfl) rfl rfl (by simp [Act.eval]) ?_
   refine (HBw.out 2 wd (by omega) HMd.out.roll.cur).mono ?_
   rintro e wE ⟨y,rfl,y1,y2,hRE⟩
   have HME:=Lib.hid (HMd.out.rolls hRE)
   have cE:wE.cell? ⟨O,0,none⟩=some (.slice (some ⟨G,0,none⟩) gs.length cG1):=(HME.out.o.cell 0).trans rfl
   refine ⟨_,rfl,?_⟩
   refine hK.out _ _ cE (fun hHeld=>?_)
   clear hK K
   refine norm_ (by show Act.put _ (some 56) _=_;simp only [pt_];rfl) ?_
   refine pu_ 4 (some 57) #[true,true,true,true,true,false,false,false] rfl rfl (by kernel_rfl) (fun _ _ _ h=>h) (by rfl) (by intro w';go_simp;with_reducible rfl) (by simp only [pt_];rfl) ?_
   refine pu_ 5 (some 58) #[true,true,true,true,true,true,false,false] rfl rfl (by kernel_rfl) (fun _ _ _ h=>h) (by rfl) (by intro w';go_simp;with_reducible rfl) (by simp only [pt_];rfl) ?_
   refine pu_ 6 (some 59) #[true,true,true,true,true,true,true,false] rfl rfl (by kernel_rfl) (fun _ _ _ h=>h) (by rfl) (by intro w';go_simp;with_reducible rfl) (by simp only [pt_];rfl) ?_
   have gA:=HME.out.gAt Hg0.out (q:=1) (by omega) rfl
   have HMz:=Lib.hid (HME.out.setG Hg0.out (q:=1) (by omega) ⟨g0.name,4000+y⟩ (.int .i64 (4000+y)) rfl ⟨by unfold I64;simp only;omega,(HME.out.g.ok g0 (List.mem_of_getElem? Hg0.out)).2⟩ (fun b hb=>by have:=(HME.out.nG G rfl).1;omega) (fun b hb=>by have:=(HME.out.nG G rfl).1;omega))
   simp only [Nat.zero_mul,Nat.zero_add] at gA HMz
   obtain ⟨g1,g2⟩:=gA
   refine last_ (i:=7) (N:=none) #[true,true,true,true,true,true,true,true] rfl rfl (by kernel_rfl) (by decide) (fun K hK=>?_)
   go_simp
   refine hK.out _ _ ?_
   clear hK K
   refine done_ (by kernel_rfl) ?_
   have hw64:wrap64 (4000+y)=4000+y:=by unfold wrap64;omega
   rw [hw64]
   clear g1 g2 cE HME HMd HM hRE oz X1 hHeld hw64
   obtain ⟨t1,t2,t3,t4,t5,t6,t7,t8,t9,t10,t11,t12⟩:=HMz.out.tail Hx.out
   have HBe:=Lib.hid t12
   have Hfin:=Lib.hid (HMz.out.fin Hx.out)
   clear t12
   go_wp2
   refine bodyPost_ret (results_cell_row rfl _ _ w1.heap.size 32 _ (0,0) _ (by rfl) HBe.out Tryz.underlying32 (by rfl) (by kernel_rfl)) rfl ?_
   exact Hfin.out
  ·skip
   go_wp2_with fail
   refine (HBw.out 10 wz (by omega) HM.out.roll.cur).mono ?_
   rintro e w7 ⟨y,rfl,y1,y2,hR7⟩
   have HM7:=Lib.hid (HM.out.rolls hR7)
   have b7:=HM7.out.bAt Hs.out (q:=0) (by omega) rfl
   have HMz:=Lib.hid (HM7.out.setB Hs.out (q:=0) (by omega) { s with s:={ s.s with kind:=y } } (.int .i64 y) rfl (have h:=HM7.out.b.ok s (List.mem_of_getElem? Hs.out);⟨h.e,h.f,(show I64 y by unfold I64;omega),h.thn,h.els,h.name,h.le,h.lf⟩) nBK)
   clear hR7 HM
   simp only [Nat.add_zero] at b7 HMz
   obtain ⟨b7,b8⟩:=b7
   obtain ⟨t1,t2,t3,t4,t5,t6,t7,t8,t9,t10,t11,t12⟩:=HMz.out.tail Hx.out
   have HBe:=Lib.hid t12
   have Hfin:=Lib.hid (HMz.out.fin Hx.out)
   clear t12
   go_wp2
   refine bodyPost_ret (results_cell_row rfl _ _ w1.heap.size 32 _ (0,0) _ (by rfl) HBe.out Tryz.underlying32 (by rfl) (by kernel_rfl)) rfl ?_
   exact Hfin.out
  ·skip
   go_wp2_with fail
   refine (d_pick_lit c wz HM.out.roll.cur _ [⟨#[97]⟩,⟨#[103]⟩,⟨#[122,122]⟩,⟨#[118,49]⟩,⟨#[]⟩,⟨#[102]⟩] 6 _ rfl rfl (by omega) (fun s hs=>by
    simp only [List.mem_cons,List.not_mem_nil,or_false] at hs
    rcases hs with rfl | rfl | rfl | rfl | rfl | rfl<;>decide)).mono ?_
   rintro e w7 ⟨y,rfl,_,hy,hR7⟩
   have HM7:=Lib.hid (HM.out.rolls hR7)
   obtain ⟨b7,b8⟩:=HM7.out.bAt Hs.out (q:=1) (by omega) rfl
   have HMz:=Lib.hid (HM7.out.setB Hs.out (q:=1) (by omega) { s with s:={ s.s with name:=y } } (.string y) rfl (have h:=HM7.out.b.ok s (List.mem_of_getElem? Hs.out);⟨h.e,h.f,h.kind,h.thn,h.els,hy,h.le,h.lf⟩) nBK)
   clear hR7 HM
   obtain ⟨t1,t2,t3,t4,t5,t6,t7,t8,t9,t10,t11,t12⟩:=HMz.out.tail Hx.out
   have HBe:=Lib.hid t12
   have Hfin:=Lib.hid (HMz.out.fin Hx.out)
   clear t12
   go_wp2
   refine bodyPost_ret (results_cell_row rfl _ _ w1.heap.size 32 _ (0,0) _ (by rfl) HBe.out Tryz.underlying32 (by rfl) (by kernel_rfl)) rfl ?_
   exact Hfin.out
  ·skip
   obtain ⟨b7,b8⟩:=HM.out.bAt Hs.out (q:=4) (by omega) rfl
   have HMz:=Lib.hid (HM.out.setB Hs.out (q:=4) (by omega) { s with s:={ s.s with thn:=wrap64 (s.s.thn+1) } } (.int .i64 (wrap64 (s.s.thn+1))) rfl (have h:=HM.out.b.ok s (List.mem_of_getElem? Hs.out);⟨h.e,h.f,h.kind,(show I64 (wrap64 (s.s.thn+1)) by unfold I64 wrap64;omega),h.els,h.name,h.le,h.lf⟩) nBK)
   obtain ⟨t1,t2,t3,t4,t5,t6,t7,t8,t9,t10,t11,t12⟩:=HMz.out.tail Hx.out
   have HBe:=Lib.hid t12
   have Hfin:=Lib.hid (HMz.out.fin Hx.out)
   clear t12
   go_wp2
   refine bodyPost_ret (results_cell_row rfl _ _ w1.heap.size 32 _ (0,0) _ (by rfl) HBe.out Tryz.underlying32 (by rfl) (by kernel_rfl)) rfl ?_
   exact Hfin.out
  ·skip
   obtain ⟨b7,b8⟩:=HM.out.bAt Hs.out (q:=2) (by omega) rfl
   have hcur:=HM.out.roll.cur
   have X0:Ext wz (wz.alloc (.cells #[] 104)):=(Ext.refl wz).alloc _
   have b9:=X0.cell b7
   obtain ⟨v1,w7,r1,O1,g1,t1⟩:=(OwnE.new wz wz.heap.size (Nat.le_refl _)).app (ty:=100) ((Hok.out.e).ext X0 (fun _ _ h=>h.any)) (by simp;omega) X0.size
   obtain ⟨a1,n1,c1,rfl⟩:=O1.form
   have X1:Ext wz w7:=Below.grown X0 g1 X0.size (fun k hk=>by cases hk;exact Nat.le_refl _)
   have HR7:Hid (Roll c wz w7):=(Roll.refl hcur).ext X1
   have HO1:=Lib.hid O1
   have Hr1:=Lib.hid r1
   have h17:=X1.size
   clear r1 O1 g1 t1 X1 X0
   go_wp2_with (at_builtin;refine Lib.wpList_append_run _ rfl _ _ _ _ rfl _ _ rfl rfl _ _ Hr1.out ?_)
   clear b7 b8 b9
   refine (HBw.out 2 w7 (by omega) HR7.out.cur).mono ?_
   rintro e w8 ⟨y,rfl,y1,y2,hR8⟩
   have R8:=HR7.out.trans hR8
   have O8:=HO1.out.tf hR8.tf (fun b hb=>by have e:b=c:=hb;omega)
   have h78:=hR8.tf.size
   obtain ⟨v9,w9,r9,O9,g9⟩:=O8.app1 (ty:=100) ⟨6,3*y,⟨#[]⟩⟩ ⟨i64s 6 (by omega),by unfold I64;simp only;omega,noName⟩ (by simp;omega) (by omega)
   obtain ⟨a9,n9,c9,rfl⟩:=O9.form
   have R9:Roll c wz w9:=(R8.ext ((Ext.refl _).alloc _)).grown (fun b hb=>(own_ge O8.own b hb).1) (Nat.le_refl _) (by omega) g9
   have HM9:=HM.out.newB.rolls R9
   obtain ⟨b7,b8⟩:=HM9.bAt Hs.out (q:=2) (by omega) rfl
   have HMz:=Lib.hid (HM9.setE Hs.out O9 (by simp;omega) hBl nBK)
   have Hr9:=Lib.hid r9
   clear r9 O9 g9 R9 HM9 O8 R8 HR7 hR8 HO1 Hr1 HM hcur
   obtain ⟨t1,t2,t3,t4,t5,t6,t7,t8,t9,t10,t11,t12⟩:=HMz.out.tail Hx.out
   have HBe:=Lib.hid t12
   have Hfin:=Lib.hid (HMz.out.fin Hx.out)
   clear t12
   go_wp2_with (at_builtin;refine Lib.wpList_append_run _ rfl _ _ _ _ rfl _ _ rfl rfl _ _ Hr9.out ?_)
   refine bodyPost_ret (results_cell_row rfl _ _ w1.heap.size 32 _ (0,0) _ (by rfl) HBe.out Tryz.underlying32 (by rfl) (by kernel_rfl)) rfl ?_
   exact Hfin.out
  ·skip
   go_wp2_with fail
   refine (d_pick_lit c wz HM.out.roll.cur _ [⟨#[97]⟩,⟨#[122,122]⟩,⟨#[118,49]⟩,⟨#[118,50]⟩,⟨#[102]⟩,⟨#[103]⟩] 6 _ rfl rfl (by omega) (fun s hs=>by
    simp only [List.mem_cons,List.not_mem_nil,or_false] at hs
    rcases hs with rfl | rfl | rfl | rfl | rfl | rfl<;>decide)).mono ?_
   rintro e w7 ⟨y,rfl,_,hy,hR7⟩
   have HM7:=Lib.hid (HM.out.newB.rolls hR7)
   have h7:=hR7.tf.size
   have X8:Ext w7 (w7.alloc (.cells #[.int .i64 2,.int .i64 0,.string y] 104)):=(Ext.refl w7).alloc _
   have s8:(w7.alloc (.cells #[.int .i64 2,.int .i64 0,.string y] 104)).heap.size=w7.heap.size+1:=by simp
   have O8:OwnE wz.heap.size (w7.alloc (.cells #[.int .i64 2,.int .i64 0,.string y] 104)) (.slice (some ⟨w7.heap.size,0,none⟩) 1 1) [⟨2,0,y⟩]:=OwnE.one ⟨2,0,y⟩ h7 ⟨i64s 2 (by omega),i64s 0 (by omega),hy⟩
   have HM8:=HM7.out.ext X8
   obtain ⟨b7,b8⟩:=HM8.bAt Hs.out (q:=2) (by omega) rfl
   have HMz:=Lib.hid (HM8.setE Hs.out O8 (by simp) hBl nBK)
   clear hR7 HM HM8 O8 X8
   obtain ⟨t1,t2,t3,t4,t5,t6,t7,t8,t9,t10,t11,t12⟩:=HMz.out.tail Hx.out
   have HBe:=Lib.hid t12
   have Hfin:=Lib.hid (HMz.out.fin Hx.out)
   clear t12
   go_wp2
   refine bodyPost_ret (results_cell_row rfl _ _ w1.heap.size 32 _ (0,0) _ (by rfl) HBe.out Tryz.underlying32 (by rfl) (by kernel_rfl)) rfl ?_
   exact Hfin.out
  ·skip
   go_wp2_with fail
   refine (d_pick_lit c wz HM.out.roll.cur _ [⟨#[102]⟩,⟨#[107]⟩,⟨#[109,97,105,110]⟩,⟨#[110,105,108]⟩] 4 _ rfl rfl (by omega) (fun s hs=>by
    simp only [List.mem_cons,List.not_mem_nil,or_false] at hs
    rcases hs with rfl | rfl | rfl | rfl<;>decide)).mono ?_
   rintro e w7 ⟨y,rfl,_,hy,hR7⟩
   have HM7:=Lib.hid (HM.out.newB.rolls hR7)
   have h7:=hR7.tf.size
   have X8:Ext w7 (w7.alloc (.cells #[.int .i64 4,.int .i64 0,.string y] 104)):=(Ext.refl w7).alloc _
   have s8:(w7.alloc (.cells #[.int .i64 4,.int .i64 0,.string y] 104)).heap.size=w7.heap.size+1:=by simp
   have O8:OwnE wz.heap.size (w7.alloc (.cells #[.int .i64 4,.int .i64 0,.string y] 104)) (.slice (some ⟨w7.heap.size,0,none⟩) 1 1) [⟨4,0,y⟩]:=OwnE.one ⟨4,0,y⟩ h7 ⟨i64s 4 (by omega),i64s 0 (by omega),hy⟩
   have HM8:=HM7.out.ext X8
   obtain ⟨b7,b8⟩:=HM8.bAt Hs.out (q:=2) (by omega) rfl
   have HMz:=Lib.hid (HM8.setE Hs.out O8 (by simp) hBl nBK)
   clear hR7 HM HM8 O8 X8
   obtain ⟨t1,t2,t3,t4,t5,t6,t7,t8,t9,t10,t11,t12⟩:=HMz.out.tail Hx.out
   have HBe:=Lib.hid t12
   have Hfin:=Lib.hid (HMz.out.fin Hx.out)
   clear t12
   go_wp2
   refine bodyPost_ret (results_cell_row rfl _ _ w1.heap.size 32 _ (0,0) _ (by rfl) HBe.out Tryz.underlying32 (by rfl) (by kernel_rfl)) rfl ?_
   exact Hfin.out
  ·skip
   have X8:Ext wz (wz.alloc (.cells #[.int .i64 4,.int .i64 0,.string ⟨#[109,97,105,110]⟩] 104)):=(Ext.refl wz).alloc _
   have s8:(wz.alloc (.cells #[.int .i64 4,.int .i64 0,.string ⟨#[109,97,105,110]⟩] 104)).heap.size=wz.heap.size+1:=by simp
   have O8:OwnE wz.heap.size (wz.alloc (.cells #[.int .i64 4,.int .i64 0,.string ⟨#[109,97,105,110]⟩] 104)) (.slice (some ⟨wz.heap.size,0,none⟩) 1 1) [⟨4,0,⟨#[109,97,105,110]⟩⟩]:=OwnE.one ⟨4,0,⟨#[109,97,105,110]⟩⟩ (Nat.le_refl _) ⟨i64s 4 (by omega),i64s 0 (by omega),by simp [ByteArray.size,maxLen]⟩
   obtain ⟨v9,w9,r9,M9,h9⟩:=(HM.out.newB.ext X8).appE O8 (by simp) (kind:=8) (name:=⟨#[]⟩) (i64s 8 (by omega)) noName (by omega) (HM.out.newB.ext X8).k0 81
   obtain ⟨a9,c9,rfl,_,_⟩:=own_form M9.b.own
   obtain ⟨n9,hn9⟩:∃ n9,n9=(lb ++ [(⟨⟨8,⟨#[]⟩,[⟨4,0,⟨#[109,97,105,110]⟩⟩],[],0,0⟩,some ⟨wz.heap.size,0,none⟩,1,1,none,0,0⟩:SRow)]).length:=⟨_,rfl⟩
   rw [← hn9] at r9 M9
   clear hn9
   have HMz:=Lib.hid M9
   have Hr9:=Lib.hid r9
   rw [s8] at Hr9
   clear O8 X8 r9 M9
   obtain ⟨t1,t2,t3,t4,t5,t6,t7,t8,t9,t10,t11,t12⟩:=HMz.out.tail Hx.out
   have HBe:=Lib.hid t12
   have Hfin:=Lib.hid (HMz.out.fin Hx.out)
   clear t12
   go_wp2_with (at_builtin;refine Lib.wpList_append_run _ rfl _ _ _ _ rfl _ _ rfl rfl _ _ Hr9.out ?_)
   refine bodyPost_ret (results_cell_row rfl _ _ w1.heap.size 32 _ (0,0) _ (by rfl) HBe.out Tryz.underlying32 (by rfl) (by kernel_rfl)) rfl ?_
   exact Hfin.out
  ·skip
   go_wp2_with fail
   have X1:Ext wz wz.drew:=(Ext.refl wz).drew
   have oz:wz.cell? ⟨O,1,none⟩=some (.slice (some ⟨F,0,none⟩) l.length cF1):=(HM.out.o.cell 1).trans rfl
   have z0:(0:Int)≤(f:Int):=by omega
   refine start_ (n:=9) (S:=fun w'=>w'.cell? ⟨O,1,none⟩=some (.slice (some ⟨F,0,none⟩) l.length cF1)) (ds:=[8]) #[false,false,false,false,false,false,false,false,false] (by kernel_rfl) rfl rfl ?hS (fun hHeld=>?_)
   case hS=>exact X1.cell oz
   refine pu_ 0 (some 140) #[true,false,false,false,false,false,false,false,false] rfl rfl (by kernel_rfl) (fun _ _ _ h=>h) (by rfl) (by intro w';go_simp;with_reducible rfl) (by simp only [pt_];rfl) ?_
   refine ta_ 1 (some 141) #[true,true,false,false,false,false,false,false,false] rfl rfl (by kernel_rfl) (fun _ _ _ h=>h) hHeld (by rfl) (by rintro w' s0;go_simp;with_reducible rfl) (by simp only [pt_];rfl) ?_
   refine pu_ 2 (some 142) #[true,true,true,false,false,false,false,false,false] rfl rfl (by kernel_rfl) (fun _ _ _ h=>h) (by rfl) (by intro w';go_simp;with_reducible rfl) (by simp only [pt_];rfl) ?_
   refine pu_ 3 (some 143) #[true,true,true,true,false,false,false,false,false] rfl rfl (by kernel_rfl) (fun _ _ _ h=>h) (by rfl) (by intro w';go_simp;with_reducible rfl) (by simp only [pt_];rfl) ?_
   generalize wz.drew=wd at X1 hHeld ⊢
   have HMd:=Lib.hid (HM.out.ext X1)
   have X2:Ext wd (wd.alloc (.cells #[.string ⟨#[109,97,105,110]⟩,.string ⟨#[103]⟩,.string ⟨#[105,110,116]⟩,.string ⟨#[102]⟩] 9)):=(Ext.refl wd).alloc _
   have HP:=Lib.hid (d_pick_lit c wd HMd.out.roll.cur 9 [⟨#[109,97,105,110]⟩,⟨#[103]⟩,⟨#[105,110,116]⟩,⟨#[102]⟩] 4 #[.string ⟨#[109,97,105,110]⟩,.string ⟨#[103]⟩,.string ⟨#[105,110,116]⟩,.string ⟨#[102]⟩] rfl rfl (by omega) (fun s hs=>by
    simp only [List.mem_cons,List.not_mem_nil,or_false] at hs
    rcases hs with rfl | rfl | rfl | rfl<;>decide))
   refine one_ (i:=4) (N:=some 144) #[true,true,true,true,true,false,false,false,false] rfl rfl (by kernel_rfl) (by decide) (fun K hK=>?_)
   refine value_ (by rfl) rfl (by go_simp;constructor<;>rfl) ?_
   refine hK.out _ _ (X2.cell hHeld) (fun hHeld=>?_)
   clear hK K
   refine norm_ (by show Act.put _ (some 144) _=_;simp only [pt_];rfl) ?_
   refine one_ (i:=5) (N:=some 145) #[true,true,true,true,true,true,false,false,false] rfl rfl (by kernel_rfl) (by decide) (fun K hK=>?_)
   refine goes_ (N:=some 145) Tryz.func92 (by kernel_rfl) rfl #[.pointer (some ⟨c,0,none⟩),.slice (some ⟨wd.heap.size,0,none⟩) 4 4] (by rfl) rfl rfl (by simp [Act.eval]) ?_
   refine HP.out.mono ?_
   rintro e wE ⟨y,rfl,_,hy,hRE⟩
   have HME:=Lib.hid (HMd.out.rolls hRE)
   have cE:wE.cell? ⟨O,1,none⟩=some (.slice (some ⟨F,0,none⟩) l.length cF1):=(HME.out.o.cell 1).trans rfl
   have gA:=HME.out.fAt Hx.out (q:=0) (by omega) rfl
   have hxo:=HME.out.f.ok x (List.mem_of_getElem? Hx.out)
   have HMz:=Lib.hid (HME.out.setF Hx.out (q:=0) (by omega) ⟨⟨y,x.f.params,x.f.body⟩,x.pa,x.pn,x.pc,x.ba,x.bn,x.bc⟩ (.string y) rfl ⟨hxo.p,hxo.b,hy,hxo.small,hxo.lb,hxo.lp⟩)
   simp only [Nat.add_zero] at gA HMz
   obtain ⟨g1,g2⟩:=gA
   refine ⟨_,rfl,?_⟩
   refine hK.out _ _ cE (fun hHeld=>?_)
   clear hK K
   refine norm_ (by show Act.put _ (some 145) _=_;simp only [pt_];rfl) ?_
   refine pu_ 6 (some 146) #[true,true,true,true,true,true,true,false,false] rfl rfl (by kernel_rfl) (fun _ _ _ h=>h) (by rfl) (by intro w';go_simp;with_reducible rfl) (by simp only [pt_];rfl) ?_
   refine pu_ 7 (some 147) #[true,true,true,true,true,true,true,true,false] rfl rfl (by kernel_rfl) (fun _ _ _ h=>h) (by rfl) (by intro w';go_simp;with_reducible rfl) (by simp only [pt_];rfl) ?_
   refine last_ (i:=8) (N:=none) #[true,true,true,true,true,true,true,true,true] rfl rfl (by kernel_rfl) (by decide) (fun K hK=>?_)
   go_simp
   refine hK.out _ _ ?_
   clear hK K
   refine done_ (by kernel_rfl) ?_
   have HX9:Hid ((l.set f ⟨⟨y,x.f.params,x.f.body⟩,x.pa,x.pn,x.pc,x.ba,x.bn,x.bc⟩)[f]? = some ⟨⟨y,x.f.params,x.f.body⟩,x.pa,x.pn,x.pc,x.ba,x.bn,x.bc⟩):=by
    show _=_
    rw [List.getElem?_set_self (by omega)]
   clear hxo g1 g2 cE HME HMd HM HP hRE X2 oz X1 hHeld
   obtain ⟨t1,t2,t3,t4,t5,t6,t7,t8,t9,t10,t11,t12⟩:=HMz.out.tail HX9.out
   have HBe:=Lib.hid t12
   have Hfin:=Lib.hid (HMz.out.fin HX9.out)
   clear t12
   go_wp2
   refine bodyPost_ret (results_cell_row rfl _ _ w1.heap.size 32 _ (0,0) _ (by rfl) HBe.out Tryz.underlying32 (by rfl) (by kernel_rfl)) rfl ?_
   exact Hfin.out
  ·skip
   go_wp2_with fail
   have X1:Ext wz wz.drew:=(Ext.refl wz).drew
   have oz:wz.cell? ⟨O,1,none⟩=some (.slice (some ⟨F,0,none⟩) l.length cF1):=(HM.out.o.cell 1).trans rfl
   have fz:=(HM.out.fAt Hx.out (q:=1) (by omega) rfl).1
   have z0:(0:Int)≤(f:Int):=by omega
   refine start_ (n:=19) (S:=(fun w'=>w'.cell? ⟨O,1,none⟩=some (.slice (some ⟨F,0,none⟩) l.length cF1)∧w'.cell? ⟨F,f*3+1,none⟩=some (.slice x.pa x.pn x.pc))) (ds:=[18]) #[false,false,false,false,false,false,false,false,false,false,false,false,false,false,false,false,false,false,false] (by kernel_rfl) rfl rfl ?hS (fun hHeld=>?_)
   case hS=>exact ⟨X1.cell oz,X1.cell fz⟩
   refine pu_ 0 (some 150) #[true,false,false,false,false,false,false,false,false,false,false,false,false,false,false,false,false,false,false] rfl rfl (by kernel_rfl) (fun _ _ _ h=>h) (by rfl) (by intro w';go_simp;with_reducible rfl) (by simp only [pt_];rfl) ?_
   refine ta_ 1 (some 151) #[true,true,false,false,false,false,false,false,false,false,false,false,false,false,false,false,false,false,false] rfl rfl (by kernel_rfl) (fun _ _ _ h=>h) hHeld (by rfl) (by rintro w' ⟨s0,s1⟩;go_simp;with_reducible rfl) (by simp only [pt_];rfl) ?_
   refine pu_ 2 (some 152) #[true,true,true,false,false,false,false,false,false,false,false,false,false,false,false,false,false,false,false] rfl rfl (by kernel_rfl) (fun _ _ _ h=>h) (by rfl) (by intro w';go_simp;with_reducible rfl) (by simp only [pt_];rfl) ?_
   refine pu_ 4 (some 154) #[true,true,true,false,true,false,false,false,false,false,false,false,false,false,false,false,false,false,false] rfl rfl (by kernel_rfl) (fun _ _ _ h=>h) (by rfl) (by intro w';go_simp;with_reducible rfl) (by simp only [pt_];rfl) ?_
   refine ta_ 5 (some 155) #[true,true,true,false,true,true,false,false,false,false,false,false,false,false,false,false,false,false,false] rfl rfl (by kernel_rfl) (fun _ _ _ h=>h) hHeld (by rfl) (by rintro w' ⟨s0,s1⟩;go_simp;with_reducible rfl) (by simp only [pt_];rfl) ?_
   refine pu_ 6 (some 156) #[true,true,true,false,true,true,true,false,false,false,false,false,false,false,false,false,false,false,false] rfl rfl (by kernel_rfl) (fun _ _ _ h=>h) (by rfl) (by intro w';go_simp;with_reducible rfl) (by simp only [pt_];rfl) ?_
   refine pu_ 7 (some 157) #[true,true,true,false,true,true,true,true,false,false,false,false,false,false,false,false,false,false,false] rfl rfl (by kernel_rfl) (fun _ _ _ h=>h) (by rfl) (by intro w';go_simp;with_reducible rfl) (by simp only [pt_];rfl) ?_
   refine pu_ 8 (some 158) #[true,true,true,false,true,true,true,true,true,false,false,false,false,false,false,false,false,false,false] rfl rfl (by kernel_rfl) (fun _ _ _ h=>h) (by rfl) (by intro w';go_simp;with_reducible rfl) (by simp only [pt_];rfl) ?_
   refine ta_ 9 (some 159) #[true,true,true,false,true,true,true,true,true,true,false,false,false,false,false,false,false,false,false] rfl rfl (by kernel_rfl) (fun _ _ _ h=>h) hHeld (by rfl) (by rintro w' ⟨s0,s1⟩;go_simp;with_reducible rfl) (by simp only [pt_];rfl) ?_
   refine pu_ 11 (some 161) #[true,true,true,false,true,true,true,true,true,true,false,true,false,false,false,false,false,false,false] rfl rfl (by kernel_rfl) (fun _ _ _ h=>h) (by rfl) (by intro w';go_simp;with_reducible rfl) (by simp only [pt_];rfl) ?_
   generalize wz.drew=wq at X1 hHeld ⊢
   have HMq:=Lib.hid (HM.out.ext X1)
   refine dag_ [3,10,12] (fun i=>if i=10 then [3] else []) (fun o=>{ tmps:=#[.pointer (some ⟨c,0,none⟩),.agg #[.slice aG nG cG,.slice aF nF cF],undef,.pointer (some ⟨w.heap.size,0,none⟩),.pointer (some ⟨w1.heap.size,0,none⟩),.pointer (some ⟨O,0,none⟩),.int .i64 (f:Int),.slice (some ⟨B,0,none⟩) lb.length cB,.int .i64 10,.int .i64 (i:Int),undef,v0,.pointer (some ⟨w.heap.size,0,none⟩),.slice aG nG cG,.slice (some ⟨G,0,none⟩) gs.length cG1,v4,.pointer (some ⟨w.heap.size,1,none⟩),.slice aF nF cF,.slice (some ⟨F,0,none⟩) l.length cF1,.agg #[.slice (some ⟨G,0,none⟩) gs.length cG1,.slice (some ⟨F,0,none⟩) l.length cF1],.pointer (some ⟨c,0,none⟩),.pointer (some ⟨O,1,none⟩),.slice (some ⟨F,0,none⟩) l.length cF1,.int .i64 (l.length:Int),.int .i64 (f:Int),.slice (some ⟨w3.heap.size,0,none⟩) 0 0,.pointer (some ⟨O,1,none⟩),.slice (some ⟨F,0,none⟩) l.length cF1,.int .i64 (f:Int),.pointer (some ⟨F,f*3,none⟩),.pointer (some ⟨F,f*3+2,none⟩),.slice x.ba x.bn x.bc,.slice (some ⟨B,0,none⟩) lb.length cB,.pointer (some ⟨c,0,none⟩),.int .i64 10,.pointer (some ⟨c,0,none⟩),.slice (some ⟨B,0,none⟩) lb.length cB,.int .i64 (lb.length:Int),.int .i64 (i:Int),.int .i64 10,.bool false,.bool false,undef,undef,undef,undef,undef,undef,undef,undef,undef,.bool false,.bool false,undef,undef,undef,undef,undef,undef,undef,.bool false,.bool false,undef,undef,undef,undef,undef,undef,.bool false,.bool false,undef,undef,undef,undef,undef,undef,undef,.bool false,.bool false,undef,undef,undef,undef,undef,undef,undef,undef,undef,undef,.bool false,.bool false,undef,undef,undef,undef,undef,undef,undef,undef,undef,undef,undef,undef,undef,undef,undef,undef,undef,.bool false,.bool false,undef,undef,undef,undef,undef,undef,undef,undef,undef,.bool false,.bool false,undef,undef,undef,undef,undef,undef,undef,undef,undef,.bool false,.bool false,undef,undef,undef,undef,undef,undef,.bool false,.bool false,undef,undef,undef,undef,undef,undef,undef,undef,.bool true,.bool true,.pointer (some ⟨O,1,none⟩),.slice (some ⟨F,0,none⟩) l.length cF1,.int .i64 (f:Int),(o 3).getD undef,.pointer (some ⟨O,1,none⟩),.slice (some ⟨F,0,none⟩) l.length cF1,.int .i64 (f:Int),.pointer (some ⟨F,f*3,none⟩),.pointer (some ⟨F,f*3+1,none⟩),.slice x.pa x.pn x.pc,(o 10).getD undef,.pointer (some ⟨c,0,none⟩),(o 12).getD undef,undef,undef,undef,undef,undef,undef,undef,undef,undef,undef,undef,undef,undef,undef,undef,undef,undef,undef,undef,undef,undef,undef,undef,undef,undef,undef,undef,undef,undef,undef,undef,undef,undef,undef,undef,undef,undef,undef,undef,undef,undef,undef,undef,undef,undef,undef,undef,undef,undef,undef,undef,undef,undef,undef,undef,undef],defers:=[] }) (fun o=>#[true,true,true,(o 3).isSome,true,true,true,true,true,true,(o 10).isSome,true,(o 12).isSome,false,false,false,false,false,false])
    (SpP c 4 [⟨#[112,48]⟩,⟨#[103]⟩,⟨#[119]⟩,⟨#[120]⟩] x.f.params wq) 6 (by decide) (by decide) ?_ ?_ ?_ ?_ ?_ 3 (fun _=>none) wq rfl (fun _ _ h=>absurd rfl h) (SpP.start HMq.out.roll.cur) hHeld
   case refine_1 =>
    intro o hC hne
    have c1:o 10≠none→o 3≠none:=fun h=>hC 10 (by decide) h 3 (by decide)
    clear hC
    revert hne c1
    simp only [undone,List.filter]
    have e:readyV [3,10,12] (fun i=>if i=10 then [3] else []) o=readyV [3,10,12] (fun i=>if i=10 then [3] else []) (fun i=>if i=3 then o 3 else if i=10 then o 10 else if i=12 then o 12 else none):=readyV_congr (fun i hi=>by
     simp only [List.mem_cons,List.not_mem_nil,or_false] at hi
     rcases hi with rfl | rfl | rfl<;>rfl) (by decide)
    rw [e]
    clear e
    generalize o 3=x3,o 10=x10,o 12=x12
    cases x3<;>cases x10<;>first
     | (intro _ c1;exact absurd rfl (c1 (Option.some_ne_none _)))
     | (cases x12<;>first | (intro hne;exact absurd rfl hne) | (intro _ _;exact ⟨by kernel_rfl,fun e=>Bool.noConfusion (show false=true from congrArg List.isEmpty e)⟩))
   case refine_2 =>
    intro o i v hi
    simp only [List.mem_cons,List.not_mem_nil,or_false] at hi
    rcases hi with rfl | rfl | rfl<;>simp [upd]
   case refine_3 =>
    intro i hi oi hoi o v
    simp only [List.mem_cons,List.not_mem_nil,or_false] at hi
    rcases hi with rfl | rfl | rfl<;>(obtain rfl:=Option.some.inj hoi;simp [Act.put,upd])
   case refine_4 =>
    intro i hi
    simp only [List.mem_cons,List.not_mem_nil,or_false] at hi
    rcases hi with rfl | rfl | rfl
    ·refine ⟨_,rfl,fun o wx ho hd hI hS K hK=>?_⟩
     have hX:Ext wx (wx.alloc (.cells #[] 9)):=(Ext.refl wx).alloc _
     refine value_ (N:=some 153) (w1:=wx.alloc (.cells #[] 9)) (v:=.slice (some ⟨wx.heap.size,0,none⟩) 0 0) (by rfl) rfl ?_ (hK _ _ ⟨Ext.cell hX hS.1,Ext.cell hX hS.2⟩ hI.s3)
     go_simp
     first | done | rfl | (constructor<;>rfl)
    ·refine ⟨_,rfl,fun o wx ho hd hI hS K hK=>?_⟩
     obtain ⟨v3,h3⟩:=Option.ne_none_iff_exists'.1 (hd 3 (by decide))
     obtain ⟨g,rfl,g1,g2,g3⟩:=hI.m3 v3 h3
     have O3:=g3 ho
     have hfok:=(HMq.out.rolls hI.roll).f.ok x (List.mem_of_getElem? Hx.out)
     have hlp:=hfok.lp
     obtain ⟨v',w',r1,O1,gg⟩:=app_strs (ty:=80) O3 hfok.p (by omega) hI.roll.tf.size
     have hI':=hI.s10 h3 ho O1 gg
     have e:=r1
     rw [show Value.slice (some ⟨g,0,none⟩) 0 0=(o 3).getD undef by rw [h3];rfl] at e
     refine value_ (N:=some 160) (w1:=w') (v:=v') (by rfl) rfl (exec_append rfl e) (hK _ _ ⟨hI'.roll.tf.cell (a:=⟨O,1,none⟩) (nc O (by omega)) hHeld.1,hI'.roll.tf.cell (a:=⟨F,f*3+1,none⟩) (nc F (by omega)) hHeld.2⟩ hI')
    ·refine ⟨_,rfl,fun o wx ho hd hI hS K hK=>?_⟩
     have hX:Ext wx (wx.alloc (.cells #[.string ⟨#[112,48]⟩,.string ⟨#[103]⟩,.string ⟨#[119]⟩,.string ⟨#[120]⟩] 9)):=(Ext.refl wx).alloc _
     refine value_ (N:=some 162) (w1:=wx.alloc (.cells #[.string ⟨#[112,48]⟩,.string ⟨#[103]⟩,.string ⟨#[119]⟩,.string ⟨#[120]⟩] 9)) (v:=.slice (some ⟨wx.heap.size,0,none⟩) 4 4) (by rfl) rfl ?_ (hK _ _ ⟨Ext.cell hX hS.1,Ext.cell hX hS.2⟩ (hI.s12 9 #[.string ⟨#[112,48]⟩,.string ⟨#[103]⟩,.string ⟨#[119]⟩,.string ⟨#[120]⟩] rfl rfl (by omega) (fun s hs=>by
      simp only [List.mem_cons,List.not_mem_nil,or_false] at hs
      rcases hs with rfl | rfl | rfl | rfl<;>decide)))
     go_simp
     first | done | rfl | (constructor<;>rfl)
   case refine_5 =>
    intro o wx hall hI hS
    obtain ⟨v3,h3⟩:=Option.ne_none_iff_exists'.1 (hall 3 (by decide))
    obtain ⟨v10,h10⟩:=Option.ne_none_iff_exists'.1 (hall 10 (by decide))
    obtain ⟨v12,h12⟩:=Option.ne_none_iff_exists'.1 (hall 12 (by decide))
    have O10:=hI.m10 v10 h10
    obtain ⟨b12,rfl,g12,q12,S12,d12⟩:=hI.m12 v12 h12
    have hRx:=hI.roll
    have hcq:=hI.hc
    simp only [h3,h10,h12,Option.getD_some,Option.isSome_some]
    clear hI h3 h10 h12 hall d12 o hS
    obtain ⟨a10,c10,rfl,_,_⟩:=own_form O10.own
    have hlp:50*x.f.params.length≤5000:=(HT.out.ok x (List.mem_of_getElem? Hx.out)).lp
    obtain ⟨n10,hn10⟩:∃ n10,n10=x.f.params.length:=⟨_,rfl⟩
    rw [← hn10] at O10 ⊢
    have HP:=Lib.hid (d_l2Pick _ c _ _ wx hRx.cur S12 (fun b hb e=>by have e2:b=b12:=hb;omega) (by decide))
    refine one_ (i:=13) (N:=some 163) #[true,true,true,true,true,true,true,true,true,true,true,true,true,true,false,false,false,false,false] rfl rfl (by kernel_rfl) (by decide) (fun K hK=>?_)
    refine goes_ (N:=some 163) Tryz.func92 (by kernel_rfl) rfl #[.pointer (some ⟨c,0,none⟩),.slice (some ⟨b12,0,none⟩) 4 4] (by rfl) rfl rfl (by simp [Act.eval]) ?_
    refine HP.out.mono ?_
    rintro e wE ⟨y,rfl,_,hy,hRE⟩
    have HRE:Hid (Roll c wq wE):=hRx.trans hRE
    have OE:=O10.tf hRE.tf (fun b _ hb=>by have e:b=c:=hb;omega)
    have hST:∀ w',Roll c wq w'→w'.cell? ⟨O,1,none⟩=some (.slice (some ⟨F,0,none⟩) l.length cF1)∧w'.cell? ⟨F,f*3+1,none⟩=some (.slice x.pa x.pn x.pc):=fun w' h=>⟨h.tf.cell (a:=⟨O,1,none⟩) (nc O (by omega)) hHeld.1,h.tf.cell (a:=⟨F,f*3+1,none⟩) (nc F (by omega)) hHeld.2⟩
    have HST:=Lib.hid hST
    clear hST hHeld
    refine ⟨_,rfl,?_⟩
    refine hK.out _ _ (HST.out wE HRE.out) (fun hHeld=>?_)
    clear hK K
    refine norm_ (by show Act.put _ (some 163) _=_;simp only [pt_];rfl) ?_
    clear hHeld
    have XA:Ext wE (wE.alloc (.cells #[.string y] 9)):=(Ext.refl wE).alloc _
    obtain ⟨vH,wH,rH,OH,gH⟩:=OE.app1 (ty:=80) y hy (by omega) HRE.out.tf.size
    obtain ⟨aH,cH,rfl,_,_⟩:=own_form OH.own
    obtain ⟨nH,hnH⟩:∃ nH,nH=(x.f.params ++ [y]).length:=⟨_,rfl⟩
    rw [← hnH] at rH OH
    clear hnH
    have RH:Hid (Roll c wq wH):=(HRE.out.ext XA).grown (fun b hb=>(own_ge OE.own b hb).1) (Nat.le_refl _) hcq gH
    refine one_ (i:=14) (N:=some 164) #[true,true,true,true,true,true,true,true,true,true,true,true,true,true,true,false,false,false,false] rfl rfl (by kernel_rfl) (by decide) (fun K hK=>?_)
    refine value_ (by rfl) rfl (by go_simp;constructor<;>rfl) ?_
    refine hK.out _ _ (HST.out _ (HRE.out.ext XA)) (fun hHeld=>?_)
    clear hK K
    refine norm_ (by show Act.put _ (some 164) _=_;simp only [pt_];rfl) ?_
    clear hHeld
    refine one_ (i:=15) (N:=some 165) #[true,true,true,true,true,true,true,true,true,true,true,true,true,true,true,true,false,false,false] rfl rfl (by kernel_rfl) (by decide) (fun K hK=>?_)
    refine value_ (w1:=wH) (v:=.slice aH nH cH) (by rfl) rfl (exec_append rfl rH) ?_
    refine hK.out _ _ (HST.out _ RH.out) (fun hHeld=>?_)
    clear hK K
    refine norm_ (by show Act.put _ (some 165) _=_;simp only [pt_];rfl) ?_
    refine pu_ 16 (some 166) #[true,true,true,true,true,true,true,true,true,true,true,true,true,true,true,true,true,false,false] rfl rfl (by kernel_rfl) (fun _ _ _ h=>h) (by rfl) (by intro w';go_simp;with_reducible rfl) (by simp only [pt_];rfl) ?_
    refine pu_ 17 (some 167) #[true,true,true,true,true,true,true,true,true,true,true,true,true,true,true,true,true,true,false] rfl rfl (by kernel_rfl) (fun _ _ _ h=>h) (by rfl) (by intro w';go_simp;with_reducible rfl) (by simp only [pt_];rfl) ?_
    have hFq:F<wq.heap.size:=HMq.out.gF.2
    have HMw:=Lib.hid (HMq.out.newF.rolls RH.out)
    obtain ⟨u1,u2⟩:=HMw.out.fAt Hx.out (q:=1) (by omega) rfl
    have hxo:=HMw.out.f.ok x (List.mem_of_getElem? Hx.out)
    have hpp:SlStr (fun b=>Kn K w wq.heap.size b∧some b≠some F) wH (.slice aH nH cH) (x.f.params ++ [y]):=(OH.sl (K:=fun b=>Kn K w wq.heap.size b∧some b≠some F) (fun b hb=>⟨.inr hb,fun e=>by cases e;omega⟩)).keep (Keep.refl _ _) (fun _ _ _ h=>h.any) (fun _ hb=>hb.1)
    have HMz:=Lib.hid (HMw.out.setF Hx.out (q:=1) (by omega) ⟨⟨x.f.name,x.f.params ++ [y],x.f.body⟩,aH,nH,cH,x.ba,x.bn,x.bc⟩ (.slice aH nH cH) rfl ⟨hpp,hxo.b,hxo.name,hxo.small,hxo.lb,by show 50*(x.f.params ++ [y]).length≤6000;simp;omega⟩)
    clear hpp hxo
    refine last_ (i:=18) (N:=none) #[true,true,true,true,true,true,true,true,true,true,true,true,true,true,true,true,true,true,true] rfl rfl (by kernel_rfl) (by decide) (fun K hK=>?_)
    go_simp
    refine hK.out _ _ ?_
    clear hK K
    refine done_ (by kernel_rfl) ?_
    have HX9:Hid ((l.set f ⟨⟨x.f.name,x.f.params ++ [y],x.f.body⟩,aH,nH,cH,x.ba,x.bn,x.bc⟩)[f]? = some ⟨⟨x.f.name,x.f.params ++ [y],x.f.body⟩,aH,nH,cH,x.ba,x.bn,x.bc⟩):=by
     show _=_
     rw [List.getElem?_set_self (by omega)]
    clear u1 u2 HMw HMq HM HP XA rH OH gH OE O10 hRx hRE S12 hHeld hn10 oz fz X1 HRE RH HST
    obtain ⟨t1,t2,t3,t4,t5,t6,t7,t8,t9,t10,t11,t12⟩:=HMz.out.tail HX9.out
    have HBe:=Lib.hid t12
    have Hfin:=Lib.hid (HMz.out.fin HX9.out)
    clear t12
    go_wp2
    refine bodyPost_ret (results_cell_row rfl _ _ w1.heap.size 32 _ (0,0) _ (by rfl) HBe.out Tryz.underlying32 (by rfl) (by kernel_rfl)) rfl ?_
    exact Hfin.out
  ·skip
   have HMn:=Lib.hid HM.out.newB
   clear HM
   go_wp2_with fail
   go_loopw [7] (fun v7 wr=>∃ (lb':List SRow) (n':Nat) (a':Option Addr) (c':Nat),v7=.slice a' n' c'∧n'≤9223372036854775807∧Hid (n'=lb'.length)∧Hid (SpM K (fun b=>K b∧b<w.heap.size) (Kn K w wz.heap.size) c O F cF1 w1.heap.size l.length w wr (.slice (some ⟨G,0,none⟩) gs.length cG1) (.slice a' n' c') gs l lb')∧wz.heap.size≤wr.heap.size) (fun v7 _=>501 - lenS v7)
   case atStart=>exact ⟨lb,_,_,_,rfl,by omega,rfl,HMn.out,Nat.le_refl _⟩
   case round =>
    clear HMn
    obtain ⟨lb',n',a',c',rfl,hn64,HN,HM,hsz⟩:=hrel
    have hlb6:n'≤60000:=by have:=HM.out.hlb;have:=HN.out;omega
    go_wp2_with fail
    refine (HBw.out 2 wr (by omega) HM.out.roll.cur).mono ?_
    rintro e w7 ⟨y,rfl,y1,y2,hR7⟩
    have h7:=hR7.tf.size
    have HM7:=Lib.hid (HM.out.rolls hR7)
    clear hR7 HM
    by_cases hlt:(n':Int)<500+y
    ·have X8:Ext w7 (w7.alloc (.cells #[.int .i64 1,.int .i64 0,.string ⟨#[]⟩] 104)):=(Ext.refl w7).alloc _
     have s8:(w7.alloc (.cells #[.int .i64 1,.int .i64 0,.string ⟨#[]⟩] 104)).heap.size=w7.heap.size+1:=by simp
     have O8:OwnE wz.heap.size (w7.alloc (.cells #[.int .i64 1,.int .i64 0,.string ⟨#[]⟩] 104)) (.slice (some ⟨w7.heap.size,0,none⟩) 1 1) [⟨1,0,⟨#[]⟩⟩]:=OwnE.one ⟨1,0,⟨#[]⟩⟩ (by omega) ⟨i64s 1 (by omega),i64s 0 (by omega),noName⟩
     obtain ⟨v9,w9,r9,M9,h9⟩:=(HM7.out.ext X8).appE O8 (by simp) (kind:=7) (name:=⟨#[]⟩) (i64s 7 (by omega)) noName (by have:=HN.out;omega) (HM7.out.ext X8).k0 81
     obtain ⟨a9,c9,rfl,_,_⟩:=own_form M9.b.own
     rw [s8] at h9
     obtain ⟨n9,hn9⟩:∃ n9,n9=(lb' ++ [(⟨⟨7,⟨#[]⟩,[⟨1,0,⟨#[]⟩⟩],[],0,0⟩,some ⟨w7.heap.size,0,none⟩,1,1,none,0,0⟩:SRow)]).length:=⟨_,rfl⟩
     have hl9:n9=n'+1:=by rw [hn9];have:=HN.out;simp;omega
     have HN9:=Lib.hid hn9
     rw [← hn9] at r9 M9
     have HMz:=Lib.hid M9
     have Hr9:=Lib.hid r9
     have Hl9:=Lib.hid hl9
     rw [s8] at Hr9
     clear hn9 hl9
     clear O8 X8 r9 M9 HM7
     go_wp2_with (at_builtin;refine Lib.wpList_append_run _ rfl _ _ _ _ rfl _ _ rfl rfl _ _ Hr9.out ?_)
     go_roundw
     case rel=>exact ⟨_,n9,_,_,rfl,by have:=Hl9.out;omega,HN9.out,HMz.out,by omega⟩
     case measure=>have:=Hl9.out;simp [lenS];omega
    ·have HMz:=HM7
     obtain ⟨t1,t2,t3,t4,t5,t6,t7,t8,t9,t10,t11,t12⟩:=HMz.out.tail Hx.out
     have HBe:=Lib.hid t12
     have Hfin:=Lib.hid (HMz.out.fin Hx.out)
     clear t12
     go_wp2
     refine bodyPost_ret (results_cell_row rfl _ _ w1.heap.size 32 _ (0,0) _ (by rfl) HBe.out Tryz.underlying32 (by rfl) (by kernel_rfl)) rfl ?_
     exact Hfin.out
  ·skip
   have hcur:=HM.out.roll.cur
   have X8:Ext wz (wz.alloc (.cells #[.int .i64 1,.int .i64 (-5),.string ⟨#[]⟩] 104)):=(Ext.refl wz).alloc _
   have s8:(wz.alloc (.cells #[.int .i64 1,.int .i64 (-5),.string ⟨#[]⟩] 104)).heap.size=wz.heap.size+1:=by simp
   have HO8:Hid (OwnE wz.heap.size (wz.alloc (.cells #[.int .i64 1,.int .i64 (-5),.string ⟨#[]⟩] 104)) (.slice (some ⟨wz.heap.size,0,none⟩) 1 1) [⟨1,-5,⟨#[]⟩⟩]):=OwnE.one ⟨1,-5,⟨#[]⟩⟩ (Nat.le_refl _) ⟨i64s 1 (by omega),by unfold I64;simp,noName⟩
   have HR8:Hid (Roll c wz (wz.alloc (.cells #[.int .i64 1,.int .i64 (-5),.string ⟨#[]⟩] 104))):=(Roll.refl hcur).ext X8
   clear X8 hcur
   go_wp2_with fail
   go_loopw [10] (fun v10 wr=>∃ (le:List PNode) (n':Nat) (a':Option Addr) (c':Nat),v10=.slice a' n' c'∧n'≤2019∧Hid (n'=le.length)∧Hid (OwnE wz.heap.size wr (.slice a' n' c') le)∧Hid (Roll c wz wr)) (fun v10 _=>2020 - lenS v10)
   case atStart=>exact ⟨[⟨1,-5,⟨#[]⟩⟩],1,_,_,rfl,by omega,rfl,HO8.out,HR8.out⟩
   case round =>
    clear HO8 HR8
    obtain ⟨le,n',a',c',rfl,hle,HN,HO,HR⟩:=hrel
    have hcz:c<wz.heap.size:=by omega
    go_wp2_with fail
    refine (HBw.out 60 wr (by omega) HR.out.cur).mono ?_
    rintro e w7 ⟨y,rfl,y1,y2,hR7⟩
    have HR7:Hid (Roll c wz w7):=HR.out.trans hR7
    have HO7:=Lib.hid (HO.out.tf hR7.tf (fun b hb=>by have e:b=c:=hb;omega))
    clear hR7 HR HO
    by_cases hlt:(n':Int)<1960+y
    ·obtain ⟨v9,w9,r9,O9,g9⟩:=HO7.out.app1 (ty:=100) ⟨6,0,⟨#[]⟩⟩ ⟨i64s 6 (by omega),i64s 0 (by omega),noName⟩ (by have:=HN.out;omega) HR7.out.tf.size
     obtain ⟨a9,c9,rfl,_,_⟩:=own_form O9.own
     have HR9:Hid (Roll c wz w9):=(HR7.out.ext ((Ext.refl _).alloc _)).grown (fun b hb=>(own_ge HO7.out.own b hb).1) (Nat.le_refl _) hcz g9
     obtain ⟨n9,hn9⟩:∃ n9,n9=(le ++ [(⟨6,0,⟨#[]⟩⟩:PNode)]).length:=⟨_,rfl⟩
     have hl9:n9=n'+1:=by rw [hn9];have:=HN.out;simp;omega
     have HN9:=Lib.hid hn9
     rw [← hn9] at r9 O9
     have HO9:=Lib.hid O9
     have Hr9:=Lib.hid r9
     have Hl9:=Lib.hid hl9
     clear r9 O9 g9 HO7 HR7 hn9 hl9
     go_wp2_with (at_builtin;refine Lib.wpList_append_run _ rfl _ _ _ _ rfl _ _ rfl rfl _ _ Hr9.out ?_)
     go_roundw
     case rel=>exact ⟨_,n9,_,_,rfl,by have:=Hl9.out;omega,HN9.out,HO9.out,HR9.out⟩
     case measure=>have:=Hl9.out;simp [lenS];omega
    ·have HM9:=HM.out.newB.rolls HR7.out
     obtain ⟨b7,b8⟩:=HM9.bAt Hs.out (q:=2) (by omega) rfl
     have HMz:=Lib.hid (HM9.setE Hs.out HO7.out (by have:=HN.out;omega) hBl nBK)
     clear HM9 HM HO7 HR7
     obtain ⟨t1,t2,t3,t4,t5,t6,t7,t8,t9,t10,t11,t12⟩:=HMz.out.tail Hx.out
     have HBe:=Lib.hid t12
     have Hfin:=Lib.hid (HMz.out.fin Hx.out)
     clear t12
     go_wp2
     refine bodyPost_ret (results_cell_row rfl _ _ w1.heap.size 32 _ (0,0) _ (by rfl) HBe.out Tryz.underlying32 (by rfl) (by kernel_rfl)) rfl ?_
     exact Hfin.out
  ·skip
   go_wp2_with fail
   refine (d_pick_lit c wz HM.out.roll.cur _ [⟨#[118,49]⟩,⟨#[103]⟩,⟨#[112,48]⟩,⟨#[110,101,119]⟩] 4 _ rfl rfl (by omega) (fun s hs=>by
    simp only [List.mem_cons,List.not_mem_nil,or_false] at hs
    rcases hs with rfl | rfl | rfl | rfl<;>decide)).mono ?_
   rintro e w7 ⟨y,rfl,_,hy,hR7⟩
   have HM7:=Lib.hid (HM.out.newB.rolls hR7)
   have h7:=hR7.tf.size
   have X8:Ext w7 (w7.alloc (.cells #[.int .i64 1,.int .i64 0,.string ⟨#[]⟩] 104)):=(Ext.refl w7).alloc _
   have s8:(w7.alloc (.cells #[.int .i64 1,.int .i64 0,.string ⟨#[]⟩] 104)).heap.size=w7.heap.size+1:=by simp
   have O8:OwnE wz.heap.size (w7.alloc (.cells #[.int .i64 1,.int .i64 0,.string ⟨#[]⟩] 104)) (.slice (some ⟨w7.heap.size,0,none⟩) 1 1) [⟨1,0,⟨#[]⟩⟩]:=OwnE.one ⟨1,0,⟨#[]⟩⟩ h7 ⟨i64s 1 (by omega),i64s 0 (by omega),noName⟩
   obtain ⟨v9,w9,r9,M9,h9⟩:=(HM7.out.ext X8).appE O8 (by simp) (kind:=1) (name:=y) (i64s 1 (by omega)) hy (by omega) (HM7.out.ext X8).k0 81
   obtain ⟨a9,c9,rfl,_,_⟩:=own_form M9.b.own
   obtain ⟨n9,hn9⟩:∃ n9,n9=(lb ++ [(⟨⟨1,y,[⟨1,0,⟨#[]⟩⟩],[],0,0⟩,some ⟨w7.heap.size,0,none⟩,1,1,none,0,0⟩:SRow)]).length:=⟨_,rfl⟩
   rw [← hn9] at r9 M9
   clear hn9
   have HMz:=Lib.hid M9
   have Hr9:=Lib.hid r9
   rw [s8] at Hr9
   clear O8 X8 r9 M9 hR7 HM HM7
   obtain ⟨t1,t2,t3,t4,t5,t6,t7,t8,t9,t10,t11,t12⟩:=HMz.out.tail Hx.out
   have HBe:=Lib.hid t12
   have Hfin:=Lib.hid (HMz.out.fin Hx.out)
   clear t12
   go_wp2_with (at_builtin;refine Lib.wpList_append_run _ rfl _ _ _ _ rfl _ _ rfl rfl _ _ Hr9.out ?_)
   refine bodyPost_ret (results_cell_row rfl _ _ w1.heap.size 32 _ (0,0) _ (by rfl) HBe.out Tryz.underlying32 (by rfl) (by kernel_rfl)) rfl ?_
   exact Hfin.out
end Go.Proofs.YtcfggjmdcaoecaaGreatDoor
