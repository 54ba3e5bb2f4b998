/- A part of the proofs of FnBound and FnCheck: the lemmas and walks GenW, GenT, GenM, Par, Dag, GenN, GenO, GenP. -/
import Derived.Test.YtcfggjmdcaoecaaGreatDoorB31
import Derived.Test.YtcfggjmdcaoecaaGreatDoorB12
import Derived.Test.YtcfggjmdcaoecaaGreatDoorB02
import Derived.Test.YtcfggjmdcaoecaaGreatDoorB03
set_option linter.unusedVariables false
set_option linter.unusedSimpArgs false
namespace Go.Proofs.YtcfggjmdcaoecaaGreatDoor
open Go Go.RowKit Md Go.Proofs.YtcfggjmdcaoecaaGreatDoorW.PrintLast
def TreeOut (K:Foot) (c:Nat) (w:World) (e:Ending) (w':World):Prop:=∃ vG vF t,e=.returned (.agg #[vG,vF])∧SlGlob K w' vG t.globals∧SlFunc K w' vF t.funcs∧Small t∧Roll c w w'
theorem OwnE.slne {base:Nat} {w:World} {v:Value} {l:List PNode} (h:OwnE base w v l) {K:Foot} (hK:∀ b,base≤b→v.ownBlock=some b→K b):SlNode K w v l:=by
 obtain ⟨a,cap,e,g1,g2,g3⟩:=h.sl (K:=fun b=>base≤b) (fun _ h=>h)
 refine ⟨a,cap,e,g1,g2,fun hp=>?_⟩
 obtain ⟨b,o,e1,e2,e3⟩:=g3 hp
 exact ⟨b,o,e1,hK b e2 (by rw [e,e1];rfl),e3⟩
set_option maxRecDepth 1000000 in
set_option maxHeartbeats 16000000 in
theorem d_l2Wide (c:Nat) (w:World) (h:CurAt w c):Calls Tryz.prog 61 #[.pointer (some ⟨c,0,none⟩)] w (TreeOut (fun b=>w.heap.size≤b) c w):=by
 have HBw:Hid (∀ n w',1≤n∧n≤9223372036854775807→CurAt w' c→Calls Tryz.prog 53 #[.pointer (some ⟨c,0,none⟩),.int .i64 n] w' (Rolls c 0 n w')):=fun n w' hn hR=>d_l1Below c n w' hR hn
 have hcl:=h.lt
 have BR:=Blk.alloc w 32 #[.slice none 0 0,.slice none 0 0]
 have X1:Ext w (w.alloc (.cells #[.slice none 0 0,.slice none 0 0] 32)):=(Ext.refl w).alloc _
 have s1:w.heap.size<(w.alloc (.cells #[.slice none 0 0,.slice none 0 0] 32)).heap.size:=by simp
 generalize hw1:w.alloc (.cells #[.slice none 0 0,.slice none 0 0] 32)=w1 at BR X1 s1
 have OS:=OwnSN.new (N:=5000) w1 w1.heap.size (Nat.le_refl _)
 have X2:Ext w1 (w1.alloc (.cells #[] 102)):=(Ext.refl w1).alloc _
 generalize hw2:w1.alloc (.cells #[] 102)=w2 at OS X2
 have HR2:Hid (Roll c w w2):=(Roll.refl h).ext (X1.trans X2)
 have HBR:=Lib.hid (BR.ext X2)
 have HOS:=Lib.hid OS
 have h12:=X2.size
 clear h BR X1 OS X2
 go_enter Tryz.func61,Tryz.ntmps61
 go_wp2_with fail
 refine (HBw.out 6 w2 (by omega) HR2.out.cur).mono ?_
 rintro e w3 ⟨x,rfl,h1,h2,hR3⟩
 obtain ⟨n,rfl⟩:∃ n:Nat,x=n:=⟨x.toNat,by omega⟩
 have OE:=OwnE.one (base:=w1.heap.size) (w:=w3) ⟨1,1,⟨#[]⟩⟩ (Nat.le_trans h12 hR3.tf.size) ⟨by unfold I64;simp,by unfold I64;simp,noName⟩
 simp only at OE
 have X4:Ext w3 (w3.alloc (.cells #[.int .i64 1,.int .i64 1,.string ⟨#[]⟩] 104)):=(Ext.refl w3).alloc _
 generalize hw4:w3.alloc (.cells #[.int .i64 1,.int .i64 1,.string ⟨#[]⟩] 104)=w4 at OE X4
 have HR4:Hid (Roll c w w4):=(HR2.out.trans hR3).ext X4
 have HBR4:=Lib.hid ((HBR.out.tf hR3.tf (show ¬ w.heap.size=c by omega)).ext X4)
 have HOS4:=Lib.hid ((HOS.out.tf hR3.tf (fun b hb=>by have e:b=c:=hb;omega)).ext X4)
 have HOE4:=Lib.hid OE
 have h14:w1.heap.size≤w4.heap.size:=Nat.le_trans (Nat.le_trans h12 hR3.tf.size) X4.size
 clear hR3 OE X4 HR2 HBR HOS hw1 hw2
 go_wp2_with fail
 clear hw4
 go_loopw [5,6] (fun v5 v6 wr=>∃ (k:Nat) (l:List PNode),k≤11∧l.length≤1+2*k∧v6=.int .i64 k∧Hid (OwnE w1.heap.size wr v5 l)∧Hid (Roll c w wr)∧Hid (Ext w4 wr)) (fun _ v6 _=>11 - (intOf v6).toNat)
 case atStart=>exact ⟨0,_,Nat.zero_le _,by simp,rfl,HOE4.out,HR4.out,Ext.refl _⟩
 case round =>
  clear HOE4 HR4
  obtain ⟨k,l,hk,hl,rfl,HO,HR,HX⟩:=hrel
  by_cases hlt:k<11
  ·have HJ:Hid (Calls Tryz.prog 101 #[.slice (some ⟨wr.heap.size,0,none⟩) 1 1,_,.agg #[.int .i64 7,.int .i64 3,.string ⟨#[]⟩]] (wr.alloc (.cells #[.int .i64 5,.int .i64 0,.string ⟨#[]⟩] 104)) (MadeX ([(⟨5,0,⟨#[]⟩⟩:PNode)] ++ l ++ [(⟨7,3,⟨#[]⟩⟩:PNode)]) (wr.alloc (.cells #[.int .i64 5,.int .i64 0,.string ⟨#[]⟩] 104)))) :=
    d_l2Join AnyB _ _ [⟨5,0,⟨#[]⟩⟩] l ⟨7,3,⟨#[]⟩⟩ _ ((OwnE.one (base:=wr.heap.size) (w:=wr) ⟨5,0,⟨#[]⟩⟩ (Nat.le_refl _) ⟨by unfold I64;simp,by unfold I64;simp,noName⟩).sl (fun _ _=>trivial)) ((HO.out.ext ((Ext.refl wr).alloc _)).sl (fun _ _=>trivial)) ⟨by unfold I64;simp,by unfold I64;simp,noName⟩ (by simp;omega)
   go_wp2_with fail
   refine HJ.out.mono ?_
   rintro e w6 ⟨v6,rfl,hO6,hX6⟩
   have X6:Ext wr w6:=((Ext.refl wr).alloc _).trans hX6
   have hbs:w1.heap.size≤(wr.alloc (.cells #[.int .i64 5,.int .i64 0,.string ⟨#[]⟩] 104)).heap.size:=Nat.le_trans (Nat.le_trans h14 HX.out.size) ((Ext.refl wr).alloc _).size
   have HO6:=Lib.hid (hO6.base hbs)
   have HR6:=Lib.hid (HR.out.ext X6)
   have HX6:=Lib.hid (HX.out.trans X6)
   clear hO6 hX6 X6 HJ
   go_wp2
   go_roundw
   case rel=>exact ⟨k+1,_,by omega,by simp;omega,by go_num,HO6.out,HR6.out,HX6.out⟩
   case measure=>simp [intOf];omega
  ·have hle:l.length≤23:=by omega
   obtain ⟨aE,nE,cE,rfl⟩:=HO.out.form
   have HOS5:=Lib.hid (HOS4.out.ext HX.out)
   have HBR5:=Lib.hid (HBR4.out.ext HX.out)
   obtain ⟨wo,hwo⟩:∃ wo,wo=wr:=⟨_,rfl⟩
   subst wr
   have h1o:w1.heap.size≤wo.heap.size:=Nat.le_trans h14 HX.out.size
   go_wp2_with fail
   go_loopw [3,7] (fun v3 v7 wr=>∃ (k:Nat) (lb:List SRow),k≤494+n∧lb.length=k∧v7=.int .i64 k∧Hid (OwnSN 5000 w1.heap.size wr v3 lb)∧Hid (OwnE w1.heap.size wr (.slice aE nE cE) l)∧Hid (Roll c w wr)∧Hid (Blk wr w.heap.size 32 #[.slice none 0 0,.slice none 0 0])∧Hid (w1.heap.size≤wr.heap.size)) (fun _ v7 _=>494+n - (intOf v7).toNat)
   case atStart=>exact ⟨0,[],Nat.zero_le _,rfl,rfl,HOS5.out,HO.out,HR.out,HBR5.out,h1o⟩
   case round =>
    clear HOS5 HO HR HBR5 HX h1o HOS4 HBR4
    obtain ⟨q,lb,hq,hlb,rfl,HS,HO,HR,HB,Hsz⟩:=hrel
    have Hlb:=Lib.hid hlb
    clear hlb
    by_cases hlt2:q<494+n
    ·go_wp2_with fail
     refine (d_digits (q:Int) wr (by omega) (by omega)).mono ?_
     rintro e w5 ⟨s,rfl,hs,X5⟩
     have hss:¬ 9223372036854775807<1+s.size:=by omega
     have hst:((⟨#[119]⟩:ByteArray) ++ s).size≤maxLen:=by
      have:(⟨#[119]⟩:ByteArray).size=1:=rfl
      rw [ByteArray.size_append]
      unfold maxLen
      omega
     have OA:=OwnE.one (base:=w5.heap.size) (w:=w5) ⟨1,(q:Int),⟨#[]⟩⟩ (Nat.le_refl _) ⟨by unfold I64;simp,by unfold I64;simp only;omega,noName⟩
     simp only at OA
     have XA:Ext w5 (w5.alloc (.cells #[.int .i64 1,.int .i64 (q:Nat),.string ⟨#[]⟩] 104)):=(Ext.refl w5).alloc _
     generalize hwA:w5.alloc (.cells #[.int .i64 1,.int .i64 (q:Nat),.string ⟨#[]⟩] 104)=wA at OA XA
     have hS5:=(HS.out.ext X5).ext XA
     have hge:=own_ge (HS.out.ext X5).own
     have hw5:w1.heap.size≤w5.heap.size:=Nat.le_trans Hsz.out X5.size
     have hx:SOkN 5000 (fun b=>w1.heap.size≤b∧some b≠Value.ownBlock _) wA ⟨⟨1,⟨#[119]⟩ ++ s,[⟨1,(q:Int),⟨#[]⟩⟩],[],0,0⟩,some ⟨w5.heap.size,0,none⟩,1,1,none,0,0⟩ :=
      (SOkN.e1 (N:=5000) OA (by simp) (i64s 1 (by omega)) (i64s 0 (by omega)) (i64s 0 (by omega)) hst).keep (Keep.refl _ _) (fun b hb=>⟨by omega,fun e=>by have:=(hge b e.symm).2;omega⟩)
     obtain ⟨v6,w6,r6,O6,g6⟩:=OwnSN.app1 (ty:=81) hS5 _ hx (by have:=Hlb.out;omega) (by have:=XA.size;omega)
     have XB:Ext wA (wA.alloc (.cells #[.int .i64 1,.string (⟨#[119]⟩ ++ s),.slice (some ⟨w5.heap.size,0,none⟩) 1 1,.slice none 0 0,.int .i64 0,.int .i64 0] 102)):=(Ext.refl wA).alloc _
     have X0:Ext wr (wA.alloc (.cells #[.int .i64 1,.string (⟨#[119]⟩ ++ s),.slice (some ⟨w5.heap.size,0,none⟩) 1 1,.slice none 0 0,.int .i64 0,.int .i64 0] 102)):=(X5.trans XA).trans XB
     have T6:=grown_tf2 g6
     have HR6:Hid (Roll c w w6):=(HR.out.ext X0).grown (fun b hb=>(own_ge HS.out.own b hb).1) (by omega) (by omega) g6
     have HO6:Hid (OwnE w1.heap.size w6 (.slice aE nE cE) l):=⟨own_tf (HO.out.ext X0).own T6 (fun b hb e=>own_ne_own HO.out.own HS.out.own (by decide) b hb e),HO.out.ok⟩
     have HB6:=Lib.hid ((HB.out.ext X0).tf T6 (fun e=>by have:=(own_ge HS.out.own _ e).1;omega))
     have HS6:=Lib.hid O6
     have Hr:=Lib.hid r6
     have Hsz6:Hid (w1.heap.size≤w6.heap.size):=Nat.le_trans (Nat.le_trans Hsz.out X0.size) g6.size
     clear OA XA hS5 hge hx r6 O6 g6 XB X0 T6 X5
     go_wp2_with (at_builtin;refine Lib.wpList_append_run _ rfl _ _ _ _ rfl _ _ rfl rfl _ _ Hr.out ?_)
     go_roundw
     case rel=>exact ⟨q+1,_,by omega,by simp [Hlb.out],by go_num,HS6.out,HO6.out,HR6.out,HB6.out,Hsz6.out⟩
     case measure=>simp [intOf];omega
    ·have hge:=own_ge HS.out.own
     have hx:SOkN 5000 (fun b=>w1.heap.size≤b∧some b≠Value.ownBlock _) wr ⟨⟨7,⟨#[]⟩,l,[],0,0⟩,aE,nE,cE,none,0,0⟩ :=
      ⟨HO.out.slne (fun b hb ho=>⟨hb,fun e=>own_ne_own HO.out.own HS.out.own (by decide) b ho e.symm⟩),Sl.nil _ _ _ _,i64s 7 (by omega),i64s 0 (by omega),i64s 0 (by omega),noName,(show l.length≤5000 by omega),by simp⟩
     obtain ⟨v6,w6,r6,O6,g6⟩:=OwnSN.app1 (ty:=81) HS.out _ hx (by have:=Hlb.out;omega) Hsz.out
     obtain ⟨lz,hlz⟩:∃ lz,lz=lb ++ [(⟨⟨7,⟨#[]⟩,l,[],0,0⟩,aE,nE,cE,none,0,0⟩:SRow)]:=⟨_,rfl⟩
     rw [← hlz] at O6
     have Hlz:Hid (1≤lz.length∧lz.length≤600):=by
      have:=Hlb.out
      show _∧_
      rw [hlz]
      simp
      omega
     clear hlz
     obtain ⟨aZ,cZ,rfl,_,_⟩:=O6.len
     have XB:Ext wr (wr.alloc (.cells #[.int .i64 7,.string ⟨#[]⟩,.slice aE nE cE,.slice none 0 0,.int .i64 0,.int .i64 0] 102)):=(Ext.refl wr).alloc _
     have T6:=grown_tf2 g6
     have R6:Roll c w w6:=(HR.out.ext XB).grown (fun b hb=>(hge b hb).1) (by omega) (by omega) g6
     have B6:=(HB.out.ext XB).tf T6 (fun e=>by have:=(hge _ e).1;omega)
     have Hr:=Lib.hid r6
     have OF:=OwnFN.one (base:=w1.heap.size) (w:=w6) (N:=5000) ⟨⟨⟨#[109,97,105,110]⟩,[],lz.map SRow.s⟩,none,0,0,aZ,lz.length,cZ⟩ (Nat.le_trans (Nat.le_trans Hsz.out XB.size) g6.size) (by
      refine ⟨Sl.nil _ _ _ _,O6.sl (fun _ h=>h),by simp [ByteArray.size,maxLen],?_,by have:=Hlz.out;simp;omega,by simp⟩
      intro y hy
      obtain ⟨z,hz,rfl⟩:=List.mem_map.1 hy
      exact ⟨(O6.ok z hz).le,(O6.ok z hz).lf⟩)
     simp only at OF
     have X7:Ext w6 (w6.alloc (.cells #[.string ⟨#[109,97,105,110]⟩,.slice none 0 0,.slice aZ lz.length cZ] 83)):=(Ext.refl w6).alloc _
     generalize hw7:w6.alloc (.cells #[.string ⟨#[109,97,105,110]⟩,.slice none 0 0,.slice aZ lz.length cZ] 83)=w7 at OF X7
     have B7:=B6.ext X7
     have R7:=R6.ext X7
     have f0:w7.cell? ⟨w.heap.size,0,none⟩=some (.slice none 0 0):=(B7.cell 0).trans rfl
     have f1:w7.cell? ⟨w.heap.size,1,none⟩=some (.slice none 0 0):=(B7.cell 1).trans rfl
     have f2:w7.frozen? ⟨w.heap.size,0,none⟩=false:=B7.frozen 0
     have f3:w7.frozen? ⟨w.heap.size,1,none⟩=false:=B7.frozen 1
     have f4:w7.setCell ⟨w.heap.size,0,none⟩ (.slice none 0 0)=w7:=set_same B7 rfl
     have T8:=set_tf w7 w.heap.size 1 (.slice (some ⟨w6.heap.size,0,none⟩) 1 1)
     have HB8:Hid (Blk (w7.setCell ⟨w.heap.size,1,none⟩ (.slice (some ⟨w6.heap.size,0,none⟩) 1 1)) w.heap.size 32 #[.slice none 0 0,.slice (some ⟨w6.heap.size,0,none⟩) 1 1]):=B7.set 1 _
     have Hfin:Hid (TreeOut (fun b=>w.heap.size≤b) c w (.returned (.agg #[.slice none 0 0,.slice (some ⟨w6.heap.size,0,none⟩) 1 1])) (w7.setCell ⟨w.heap.size,1,none⟩ (.slice (some ⟨w6.heap.size,0,none⟩) 1 1))):=by
      refine ⟨_,_,⟨[],[⟨⟨#[109,97,105,110]⟩,[],lz.map SRow.s⟩]⟩,rfl,Sl.nil _ _ _ _,(OF.tf T8 (fun b _ hb=>by have e:b=w.heap.size:=hb;omega)).sl (fun b hb=>by omega),?_,⟨R7.cur.tf T8 (fun b hb e=>by have e:b=w.heap.size:=e;omega),R7.tf.trans2 T8 (fun i hi e=>by have e:i=w.heap.size:=e;omega)⟩⟩
      intro f hf y hy
      rw [List.mem_singleton.1 hf] at hy
      obtain ⟨z,hz,rfl⟩:=List.mem_map.1 hy
      have h1:=(O6.ok z hz).le
      have h2:=(O6.ok z hz).lf
      omega
     clear hge hx r6 O6 g6 XB T6 R6 B6 OF X7 B7 R7 T8 HS HO HR HB
     go_wp2_with (at_builtin;refine Lib.wpList_append_run _ rfl _ _ _ _ rfl _ _ rfl rfl _ _ Hr.out ?_)
     refine bodyPost_ret (results_cell_row rfl _ _ w.heap.size 32 _ (0,0) _ (by rfl) HB8.out Tryz.underlying32 (by rfl) (by kernel_rfl)) rfl ?_
     exact Hfin.out
open Go Go.RowKit Md Go.Proofs.YtcfggjmdcaoecaaGreatDoorW.PrintLast
def SpoilOk:Prop:=∀ (c:Nat) (w:World) (K:Foot) (vG vF:Value) (gs:List PGlob) (l:List FRow),CurAt w c→(∀ b,K b→b≠c)→TreeOk K w vG vF gs l →
 Calls Tryz.prog 54 #[.pointer (some ⟨c,0,none⟩),.agg #[vG,vF]] w (TreeOut (fun b=>K b∨w.heap.size≤b) c w)
theorem TreeOk.tf {M K:Foot} {w w':World} {vG vF:Value} {gs:List PGlob} {l:List FRow} (h:TreeOk K w vG vF gs l) (k:Tf M w w') (hM:∀ b,K b→¬ M b):TreeOk K w' vG vF gs l :=
 ⟨h.g.keep (k.keep hM) (fun _ _ _ h=>h.any) (fun _ h=>h),h.f.keep (k.keep hM) (fun _ _ _ h=>h) (fun _ h=>h),fun x hx=>(h.ok x hx).keep (k.keep hM) (fun _ h=>h),h.lg,h.lf⟩
set_option maxRecDepth 1000000 in
set_option maxHeartbeats 16000000 in
theorem d_l2AnyTree (hS:SpoilOk) (c:Nat) (w:World) (h:CurAt w c):Calls Tryz.prog 62 #[.pointer (some ⟨c,0,none⟩)] w (TreeOut (fun b=>w.heap.size≤b) c w):=by
 have HS:=Lib.hid hS
 unfold SpoilOk at HS
 have hcl:=h.lt
 have BR:=Blk.alloc w 32 #[.slice none 0 0,.slice none 0 0]
 have X1:Ext w (w.alloc (.cells #[.slice none 0 0,.slice none 0 0] 32)):=(Ext.refl w).alloc _
 have s1:w.heap.size<(w.alloc (.cells #[.slice none 0 0,.slice none 0 0] 32)).heap.size:=by simp
 generalize hw1:w.alloc (.cells #[.slice none 0 0,.slice none 0 0] 32)=w1 at BR X1 s1
 have HX1:=Lib.hid X1
 have HBR:=Lib.hid BR
 have HDr:=Lib.hid (d_l2DrawTree c w1 (h.ext X1))
 have HR1:Hid (Roll c w w1):=(Roll.refl h).ext X1
 clear hS h BR X1
 go_enter Tryz.func62,Tryz.ntmps62
 go_wp2_with fail
 clear hw1
 refine HDr.out.mono ?_
 rintro e w2 ⟨vG,vF,gs,l,rfl,hT,hR2⟩
 obtain ⟨aG,nG,cG,rfl⟩:=hT.g.shape
 obtain ⟨aF,nF,cF,rfl⟩:=hT.f.shape
 have BT:=Blk.alloc w2 32 #[.slice aG nG cG,.slice aF nF cF]
 have X3:Ext w2 (w2.alloc (.cells #[.slice aG nG cG,.slice aF nF cF] 32)):=(Ext.refl w2).alloc _
 generalize hw3:w2.alloc (.cells #[.slice aG nG cG,.slice aF nF cF] 32)=w3 at BT X3
 have h12:=hR2.tf.size
 have HR3:Hid (Roll c w1 w3):=hR2.ext X3
 have HBR3:=Lib.hid ((HBR.out.tf hR2.tf (show ¬ w.heap.size=c by omega)).ext X3)
 have HT3:=Lib.hid (hT.tf (Tf.ext (M:=fun _=>False) X3) (fun _ _ h=>h))
 have HBT:=Lib.hid BT
 clear hT hR2 BT X3 HDr
 go_wp2_with fail
 clear hw3
 refine (d_l1Once c 8 w3 HR3.out.cur (by omega)).mono ?_
 rintro e w4 ⟨b4,rfl,hR4⟩
 have HR4:Hid (Roll c w1 w4):=HR3.out.trans hR4
 have HBR4:=Lib.hid (HBR3.out.tf hR4.tf (show ¬ w.heap.size=c by omega))
 have HT4:Hid (TreeOk (fun b=>w1.heap.size≤b) w4 (.slice aG nG cG) (.slice aF nF cF) gs l):=HT3.out.tf hR4.tf (fun b hb e=>by have e:b=c:=e;omega)
 have hBT4:=HBT.out.tf hR4.tf (show ¬ w2.heap.size=c by omega)
 have t0:w4.cell? ⟨w2.heap.size,0,none⟩=some (.slice aG nG cG):=(hBT4.cell 0).trans rfl
 have t1:w4.cell? ⟨w2.heap.size,1,none⟩=some (.slice aF nF cF):=(hBT4.cell 1).trans rfl
 clear hR4 hBT4 HR3 HBR3 HT3 HBT
 cases b4 with
 | false =>
   have HBz:=HBR4
   have HRz:=HR4
   have Htree:Hid (∃ t:PTree,SlGlob (fun b=>w1.heap.size≤b) w4 (.slice aG nG cG) t.globals∧SlFunc (fun b=>w1.heap.size≤b) w4 (.slice aF nF cF) t.funcs∧Small t):=by
    refine ⟨⟨gs,l.map FRow.f⟩,HT4.out.g,rows_func HT4.out.f HT4.out.ok,?_⟩
    intro f hf s hs
    obtain ⟨x,hx,rfl⟩:=List.mem_map.1 hf
    have:=(HT4.out.ok x hx).small s hs
    omega
   have r0:w4.cell? ⟨w.heap.size,0,none⟩=some (.slice none 0 0):=(HBz.out.cell 0).trans rfl
   have r1:w4.cell? ⟨w.heap.size,1,none⟩=some (.slice none 0 0):=(HBz.out.cell 1).trans rfl
   have r2:w4.frozen? ⟨w.heap.size,0,none⟩=false:=HBz.out.frozen 0
   have r3:w4.frozen? ⟨w.heap.size,1,none⟩=false:=HBz.out.frozen 1
   have B0:=HBz.out.set 0 (.slice aG nG cG)
   have r4:(w4.setCell ⟨w.heap.size,0,none⟩ (.slice aG nG cG)).cell? ⟨w.heap.size,1,none⟩=some (.slice none 0 0):=(B0.cell 1).trans rfl
   have r5:(w4.setCell ⟨w.heap.size,0,none⟩ (.slice aG nG cG)).frozen? ⟨w.heap.size,1,none⟩=false:=B0.frozen 1
   have HBe:Hid (Blk ((w4.setCell ⟨w.heap.size,0,none⟩ (.slice aG nG cG)).setCell ⟨w.heap.size,1,none⟩ (.slice aF nF cF)) w.heap.size 32 #[.slice aG nG cG,.slice aF nF cF]):=B0.set 1 _
   have TR:Tf (Is w.heap.size) w4 ((w4.setCell ⟨w.heap.size,0,none⟩ (.slice aG nG cG)).setCell ⟨w.heap.size,1,none⟩ (.slice aF nF cF)):=(set_tf w4 w.heap.size 0 _).trans (set_tf _ w.heap.size 1 _)
   have Hfin:Hid (TreeOut (fun b=>w.heap.size≤b) c w (.returned (.agg #[.slice aG nG cG,.slice aF nF cF])) ((w4.setCell ⟨w.heap.size,0,none⟩ (.slice aG nG cG)).setCell ⟨w.heap.size,1,none⟩ (.slice aF nF cF))):=by
    obtain ⟨t,h1,h2,h3⟩:=Htree.out
    have hk:Keep (fun b=>w1.heap.size≤b) w4 ((w4.setCell ⟨w.heap.size,0,none⟩ (.slice aG nG cG)).setCell ⟨w.heap.size,1,none⟩ (.slice aF nF cF)):=TR.keep (fun b hb e=>by have e:b=w.heap.size:=e;omega)
    exact ⟨_,_,t,rfl,h1.keep hk (fun _ _ _ h=>h.any) (fun b hb=>by omega),Sl.keep h2 hk (fun _ _ _ h=>h.keep hk (fun b hb=>by omega)) (fun b hb=>by omega),h3,⟨HRz.out.cur.tf TR (fun b hb e=>by have e:b=w.heap.size:=e;omega),(HR1.out.tf.trans HRz.out.tf).trans2 TR (fun i hi e=>by have e:i=w.heap.size:=e;omega)⟩⟩
   clear B0 TR
   go_wp2
   refine bodyPost_ret (results_cell_row rfl _ _ w.heap.size 32 _ (0,0) _ (by rfl) HBe.out Tryz.underlying32 (by rfl) (by kernel_rfl)) rfl ?_
   exact Hfin.out
 | true =>
   have HSp:=Lib.hid (HS.out c w4 (fun b=>w1.heap.size≤b) (.slice aG nG cG) (.slice aF nF cF) gs l HR4.out.cur (fun b hb e=>by omega) HT4.out)
   go_wp2_with fail
   clear t0 t1
   refine HSp.out.mono ?_
   rintro e w5 ⟨vG5,vF5,t,rfl,hG5,hF5,hz5,hR5⟩
   obtain ⟨xG,yG,zG,rfl⟩:=hG5.shape
   obtain ⟨xF,yF,zF,rfl⟩:=hF5.shape
   have hs4:=HR4.out.tf.size
   have HBz:=Lib.hid (HBR4.out.tf hR5.tf (show ¬ w.heap.size=c by omega))
   have HRz:Hid (Roll c w1 w5):=HR4.out.trans hR5
   have Htree:Hid (∃ t:PTree,SlGlob (fun b=>w1.heap.size≤b) w5 (.slice xG yG zG) t.globals∧SlFunc (fun b=>w1.heap.size≤b) w5 (.slice xF yF zF) t.funcs∧Small t) :=
    ⟨t,hG5.keep (Keep.refl _ _) (fun _ _ _ h=>h) (fun b hb=>by rcases hb with hb | hb<;>omega),Sl.keep hF5 (Keep.refl _ _) (fun _ _ _ h=>h.keep (Keep.refl _ _) (fun b hb=>by rcases hb with hb | hb<;>omega)) (fun b hb=>by rcases hb with hb | hb<;>omega),hz5⟩
   clear hG5 hF5 hz5 hR5 HSp
   have r0:w5.cell? ⟨w.heap.size,0,none⟩=some (.slice none 0 0):=(HBz.out.cell 0).trans rfl
   have r1:w5.cell? ⟨w.heap.size,1,none⟩=some (.slice none 0 0):=(HBz.out.cell 1).trans rfl
   have r2:w5.frozen? ⟨w.heap.size,0,none⟩=false:=HBz.out.frozen 0
   have r3:w5.frozen? ⟨w.heap.size,1,none⟩=false:=HBz.out.frozen 1
   have B0:=HBz.out.set 0 (.slice xG yG zG)
   have r4:(w5.setCell ⟨w.heap.size,0,none⟩ (.slice xG yG zG)).cell? ⟨w.heap.size,1,none⟩=some (.slice none 0 0):=(B0.cell 1).trans rfl
   have r5:(w5.setCell ⟨w.heap.size,0,none⟩ (.slice xG yG zG)).frozen? ⟨w.heap.size,1,none⟩=false:=B0.frozen 1
   have HBe:Hid (Blk ((w5.setCell ⟨w.heap.size,0,none⟩ (.slice xG yG zG)).setCell ⟨w.heap.size,1,none⟩ (.slice xF yF zF)) w.heap.size 32 #[.slice xG yG zG,.slice xF yF zF]):=B0.set 1 _
   have TR:Tf (Is w.heap.size) w5 ((w5.setCell ⟨w.heap.size,0,none⟩ (.slice xG yG zG)).setCell ⟨w.heap.size,1,none⟩ (.slice xF yF zF)):=(set_tf w5 w.heap.size 0 _).trans (set_tf _ w.heap.size 1 _)
   have Hfin:Hid (TreeOut (fun b=>w.heap.size≤b) c w (.returned (.agg #[.slice xG yG zG,.slice xF yF zF])) ((w5.setCell ⟨w.heap.size,0,none⟩ (.slice xG yG zG)).setCell ⟨w.heap.size,1,none⟩ (.slice xF yF zF))):=by
    obtain ⟨t,h1,h2,h3⟩:=Htree.out
    have hk:Keep (fun b=>w1.heap.size≤b) w5 ((w5.setCell ⟨w.heap.size,0,none⟩ (.slice xG yG zG)).setCell ⟨w.heap.size,1,none⟩ (.slice xF yF zF)):=TR.keep (fun b hb e=>by have e:b=w.heap.size:=e;omega)
    exact ⟨_,_,t,rfl,h1.keep hk (fun _ _ _ h=>h.any) (fun b hb=>by omega),Sl.keep h2 hk (fun _ _ _ h=>h.keep hk (fun b hb=>by omega)) (fun b hb=>by omega),h3,⟨HRz.out.cur.tf TR (fun b hb e=>by have e:b=w.heap.size:=e;omega),(HR1.out.tf.trans HRz.out.tf).trans2 TR (fun i hi e=>by have e:i=w.heap.size:=e;omega)⟩⟩
   clear B0 TR
   go_wp2
   refine bodyPost_ret (results_cell_row rfl _ _ w.heap.size 32 _ (0,0) _ (by rfl) HBe.out Tryz.underlying32 (by rfl) (by kernel_rfl)) rfl ?_
   exact Hfin.out
def DrawsB (w:World) (e:Ending) (w':World):Prop:=∃ vG vF t,e=.returned (.agg #[vG,vF])∧SlGlob AnyB w' vG t.globals∧SlFunc AnyB w' vF t.funcs∧Small t∧Ext w w'
set_option maxRecDepth 1000000 in
set_option maxHeartbeats 16000000 in
theorem d_DrawBound (hS:SpoilOk) (v:Value) (bs:List Int) (w:World) (hB:SlInt .u8 AnyB w v bs) (hl:bs.length≤1099511627776):Calls Tryz.prog 28 #[v] w (DrawsB w):=by
 have HAny:Hid (∀ c w',CurAt w' c→Calls Tryz.prog 62 #[.pointer (some ⟨c,0,none⟩)] w' (TreeOut (fun b=>w'.heap.size≤b) c w')):=fun c w' h=>d_l2AnyTree hS c w' h
 have BR:=Blk.alloc w 32 #[.slice none 0 0,.slice none 0 0]
 have X1:Ext w (w.alloc (.cells #[.slice none 0 0,.slice none 0 0] 32)):=(Ext.refl w).alloc _
 have s1:w.heap.size<(w.alloc (.cells #[.slice none 0 0,.slice none 0 0] 32)).heap.size:=by simp
 generalize hw1:w.alloc (.cells #[.slice none 0 0,.slice none 0 0] 32)=w1 at BR X1 s1
 have HN:=Lib.hid (d_l1New v bs w1 (Sl.ext hB X1 (fun _ _ h=>h.any)) hl)
 have HX1:=Lib.hid X1
 have HBR:=Lib.hid BR
 obtain ⟨aB,nB,cB,rfl⟩:=hB.shape
 clear hS hB X1 BR
 go_enter Tryz.func28,Tryz.ntmps28
 go_wp2_with fail
 clear hw1
 refine HN.out.mono ?_
 rintro e w2 ⟨c,rfl,hcur,hX2,hc⟩
 have HX2:Hid (Ext w w2):=HX1.out.trans hX2
 have h12:=hX2.size
 have hcl:=hcur.lt
 have HB2:=Lib.hid (HBR.out.ext hX2)
 have Hcur:=Lib.hid hcur
 clear hcur hX2 HN HBR
 go_wp2_with fail
 refine (d_l1Once c 20 w2 Hcur.out (by omega)).mono ?_
 rintro e w3 ⟨b3,rfl,hR3⟩
 have HR3:=Lib.hid hR3
 have HB3:=Lib.hid (HB2.out.tf hR3.tf (show ¬ w.heap.size=c by omega))
 have h23:=hR3.tf.size
 have HW:Hid (Calls Tryz.prog 61 #[.pointer (some ⟨c,0,none⟩)] w3 (TreeOut (fun b=>w3.heap.size≤b) c w3)):=d_l2Wide c w3 hR3.cur
 have HA:Hid (Calls Tryz.prog 62 #[.pointer (some ⟨c,0,none⟩)] w3 (TreeOut (fun b=>w3.heap.size≤b) c w3)):=HAny.out c w3 hR3.cur
 clear hR3 HAny HB2 Hcur
 cases b3 with
 | true =>
   go_wp2_with fail
   refine HW.out.mono ?_
   rintro e w5 ⟨vG5,vF5,t,rfl,hG5,hF5,hz5,hR5⟩
   obtain ⟨xG,yG,zG,rfl⟩:=hG5.shape
   obtain ⟨xF,yF,zF,rfl⟩:=hF5.shape
   have HBz:=Lib.hid (HB3.out.tf hR5.tf (show ¬ w.heap.size=c by omega))
   have HRz:Hid (Roll c w2 w5):=HR3.out.trans hR5
   have Htree:Hid (∃ t:PTree,SlGlob (fun b=>w1.heap.size≤b) w5 (.slice xG yG zG) t.globals∧SlFunc (fun b=>w1.heap.size≤b) w5 (.slice xF yF zF) t.funcs∧Small t) :=
    ⟨t,hG5.keep (Keep.refl _ _) (fun _ _ _ h=>h) (fun b hb=>by omega),Sl.keep hF5 (Keep.refl _ _) (fun _ _ _ h=>h.keep (Keep.refl _ _) (fun b hb=>by omega)) (fun b hb=>by omega),hz5⟩
   clear hG5 hF5 hz5 hR5
   have r0:w5.cell? ⟨w.heap.size,0,none⟩=some (.slice none 0 0):=(HBz.out.cell 0).trans rfl
   have r1:w5.cell? ⟨w.heap.size,1,none⟩=some (.slice none 0 0):=(HBz.out.cell 1).trans rfl
   have r2:w5.frozen? ⟨w.heap.size,0,none⟩=false:=HBz.out.frozen 0
   have r3:w5.frozen? ⟨w.heap.size,1,none⟩=false:=HBz.out.frozen 1
   have B0:=HBz.out.set 0 (.slice xG yG zG)
   have r4:(w5.setCell ⟨w.heap.size,0,none⟩ (.slice xG yG zG)).cell? ⟨w.heap.size,1,none⟩=some (.slice none 0 0):=(B0.cell 1).trans rfl
   have r5:(w5.setCell ⟨w.heap.size,0,none⟩ (.slice xG yG zG)).frozen? ⟨w.heap.size,1,none⟩=false:=B0.frozen 1
   have HBe:Hid (Blk ((w5.setCell ⟨w.heap.size,0,none⟩ (.slice xG yG zG)).setCell ⟨w.heap.size,1,none⟩ (.slice xF yF zF)) w.heap.size 32 #[.slice xG yG zG,.slice xF yF zF]):=B0.set 1 _
   have TR:Tf (Is w.heap.size) w5 ((w5.setCell ⟨w.heap.size,0,none⟩ (.slice xG yG zG)).setCell ⟨w.heap.size,1,none⟩ (.slice xF yF zF)):=(set_tf w5 w.heap.size 0 _).trans (set_tf _ w.heap.size 1 _)
   have Hfin:Hid (DrawsB w (.returned (.agg #[.slice xG yG zG,.slice xF yF zF])) ((w5.setCell ⟨w.heap.size,0,none⟩ (.slice xG yG zG)).setCell ⟨w.heap.size,1,none⟩ (.slice xF yF zF))):=by
    obtain ⟨t,h1,h2,h3⟩:=Htree.out
    have hk:Keep (fun b=>w1.heap.size≤b) w5 ((w5.setCell ⟨w.heap.size,0,none⟩ (.slice xG yG zG)).setCell ⟨w.heap.size,1,none⟩ (.slice xF yF zF)):=TR.keep (fun b hb e=>by have e:b=w.heap.size:=e;omega)
    exact ⟨_,_,t,rfl,h1.keep hk (fun _ _ _ h=>h.any) (fun _ _=>trivial),Sl.keep h2 hk (fun _ _ _ h=>h.keep hk (fun _ _=>trivial)) (fun _ _=>trivial),h3,
     (((Tf.ext (M:=fun b=>w.heap.size≤b) HX2.out).trans (HRz.out.tf.mono (fun b e=>by have e:b=c:=e;omega))).trans (TR.mono (fun b e=>by have e:b=w.heap.size:=e;omega))).below (fun b h=>h) (Nat.le_refl _)⟩
   clear B0 TR
   go_wp2
   refine bodyPost_ret (results_cell_row rfl _ _ w.heap.size 32 _ (0,0) _ (by rfl) HBe.out Tryz.underlying32 (by rfl) (by kernel_rfl)) rfl ?_
   exact Hfin.out
 | false =>
   go_wp2_with fail
   refine HA.out.mono ?_
   rintro e w5 ⟨vG5,vF5,t,rfl,hG5,hF5,hz5,hR5⟩
   obtain ⟨xG,yG,zG,rfl⟩:=hG5.shape
   obtain ⟨xF,yF,zF,rfl⟩:=hF5.shape
   have HBz:=Lib.hid (HB3.out.tf hR5.tf (show ¬ w.heap.size=c by omega))
   have HRz:Hid (Roll c w2 w5):=HR3.out.trans hR5
   have Htree:Hid (∃ t:PTree,SlGlob (fun b=>w1.heap.size≤b) w5 (.slice xG yG zG) t.globals∧SlFunc (fun b=>w1.heap.size≤b) w5 (.slice xF yF zF) t.funcs∧Small t) :=
    ⟨t,hG5.keep (Keep.refl _ _) (fun _ _ _ h=>h) (fun b hb=>by omega),Sl.keep hF5 (Keep.refl _ _) (fun _ _ _ h=>h.keep (Keep.refl _ _) (fun b hb=>by omega)) (fun b hb=>by omega),hz5⟩
   clear hG5 hF5 hz5 hR5
   have r0:w5.cell? ⟨w.heap.size,0,none⟩=some (.slice none 0 0):=(HBz.out.cell 0).trans rfl
   have r1:w5.cell? ⟨w.heap.size,1,none⟩=some (.slice none 0 0):=(HBz.out.cell 1).trans rfl
   have r2:w5.frozen? ⟨w.heap.size,0,none⟩=false:=HBz.out.frozen 0
   have r3:w5.frozen? ⟨w.heap.size,1,none⟩=false:=HBz.out.frozen 1
   have B0:=HBz.out.set 0 (.slice xG yG zG)
   have r4:(w5.setCell ⟨w.heap.size,0,none⟩ (.slice xG yG zG)).cell? ⟨w.heap.size,1,none⟩=some (.slice none 0 0):=(B0.cell 1).trans rfl
   have r5:(w5.setCell ⟨w.heap.size,0,none⟩ (.slice xG yG zG)).frozen? ⟨w.heap.size,1,none⟩=false:=B0.frozen 1
   have HBe:Hid (Blk ((w5.setCell ⟨w.heap.size,0,none⟩ (.slice xG yG zG)).setCell ⟨w.heap.size,1,none⟩ (.slice xF yF zF)) w.heap.size 32 #[.slice xG yG zG,.slice xF yF zF]):=B0.set 1 _
   have TR:Tf (Is w.heap.size) w5 ((w5.setCell ⟨w.heap.size,0,none⟩ (.slice xG yG zG)).setCell ⟨w.heap.size,1,none⟩ (.slice xF yF zF)):=(set_tf w5 w.heap.size 0 _).trans (set_tf _ w.heap.size 1 _)
   have Hfin:Hid (DrawsB w (.returned (.agg #[.slice xG yG zG,.slice xF yF zF])) ((w5.setCell ⟨w.heap.size,0,none⟩ (.slice xG yG zG)).setCell ⟨w.heap.size,1,none⟩ (.slice xF yF zF))):=by
    obtain ⟨t,h1,h2,h3⟩:=Htree.out
    have hk:Keep (fun b=>w1.heap.size≤b) w5 ((w5.setCell ⟨w.heap.size,0,none⟩ (.slice xG yG zG)).setCell ⟨w.heap.size,1,none⟩ (.slice xF yF zF)):=TR.keep (fun b hb e=>by have e:b=w.heap.size:=e;omega)
    exact ⟨_,_,t,rfl,h1.keep hk (fun _ _ _ h=>h.any) (fun _ _=>trivial),Sl.keep h2 hk (fun _ _ _ h=>h.keep hk (fun _ _=>trivial)) (fun _ _=>trivial),h3,
     (((Tf.ext (M:=fun b=>w.heap.size≤b) HX2.out).trans (HRz.out.tf.mono (fun b e=>by have e:b=c:=e;omega))).trans (TR.mono (fun b e=>by have e:b=w.heap.size:=e;omega))).below (fun b h=>h) (Nat.le_refl _)⟩
   clear B0 TR
   go_wp2
   refine bodyPost_ret (results_cell_row rfl _ _ w.heap.size 32 _ (0,0) _ (by rfl) HBe.out Tryz.underlying32 (by rfl) (by kernel_rfl)) rfl ?_
   exact Hfin.out
set_option maxRecDepth 1000000 in
set_option maxHeartbeats 16000000 in
theorem d_DrawCheckC (hS:SpoilOk) (v:Value) (bs:List Int) (w:World) (hB:SlInt .u8 AnyB w v bs) (hl:bs.length≤1099511627776):Calls Tryz.prog 21 #[v] w (DrawsB w):=by
 have HS:=Lib.hid hS
 unfold SpoilOk at HS
 have BR:=Blk.alloc w 32 #[.slice none 0 0,.slice none 0 0]
 have X1:Ext w (w.alloc (.cells #[.slice none 0 0,.slice none 0 0] 32)):=(Ext.refl w).alloc _
 have s1:w.heap.size<(w.alloc (.cells #[.slice none 0 0,.slice none 0 0] 32)).heap.size:=by simp
 generalize hw1:w.alloc (.cells #[.slice none 0 0,.slice none 0 0] 32)=w1 at BR X1 s1
 have HN:=Lib.hid (d_l1New v bs w1 (Sl.ext hB X1 (fun _ _ h=>h.any)) hl)
 have HX1:=Lib.hid X1
 have HBR:=Lib.hid BR
 obtain ⟨aB,nB,cB,rfl⟩:=hB.shape
 clear hS hB X1 BR
 go_enter Tryz.func21,Tryz.ntmps21
 go_wp2_with fail
 clear hw1
 refine HN.out.mono ?_
 rintro e w2 ⟨c,rfl,hcur,hX2,hc⟩
 have HX2:Hid (Ext w w2):=HX1.out.trans hX2
 have h12:=hX2.size
 have hcl:=hcur.lt
 have HB2:=Lib.hid (HBR.out.ext hX2)
 have HDr:=Lib.hid (d_l2DrawTree c w2 hcur)
 clear hcur hX2 HN HBR
 go_wp2_with fail
 refine HDr.out.mono ?_
 rintro e w3 ⟨vG,vF,gs,l,rfl,hT,hR3⟩
 obtain ⟨aG,nG,cG,rfl⟩:=hT.g.shape
 obtain ⟨aF,nF,cF,rfl⟩:=hT.f.shape
 have BT:=Blk.alloc w3 32 #[.slice aG nG cG,.slice aF nF cF]
 have X4:Ext w3 (w3.alloc (.cells #[.slice aG nG cG,.slice aF nF cF] 32)):=(Ext.refl w3).alloc _
 generalize hw4:w3.alloc (.cells #[.slice aG nG cG,.slice aF nF cF] 32)=w4 at BT X4
 have h23:=hR3.tf.size
 have HR4:Hid (Roll c w2 w4):=hR3.ext X4
 have HB4:=Lib.hid ((HB2.out.tf hR3.tf (show ¬ w.heap.size=c by omega)).ext X4)
 have HT4:=Lib.hid (hT.tf (Tf.ext (M:=fun _=>False) X4) (fun _ _ h=>h))
 have HBT:=Lib.hid BT
 clear hT hR3 BT X4 HDr HB2
 go_wp2_with fail
 clear hw4
 refine (d_l1Below c 3 w4 HR4.out.cur (by omega)).mono ?_
 rintro e w5 ⟨x,rfl,hx0,hx3,hR5⟩
 have HR5:Hid (Roll c w2 w5):=HR4.out.trans hR5
 have HB5:=Lib.hid (HB4.out.tf hR5.tf (show ¬ w.heap.size=c by omega))
 have HT5:Hid (TreeOk (fun b=>w2.heap.size≤b) w5 (.slice aG nG cG) (.slice aF nF cF) gs l):=HT4.out.tf hR5.tf (fun b hb e=>by have e:b=c:=e;omega)
 have hBT5:=HBT.out.tf hR5.tf (show ¬ w3.heap.size=c by omega)
 have t0:w5.cell? ⟨w3.heap.size,0,none⟩=some (.slice aG nG cG):=(hBT5.cell 0).trans rfl
 have t1:w5.cell? ⟨w3.heap.size,1,none⟩=some (.slice aF nF cF):=(hBT5.cell 1).trans rfl
 clear hR5 hBT5 HR4 HB4 HT4 HBT
 by_cases hx:0<x
 ·have HSp:=Lib.hid (HS.out c w5 (fun b=>w2.heap.size≤b) (.slice aG nG cG) (.slice aF nF cF) gs l HR5.out.cur (fun b hb e=>by omega) HT5.out)
  go_wp2_with fail
  clear t0 t1
  refine HSp.out.mono ?_
  rintro e w6 ⟨vG5,vF5,t,rfl,hG5,hF5,hz5,hR6⟩
  obtain ⟨xG,yG,zG,rfl⟩:=hG5.shape
  obtain ⟨xF,yF,zF,rfl⟩:=hF5.shape
  have hs5:=HR5.out.tf.size
  have HBz:=Lib.hid (HB5.out.tf hR6.tf (show ¬ w.heap.size=c by omega))
  have HRz:Hid (Roll c w2 w6):=HR5.out.trans hR6
  have Htree:Hid (∃ t:PTree,SlGlob (fun b=>w1.heap.size≤b) w6 (.slice xG yG zG) t.globals∧SlFunc (fun b=>w1.heap.size≤b) w6 (.slice xF yF zF) t.funcs∧Small t) :=
   ⟨t,hG5.keep (Keep.refl _ _) (fun _ _ _ h=>h) (fun b hb=>by rcases hb with hb | hb<;>omega),Sl.keep hF5 (Keep.refl _ _) (fun _ _ _ h=>h.keep (Keep.refl _ _) (fun b hb=>by rcases hb with hb | hb<;>omega)) (fun b hb=>by rcases hb with hb | hb<;>omega),hz5⟩
  clear hG5 hF5 hz5 hR6 HSp
  have r0:w6.cell? ⟨w.heap.size,0,none⟩=some (.slice none 0 0):=(HBz.out.cell 0).trans rfl
  have r1:w6.cell? ⟨w.heap.size,1,none⟩=some (.slice none 0 0):=(HBz.out.cell 1).trans rfl
  have r2:w6.frozen? ⟨w.heap.size,0,none⟩=false:=HBz.out.frozen 0
  have r3:w6.frozen? ⟨w.heap.size,1,none⟩=false:=HBz.out.frozen 1
  have B0:=HBz.out.set 0 (.slice xG yG zG)
  have r4:(w6.setCell ⟨w.heap.size,0,none⟩ (.slice xG yG zG)).cell? ⟨w.heap.size,1,none⟩=some (.slice none 0 0):=(B0.cell 1).trans rfl
  have r5:(w6.setCell ⟨w.heap.size,0,none⟩ (.slice xG yG zG)).frozen? ⟨w.heap.size,1,none⟩=false:=B0.frozen 1
  have HBe:Hid (Blk ((w6.setCell ⟨w.heap.size,0,none⟩ (.slice xG yG zG)).setCell ⟨w.heap.size,1,none⟩ (.slice xF yF zF)) w.heap.size 32 #[.slice xG yG zG,.slice xF yF zF]):=B0.set 1 _
  have TR:Tf (Is w.heap.size) w6 ((w6.setCell ⟨w.heap.size,0,none⟩ (.slice xG yG zG)).setCell ⟨w.heap.size,1,none⟩ (.slice xF yF zF)):=(set_tf w6 w.heap.size 0 _).trans (set_tf _ w.heap.size 1 _)
  have Hfin:Hid (DrawsB w (.returned (.agg #[.slice xG yG zG,.slice xF yF zF])) ((w6.setCell ⟨w.heap.size,0,none⟩ (.slice xG yG zG)).setCell ⟨w.heap.size,1,none⟩ (.slice xF yF zF))):=by
   obtain ⟨t,h1,h2,h3⟩:=Htree.out
   have hk:Keep (fun b=>w1.heap.size≤b) w6 ((w6.setCell ⟨w.heap.size,0,none⟩ (.slice xG yG zG)).setCell ⟨w.heap.size,1,none⟩ (.slice xF yF zF)):=TR.keep (fun b hb e=>by have e:b=w.heap.size:=e;omega)
   exact ⟨_,_,t,rfl,h1.keep hk (fun _ _ _ h=>h.any) (fun _ _=>trivial),Sl.keep h2 hk (fun _ _ _ h=>h.keep hk (fun _ _=>trivial)) (fun _ _=>trivial),h3,
    (((Tf.ext (M:=fun b=>w.heap.size≤b) HX2.out).trans (HRz.out.tf.mono (fun b e=>by have e:b=c:=e;omega))).trans (TR.mono (fun b e=>by have e:b=w.heap.size:=e;omega))).below (fun b h=>h) (Nat.le_refl _)⟩
  clear B0 TR
  go_wp2
  refine bodyPost_ret (results_cell_row rfl _ _ w.heap.size 32 _ (0,0) _ (by rfl) HBe.out Tryz.underlying32 (by rfl) (by kernel_rfl)) rfl ?_
  exact Hfin.out
 ·have HBz:=HB5
  have HRz:=HR5
  have Htree:Hid (∃ t:PTree,SlGlob (fun b=>w1.heap.size≤b) w5 (.slice aG nG cG) t.globals∧SlFunc (fun b=>w1.heap.size≤b) w5 (.slice aF nF cF) t.funcs∧Small t):=by
   refine ⟨⟨gs,l.map FRow.f⟩,HT5.out.g.keep (Keep.refl _ _) (fun _ _ _ h=>h) (fun b hb=>by omega),rows_func (HT5.out.f.keep (Keep.refl _ _) (fun _ _ _ h=>h) (fun b hb=>by omega)) (fun x hx=>(HT5.out.ok x hx).keep (Keep.refl _ _) (fun b hb=>by omega)),?_⟩
   intro f hf s hs
   obtain ⟨x,hx,rfl⟩:=List.mem_map.1 hf
   have:=(HT5.out.ok x hx).small s hs
   omega
  have r0:w5.cell? ⟨w.heap.size,0,none⟩=some (.slice none 0 0):=(HBz.out.cell 0).trans rfl
  have r1:w5.cell? ⟨w.heap.size,1,none⟩=some (.slice none 0 0):=(HBz.out.cell 1).trans rfl
  have r2:w5.frozen? ⟨w.heap.size,0,none⟩=false:=HBz.out.frozen 0
  have r3:w5.frozen? ⟨w.heap.size,1,none⟩=false:=HBz.out.frozen 1
  have B0:=HBz.out.set 0 (.slice aG nG cG)
  have r4:(w5.setCell ⟨w.heap.size,0,none⟩ (.slice aG nG cG)).cell? ⟨w.heap.size,1,none⟩=some (.slice none 0 0):=(B0.cell 1).trans rfl
  have r5:(w5.setCell ⟨w.heap.size,0,none⟩ (.slice aG nG cG)).frozen? ⟨w.heap.size,1,none⟩=false:=B0.frozen 1
  have HBe:Hid (Blk ((w5.setCell ⟨w.heap.size,0,none⟩ (.slice aG nG cG)).setCell ⟨w.heap.size,1,none⟩ (.slice aF nF cF)) w.heap.size 32 #[.slice aG nG cG,.slice aF nF cF]):=B0.set 1 _
  have TR:Tf (Is w.heap.size) w5 ((w5.setCell ⟨w.heap.size,0,none⟩ (.slice aG nG cG)).setCell ⟨w.heap.size,1,none⟩ (.slice aF nF cF)):=(set_tf w5 w.heap.size 0 _).trans (set_tf _ w.heap.size 1 _)
  have Hfin:Hid (DrawsB w (.returned (.agg #[.slice aG nG cG,.slice aF nF cF])) ((w5.setCell ⟨w.heap.size,0,none⟩ (.slice aG nG cG)).setCell ⟨w.heap.size,1,none⟩ (.slice aF nF cF))):=by
   obtain ⟨t,h1,h2,h3⟩:=Htree.out
   have hk:Keep (fun b=>w1.heap.size≤b) w5 ((w5.setCell ⟨w.heap.size,0,none⟩ (.slice aG nG cG)).setCell ⟨w.heap.size,1,none⟩ (.slice aF nF cF)):=TR.keep (fun b hb e=>by have e:b=w.heap.size:=e;omega)
   exact ⟨_,_,t,rfl,h1.keep hk (fun _ _ _ h=>h.any) (fun _ _=>trivial),Sl.keep h2 hk (fun _ _ _ h=>h.keep hk (fun _ _=>trivial)) (fun _ _=>trivial),h3,
    (((Tf.ext (M:=fun b=>w.heap.size≤b) HX2.out).trans (HRz.out.tf.mono (fun b e=>by have e:b=c:=e;omega))).trans (TR.mono (fun b e=>by have e:b=w.heap.size:=e;omega))).below (fun b h=>h) (Nat.le_refl _)⟩
  clear B0 TR
  go_wp2
  refine bodyPost_ret (results_cell_row rfl _ _ w.heap.size 32 _ (0,0) _ (by rfl) HBe.out Tryz.underlying32 (by rfl) (by kernel_rfl)) rfl ?_
  exact Hfin.out
open Go Go.RowKit Md Go.Proofs.YtcfggjmdcaoecaaGreatDoorW.PrintLast
theorem flat_set {α:Type} {sz:Nat} {enc:α→List Value} (hl:∀ x,(enc x).length=sz) {q:Nat} (hq:q<sz) (x':α) (u:Value):∀ (l:List α) (i:Nat) (x:α),l[i]? = some x→enc x'=(enc x).set q u→(l.flatMap enc).set (i*sz+q) u=(l.set i x').flatMap enc
 | [],i,x,h,_=>by simp at h
 | y :: r,0,x,h,hx=>by
   simp only [List.getElem?_cons_zero,Option.some.injEq] at h
   subst h
   rw [List.flatMap_cons,List.set_cons_zero,List.flatMap_cons,hx,List.set_append_left _ _ (by rw [hl];omega)]
   simp
 | y :: r,i+1,x,h,hx=>by
   simp only [List.getElem?_cons_succ] at h
   rw [List.flatMap_cons,List.set_cons_succ,List.flatMap_cons,← flat_set hl hq x' u r i x h hx,List.set_append_right _ _ (by rw [hl,Nat.succ_mul];omega)]
   congr 2
   rw [hl,Nat.succ_mul]
   omega
theorem rw_setN {α:Type} {sz:Nat} {enc:α→List Value} (hl:∀ x,(enc x).length=sz) {w:World} {base E g c n:Nat} {l:List α} (h:w.ownsRow base E sz (.slice (some ⟨g,0,none⟩) n c) n (l.flatMap enc)) {i q:Nat} {x:α} (hi:l[i]? = some x) (hq:q<sz) (x':α) (u:Value) (hx:enc x'=(enc x).set q u) :
  (w.setCell ⟨g,i*sz+q,none⟩ u).ownsRow base E sz (.slice (some ⟨g,0,none⟩) n c) n ((l.set i x').flatMap enc):=by
 rw [← flat_set hl hq x' u l i x hi hx]
 obtain ⟨h1,h2⟩:=h
 refine ⟨by rw [List.length_set];exact h1,?_⟩
 rcases h2 with ⟨e,_⟩ | ⟨g',cap,cur,e,hb,hh,h3,h4,h5,h6⟩
 ·cases e
 ·cases e
  refine .inr ⟨g,c,cur.setIfInBounds (i*sz+q) u,rfl,hb,heap_setCell_same w g _ cur E u hh,h3,h4,by rw [Array.size_setIfInBounds];exact h5,?_⟩
  rw [Array.toList_setIfInBounds,List.take_set,h6]
theorem rw_atN {α:Type} {sz:Nat} {enc:α→List Value} (hl:∀ x,(enc x).length=sz) {w:World} {base E g c n:Nat} {l:List α} (h:w.ownsRow base E sz (.slice (some ⟨g,0,none⟩) n c) n (l.flatMap enc)) {i q:Nat} {x:α} (hi:l[i]? = some x) (hq:q<sz) {u:Value} (hu:(enc x)[q]? = some u) :
  w.cell? ⟨g,i*sz+q,none⟩=some u∧w.frozen? ⟨g,i*sz+q,none⟩=false:=by
 have hc:=h.cells (g:=g) rfl (i*sz+q) u (by rw [flat_at sz enc hl l i q _ hi hq];exact hu)
 have e2:(⟨g,0,none⟩:Addr).add (i*sz+q)=⟨g,i*sz+q,none⟩:=by unfold Addr.add;split<;>simp_all
 rw [e2] at hc
 refine ⟨hc,?_⟩
 rcases h.2 with ⟨e,_⟩ | ⟨g',cap,cur,e,hb,hh,_⟩
 ·cases e
 ·cases e
  exact frozen_of_row w g _ cur E hh
theorem sl_ownNe {α:Type} {sz:Nat} {enc:α→List Value} {w:World} {base n E:Nat} {v:Value} {xs:List α} {K:Foot} {C:World→List Value→α→Prop} (hl:∀ x,(enc x).length=sz) (hs:0<sz) (h:w.ownsRow base E sz v n (xs.flatMap enc)) (hK:∀ b,v.ownBlock=some b→K b) (hc:∀ x∈xs,C w (enc x) x):Sl K w sz C v xs:=by
 obtain ⟨a,cap,e,h1,h2,h3⟩:=sl_ownN (K:=AnyB) hl hs h (fun _ _=>trivial) hc
 refine ⟨a,cap,e,h1,h2,fun hp=>?_⟩
 obtain ⟨b,o,e1,_,e3⟩:=h3 hp
 exact ⟨b,o,e1,hK b (by rw [e,e1];rfl),e3⟩
structure OwnSK (N:Nat) (K:Foot) (base:Nat) (w:World) (v:Value) (l:List SRow):Prop where
 own:w.ownsRow base 102 6 v l.length (l.flatMap encSR)
 ok:∀ x∈l,SOkN N (fun b=>K b∧some b≠v.ownBlock) w x
theorem OwnSK.tf {N:Nat} {K M:Foot} {base:Nat} {w w':World} {v:Value} {l:List SRow} (h:OwnSK N K base w v l) (k:Tf M w w') (hv:∀ b,v.ownBlock=some b→¬ M b) (hK:∀ b,K b→b<w.heap.size→¬ M b):OwnSK N K base w' v l :=
 ⟨own_tf h.own k hv,fun x hx=>(h.ok x hx).bound.keep (k.keep (fun b hb=>hK b hb.1.1 hb.2)) (fun _ h=>h.1)⟩
theorem OwnSK.sl {N:Nat} {K K':Foot} {base:Nat} {w:World} {v:Value} {l:List SRow} (h:OwnSK N K base w v l) (hK:∀ b,K b→K' b) (hv:∀ b,v.ownBlock=some b→K' b):SlStmt K' w v (l.map SRow.s) :=
 rows_stmt (sl_ownNe (C:=CRow) encSR_len (by decide) h.own hv (fun x hx=>rfl)) (fun x hx=>(h.ok x hx).keep (Keep.refl _ w) (fun b hb=>hK b hb.1))
theorem OwnSK.app {N:Nat} {K:Foot} {base:Nat} {w:World} {v v2:Value} {l l2:List SRow} {K1:Foot} (h:OwnSK N K base w v l) (h2:Sl K1 w 6 CRow v2 l2) (hok:∀ x∈l2,SOkN N (fun b=>K b∧some b≠v.ownBlock) w x) (hl:l.length+l2.length≤1000000) (hb:base≤w.heap.size) (ty:TypeId) :
  ∃ v' w',(Builtin.append_ #[81,81] ty #[v,v2]).run Tryz.prog w=.ok v' w'∧OwnSK N K base w' v' (l ++ l2)∧w.grownBy w' v.ownBlock∧(v'.ownBlock=v.ownBlock∨v'.ownBlock=some w.heap.size):=by
 obtain ⟨i0,hi,hz0,hz1,hz2⟩:=info_parts gi_stmt
 obtain ⟨v',w',r1,r2,r3,r4⟩:=run_appN (P:=Tryz.prog) CRow (fun _ _ _ h=>h) encSR_len (by decide) encSR_one K1 w base Tryz.underlying81 hi hz0 hz1 hz2 rfl v l.length l h.own v2 l2 h2 (by omega) (by omega) hb ty
 have hall:∀ x,SOkN N (fun b=>(K b∧some b≠v.ownBlock)∧b<w.heap.size) w x→SOkN N (fun b=>K b∧some b≠v'.ownBlock) w' x:=fun x hx =>
  hx.keep (grown_keep r3 (fun b hb=>hb.1.2)) (fun b hb=>⟨hb.1.1,fun e=>by
   rcases r4 with t | t
   ·exact hb.1.2 (e.trans t)
   ·rw [t] at e
    have:=hb.2
    cases e
    omega⟩)
 refine ⟨v',w',r1,⟨by rw [List.length_append];exact r2,fun x hx=>?_⟩,r3,r4⟩
 rcases List.mem_append.1 hx with hx | hx
 ·exact hall x (h.ok x hx).bound
 ·exact hall x (hok x hx).bound
theorem OwnSK.app1 {N:Nat} {K:Foot} {base:Nat} {w:World} {v:Value} {l:List SRow} (h:OwnSK N K base w v l) (x:SRow) (hx:SOkN N (fun b=>K b∧some b≠v.ownBlock) w x) (hl:l.length≤900000) (hb:base≤w.heap.size) (ty:TypeId) :
  ∃ v' w',(Builtin.append_ #[81,81] ty #[v,.slice (some ⟨w.heap.size,0,none⟩) 1 1]).run Tryz.prog (w.alloc (.cells #[.int .i64 x.s.kind,.string x.s.name,.slice x.ea x.en x.ec,.slice x.fa x.fn x.fc,.int .i64 x.s.thn,.int .i64 x.s.els] 102))=.ok v' w' ∧
   OwnSK N K base w' v' (l ++ [x])∧(w.alloc (.cells #[.int .i64 x.s.kind,.string x.s.name,.slice x.ea x.en x.ec,.slice x.fa x.fn x.fc,.int .i64 x.s.thn,.int .i64 x.s.els] 102)).grownBy w' v.ownBlock∧(v'.ownBlock=v.ownBlock∨v'.ownBlock=some (w.heap.size+1)):=by
 have hX:Ext w (w.alloc (.cells #[.int .i64 x.s.kind,.string x.s.name,.slice x.ea x.en x.ec,.slice x.fa x.fn x.fc,.int .i64 x.s.thn,.int .i64 x.s.els] 102)):=(Ext.refl w).alloc _
 have h1:=OwnSN.one (N:=N) (base:=0) (w:=w) x (Nat.zero_le _) (hx.keep (Keep.refl _ w) (fun b _=>Nat.zero_le b))
 obtain ⟨v',w',r1,r2,r3,r4⟩:=OwnSK.app (ty:=ty) (K1:=AnyB) (h.tf (Tf.ext (M:=fun _=>False) hX) (fun _ _ h=>h.elim) (fun _ _ _ h=>h.elim)) (h1.rows (fun _ _=>trivial)) (fun y hy=>by
  rw [List.mem_singleton.1 hy]
  exact hx.keep (hX.keep _) (fun b hb=>hb)) (by simp;omega) (Nat.le_trans hb hX.size)
 exact ⟨v',w',r1,r2,r3,by simpa using r4⟩
theorem OwnSK.set {N:Nat} {K:Foot} {base g c n i q:Nat} {w:World} {l:List SRow} (h:OwnSK N K base w (.slice (some ⟨g,0,none⟩) n c) l) {x:SRow} (hi:l[i]? = some x) (hq:q<6) (x':SRow) (u:Value) (hx:encSR x'=(encSR x).set q u) (hok:SOkN N (fun b=>K b∧some b≠some g) w x') :
  OwnSK N K base (w.setCell ⟨g,i*6+q,none⟩ u) (.slice (some ⟨g,0,none⟩) n c) (l.set i x'):=by
 have hn:n=l.length:=by
  obtain ⟨a,c',e,_⟩:=own_form h.own
  cases e
  rfl
 subst hn
 have k:Keep (fun b=>K b∧some b≠some g) w (w.setCell ⟨g,i*6+q,none⟩ u):=(Keep.refl _ w).setCell (fun b hb e=>hb.2 (by rw [show b=g from e])) _
 refine ⟨by rw [List.length_set];exact rw_setN encSR_len h.own hi hq x' u hx,fun y hy=>?_⟩
 rcases List.mem_or_eq_of_mem_set hy with hy | rfl
 ·exact (h.ok y hy).keep k (fun _ h=>h)
 ·exact hok.keep k (fun _ h=>h)
theorem sl_rows {N:Nat} {K:Foot} {w:World} {v:Value} {l:List PStmt} (h:SlStmt K w v l) (hs:∀ s∈l,s.e.length≤N∧s.f.length≤N):∃ lr:List SRow,lr.map SRow.s=l∧Sl K w 6 CRow v lr∧∀ x∈lr,SOkN N K w x:=by
 obtain ⟨a,cap,rfl,h1,h2,h3⟩:=h
 by_cases hp:0<l.length
 ·obtain ⟨b,o,e1,e2,e3⟩:=h3 hp
  have hex:∀ i:Fin l.length,∃ x:SRow,x.s=l[i.1]∧Cells w b (o+i.1*6) (encSR x)∧SOkN N K w x:=fun i=>by
   obtain ⟨cs,c1,c2,c3⟩:=e3 i.1 i.2
   obtain ⟨vE,vF,rfl,hE,hF,k1,k2,k3,k4⟩:=c2
   obtain ⟨aE,nE,cE,rfl⟩:=hE.shape
   obtain ⟨aF,nF,cF,rfl⟩:=hF.shape
   have:=hs _ (List.getElem_mem i.2)
   exact ⟨⟨l[i.1],aE,nE,cE,aF,nF,cF⟩,rfl,c3,⟨hE,hF,k1,k2,k3,k4,this.1,this.2⟩⟩
  obtain ⟨f,hf⟩:∃ f:Fin l.length→SRow,∀ i,(f i).s=l[i.1]∧Cells w b (o+i.1*6) (encSR (f i))∧SOkN N K w (f i):=⟨fun i=>(hex i).choose,fun i=>(hex i).choose_spec⟩
  have hlen:(List.ofFn f).length=l.length:=List.length_ofFn
  refine ⟨List.ofFn f,?_,⟨a,cap,by rw [hlen],by rw [hlen];exact h1,h2,fun _=>⟨b,o,e1,e2,fun i hi=>?_⟩⟩,fun x hx=>?_⟩
  ·refine List.ext_getElem (by simp) (fun i hi hj=>?_)
   simp only [List.getElem_map,List.getElem_ofFn]
   exact (hf _).1
  ·rw [hlen] at hi
   refine ⟨encSR (f ⟨i,hi⟩),encSR_len _,?_,(hf ⟨i,hi⟩).2.1⟩
   simp only [List.getElem_ofFn]
   rfl
  ·obtain ⟨i,rfl⟩:=List.mem_ofFn.1 hx
   exact (hf i).2.2
 ·obtain rfl:l=[]:=List.eq_nil_of_length_eq_zero (by omega)
  exact ⟨[],rfl,⟨a,cap,rfl,h1,h2,fun h=>absurd h (by simp)⟩,fun x hx=>by cases hx⟩
theorem copy_stmts {N:Nat} {K K':Foot} {base:Nat} {w:World} {v2:Value} {l:List PStmt} (h:SlStmt K w v2 l) (hs:∀ s∈l,s.e.length≤N∧s.f.length≤N) (hK:∀ b,K b→K' b) (hl:l.length≤900000) (hb:base≤w.heap.size) (ty:TypeId) :
  ∃ v' w' lr,(Builtin.append_ #[81,81] ty #[.slice (some ⟨w.heap.size,0,none⟩) 0 0,v2]).run Tryz.prog (w.alloc (.cells #[] 102))=.ok v' w'∧lr.map SRow.s=l∧OwnSK N K' base w' v' lr∧Ext w w':=by
 obtain ⟨lr,e1,e2,e3⟩:=sl_rows h hs
 have hX:Ext w (w.alloc (.cells #[] 102)):=(Ext.refl w).alloc _
 have h0:OwnSK N K' base (w.alloc (.cells #[] 102)) (.slice (some ⟨w.heap.size,0,none⟩) 0 0) []:=⟨own_new w base _ 6 hb,fun _ h=>by cases h⟩
 obtain ⟨v',w',r1,r2,r3,r4⟩:=h0.app (ty:=ty) (e2.ext hX (fun _ _ h=>h)) (fun x hx=>(e3 x hx).bound.keep (hX.keep _) (fun b hb=>⟨hK b hb.1,fun e=>by
  simp only [Value.ownBlock,Option.some.injEq] at e
  have:=hb.2
  omega⟩)) (by rw [← e1,List.length_map] at hl;simp;omega) (Nat.le_trans hb hX.size)
 exact ⟨v',w',lr,r1,e1,r2,Below.grown hX r3 hX.size (fun k hk=>by cases hk;exact Nat.le_refl _)⟩
structure OwnFK (N:Nat) (K:Foot) (base:Nat) (w:World) (v:Value) (l:List FRow):Prop where
 own:w.ownsRow base 83 3 v l.length (l.flatMap encF)
 ok:∀ x∈l,FOkN N (fun b=>K b∧some b≠v.ownBlock) w x
theorem OwnFK.tf {N:Nat} {K M:Foot} {base:Nat} {w w':World} {v:Value} {l:List FRow} (h:OwnFK N K base w v l) (k:Tf M w w') (hv:∀ b,v.ownBlock=some b→¬ M b) (hK:∀ b,K b→b<w.heap.size→¬ M b):OwnFK N K base w' v l :=
 ⟨own_tf h.own k hv,fun x hx=>(h.ok x hx).bound.keep (k.keep (fun b hb=>hK b hb.1.1 hb.2)) (fun _ h=>h.1)⟩
theorem OwnFK.more {N:Nat} {K K':Foot} {base:Nat} {w:World} {v:Value} {l:List FRow} (h:OwnFK N K base w v l) (hK:∀ b,K b→K' b):OwnFK N K' base w v l :=
 ⟨h.own,fun x hx=>(h.ok x hx).keep (Keep.refl _ _) (fun b hb=>⟨hK b hb.1,hb.2⟩)⟩
theorem OwnFK.sl {N:Nat} {K K':Foot} {base:Nat} {w:World} {v:Value} {l:List FRow} (h:OwnFK N K base w v l) (hK:∀ b,K b→K' b) (hv:∀ b,v.ownBlock=some b→K' b):SlFunc K' w v (l.map FRow.f) :=
 rows_func (sl_ownNe (C:=CFRow) encF_len (by decide) h.own hv (fun x hx=>rfl)) (fun x hx=>(h.ok x hx).keep (Keep.refl _ w) (fun b hb=>hK b hb.1))
theorem OwnFK.set {N:Nat} {K:Foot} {base g c n i q:Nat} {w:World} {l:List FRow} (h:OwnFK N K base w (.slice (some ⟨g,0,none⟩) n c) l) {x:FRow} (hi:l[i]? = some x) (hq:q<3) (x':FRow) (u:Value) (hx:encF x'=(encF x).set q u) (hok:FOkN N (fun b=>K b∧some b≠some g) w x') :
  OwnFK N K base (w.setCell ⟨g,i*3+q,none⟩ u) (.slice (some ⟨g,0,none⟩) n c) (l.set i x'):=by
 have hn:n=l.length:=by
  obtain ⟨a,c',e,_⟩:=own_form h.own
  cases e
  rfl
 subst hn
 have k:Keep (fun b=>K b∧some b≠some g) w (w.setCell ⟨g,i*3+q,none⟩ u):=(Keep.refl _ w).setCell (fun b hb e=>hb.2 (by rw [show b=g from e])) _
 refine ⟨by rw [List.length_set];exact rw_setN encF_len h.own hi hq x' u hx,fun y hy=>?_⟩
 rcases List.mem_or_eq_of_mem_set hy with hy | rfl
 ·exact (h.ok y hy).keep k (fun _ h=>h)
 ·exact hok.keep k (fun _ h=>h)
theorem copy_funcs {K:Foot} {base:Nat} {w:World} {v v2:Value} {l:List FRow} (h:w.ownsRow base 83 3 v 0 []) (h2:Sl K w 3 CFRow v2 l) (hl:l.length≤900000) (hb:base≤w.heap.size) (ty:TypeId) :
  ∃ v' w',(Builtin.append_ #[30,30] ty #[v,v2]).run Tryz.prog w=.ok v' w'∧w'.ownsRow base 83 3 v' l.length (l.flatMap encF)∧w.grownBy w' v.ownBlock:=by
 obtain ⟨i0,hi,hz0,hz1,hz2⟩:=info_parts gi_func
 obtain ⟨v',w',r1,r2,r3,r4⟩:=run_appN (P:=Tryz.prog) (xs:=[]) CFRow (fun _ _ _ h=>h) encF_len (by decide) encF_one K w base Tryz.underlying30 hi hz0 hz1 hz2 rfl v 0 h v2 l h2 (by omega) (by omega) hb ty
 exact ⟨v',w',r1,by simpa using r2,r3⟩
theorem gi_glob:(Tryz.prog.info? 97).map (fun i=>(i.zero,i.size,i.bytes))=some (some (.agg #[.string ⟨#[]⟩,.int .i64 0]),2,24):=by kernel_rfl
theorem OwnG.slne {base:Nat} {w:World} {v:Value} {l:List PGlob} (h:OwnG base w v l) {K:Foot} (hK:∀ b,v.ownBlock=some b→K b):SlGlob K w v l :=
 sl_ownNe encG_len (by decide) h.own hK (fun x hx=>⟨rfl,h.ok x hx⟩)
theorem OwnG.app {base:Nat} {w:World} {v v2:Value} {l l2:List PGlob} {K:Foot} (h:OwnG base w v l) (h2:SlGlob K w v2 l2) (hl:l.length+l2.length≤1000000) (hb:base≤w.heap.size) (ty:TypeId) :
  ∃ v' w',(Builtin.append_ #[29,29] ty #[v,v2]).run Tryz.prog w=.ok v' w'∧OwnG base w' v' (l ++ l2)∧w.grownBy w' v.ownBlock∧(v'.ownBlock=v.ownBlock∨v'.ownBlock=some w.heap.size):=by
 obtain ⟨i0,hi,hz0,hz1,hz2⟩:=info_parts gi_glob
 obtain ⟨v',w',r1,r2,r3,r4⟩:=run_appN (P:=Tryz.prog) CGlob (fun _ _ _ h=>h.1) encG_len (by decide) encG_one K w base Tryz.underlying29 hi hz0 hz1 hz2 rfl v l.length l h.own v2 l2 h2 (by omega) (by omega) hb ty
 refine ⟨v',w',r1,⟨by rw [List.length_append];exact r2,fun x hx=>?_⟩,r3,r4⟩
 rcases List.mem_append.1 hx with hx | hx
 ·exact h.ok x hx
 ·obtain ⟨cs,hc⟩:=Sl.mem h2 x hx
  exact hc.2
theorem OwnG.new (w:World) (base:Nat) (hb:base≤w.heap.size):OwnG base (w.alloc (.cells #[] 97)) (.slice (some ⟨w.heap.size,0,none⟩) 0 0) []:=⟨own_new w base _ 2 hb,fun _ h=>by cases h⟩
theorem OwnG.app1 {base:Nat} {w:World} {v:Value} {l:List PGlob} (h:OwnG base w v l) (x:PGlob) (hx:I64 x.size∧x.name.size≤maxLen) (hl:l.length≤900000) (hb:base≤w.heap.size) (ty:TypeId) :
  ∃ v' w',(Builtin.append_ #[29,29] ty #[v,.slice (some ⟨w.heap.size,0,none⟩) 1 1]).run Tryz.prog (w.alloc (.cells #[.string x.name,.int .i64 x.size] 97))=.ok v' w' ∧
   OwnG base w' v' (l ++ [x])∧(w.alloc (.cells #[.string x.name,.int .i64 x.size] 97)).grownBy w' v.ownBlock:=by
 have hX:Ext w (w.alloc (.cells #[.string x.name,.int .i64 x.size] 97)):=(Ext.refl w).alloc _
 have h1:OwnG w.heap.size (w.alloc (.cells #[.string x.name,.int .i64 x.size] 97)) (.slice (some ⟨w.heap.size,0,none⟩) 1 1) [x] :=
  ⟨⟨rfl,.inr ⟨w.heap.size,1,_,rfl,Nat.le_refl _,heap_alloc_new w _,Nat.le_refl _,by simp [maxLen],rfl,rfl⟩⟩,fun y hy=>by rw [List.mem_singleton.1 hy];exact hx⟩
 obtain ⟨v',w',r1,r2,r3,r4⟩:=OwnG.app (ty:=ty) (K:=AnyB) (h.tf (Tf.ext (M:=fun _=>False) hX) (fun _ _ h=>h.elim)) (h1.sl (fun _ _=>trivial)) (by simp;omega) (Nat.le_trans hb hX.size)
 exact ⟨v',w',r1,r2,r3⟩
theorem OwnG.set {base g c n i q:Nat} {w:World} {l:List PGlob} (h:OwnG base w (.slice (some ⟨g,0,none⟩) n c) l) {x:PGlob} (hi:l[i]? = some x) (hq:q<2) (x':PGlob) (u:Value) (hx:encG x'=(encG x).set q u) (hok:I64 x'.size∧x'.name.size≤maxLen) :
  OwnG base (w.setCell ⟨g,i*2+q,none⟩ u) (.slice (some ⟨g,0,none⟩) n c) (l.set i x'):=by
 have hn:n=l.length:=by
  obtain ⟨a,c',e,_⟩:=own_form h.own
  cases e
  rfl
 subst hn
 refine ⟨by rw [List.length_set];exact rw_setN encG_len h.own hi hq x' u hx,fun y hy=>?_⟩
 rcases List.mem_or_eq_of_mem_set hy with hy | rfl
 ·exact h.ok y hy
 ·exact hok
open Go Go.RowKit Go.Proofs.YtcfggjmdcaoecaaGreatDoorW.PrintLast
abbrev Vals:=Nat→Option Value
def upd (o:Vals) (i:Nat) (v:Value):Vals:=fun j=>if j=i then some v else o j
theorem upd_same (o:Vals) (i:Nat) (v:Value):upd o i v i=some v:=if_pos rfl
theorem upd_ne (o:Vals) {i j:Nat} (h:j≠i) (v:Value):upd o i v j=o j:=if_neg h
def undone (ms:List Nat) (o:Vals):List Nat:=ms.filter fun i=>(o i).isNone
theorem undone_mem {ms:List Nat} {o:Vals} {i:Nat} : i∈undone ms o↔i∈ms∧o i=none:=by
 unfold undone
 rw [List.mem_filter,Option.isNone_iff_eq_none]
theorem undone_out {o:Vals} {i:Nat} {v:Value} : ∀ {ms:List Nat},i∉ms→undone ms (upd o i v)=undone ms o
 | [],_=>rfl
 | x :: r,h=>by
   have hx:x≠i:=fun e=>h (e ▸ List.mem_cons_self ..)
   have ih:=undone_out (o:=o) (v:=v) (ms:=r) (fun m=>h (List.mem_cons_of_mem _ m))
   unfold undone at ih ⊢
   rw [List.filter_cons,List.filter_cons,upd_ne o hx,ih]
theorem undone_upd {o:Vals} {i:Nat} (ho:o i=none) (v:Value):∀ {ms:List Nat},ms.Nodup→i∈ms→(undone ms (upd o i v)).length+1=(undone ms o).length
 | [],_,h=>by cases h
 | x :: r,hn,h=>by
   obtain ⟨hx,hr⟩:=List.nodup_cons.1 hn
   by_cases e:x=i
   ·subst e
    have:=undone_out (o:=o) (v:=v) hx
    unfold undone at this ⊢
    rw [List.filter_cons,List.filter_cons,upd_same,ho,this]
    simp
   ·have hm:i∈r:=by
     rcases List.mem_cons.1 h with h | h
     ·exact absurd h.symm e
     ·exact h
    have ih:=undone_upd ho v hr hm
    unfold undone at ih ⊢
    rw [List.filter_cons,List.filter_cons,upd_ne o e]
    cases hx:(o x).isNone
    ·simpa using ih
    ·simpa using ih
section
variable {P:Program} {ops:Array Oper} {Q:Exit→Act→World→Prop} {md:Region.Mode} {S:World→Prop} {ds:List Nat}
end
def blkOf:Value→Option Nat
 | .slice (some a) _ _=>some a.block
 | .pointer (some a)=>some a.block
 | _=>none
structure MInv (Good:Nat→World→Value→Prop) (w0:World) (o:Vals) (w:World):Prop where
 ext:Ext w0 w
 good:∀ i v,o i=some v→Good i w v
 lt:∀ i v b,o i=some v→blkOf v=some b→w0.heap.size≤b∧b<w.heap.size
 ne:∀ i j v v' b b',i≠j→o i=some v→o j=some v'→blkOf v=some b→blkOf v'=some b'→b≠b'
theorem MInv.step {Good:Nat→World→Value→Prop} {w0 w w':World} {o:Vals} {i:Nat} {v:Value} (h:MInv Good w0 o w) (hE:Ext w w') (hmono:∀ i v,Good i w v→Good i w' v)
  (hg:Good i w' v) (hb:∀ b,blkOf v=some b→w.heap.size≤b∧b<w'.heap.size):MInv Good w0 (upd o i v) w':=by
 have hs0:=h.ext.size
 have hs1:=hE.size
 refine ⟨h.ext.trans hE,fun j u hj=>?_,fun j u b hj hu=>?_,fun j k u u' b b' hjk hj hk hu hu'=>?_⟩
 ·by_cases e:j=i
  ·subst e
   rw [upd_same] at hj
   cases hj
   exact hg
  ·rw [upd_ne o e] at hj
   exact hmono _ _ (h.good j u hj)
 ·by_cases e:j=i
  ·subst e
   rw [upd_same] at hj
   cases hj
   have:=hb b hu
   omega
  ·rw [upd_ne o e] at hj
   have:=h.lt j u b hj hu
   omega
 ·by_cases e:j=i
  ·subst e
   rw [upd_same] at hj
   cases hj
   rw [upd_ne o (Ne.symm hjk)] at hk
   have:=hb b hu
   have:=h.lt k u' b' hk hu'
   omega
  ·rw [upd_ne o e] at hj
   by_cases e2:k=i
   ·subst e2
    rw [upd_same] at hk
    cases hk
    have:=hb b' hu'
    have:=h.lt j u b hj hu
    omega
   ·rw [upd_ne o e2] at hk
    exact h.ne j k u u' b b' hjk hj hk hu hu'
open Go Go.RowKit Go.Proofs.YtcfggjmdcaoecaaGreatDoorW.PrintLast
def ClosedV (ms:List Nat) (dep:Nat→List Nat) (o:Vals):Prop:=∀ i∈ms,o i≠none→∀ d∈dep i,o d≠none
def readyV (ms:List Nat) (dep:Nat→List Nat) (o:Vals):List Nat:=(undone ms o).filter fun i=>(dep i).all fun d=>(o d).isSome
theorem ClosedV.more {ms:List Nat} {dep:Nat→List Nat} {o:Vals} {i:Nat} (h:ClosedV ms dep o) (hd:∀ d∈dep i,o d≠none) (v:Value):ClosedV ms dep (upd o i v):=by
 have hu:∀ d,o d≠none→upd o i v d≠none:=fun d hd=>by
  by_cases e:d=i
  ·rw [e,upd_same];simp
  ·rw [upd_ne o e];exact hd
 intro j hj hn d hdj
 by_cases e:j=i
 ·subst e
  exact hu d (hd d hdj)
 ·rw [upd_ne o e] at hn
  exact hu d (h j hj hn d hdj)
section
variable {P:Program} {ops:Array Oper} {Q:Exit→Act→World→Prop} {md:Region.Mode} {S:World→Prop} {ds:List Nat}
theorem dag_ (ms:List Nat) (dep:Nat→List Nat) (A:Vals→Act) (L:Vals→Array Bool) (Inv:Vals→World→Prop) (fuel:Nat) (hms:ms.Nodup) (hds:∀ i∈ms,i∉ds)
  (hready:∀ o,ClosedV ms dep o→undone ms o≠[]→Region.ready md ops (L o)=readyV ms dep o∧readyV ms dep o≠[])
  (hL:∀ o i v,i∈ms→(L o).setIfInBounds i true=L (upd o i v))
  (hput:∀ i∈ms,∀ oi,ops[i]? = some oi→∀ o v,(A o).put oi.dst v=A (upd o i v))
  (hstep:∀ i∈ms,∃ oi,ops[i]? = some oi∧∀ o w,o i=none→(∀ d∈dep i,o d≠none)→Inv o w→S w→∀ K:Act→World→Prop,(∀ v w',S w'→Inv (upd o i v) w'→K ((A o).put oi.dst v) w') →
   if Region.wanted oi (yielded ops (A o).tmps)=true then Oper.wp P oi (A o) w K Q else K ((A o).put oi.dst undef) w)
  (hfin:∀ o w,(∀ i∈ms,o i≠none)→Inv o w→S w→wpAnyLast P md ops Q S ds fuel (L o) (A o) w) :
  ∀ (m:Nat) o w,(undone ms o).length=m→ClosedV ms dep o→Inv o w→S w→wpAnyLast P md ops Q S ds (fuel+m) (L o) (A o) w:=by
 intro m
 induction m with
 | zero =>
   intro o w hm hC hI hS
   have h0:undone ms o=[]:=List.eq_nil_of_length_eq_zero hm
   exact hfin o w (fun i hi hn=>by have:=undone_mem.2 ⟨hi,hn⟩;rw [h0] at this;cases this) hI hS
 | succ m ih =>
   intro o w hm hC hI hS
   have hne:undone ms o≠[]:=fun h=>by rw [h] at hm;cases hm
   obtain ⟨hr1,hr2⟩:=hready o hC hne
   refine wpAnyLast_all hr1 hr2 (fun i hi=>?_)
   unfold readyV at hi
   rw [List.mem_filter] at hi
   obtain ⟨hi1,hi2⟩:=undone_mem.1 hi.1
   have hdone:∀ d∈dep i,o d≠none:=fun d hd hn=>by
    have:=List.all_eq_true.1 hi.2 d hd
    rw [hn] at this
    cases this
   obtain ⟨oi,ho,h⟩:=hstep i hi1
   refine wpOp_step ho (fun K' hK=>h o w hi2 hdone hI hS K' (fun v w' hS' hI'=>hK _ _ ⟨fun _ _=>hS',?_⟩))
   rw [hL o i v hi1,hput i hi1 oi ho o v]
   exact ih _ _ (by have:=undone_upd hi2 v hms hi1;omega) (hC.more hdone v) hI' hS'
end
open Go Go.RowKit Md Go.Proofs.YtcfggjmdcaoecaaGreatDoorW.PrintLast
theorem readyV_congr {ms:List Nat} {dep:Nat→List Nat} {o o':Vals} (h:∀ i∈ms,o i=o' i) (hd:∀ i∈ms,∀ d∈dep i,d∈ms):readyV ms dep o=readyV ms dep o':=by
 have hu:undone ms o=undone ms o':=List.filter_congr (fun i hi=>by rw [h i hi])
 unfold readyV
 rw [hu]
 refine List.filter_congr (fun i hi=>?_)
 have hm:=(undone_mem.1 hi).1
 rw [Bool.eq_iff_iff,List.all_eq_true,List.all_eq_true]
 exact ⟨fun h1 d hd'=>by rw [← h d (hd i hm d hd')];exact h1 d hd',fun h1 d hd'=>by rw [h d (hd i hm d hd')];exact h1 d hd'⟩
structure SpI (gs:List PGlob) (l:List FRow) (wq:World) (o:Vals) (w:World):Prop where
 ext:Ext wq w
 m0:∀ v,o 0=some v→o 3=none→OwnG wq.heap.size w v []
 m3:∀ v,o 3=some v→OwnG wq.heap.size w v gs
 m4:∀ v,o 4=some v→o 7=none→w.ownsRow wq.heap.size 83 3 v 0 []
 m7:∀ v,o 7=some v→w.ownsRow wq.heap.size 83 3 v l.length (l.flatMap encF)
 m8:∀ v,o 8=some v→∃ v3 v7,o 3=some v3∧o 7=some v7∧v=.agg #[v3,v7]
 m9:∀ v,o 9=some v→∃ O,v=.pointer (some ⟨O,0,none⟩)∧wq.heap.size≤O∧Blk w O 32 #[.slice none 0 0,.slice none 0 0]
theorem SpI.start (gs:List PGlob) (l:List FRow) (wq:World):SpI gs l wq (fun _=>none) wq :=
 ⟨Ext.refl _,(fun _ h=>by cases h),(fun _ h=>by cases h),(fun _ h=>by cases h),(fun _ h=>by cases h),(fun _ h=>by cases h),(fun _ h=>by cases h)⟩
section
variable {gs:List PGlob} {l:List FRow} {wq w w':World} {o:Vals} {v:Value}
theorem OwnG.ext {base:Nat} {w w':World} {v:Value} {l:List PGlob} (h:OwnG base w v l) (k:Ext w w'):OwnG base w' v l:=h.tf (Tf.ext (M:=fun _=>False) k) (fun _ _ h=>h.elim)
theorem SpI.ext1 (h:SpI gs l wq o w) (k:Ext w w'):SpI gs l wq o w' :=
 ⟨h.ext.trans k,fun v a b=>(h.m0 v a b).ext k,fun v a=>(h.m3 v a).ext k,fun v a b=>rw_ext (h.m4 v a b) k,fun v a=>rw_ext (h.m7 v a) k,h.m8,fun v a=>by
  obtain ⟨O,e,h1,h2⟩:=h.m9 v a
  exact ⟨O,e,h1,h2.ext k⟩⟩
theorem SpI.s0 (h:SpI gs l wq o w) (k:Ext w w') (hv:OwnG wq.heap.size w' v []):SpI gs l wq (upd o 0 v) w':=by
 have h':=h.ext1 k
 exact ⟨h'.ext,fun u hu _=>by obtain rfl:=Option.some.inj (show some v=some u from hu);exact hv,fun u hu=>h'.m3 u hu,fun u hu h7=>h'.m4 u hu h7,fun u hu=>h'.m7 u hu,fun u hu=>h'.m8 u hu,fun u hu=>h'.m9 u hu⟩
theorem SpI.s4 (h:SpI gs l wq o w) (k:Ext w w') (hv:w'.ownsRow wq.heap.size 83 3 v 0 []):SpI gs l wq (upd o 4 v) w':=by
 have h':=h.ext1 k
 exact ⟨h'.ext,fun u hu h3=>h'.m0 u hu h3,fun u hu=>h'.m3 u hu,fun u hu _=>by obtain rfl:=Option.some.inj (show some v=some u from hu);exact hv,fun u hu=>h'.m7 u hu,fun u hu=>h'.m8 u hu,fun u hu=>h'.m9 u hu⟩
theorem SpI.s9 (h:SpI gs l wq o w) (k:Ext w w') {O:Nat} (hO:wq.heap.size≤O) (hv:Blk w' O 32 #[.slice none 0 0,.slice none 0 0]):SpI gs l wq (upd o 9 (.pointer (some ⟨O,0,none⟩))) w':=by
 have h':=h.ext1 k
 exact ⟨h'.ext,fun u hu h3=>h'.m0 u hu h3,fun u hu=>h'.m3 u hu,fun u hu h7=>h'.m4 u hu h7,fun u hu=>h'.m7 u hu,fun u hu=>h'.m8 u hu,fun u hu=>by
  obtain rfl:=Option.some.inj (show some (Value.pointer (some ⟨O,0,none⟩))=some u from hu)
  exact ⟨O,rfl,hO,hv⟩⟩
theorem SpI.s8 (h:SpI gs l wq o w) {v3 v7:Value} (h3:o 3=some v3) (h7:o 7=some v7):SpI gs l wq (upd o 8 (.agg #[v3,v7])) w :=
 ⟨h.ext,fun u hu h3=>h.m0 u hu h3,fun u hu=>h.m3 u hu,fun u hu h7=>h.m4 u hu h7,fun u hu=>h.m7 u hu,fun u hu=>by
  obtain rfl:=Option.some.inj (show some (Value.agg #[v3,v7])=some u from hu)
  exact ⟨v3,v7,h3,h7,rfl⟩,fun u hu=>h.m9 u hu⟩
theorem SpI.s3 (h:SpI gs l wq o w) {v0:Value} (hn:o 3=none) (h0:OwnG wq.heap.size w v0 []) (hv:OwnG wq.heap.size w' v gs) (hg:w.grownBy w' v0.ownBlock):SpI gs l wq (upd o 3 v) w':=by
 have hT:=grown_tf2 hg
 refine ⟨Below.grown h.ext hg h.ext.size (fun k hk=>(own_ge h0.own k hk).1),fun u hu h3=>?_,fun u hu=>?_,fun u hu h7=>own_tf (h.m4 u hu h7) hT (fun b hb e=>own_ne_own (h.m4 u hu h7) h0.own (by decide) b hb e),fun u hu=>own_tf (h.m7 u hu) hT (fun b hb e=>own_ne_own (h.m7 u hu) h0.own (by decide) b hb e),fun u hu=>?_,fun u hu=>?_⟩
 ·exact absurd (show some v=none from h3) (by simp)
 ·obtain rfl:=Option.some.inj (show some v=some u from hu)
  exact hv
 ·obtain ⟨v3,v7,e,_⟩:=h.m8 u hu
  rw [hn] at e
  cases e
 ·obtain ⟨O,e,h1,h2⟩:=h.m9 u hu
  exact ⟨O,e,h1,h2.tf hT (fun e=>own_ne_blk h0.own h2 (by decide) e.symm)⟩
theorem SpI.s7 (h:SpI gs l wq o w) {v0:Value} (hn:o 7=none) (h0:w.ownsRow wq.heap.size 83 3 v0 0 []) (hv:w'.ownsRow wq.heap.size 83 3 v l.length (l.flatMap encF)) (hg:w.grownBy w' v0.ownBlock):SpI gs l wq (upd o 7 v) w':=by
 have hT:=grown_tf2 hg
 refine ⟨Below.grown h.ext hg h.ext.size (fun k hk=>(own_ge h0 k hk).1),fun u hu h3=>⟨own_tf (h.m0 u hu h3).own hT (fun b hb e=>own_ne_own (h.m0 u hu h3).own h0 (by decide) b hb e),(h.m0 u hu h3).ok⟩,fun u hu=>⟨own_tf (h.m3 u hu).own hT (fun b hb e=>own_ne_own (h.m3 u hu).own h0 (by decide) b hb e),(h.m3 u hu).ok⟩,fun u hu h7=>?_,fun u hu=>?_,fun u hu=>?_,fun u hu=>?_⟩
 ·exact absurd (show some v=none from h7) (by simp)
 ·obtain rfl:=Option.some.inj (show some v=some u from hu)
  exact hv
 ·obtain ⟨v3,v7,_,e,_⟩:=h.m8 u hu
  rw [hn] at e
  cases e
 ·obtain ⟨O,e,h1,h2⟩:=h.m9 u hu
  exact ⟨O,e,h1,h2.tf hT (fun e=>own_ne_blk h0 h2 (by decide) e.symm)⟩
end
theorem FOkN.more {N N':Nat} {K:Foot} {w:World} {x:FRow} (h:FOkN N K w x) (hN:N≤N'):FOkN N' K w x :=
 ⟨h.p,h.b,h.name,fun s hs=>by have:=h.small s hs;omega,by have:=h.lb;omega,by have:=h.lp;omega⟩
theorem OwnSK.more {N:Nat} {K K':Foot} {base:Nat} {w:World} {v:Value} {l:List SRow} (h:OwnSK N K base w v l) (hK:∀ b,K b→K' b):OwnSK N K' base w v l :=
 ⟨h.own,fun x hx=>(h.ok x hx).keep (Keep.refl _ _) (fun b hb=>⟨hK b hb.1,hb.2⟩)⟩
theorem spoil_end {c:Nat} {w wt:World} {K:Foot} {F cF nF R f:Nat} {gv:Value} {gs:List PGlob} {l:List FRow} {x:FRow} {aB:Option Addr} {nB cB:Nat} {lb:List SRow} {arr:Array Value} (HR:Roll c w wt) (hc:c<w.heap.size)
  (hG:SlGlob (fun b=>w.heap.size≤b∧b≠F∧b≠R) wt gv gs) (OF:OwnFK 6000 (fun b=>(K b∧b<w.heap.size)∨(w.heap.size≤b∧b≠R)) w.heap.size wt (.slice (some ⟨F,0,none⟩) nF cF) l)
  (OB:OwnSK 6000 (fun b=>(K b∧b<w.heap.size)∨(w.heap.size≤b∧b≠R∧b≠F)) w.heap.size wt (.slice aB nB cB) lb) (hx:l[f]? = some x) (BR:Blk wt R 32 arr) (hR:w.heap.size≤R) (hlb:1≤lb.length∧lb.length≤60000) :
  TreeOut (fun b=>K b∨w.heap.size≤b) c w (.returned (.agg #[gv,.slice (some ⟨F,0,none⟩) nF cF])) (((wt.setCell ⟨F,f*3+2,none⟩ (.slice aB nB cB)).setCell ⟨R,0,none⟩ gv).setCell ⟨R,1,none⟩ (.slice (some ⟨F,0,none⟩) nF cF)):=by
 have hF:=own_ge OF.own F rfl
 have nFR:F≠R:=fun e=>own_ne_blk OF.own BR (by decide) (by rw [e];rfl)
 have nBR:∀ b,(Value.slice aB nB cB).ownBlock=some b→b≠R:=fun b hb e=>own_ne_blk OB.own BR (by decide) (by rw [← e];exact hb.symm)
 have nBF:∀ b,(Value.slice aB nB cB).ownBlock=some b→b≠F:=fun b hb e=>own_ne_own OB.own OF.own (by decide) b hb (by rw [e];rfl)
 have gB:=own_ge OB.own
 have T1:=set_tf wt F (f*3+2) (.slice aB nB cB)
 have T2:Tf (Is R) (wt.setCell ⟨F,f*3+2,none⟩ (.slice aB nB cB)) (((wt.setCell ⟨F,f*3+2,none⟩ (.slice aB nB cB)).setCell ⟨R,0,none⟩ gv).setCell ⟨R,1,none⟩ (.slice (some ⟨F,0,none⟩) nF cF)):=(set_tf _ R 0 _).trans (set_tf _ R 1 _)
 have OF2:=OF.set hx (q:=2) (by omega) ⟨⟨x.f.name,x.f.params,lb.map SRow.s⟩,x.pa,x.pn,x.pc,aB,nB,cB⟩ (.slice aB nB cB) rfl
  ⟨(OF.ok x (List.mem_of_getElem? hx)).p,OB.sl (fun b hb=>by
    rcases hb with hb | hb
    ·exact ⟨.inl hb,fun e=>by cases e;omega⟩
    ·exact ⟨.inr ⟨hb.1,hb.2.1⟩,fun e=>hb.2.2 (by cases e;rfl)⟩) (fun b hb=>⟨.inr ⟨(gB b hb).1,nBR b hb⟩,fun e=>nBF b hb (by cases e;rfl)⟩),(OF.ok x (List.mem_of_getElem? hx)).name,fun s hs=>by
    obtain ⟨y,hy,rfl⟩:=List.mem_map.1 hs
    exact ⟨(OB.ok y hy).le,(OB.ok y hy).lf⟩,by simp only [List.length_map];omega,(OF.ok x (List.mem_of_getElem? hx)).lp⟩
 have hS2:=OF2.sl (K':=fun b=>(K b∧b<w.heap.size)∨(w.heap.size≤b∧b≠R)) (fun _ h=>h) (fun b hb=>by cases hb;exact .inr ⟨hF.1,nFR⟩)
 refine ⟨_,_,⟨gs,(l.set f ⟨⟨x.f.name,x.f.params,lb.map SRow.s⟩,x.pa,x.pn,x.pc,aB,nB,cB⟩).map FRow.f⟩,rfl,?_,?_,?_,?_⟩
 ·exact (hG.keep (T1.keep (fun b hb e=>hb.2.1 e)) (fun _ _ _ h=>h.any) (fun _ h=>h)).keep (T2.keep (fun b hb e=>hb.2.2 e)) (fun _ _ _ h=>h.any) (fun b hb=>.inr hb.1)
 ·have k:Keep (fun b=>(K b∧b<w.heap.size)∨(w.heap.size≤b∧b≠R)) (wt.setCell ⟨F,f*3+2,none⟩ (.slice aB nB cB)) (((wt.setCell ⟨F,f*3+2,none⟩ (.slice aB nB cB)).setCell ⟨R,0,none⟩ gv).setCell ⟨R,1,none⟩ (.slice (some ⟨F,0,none⟩) nF cF)):=T2.keep (fun b hb e=>by
   have e:b=R:=e
   rcases hb with hb | hb
   ·omega
   ·exact hb.2 e)
  have hw:∀ b,((K b∧b<w.heap.size)∨(w.heap.size≤b∧b≠R))→K b∨w.heap.size≤b:=fun b hb=>hb.elim (fun h=>.inl h.1) (fun h=>.inr h.1)
  exact Sl.keep hS2 k (fun _ _ _ h=>h.keep k hw) hw
 ·intro g hg s hs
  obtain ⟨y,hy,rfl⟩:=List.mem_map.1 hg
  have:=(OF2.ok y hy).small s hs
  omega
 ·have T12:Tf (Is c) w (wt.setCell ⟨F,f*3+2,none⟩ (.slice aB nB cB)):=HR.tf.trans2 T1 (fun i hi e=>by have e:i=F:=e;omega)
  exact ⟨(HR.cur.tf T1 (fun b hb e=>by have e:b=F:=e;omega)).tf T2 (fun b hb e=>by have e:b=R:=e;omega),T12.trans2 T2 (fun i hi e=>by have e:i=R:=e;omega)⟩
open Go Go.RowKit Md Go.Proofs.YtcfggjmdcaoecaaGreatDoorW.PrintLast
structure SpM (K KF KB:Foot) (c O F cF R nF:Nat) (w wz:World) (vG vB:Value) (gs:List PGlob) (l:List FRow) (lb:List SRow):Prop where
 roll:Roll c w wz
 r:Blk wz R 32 #[.slice none 0 0,.slice none 0 0]
 o:Blk wz O 32 #[vG,.slice (some ⟨F,0,none⟩) nF cF]
 g:OwnG w.heap.size wz vG gs
 f:OwnFK 6000 KF w.heap.size wz (.slice (some ⟨F,0,none⟩) nF cF) l
 b:OwnSK 6000 KB w.heap.size wz vB lb
 hc:c<w.heap.size
 hR:w.heap.size≤R
 hO:w.heap.size≤O
 hRO:R≠O
 kF:∀ b,KF b→b≠c∧b≠O∧b≠R
 kB:∀ b,KB b→b≠c∧b≠O∧b≠R∧b≠F
 oF:∀ b,KF b→(K b∧b<w.heap.size)∨w.heap.size≤b
 oB:∀ b,KB b→(K b∧b<w.heap.size)∨w.heap.size≤b
 hlb:1≤lb.length∧lb.length≤60000
theorem Tf.roll {c:Nat} {M:Foot} {w wx wy:World} (h:Roll c w wx) (hc:c<w.heap.size) (k:Tf M wx wy) (hM:∀ b,M b→w.heap.size≤b):Roll c w wy :=
 ⟨h.cur.tf k (fun b hb hm=>by have:=hM b hm;omega),h.tf.trans2 k (fun i hi hm=>by have:=hM i hm;omega)⟩
section
variable {K KF KB:Foot} {c O F cF R nF:Nat} {w wx wy:World} {vG vB:Value} {gs:List PGlob} {l:List FRow} {lb:List SRow}
theorem SpM.gF (h:SpM K KF KB c O F cF R nF w wx vG vB gs l lb):w.heap.size≤F∧F<wx.heap.size:=own_ge h.f.own F rfl
theorem SpM.nFR (h:SpM K KF KB c O F cF R nF w wx vG vB gs l lb):F≠R:=fun e=>own_ne_blk h.f.own h.r (by decide) (by rw [e];rfl)
theorem SpM.nFO (h:SpM K KF KB c O F cF R nF w wx vG vB gs l lb):F≠O:=fun e=>own_ne_blk h.f.own h.o (by decide) (by rw [e];rfl)
theorem SpM.nG (h:SpM K KF KB c O F cF R nF w wx vG vB gs l lb):∀ b,vG.ownBlock=some b→w.heap.size≤b∧b<wx.heap.size∧b≠R∧b≠O∧b≠F:=fun b hb =>
 ⟨(own_ge h.g.own b hb).1,(own_ge h.g.own b hb).2,fun e=>own_ne_blk h.g.own h.r (by decide) (by rw [← e];exact hb.symm),fun e=>own_ne_blk h.g.own h.o (by decide) (by rw [← e];exact hb.symm),fun e=>own_ne_own h.g.own h.f.own (by decide) b hb (by rw [e];rfl)⟩
theorem SpM.nB (h:SpM K KF KB c O F cF R nF w wx vG vB gs l lb):∀ b,vB.ownBlock=some b→w.heap.size≤b∧b<wx.heap.size∧b≠R∧b≠O∧b≠F∧vG.ownBlock≠some b:=fun b hb =>
 ⟨(own_ge h.b.own b hb).1,(own_ge h.b.own b hb).2,fun e=>own_ne_blk h.b.own h.r (by decide) (by rw [← e];exact hb.symm),fun e=>own_ne_blk h.b.own h.o (by decide) (by rw [← e];exact hb.symm),fun e=>own_ne_own h.b.own h.f.own (by decide) b hb (by rw [e];rfl),own_ne_own h.b.own h.g.own (by decide) b hb⟩
theorem SpM.rolls (h:SpM K KF KB c O F cF R nF w wx vG vB gs l lb) (k:Roll c wx wy):SpM K KF KB c O F cF R nF w wy vG vB gs l lb:=by
 have hc:=h.hc
 have hR:=h.hR
 have hO:=h.hO
 have hF:=h.gF
 exact ⟨h.roll.trans k,h.r.tf k.tf (fun e=>by have e:R=c:=e;omega),h.o.tf k.tf (fun e=>by have e:O=c:=e;omega),h.g.tf k.tf (fun b _ e=>by have e:b=c:=e;omega),
  h.f.tf k.tf (fun b hb e=>by cases hb;have e:F=c:=e;omega) (fun b hb _ e=>(h.kF b hb).1 e),h.b.tf k.tf (fun b hb e=>by have:=h.nB b hb;have e:b=c:=e;omega) (fun b hb _ e=>(h.kB b hb).1 e),
  h.hc,h.hR,h.hO,h.hRO,h.kF,h.kB,h.oF,h.oB,h.hlb⟩
theorem SpM.ext (h:SpM K KF KB c O F cF R nF w wx vG vB gs l lb) (k:Ext wx wy):SpM K KF KB c O F cF R nF w wy vG vB gs l lb :=
 ⟨h.roll.ext k,h.r.ext k,h.o.ext k,h.g.ext k,h.f.tf (Tf.ext (M:=fun _=>False) k) (fun _ _ h=>h) (fun _ _ _ h=>h),h.b.tf (Tf.ext (M:=fun _=>False) k) (fun _ _ h=>h) (fun _ _ _ h=>h),h.hc,h.hR,h.hO,h.hRO,h.kF,h.kB,h.oF,h.oB,h.hlb⟩
theorem SpM.more {KF' KB':Foot} (h:SpM K KF KB c O F cF R nF w wx vG vB gs l lb) (hF:∀ b,KF b→KF' b) (hB:∀ b,KB b→KB' b) (kF:∀ b,KF' b→b≠c∧b≠O∧b≠R) (kB:∀ b,KB' b→b≠c∧b≠O∧b≠R∧b≠F)
  (oF:∀ b,KF' b→(K b∧b<w.heap.size)∨w.heap.size≤b) (oB:∀ b,KB' b→(K b∧b<w.heap.size)∨w.heap.size≤b):SpM K KF' KB' c O F cF R nF w wx vG vB gs l lb :=
 ⟨h.roll,h.r,h.o,h.g,h.f.more hF,h.b.more hB,h.hc,h.hR,h.hO,h.hRO,kF,kB,oF,oB,h.hlb⟩
def Kn (K:Foot) (w:World) (m:Nat):Foot:=fun b=>(K b∧b<w.heap.size)∨m≤b
theorem SpM.newB (h:SpM K KF (fun b=>K b∧b<w.heap.size) c O F cF R nF w wx vG vB gs l lb):SpM K KF (Kn K w wx.heap.size) c O F cF R nF w wx vG vB gs l lb:=by
 have hc:=h.hc
 have hw:=h.roll.tf.size
 have hR:=h.r.lt
 have hO:=h.o.lt
 have hF:=h.gF
 refine h.more (fun _ h=>h) (fun b hb=>.inl hb) h.kF (fun b hb=>?_) h.oF (fun b hb=>?_)
 ·rcases hb with hb | hb
  ·exact h.kB b hb
  ·exact ⟨by omega,by omega,by omega,by omega⟩
 ·rcases hb with hb | hb
  ·exact .inl hb
  ·exact .inr (by omega)
theorem SpM.newF (h:SpM K (fun b=>K b∧b<w.heap.size) KB c O F cF R nF w wx vG vB gs l lb):SpM K (Kn K w wx.heap.size) KB c O F cF R nF w wx vG vB gs l lb:=by
 have hc:=h.hc
 have hw:=h.roll.tf.size
 have hR:=h.r.lt
 have hO:=h.o.lt
 refine h.more (fun b hb=>.inl hb) (fun _ h=>h) (fun b hb=>?_) h.kB (fun b hb=>?_) h.oB
 ·rcases hb with hb | hb
  ·exact h.kF b hb
  ·exact ⟨by omega,by omega,by omega⟩
 ·rcases hb with hb | hb
  ·exact .inl hb
  ·exact .inr (by omega)
theorem SpM.setB {B nB cB i q:Nat} (h:SpM K KF KB c O F cF R nF w wx vG (.slice (some ⟨B,0,none⟩) nB cB) gs l lb) {x:SRow} (hi:lb[i]? = some x) (hq:q<6) (x':SRow) (u:Value) (hx:encSR x'=(encSR x).set q u)
  (hok:SOkN 6000 (fun b=>KB b∧some b≠some B) wx x') (hF:∀ b,KF b→b≠B):SpM K KF KB c O F cF R nF w (wx.setCell ⟨B,i*6+q,none⟩ u) vG (.slice (some ⟨B,0,none⟩) nB cB) gs l (lb.set i x'):=by
 have k:=set_tf wx B (i*6+q) u
 obtain ⟨g1,g2,nR,nO,nF',nG⟩:=h.nB B rfl
 refine ⟨Tf.roll h.roll h.hc k (fun b e=>by have e:b=B:=e;omega),h.r.tf k (fun e=>nR e.symm),h.o.tf k (fun e=>nO e.symm),⟨own_tf h.g.own k (fun b hb e=>by have e:b=B:=e;subst e;exact nG hb),h.g.ok⟩,
  h.f.tf k (fun b hb e=>by cases hb;exact nF' e.symm) (fun b hb _ e=>hF b hb e),h.b.set hi hq x' u hx hok,h.hc,h.hR,h.hO,h.hRO,h.kF,h.kB,h.oF,h.oB,by rw [List.length_set];exact h.hlb⟩
theorem SpM.appB (h:SpM K KF KB c O F cF R nF w wx vG vB gs l lb) (x:SRow) (hx:SOkN 6000 (fun b=>KB b∧some b≠vB.ownBlock) wx x) (hn:lb.length<60000) (hF:∀ b,KF b→vB.ownBlock≠some b) (ty:TypeId) :
  ∃ v' w',(Builtin.append_ #[81,81] ty #[vB,.slice (some ⟨wx.heap.size,0,none⟩) 1 1]).run Tryz.prog (wx.alloc (.cells #[.int .i64 x.s.kind,.string x.s.name,.slice x.ea x.en x.ec,.slice x.fa x.fn x.fc,.int .i64 x.s.thn,.int .i64 x.s.els] 102))=.ok v' w' ∧
   SpM K KF KB c O F cF R nF w w' vG v' gs l (lb ++ [x])∧wx.heap.size≤w'.heap.size:=by
 obtain ⟨v',w',r1,O1,g1,_⟩:=h.b.app1 x hx (by omega) h.roll.tf.size ty
 have hsz:wx.heap.size≤w'.heap.size:=by have:=g1.size;simp at this;omega
 refine ⟨v',w',r1,?_,hsz⟩
 have h':=h.ext (wy:=wx.alloc (.cells #[.int .i64 x.s.kind,.string x.s.name,.slice x.ea x.en x.ec,.slice x.fa x.fn x.fc,.int .i64 x.s.thn,.int .i64 x.s.els] 102)) ((Ext.refl wx).alloc _)
 generalize wx.alloc (.cells #[.int .i64 x.s.kind,.string x.s.name,.slice x.ea x.en x.ec,.slice x.fa x.fn x.fc,.int .i64 x.s.thn,.int .i64 x.s.els] 102)=wz at h' g1
 have k:=grown_tf2 g1
 have hB:=h'.nB
 exact ⟨Tf.roll h'.roll h.hc k (fun b e=>(hB b e).1),h'.r.tf k (fun e=>(hB R e).2.2.1 rfl),h'.o.tf k (fun e=>(hB O e).2.2.2.1 rfl),⟨own_tf h'.g.own k (fun b hb e=>(hB b e).2.2.2.2.2 hb),h.g.ok⟩,
  h'.f.tf k (fun b hb e=>by cases hb;exact (hB F e).2.2.2.2.1 rfl) (fun b hb _ e=>hF b hb e),O1,h.hc,h.hR,h.hO,h.hRO,h.kF,h.kB,h.oF,h.oB,by have:=h.hlb;simp;omega⟩
theorem SpM.setF {i q:Nat} (h:SpM K KF KB c O F cF R nF w wx vG vB gs l lb) {x:FRow} (hi:l[i]? = some x) (hq:q<3) (x':FRow) (u:Value) (hx:encF x'=(encF x).set q u)
  (hok:FOkN 6000 (fun b=>KF b∧some b≠some F) wx x'):SpM K KF KB c O F cF R nF w (wx.setCell ⟨F,i*3+q,none⟩ u) vG vB gs (l.set i x') lb:=by
 have k:=set_tf wx F (i*3+q) u
 obtain ⟨g1,g2⟩:=h.gF
 exact ⟨Tf.roll h.roll h.hc k (fun b e=>by have e:b=F:=e;omega),h.r.tf k (fun e=>h.nFR e.symm),h.o.tf k (fun e=>h.nFO e.symm),⟨own_tf h.g.own k (fun b hb e=>(h.nG b hb).2.2.2.2 e),h.g.ok⟩,
  h.f.set hi hq x' u hx hok,h.b.tf k (fun b hb e=>(h.nB b hb).2.2.2.2.1 e) (fun b hb _ e=>(h.kB b hb).2.2.2 e),h.hc,h.hR,h.hO,h.hRO,h.kF,h.kB,h.oF,h.oB,h.hlb⟩
theorem SpM.setG {G nG cG i q:Nat} (h:SpM K KF KB c O F cF R nF w wx (.slice (some ⟨G,0,none⟩) nG cG) vB gs l lb) {x:PGlob} (hi:gs[i]? = some x) (hq:q<2) (x':PGlob) (u:Value) (hx:encG x'=(encG x).set q u)
  (hok:I64 x'.size∧x'.name.size≤maxLen) (hF:∀ b,KF b→b≠G) (hB:∀ b,KB b→b≠G):SpM K KF KB c O F cF R nF w (wx.setCell ⟨G,i*2+q,none⟩ u) (.slice (some ⟨G,0,none⟩) nG cG) vB (gs.set i x') l lb:=by
 have k:=set_tf wx G (i*2+q) u
 obtain ⟨g1,g2,nR,nO,nF'⟩:=h.nG G rfl
 exact ⟨Tf.roll h.roll h.hc k (fun b e=>by have e:b=G:=e;omega),h.r.tf k (fun e=>nR e.symm),h.o.tf k (fun e=>nO e.symm),h.g.set hi hq x' u hx hok,
  h.f.tf k (fun b hb e=>by cases hb;exact nF' e.symm) (fun b hb _ e=>hF b hb e),h.b.tf k (fun b hb e=>by have e:b=G:=e;subst e;exact (h.nB b hb).2.2.2.2.2 rfl) (fun b hb _ e=>hB b hb e),h.hc,h.hR,h.hO,h.hRO,h.kF,h.kB,h.oF,h.oB,h.hlb⟩
theorem SpM.appG (h:SpM K KF KB c O F cF R nF w wx vG vB gs l lb) (x:PGlob) (hx:I64 x.size∧x.name.size≤maxLen) (hl:gs.length≤900000) (hF:∀ b,KF b→vG.ownBlock≠some b) (hB:∀ b,KB b→vG.ownBlock≠some b) (ty:TypeId) :
  ∃ v' w',(Builtin.append_ #[29,29] ty #[vG,.slice (some ⟨wx.heap.size,0,none⟩) 1 1]).run Tryz.prog (wx.alloc (.cells #[.string x.name,.int .i64 x.size] 97))=.ok v' w' ∧
   w'.cell? ⟨O,0,none⟩=some vG∧w'.frozen? ⟨O,0,none⟩=false∧SpM K KF KB c O F cF R nF w (w'.setCell ⟨O,0,none⟩ v') v' vB (gs ++ [x]) l lb:=by
 obtain ⟨v',w',r1,O1,g1⟩:=h.g.app1 x hx hl h.roll.tf.size ty
 have h':=h.ext (wy:=wx.alloc (.cells #[.string x.name,.int .i64 x.size] 97)) ((Ext.refl wx).alloc _)
 generalize wx.alloc (.cells #[.string x.name,.int .i64 x.size] 97)=wz at h' g1 r1
 have k:=grown_tf2 g1
 have hG:=h'.nG
 have Bo:=h'.o.tf k (fun e=>(hG O e).2.2.2.1 rfl)
 have hcO:O≠c:=by have:=h.hc;have:=h.hO;omega
 have Ro:=Tf.roll h'.roll h.hc k (fun b e=>(hG b e).1)
 have k2:=set_tf w' O 0 v'
 have Br:=(h'.r.tf k (fun e=>(hG R e).2.2.1 rfl))
 have Bf:=h'.f.tf k (fun b hb e=>by cases hb;exact (hG F e).2.2.2.2 rfl) (fun b hb _ e=>hF b hb e)
 have Bb:=h'.b.tf k (fun b hb e=>(h'.nB b hb).2.2.2.2.2 e) (fun b hb _ e=>hB b hb e)
 refine ⟨v',w',r1,(Bo.cell 0).trans rfl,Bo.frozen 0,?_⟩
 exact ⟨Tf.roll Ro h.hc k2 (fun b e=>by have e:b=O:=e;have:=h.hO;omega),Br.tf k2 h.hRO,Bo.set 0 v',⟨own_tf O1.own k2 (fun b hb e=>own_ne_blk O1.own Bo (by decide) (by rw [← (show b=O from e)];exact hb.symm)),O1.ok⟩,
  Bf.tf k2 (fun b hb e=>by cases hb;exact h.nFO e) (fun b hb _ e=>(h.kF b hb).2.1 e),Bb.tf k2 (fun b hb e=>own_ne_blk Bb.own Bo (by decide) (by rw [← (show b=O from e)];exact hb.symm)) (fun b hb _ e=>(h.kB b hb).2.1 e),h.hc,h.hR,h.hO,h.hRO,h.kF,h.kB,h.oF,h.oB,h.hlb⟩
theorem SpM.fAt (h:SpM K KF KB c O F cF R nF w wx vG vB gs l lb) {i q:Nat} {x:FRow} (hi:l[i]? = some x) (hq:q<3) {u:Value} (hu:(encF x)[q]? = some u):wx.cell? ⟨F,i*3+q,none⟩=some u∧wx.frozen? ⟨F,i*3+q,none⟩=false:=by
 have hn:nF=l.length:=by
  obtain ⟨a,c',e,_⟩:=own_form h.f.own
  cases e
  rfl
 subst hn
 exact rw_atN encF_len h.f.own hi hq hu
theorem SpM.bAt {B nB cB:Nat} (h:SpM K KF KB c O F cF R nF w wx vG (.slice (some ⟨B,0,none⟩) nB cB) gs l lb) {i q:Nat} {x:SRow} (hi:lb[i]? = some x) (hq:q<6) {u:Value} (hu:(encSR x)[q]? = some u):wx.cell? ⟨B,i*6+q,none⟩=some u∧wx.frozen? ⟨B,i*6+q,none⟩=false:=by
 have hn:nB=lb.length:=by
  obtain ⟨a,c',e,_⟩:=own_form h.b.own
  cases e
  rfl
 subst hn
 exact rw_atN encSR_len h.b.own hi hq hu
theorem SpM.gAt {G nG cG:Nat} (h:SpM K KF KB c O F cF R nF w wx (.slice (some ⟨G,0,none⟩) nG cG) vB gs l lb) {i q:Nat} {x:PGlob} (hi:gs[i]? = some x) (hq:q<2) {u:Value} (hu:(encG x)[q]? = some u):wx.cell? ⟨G,i*2+q,none⟩=some u∧wx.frozen? ⟨G,i*2+q,none⟩=false:=by
 have hn:nG=gs.length:=by
  obtain ⟨a,c',e,_⟩:=own_form h.g.own
  cases e
  rfl
 subst hn
 exact rw_atN encG_len h.g.own hi hq hu
theorem SpM.fin {f nB cB:Nat} {aB:Option Addr} (h:SpM K KF KB c O F cF R nF w wx vG (.slice aB nB cB) gs l lb) {x:FRow} (hx:l[f]? = some x) :
  TreeOut (fun b=>K b∨w.heap.size≤b) c w (.returned (.agg #[vG,.slice (some ⟨F,0,none⟩) nF cF])) (((wx.setCell ⟨F,f*3+2,none⟩ (.slice aB nB cB)).setCell ⟨R,0,none⟩ vG).setCell ⟨R,1,none⟩ (.slice (some ⟨F,0,none⟩) nF cF)) :=
 spoil_end h.roll h.hc (h.g.slne (fun b hb=>⟨(h.nG b hb).1,(h.nG b hb).2.2.2.2,(h.nG b hb).2.2.1⟩)) (h.f.more (fun b hb=>(h.oF b hb).elim .inl (fun e=>.inr ⟨e,(h.kF b hb).2.2⟩)))
  (h.b.more (fun b hb=>(h.oB b hb).elim .inl (fun e=>.inr ⟨e,(h.kB b hb).2.2.1,(h.kB b hb).2.2.2⟩))) hx h.r h.hR h.hlb
theorem SpM.tail {f:Nat} (h:SpM K KF KB c O F cF R nF w wx vG vB gs l lb) {x:FRow} (hx:l[f]? = some x) :
  wx.cell? ⟨O,1,none⟩=some (.slice (some ⟨F,0,none⟩) nF cF)∧wx.cell? ⟨F,f*3+2,none⟩=some (.slice x.ba x.bn x.bc)∧wx.frozen? ⟨F,f*3+2,none⟩=false ∧
   (wx.setCell ⟨F,f*3+2,none⟩ vB).cell? ⟨O,0,none⟩=some vG∧(wx.setCell ⟨F,f*3+2,none⟩ vB).cell? ⟨O,1,none⟩=some (.slice (some ⟨F,0,none⟩) nF cF) ∧
   (wx.setCell ⟨F,f*3+2,none⟩ vB).cell? ⟨R,0,none⟩=some (.slice none 0 0)∧(wx.setCell ⟨F,f*3+2,none⟩ vB).cell? ⟨R,1,none⟩=some (.slice none 0 0) ∧
   (wx.setCell ⟨F,f*3+2,none⟩ vB).frozen? ⟨R,0,none⟩=false∧(wx.setCell ⟨F,f*3+2,none⟩ vB).frozen? ⟨R,1,none⟩=false ∧
   ((wx.setCell ⟨F,f*3+2,none⟩ vB).setCell ⟨R,0,none⟩ vG).cell? ⟨R,1,none⟩=some (.slice none 0 0)∧((wx.setCell ⟨F,f*3+2,none⟩ vB).setCell ⟨R,0,none⟩ vG).frozen? ⟨R,1,none⟩=false ∧
   Blk (((wx.setCell ⟨F,f*3+2,none⟩ vB).setCell ⟨R,0,none⟩ vG).setCell ⟨R,1,none⟩ (.slice (some ⟨F,0,none⟩) nF cF)) R 32 #[vG,.slice (some ⟨F,0,none⟩) nF cF]:=by
 have k:=set_tf wx F (f*3+2) vB
 have BO:=h.o.tf k (fun e=>h.nFO e.symm)
 have BR:=h.r.tf k (fun e=>h.nFR e.symm)
 have a:=h.fAt hx (q:=2) (by omega) rfl
 have BR2:=BR.set 0 vG
 exact ⟨(h.o.cell 1).trans rfl,a.1,a.2,(BO.cell 0).trans rfl,(BO.cell 1).trans rfl,(BR.cell 0).trans rfl,(BR.cell 1).trans rfl,BR.frozen 0,BR.frozen 1,(BR2.cell 1).trans rfl,BR2.frozen 1,BR2.set 1 _⟩
theorem SpM.k0 (h:SpM K (fun b=>K b∧b<w.heap.size) KB c O F cF R nF w wx vG vB gs l lb):∀ b,K b∧b<w.heap.size→vB.ownBlock≠some b:=fun b hb e=>by have:=(h.nB b e).1;omega
theorem SpM.k0G (h:SpM K KF KB c O F cF R nF w wx vG vB gs l lb):∀ b,K b∧b<w.heap.size→vG.ownBlock≠some b:=fun b hb e=>by have:=(h.nG b e).1;omega
theorem SpM.setE {m B nB cB i:Nat} (h:SpM K KF (Kn K w m) c O F cF R nF w wx vG (.slice (some ⟨B,0,none⟩) nB cB) gs l lb) {x:SRow} (hi:lb[i]? = some x) {a:Option Addr} {n c':Nat} {l3:List PNode} (O3:OwnE m wx (.slice a n c') l3) (hl3:l3.length≤6000) (hB:B<m) (hF:∀ b,KF b→b≠B) :
  SpM K KF (Kn K w m) c O F cF R nF w (wx.setCell ⟨B,i*6+2,none⟩ (.slice a n c')) vG (.slice (some ⟨B,0,none⟩) nB cB) gs l (lb.set i ⟨{ x.s with e:=l3 },a,n,c',x.fa,x.fn,x.fc⟩) :=
 h.setB hi (by omega) _ _ rfl (have g:=h.b.ok x (List.mem_of_getElem? hi);⟨O3.sl (fun b hb=>⟨.inr hb,fun e=>by cases e;omega⟩),g.f,g.kind,g.thn,g.els,g.name,hl3,g.lf⟩) hF
theorem SpM.appE {m:Nat} (h:SpM K KF (Kn K w m) c O F cF R nF w wx vG vB gs l lb) {a:Option Addr} {n c':Nat} {l3:List PNode} (O3:OwnE m wx (.slice a n c') l3) (hl3:l3.length≤6000) {kind:Int} {name:ByteArray} (hk:I64 kind) (hname:name.size≤maxLen) (hn:lb.length<60000) (hF:∀ b,KF b→vB.ownBlock≠some b) (ty:TypeId) :
  ∃ v' w',(Builtin.append_ #[81,81] ty #[vB,.slice (some ⟨wx.heap.size,0,none⟩) 1 1]).run Tryz.prog (wx.alloc (.cells #[.int .i64 kind,.string name,.slice a n c',.slice none 0 0,.int .i64 0,.int .i64 0] 102))=.ok v' w' ∧
   SpM K KF (Kn K w m) c O F cF R nF w w' vG v' gs l (lb ++ [⟨⟨kind,name,l3,[],0,0⟩,a,n,c',none,0,0⟩])∧wx.heap.size≤w'.heap.size :=
 h.appB ⟨⟨kind,name,l3,[],0,0⟩,a,n,c',none,0,0⟩ ⟨O3.slne (fun b hb ho=>⟨.inr hb,fun e=>own_ne_own O3.own h.b.own (by decide) b ho e.symm⟩),Sl.nil _ _ _ _,hk,i64s 0 (by omega),i64s 0 (by omega),hname,hl3,by simp⟩ hn hF ty
end
open Go Go.RowKit Md Go.Proofs.YtcfggjmdcaoecaaGreatDoorW.PrintLast
def lenS:Value→Nat
 | .slice _ n _=>n
 | _=>0
structure SpP (c n:Nat) (ls ps:List ByteArray) (wq:World) (o:Vals) (w:World):Prop where
 roll:Roll c wq w
 hc:c<wq.heap.size
 m3:∀ v,o 3=some v→∃ g,v=.slice (some ⟨g,0,none⟩) 0 0∧wq.heap.size≤g∧g<w.heap.size∧(o 10=none→OwnStr wq.heap.size w v [])
 m10:∀ v,o 10=some v→OwnStr wq.heap.size w v ps
 m12:∀ v,o 12=some v→∃ b,v=.slice (some ⟨b,0,none⟩) n n∧wq.heap.size≤b∧b<w.heap.size∧SlStr (fun k=>k=b) w v ls∧∀ v3,o 3=some v3→v3.ownBlock≠some b
 m13:∀ v,o 13=some v→∃ s,v=.string s∧s.size≤maxLen
 m14:∀ v,o 14=some v→∃ b s,v=.slice (some ⟨b,0,none⟩) 1 1∧wq.heap.size≤b∧b<w.heap.size∧s.size≤maxLen∧SlStr (fun k=>k=b) w v [s]∧∀ v3,o 3=some v3→v3.ownBlock≠some b
theorem SpP.start {c n:Nat} {ls ps:List ByteArray} {wq:World} (h:CurAt wq c):SpP c n ls ps wq (fun _=>none) wq :=
 ⟨Roll.refl h,h.lt,(fun _ h=>by cases h),(fun _ h=>by cases h),(fun _ h=>by cases h),(fun _ h=>by cases h),(fun _ h=>by cases h)⟩
theorem app_strs {K:Foot} {base:Nat} {w:World} {v v2:Value} {ps:List ByteArray} (h:OwnStr base w v []) (h2:SlStr K w v2 ps) (hl:ps.length≤900000) (hb:base≤w.heap.size) (ty:TypeId) :
  ∃ v' w',(Builtin.append_ #[80,80] ty #[v,v2]).run Tryz.prog w=.ok v' w'∧OwnStr base w' v' ps∧w.grownBy w' v.ownBlock:=by
 obtain ⟨i0,hi,hz0,hz1,hz2⟩:=info_parts gi_str
 obtain ⟨v2,w2,r1,o2,g2,_⟩:=run_app (P:=Tryz.prog) Value.string CStr (fun _ _ _ h=>h.1) (fun _=>rfl) K w base Tryz.underlying80 hi hz0 hz1 hz2 rfl v [] h.own v2 ps h2 (by simp;omega) (by simp;omega) hb ty
 refine ⟨v2,w2,r1,⟨by simpa using o2,fun x hx=>?_⟩,g2⟩
 obtain ⟨cs,hc⟩:=Sl.mem h2 x hx
 exact hc.2
section
variable {c n:Nat} {ls ps:List ByteArray} {wq w w':World} {o:Vals} {v:Value}
theorem SpP.tf {M:Foot} (h:SpP c n ls ps wq o w) (k:Tf M w w') (hM:∀ b,M b→b<wq.heap.size) (hr:Roll c wq w'):SpP c n ls ps wq o w':=by
 have hs:=k.size
 refine ⟨hr,h.hc,fun v hv=>?_,fun v hv=>(h.m10 v hv).tf k (fun b _ hb=>hM b hb),fun v hv=>?_,h.m13,fun v hv=>?_⟩
 ·obtain ⟨g,e,h1,h2,h3⟩:=h.m3 v hv
  exact ⟨g,e,h1,by omega,fun h10=>(h3 h10).tf k (fun b _ hb=>hM b hb)⟩
 ·obtain ⟨b,e,h1,h2,h3,h4⟩:=h.m12 v hv
  exact ⟨b,e,h1,by omega,h3.keep (k.keep (fun i hi hm=>by have e:i=b:=hi;have:=hM i hm;omega)) (fun _ _ _ h=>h.any) (fun _ h=>h),h4⟩
 ·obtain ⟨b,s,e,h1,h2,hs,h3,h4⟩:=h.m14 v hv
  exact ⟨b,s,e,h1,by omega,hs,h3.keep (k.keep (fun i hi hm=>by have e:i=b:=hi;have:=hM i hm;omega)) (fun _ _ _ h=>h.any) (fun _ h=>h),h4⟩
theorem SpP.ext (h:SpP c n ls ps wq o w) (k:Ext w w'):SpP c n ls ps wq o w':=h.tf (Tf.ext (M:=fun _=>False) k) (fun _ h=>h.elim) (h.roll.ext k)
theorem SpP.s3 (h:SpP c n ls ps wq o w):SpP c n ls ps wq (upd o 3 (.slice (some ⟨w.heap.size,0,none⟩) 0 0)) (w.alloc (.cells #[] 9)):=by
 have h':=h.ext (w':=w.alloc (.cells #[] 9)) ((Ext.refl w).alloc _)
 have hw:=h.roll.tf.size
 refine ⟨h'.roll,h.hc,fun u hu=>?_,fun u hu=>h'.m10 u hu,fun u hu=>?_,fun u hu=>h'.m13 u hu,fun u hu=>?_⟩
 ·obtain rfl:=Option.some.inj (show some (Value.slice (some ⟨w.heap.size,0,none⟩) 0 0)=some u from hu)
  exact ⟨_,rfl,hw,by simp,fun _=>⟨own_new w _ _ 1 hw,fun _ h=>by cases h⟩⟩
 ·obtain ⟨b,e,h1,h2,h3,h4⟩:=h'.m12 u hu
  obtain ⟨b',e',_,h2',_⟩:=h.m12 u hu
  refine ⟨b,e,h1,h2,h3,fun v3 hv3=>?_⟩
  obtain rfl:=Option.some.inj (show some (Value.slice (some ⟨w.heap.size,0,none⟩) 0 0)=some v3 from hv3)
  have hbb:b'=b:=by
   rw [e] at e'
   cases e'
   rfl
  intro q
  have q':w.heap.size=b:=Option.some.inj q
  omega
 ·obtain ⟨b,s,e,h1,h2,hs,h3,h4⟩:=h'.m14 u hu
  obtain ⟨b',s',e',_,h2',_⟩:=h.m14 u hu
  refine ⟨b,s,e,h1,h2,hs,h3,fun v3 hv3=>?_⟩
  obtain rfl:=Option.some.inj (show some (Value.slice (some ⟨w.heap.size,0,none⟩) 0 0)=some v3 from hv3)
  have hbb:b'=b:=by
   rw [e] at e'
   cases e'
   rfl
  intro q
  have q':w.heap.size=b:=Option.some.inj q
  omega
theorem SpP.s10 {v3:Value} (h:SpP c n ls ps wq o w) (h3:o 3=some v3) (hn:o 10=none) (hv:OwnStr wq.heap.size w' v ps) (hg:w.grownBy w' v3.ownBlock):SpP c n ls ps wq (upd o 10 v) w':=by
 have k:=grown_tf2 hg
 have hs:=k.size
 obtain ⟨g,rfl,g1,g2,g3⟩:=h.m3 v3 h3
 refine ⟨h.roll.grown (fun b hb=>by cases hb;exact g1) (Nat.le_refl _) h.hc hg,h.hc,fun u hu=>?_,fun u hu=>?_,fun u hu=>?_,fun u hu=>h.m13 u hu,fun u hu=>?_⟩
 ·obtain ⟨g',e,h1,h2,_⟩:=h.m3 u hu
  exact ⟨g',e,h1,by omega,fun q=>absurd (show some v=none from q) (by simp)⟩
 ·obtain rfl:=Option.some.inj (show some v=some u from hu)
  exact hv
 ·obtain ⟨b,e,h1,h2,h5,h4⟩:=h.m12 u hu
  exact ⟨b,e,h1,by omega,h5.keep (k.keep (fun i hi hm=>by have e:i=b:=hi;subst e;exact h4 _ h3 hm)) (fun _ _ _ h=>h.any) (fun _ h=>h),h4⟩
 ·obtain ⟨b,s,e,h1,h2,hs,h5,h4⟩:=h.m14 u hu
  exact ⟨b,s,e,h1,by omega,hs,h5.keep (k.keep (fun i hi hm=>by have e:i=b:=hi;subst e;exact h4 _ h3 hm)) (fun _ _ _ h=>h.any) (fun _ h=>h),h4⟩
theorem SpP.ne3 (h:SpP c n ls ps wq o w):∀ v3,o 3=some v3→v3.ownBlock≠some w.heap.size:=fun v3 hv e=>by
 obtain ⟨g,rfl,_,h2,_⟩:=h.m3 v3 hv
 have e':g=w.heap.size:=Option.some.inj e
 omega
theorem SpP.s12 (h:SpP c n ls ps wq o w) (T:TypeId) (arr:Array Value) (ha:arr=(ls.map Value.string).toArray) (hn:ls.length=n) (hm:n≤1000) (hsz:∀ s∈ls,s.size≤1000):SpP c n ls ps wq (upd o 12 (.slice (some ⟨w.heap.size,0,none⟩) n n)) (w.alloc (.cells arr T)):=by
 have h':=h.ext (w':=w.alloc (.cells arr T)) ((Ext.refl w).alloc _)
 refine ⟨h'.roll,h.hc,fun u hu=>h'.m3 u hu,fun u hu=>h'.m10 u hu,fun u hu=>?_,fun u hu=>h'.m13 u hu,fun u hu=>h'.m14 u hu⟩
 obtain rfl:=Option.some.inj (show some (Value.slice (some ⟨w.heap.size,0,none⟩) n n)=some u from hu)
 exact ⟨_,rfl,h.roll.tf.size,by simp,lit_str w T ls n arr ha hn hm hsz,fun v3 hv3=>h.ne3 v3 hv3⟩
end
end Go.Proofs.YtcfggjmdcaoecaaGreatDoor
