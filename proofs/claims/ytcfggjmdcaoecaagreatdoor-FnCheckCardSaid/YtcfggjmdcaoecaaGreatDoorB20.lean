/- A part of the proofs of FnBound and FnCheck: the lemmas and walks ImplNode, ImplStmt. -/
import Derived.Defers
import Derived.Test.YtcfggjmdcaoecaaGreatDoorB06
import Derived.Test.YtcfggjmdcaoecaaGreatDoorB15
import Derived.Test.YtcfggjmdcaoecaaGreatDoorB14
import Derived.Test.YtcfggjmdcaoecaaGreatDoorB02
set_option linter.unusedVariables false
set_option linter.unusedSimpArgs false
namespace Go.Proofs.YtcfggjmdcaoecaaGreatDoor
open Go Go.RowKit Md
theorem zero_var (w:World):(zeroValue 144).run Tryz.prog w=.ok (.agg #[.bool false]) w:=by kernel_rfl
theorem take_down {mm:List MP} {J:Nat} {m:MP} (h:mm[J]? = some m) (s:ByteArray):lookM (mm.take (J+1)) s=match assoc m s with | some v=>some v | none=>lookM (mm.take J) s:=by
 rw [take_snoc h,lookM_snoc]
 cases assoc m s<;>rfl
set_option maxRecDepth 100000 in
set_option maxHeartbeats 2000000 in
theorem i_find (base:Nat) (v:Value) (ms:List Nat) (mm:List MP) (s:ByteArray) (w:World) (h:ScAt w base v ms mm) (hl:ms.length≤2000) (hv:∀ u,lookM mm s=some u→∃ b,u=varV b) :
  Calls Tryz.prog 184 #[v,.string s] w (Gives (.tuple #[(lookM mm s).getD (varV false),.bool (lookM mm s).isSome]) w):=by
 obtain ⟨n,hn⟩:∃ n,n=ms.length:=⟨_,rfl⟩
 obtain ⟨a,c,rfl⟩:=rw_form0 h.row
 have H:=Lib.hid h
 rw [← hn] at hl
 have HN:=Lib.hid hn
 have HV:=Lib.hid hv
 obtain ⟨R,hR⟩:∃ R,R=lookM mm s:=⟨_,rfl⟩
 rw [← hR]
 have HR:=Lib.hid hR
 have BF:=Blk.alloc w 144 #[.bool false]
 have X0:Ext w (w.alloc (.cells #[.bool false] 144)):=(Ext.refl w).alloc _
 clear h hv hR
 rw [← hn]
 clear hn
 go_enter Tryz.func184,Tryz.ntmps184
 go_wp2
 obtain ⟨w1,hw1⟩:∃ w1,w1=w.alloc (.cells #[.bool false] 144):=⟨_,rfl⟩
 rw [← hw1] at BF X0 ⊢
 have HX0:=Lib.hid X0
 have HBF:=Lib.hid BF
 clear hw1 BF X0
 go_loopw [6] (fun i wr=>∃ J:Nat,J≤n∧i=.int .i64 ((J:Int) - 1)∧Hid (R=lookM (mm.take J) s)∧Ext w1 wr) (fun i _=>(intOf i+1).toNat)
 case atStart=>exact ⟨n,Nat.le_refl _,by go_num,by rw [HN.out,H.out.len,List.take_length];exact HR.out,Ext.refl _⟩
 case round =>
  obtain ⟨J,hJ,rfl,HA,hX⟩:=hrel
  have b0:wr.cell? ⟨w.heap.size,0,none⟩=some (.bool false):=hX.cell ((HBF.out.cell 0).trans rfl)
  have f0:=(HBF.out.ext hX).frozen 0
  rcases Nat.eq_zero_or_pos J with rfl | hJ0
  ·have HRn:Hid (R=none):=HA.out
   go_wp2
   refine bodyPost_ret (v:=.tuple #[.agg #[.bool false],.bool false]) (by simp [results,Tryz.results184,go_sem,b0]) rfl ?_
   exact ⟨by rw [HRn.out];rfl,Below.setCell (HX0.out.trans hX) (p:=⟨w.heap.size,0,none⟩) (Nat.le_refl _) _⟩
  ·obtain ⟨q,rfl⟩:∃ q,J=q+1:=⟨J - 1,by omega⟩
   have hXw:=HX0.out.trans hX
   obtain ⟨bm,m,hbm,hmm,hM⟩:=(H.out.ext hXw).get (i:=q) (by rw [← HN.out];omega)
   obtain ⟨g0,d0,e0,_,_,hl0,hm0⟩:=rw_form (H.out.ext hXw).row (by rw [← HN.out];omega)
   obtain ⟨rfl,rfl⟩:some ⟨g0,0,none⟩=a∧d0=c:=by cases e0;exact ⟨rfl,rfl⟩
   have c0:=(rw_at (H.out.ext hXw).row (i:=q) (u:=.map (some bm)) (by rw [List.getElem?_map,hbm];rfl)).1
   have hA:=HA.out
   rw [take_down hmm] at hA
   have hlk:(Instr.lookup 142 (.map (some bm)) (.string s) true).run Tryz.prog wr=_:=run_look (kk:=strKey) hM Tryz.underlying142 Tryz.underlying9 (zero_var wr) s
   have p0:wrap64 (((q+1:Nat):Int) - 1)=(q:Int):=by unfold wrap64;omega
   have z0:(0:Int)≤(q:Int):=by omega
   have z1:(q:Int)<(n:Int):=by omega
   have p1:((q+1:Nat):Int) - 1=(q:Int):=by omega
   rw [p1]
   clear hM hbm hmm e0 p0 p1
   cases ha:assoc m s with
   | none =>
     rw [ha] at hlk hA
     have HA2:=Lib.hid hA
     clear ha hA HA
     simp only [Option.getD_none,Option.isSome_none] at hlk
     go_wp2
     go_roundw
     case rel=>exact ⟨q,by omega,by go_num,HA2.out,hX.alloc _⟩
     case measure=>simp [intOf]
   | some u =>
     rw [ha] at hlk hA
     simp only at hA
     have HRs:=Lib.hid hA
     obtain ⟨b,rfl⟩:=HV.out u (by rw [← HR.out];exact hA)
     clear ha hA HA
     simp only [Option.getD_some,Option.isSome_some,varV] at hlk
     have b1:(wr.alloc (.cells #[.bool b] 144)).cell? ⟨w.heap.size,0,none⟩=some (.bool false):=((Ext.refl wr).alloc _).cell b0
     have f1:(wr.alloc (.cells #[.bool b] 144)).frozen? ⟨w.heap.size,0,none⟩=false:=((HBF.out.ext hX).ext ((Ext.refl wr).alloc _)).frozen 0
     go_wp2
     refine bodyPost_ret (v:=.tuple #[.agg #[.bool b],.bool true]) (by simp [results,Tryz.results184,go_sem,b1]) rfl ?_
     exact ⟨by rw [HRs.out];rfl,Below.setCell (hXw.alloc _) (p:=⟨w.heap.size,0,none⟩) (Nat.le_refl _) _⟩
set_option maxRecDepth 100000 in
set_option maxHeartbeats 2000000 in
theorem i_use (base:Nat) (t:PTree) (v:Value) (ms:List Nat) (mm:List MP) (sc:List ByteArray) (s:ByteArray) (arr:Bool) (w:World) (h:ScAt w base v ms mm) (hl:ms.length≤2000) (hN:Names t mm sc) :
  Calls Tryz.prog 177 #[v,.string s,.bool arr] w (Gives (.int .i64 (useE t sc s arr)) w):=by
 have hu:=use_cases hN s arr
 have HF:=Lib.hid (i_find base v ms mm s w h hl (fun u hu2=>by
  rcases hu with ⟨h1,_⟩ | ⟨b,h1,_⟩
  ·rw [h1] at hu2;cases hu2
  ·rw [h1] at hu2;cases hu2;exact ⟨b,rfl⟩))
 obtain ⟨R,hR⟩:∃ R,R=useE t sc s arr:=⟨_,rfl⟩
 rw [← hR] at hu ⊢
 obtain ⟨a,c,rfl⟩:=rw_form0 h.row
 clear h hN hR
 rcases hu with ⟨h1,h2⟩ | ⟨b,h1,h2⟩
 ·rw [h1] at HF
  have HR:=Lib.hid h2
  clear h1 h2
  simp only [Option.getD_none,Option.isSome_none,varV] at HF
  go_enter Tryz.func177,Tryz.ntmps177
  go_wp2_with fail
  refine HF.out.mono ?_
  rintro e w2 ⟨rfl,hX2⟩
  go_wp2
  go_ret
  exact Gives.int HR.out.symm (hX2.alloc _)
 ·rw [h1] at HF
  have HR:=Lib.hid h2
  clear h1 h2
  simp only [Option.getD_some,Option.isSome_some,varV] at HF
  by_cases hb:b=arr
  ·have hq:(b == arr)=true:=by simpa using hb
   have HR2:Hid (R=0):=by
    show _=_
    rw [HR.out,if_pos hb]
   subst hb
   go_enter Tryz.func177,Tryz.ntmps177
   go_wp2_with fail
   refine HF.out.mono ?_
   rintro e w2 ⟨rfl,hX2⟩
   go_wp2
   go_ret
   exact Gives.int HR2.out.symm (hX2.alloc _)
  ·have hq:(b == arr)=false:=by simpa using hb
   have HR2:Hid (R=5):=by
    show _=_
    rw [HR.out,if_neg hb]
   clear hb
   go_enter Tryz.func177,Tryz.ntmps177
   go_wp2_with fail
   refine HF.out.mono ?_
   rintro e w2 ⟨rfl,hX2⟩
   go_wp2
   go_ret
   exact Gives.int HR2.out.symm (hX2.alloc _)
open Go Go.RowKit Md
set_option maxRecDepth 1000000 in
set_option maxHeartbeats 4000000 in
theorem i_node (K:Foot) (base:Nat) (t:PTree) (fs:List Fn) (ub:Value) (fn:Int) (C T:Nat) (v:Value) (ms:List Nat) (mm:List MP) (tk:MP) (sc:List ByteArray) (n:PNode) (w:World)
  (hU:UnitAt K w ub t fs) (h:CkS w base ub fn C T v ms mm tk) (hl:ms.length≤2000) (hN:Names t mm sc) :
  Calls Tryz.prog 176 #[.pointer (some ⟨C,0,none⟩),.agg #[.int .i64 n.kind,.int .i64 n.val,.string n.name]] w (Gives (.int .i64 (nodeE t sc n)) w):=by
 obtain ⟨kd,vl,nm⟩:=n
 simp only
 have HUse:Hid (∀ (arr:Bool) w',Ext w w'→Calls Tryz.prog 177 #[v,.string nm,.bool arr] w' (Gives (.int .i64 (useE t sc nm arr)) w')):=fun arr w' hX=>i_use base t v ms mm sc nm arr w' (h.sc.ext hX) hl hN
 obtain ⟨b,vG,vF,vs,ps,rfl,_,hc,hG,hF,_⟩:=hU
 have HFN:Hid (∀ w',Ext w w'→Calls Tryz.prog 74 #[.agg #[vG,vF],.string nm] w' (Gives (.int .i64 (findF t nm)) w')):=fun w' hX=>i_funcNamed K t vG vF nm w' (hG.ext hX (fun _ _ h=>h.any)) (hF.ext hX (fun _ _ h=>h.ext hX))
 obtain ⟨aG,nG,cG,rfl⟩:=hG.shape
 obtain ⟨aF,nF,cF,rfl,HlF,hlcF,hcmF,helF⟩:=hF.op
 obtain ⟨a,c,rfl⟩:=rw_form0 h.sc.row
 obtain ⟨w1,hw1⟩:∃ w1,w1=w.alloc (.cells #[.int .i64 kd,.int .i64 vl,.string nm] 104):=⟨_,rfl⟩
 have BX:Blk w1 w.heap.size 104 #[.int .i64 kd,.int .i64 vl,.string nm]:=by rw [hw1];exact Blk.alloc _ _ _
 have X0:Ext w w1:=by rw [hw1];exact (Ext.refl w).alloc _
 have u0:=X0.cell (hc 0 _ rfl)
 have u1:=X0.cell (hc 1 _ rfl)
 have c0:=X0.cell ((h.blk.cell 0).trans (show _=some (Value.pointer (some ⟨b,0,none⟩)) from rfl))
 have c2:=X0.cell ((h.blk.cell 2).trans (show _=some (Value.slice a ms.length c) from rfl))
 have d0:w1.cell? ⟨w.heap.size,0,none⟩=some (.int .i64 kd):=(BX.cell 0).trans rfl
 have d1:w1.cell? ⟨w.heap.size,1,none⟩=some (.int .i64 vl):=(BX.cell 1).trans rfl
 have d2:w1.cell? ⟨w.heap.size,2,none⟩=some (.string nm):=(BX.cell 2).trans rfl
 obtain ⟨R,hR⟩:∃ R,R=nodeE t sc ⟨kd,vl,nm⟩:=⟨_,rfl⟩
 rw [← hR]
 have HR:=Lib.hid hR
 have HX0:=Lib.hid X0
 have HF:=Lib.hid hF
 have HW1:=Lib.hid hw1
 clear hc hG hF h hR hw1 BX X0 hN
 by_cases h2:kd=2
 ·subst h2
  have HRr:Hid (R=useE t sc nm false):=HR.out
  have HU2:=Lib.hid (HUse.out false)
  go_enter Tryz.func176,Tryz.ntmps176
  rw [HW1.out] at c0 c2 d0 d2
  go_wp2_with fail
  rw [← HW1.out] at c0 c2 d0 d2 ⊢
  go_region_held3 (fun w'=>w'.cell? ⟨C,2,none⟩=some (.slice a ms.length c)∧w'.cell? ⟨w.heap.size,2,none⟩=some (.string nm))
   (first | go_keep | (refine ⟨hX3.cell ?_,hX3.cell ?_⟩<;>simp [*]))
   (first | (go_at_call 177;(refine (HU2.out _ (HX0.out.drew)).mono ?_);rintro e3 w3 ⟨rfl,hX3⟩))
  go_wp2
  go_ret
  exact Gives.int HRr.out.symm ((HX0.out.drew).trans hX3)
 by_cases h3:kd=3
 ·subst h3
  have HRr:Hid (R=useE t sc nm true):=HR.out
  have HU2:=Lib.hid (HUse.out true)
  go_enter Tryz.func176,Tryz.ntmps176
  rw [HW1.out] at c0 c2 d0 d2
  go_wp2_with fail
  rw [← HW1.out] at c0 c2 d0 d2 ⊢
  go_region_held3 (fun w'=>w'.cell? ⟨C,2,none⟩=some (.slice a ms.length c)∧w'.cell? ⟨w.heap.size,2,none⟩=some (.string nm))
   (first | go_keep | (refine ⟨hX3.cell ?_,hX3.cell ?_⟩<;>simp [*]))
   (first | (go_at_call 177;(refine (HU2.out _ (HX0.out.drew)).mono ?_);rintro e3 w3 ⟨rfl,hX3⟩))
  go_wp2
  go_ret
  exact Gives.int HRr.out.symm ((HX0.out.drew).trans hX3)
 by_cases h4:kd=4
 ·subst h4
  have HRr:Hid (R=if findF t nm<0 then 4 else if arityF t (findF t nm)=vl then 0 else 6):=HR.out
  have hr:=findF_range t nm
  unfold arityF at HRr
  go_enter Tryz.func176,Tryz.ntmps176
  rw [HW1.out] at c0 c2 d0 d1 d2 u0 u1
  go_wp2_with fail
  rw [← HW1.out] at c0 c2 d0 d1 d2 u0 u1 ⊢
  go_region_held3 (fun w'=>w'.cell? ⟨C,0,none⟩=some (.pointer (some ⟨b,0,none⟩))∧w'.cell? ⟨b,0,none⟩=some (.slice aG nG cG)∧w'.cell? ⟨b,1,none⟩=some (.slice aF nF cF)∧w'.cell? ⟨w.heap.size,2,none⟩=some (.string nm))
   (first | go_keep | (refine ⟨hX3.cell ?_,hX3.cell ?_,hX3.cell ?_,hX3.cell ?_⟩<;>simp [*]))
   (first | (go_at_call 74;(refine (HFN.out _ (HX0.out.drew)).mono ?_);rintro e3 w3 ⟨rfl,hX3⟩))
  have hX13:Ext w1 w3:=((Ext.refl w1).drew).trans hX3
  have HX13:=Lib.hid (HX0.out.trans hX13)
  have u1:=hX13.cell u1
  have c0:=hX13.cell c0
  have d1:=hX13.cell d1
  clear hX13 hX3 u0 c2 d0 d2
  generalize findF t nm=u at hr HRr
  rcases hr with rfl | ⟨u0,u2,fm,hfm,_⟩
  ·have HR4:Hid (R=4):=HRr.out
   go_wp2
   go_ret
   exact Gives.int HR4.out.symm HX13.out
  ·obtain ⟨m,rfl⟩:∃ m:Nat,u=m:=⟨u.toNat,by omega⟩
   have hmF:m<nF:=by have:=HlF.out;omega
   obtain ⟨bF,oF,rfl,_,hel⟩:=helF (by omega)
   obtain ⟨g,cs,hg,_,hC,hcs⟩:=hel m hmF
   obtain ⟨vP,vB,rfl,sP,_⟩:=hC
   obtain ⟨aP,nP,cP,rfl⟩:=sP.shape
   have hlP:=sl_len sP
   have e1:=HX13.out.cell (hcs 1 _ rfl)
   have HR5:Hid (R=if (nP:Int)=vl then 0 else 6):=by
    show _=_
    rw [HRr.out,if_neg (by omega),Int.toNat_natCast,hg]
    simp only [hlP]
   have g0:¬ ((m:Int)<0):=by omega
   have g1:(0:Int)≤(m:Int):=by omega
   have g2:(m:Int)<(nF:Int):=by omega
   clear hel hcs hg hfm sP hlP u0 u2 HRr
   by_cases hp:(nP:Int)=vl
   ·have HR6:Hid (R=0):=by
     show _=_
     rw [HR5.out,if_pos hp]
    have hq:(vl == (nP:Int))=true:=by simp [hp]
    subst hp
    go_wp2_with fail
    go_quiet (fail)
    go_wp2
    go_ret
    exact Gives.int HR6.out.symm (HX13.out.trans (drewN_ext w3 _))
   ·have HR6:Hid (R=6):=by
     show _=_
     rw [HR5.out,if_neg hp]
    have hq:(vl == (nP:Int))=false:=by simpa using fun e=>hp e.symm
    clear hp
    go_wp2_with fail
    go_quiet (fail)
    go_wp2
    go_ret
    exact Gives.int HR6.out.symm (HX13.out.trans (drewN_ext w3 _))
 ·have HRr:Hid (R=0):=by
   show _=_
   rw [HR.out]
   unfold nodeE
   rw [if_neg h2,if_neg h3,if_neg h4]
  have q2:(kd == 2)=false:=by simpa using h2
  have q3:(kd == 3)=false:=by simpa using h3
  have q4:(kd == 4)=false:=by simpa using h4
  go_enter Tryz.func176,Tryz.ntmps176
  rw [HW1.out] at d0
  go_wp2
  go_ret
  exact Gives.int HRr.out.symm ((Ext.refl w).alloc _)
open Go Go.RowKit Md Go.Proofs.YtcfggjmdcaoecaaGreatDoorW.PrintLast
theorem cut_back {P:Program} {t e:TypeId} {i:TypeInfo} (ht:P.underlying t=some (.slice e)) (hi:P.info? e=some i) (g n c up:Nat) (li:Int) (hl:li=up) (h1:up≤n) (h2:n≤c) (h3:0<up) :
  ∀ W:World,(Instr.slice t (.slice (some ⟨g,0,none⟩) n c) none (some (.int .i64 li)) none).run P W=.ok (.slice (some ⟨g,0,none⟩) up c) W:=by
 subst hl
 have hel:P.elem t=e:=by simp [Program.elem,ht]
 have hu:P.underlying t=some (.slice (P.elem t)):=by rw [hel];exact ht
 intro W
 rw [run_slice_h W t _ n c hu .i64 (up:Int) (by omega) (by omega),hel]
 have hc:¬ c=0:=by omega
 simp [sizeOf,typeInfo,hi,sliced,Result.andThen,Addr.add,hc]
theorem info_map:(Tryz.prog.info? 142).map (fun i=>(i.zero,i.size,i.bytes))=some (some (.map none),1,8):=by kernel_rfl
set_option maxRecDepth 100000 in
set_option maxHeartbeats 2000000 in
theorem i_pop (base:Nat) (ub:Value) (fn:Int) (C T Bc:Nat) (v:Value) (ms:List Nat) (b:Nat) (mm:List MP) (m tk:MP) (u:FrameMode) (w:World)
  (hB:Blk w Bc 208 #[.pointer (some ⟨C,0,none⟩)]) (h:CkS w base ub fn C T v (ms ++ [b]) (mm ++ [m]) tk) (h0:0<ms.length) (h1:ms.length≤1000) :
  CallsD Tryz.prog 157 #[.pointer (some ⟨Bc,0,none⟩)] u w fun e u' w'=>u'=u∧(e=.returned (.tuple #[])∧∃ v',CkS w' base ub fn C T v' ms mm tk∧Tch w w' C T ms v v'):=by
 obtain ⟨n,hn⟩:∃ n,n=ms.length:=⟨_,rfl⟩
 obtain ⟨g,c,rfl,_,_,hnc,hcm⟩:=rw_form h.sc.row (by simp)
 obtain ⟨N1,hN1⟩:∃ N1,N1=(ms ++ [b]).length:=⟨_,rfl⟩
 have hN2:N1=n+1:=by rw [hN1,hn];simp
 rw [← hN1] at h hnc ⊢
 obtain ⟨i0,hi0,hz0,hz1,hz2⟩:=info_parts info_map
 have p0:wrap64 ((N1:Int) - 1)=(n:Int):=by unfold wrap64;omega
 have hcut:=cut_back (P:=Tryz.prog) Tryz.underlying210 hi0 g N1 c n (n:Int) rfl (by omega) hnc (by omega)
 have b0:w.cell? ⟨Bc,0,none⟩=some (.pointer (some ⟨C,0,none⟩)):=(hB.cell 0).trans rfl
 have c2:w.cell? ⟨C,2,none⟩=some (.slice (some ⟨g,0,none⟩) N1 c):=(h.blk.cell 2).trans rfl
 have H:=Lib.hid h
 have HN2:=Lib.hid hN2
 have HN:=Lib.hid hn
 clear h hN1 hN2 hn h0 h1 hnc
 go_enter_d Tryz.func157,Tryz.ntmps157
 go_wp2_with fail
 refine start_ (n:=15) (S:=fun w'=>w'.cell? ⟨Bc,0,none⟩=some (.pointer (some ⟨C,0,none⟩))∧w'.cell? ⟨C,2,none⟩=some (.slice (some ⟨g,0,none⟩) N1 c)) (ds:=[14]) #[false,false,false,false,false,false,false,false,false,false,false,false,false,false,false] (by kernel_rfl) rfl rfl ?hS (fun hHeld=>?_)
 case hS=>exact ⟨by simpa using b0,by simpa using c2⟩
 refine ta_ 0 (some 1) #[true,false,false,false,false,false,false,false,false,false,false,false,false,false,false] rfl rfl (by kernel_rfl) (fun _ _ _ h=>h) hHeld (by rfl) (by rintro w' ⟨s0,s1⟩;go_simp;with_reducible rfl) (by simp only [pt_];rfl) ?_
 refine ta_ 1 (some 2) #[true,true,false,false,false,false,false,false,false,false,false,false,false,false,false] rfl rfl (by kernel_rfl) (fun _ _ _ h=>h) hHeld (by rfl) (by rintro w' ⟨s0,s1⟩;go_simp;with_reducible rfl) (by simp only [pt_];rfl) ?_
 refine pu_ 2 (some 3) #[true,true,true,false,false,false,false,false,false,false,false,false,false,false,false] rfl rfl (by kernel_rfl) (fun _ _ _ h=>h) (by rfl) (by intro w';go_simp;with_reducible rfl) (by simp only [pt_];rfl) ?_
 refine pu_ 3 (some 4) #[true,true,true,true,false,false,false,false,false,false,false,false,false,false,false] rfl rfl (by kernel_rfl) (fun _ _ _ h=>h) (by rfl) (by intro w';go_simp;with_reducible rfl) (by simp only [pt_];rfl) ?_
 refine ta_ 4 (some 5) #[true,true,true,true,true,false,false,false,false,false,false,false,false,false,false] rfl rfl (by kernel_rfl) (fun _ _ _ h=>h) hHeld (by rfl) (by rintro w' ⟨s0,s1⟩;go_simp;with_reducible rfl) (by simp only [pt_];rfl) ?_
 refine ta_ 5 (some 6) #[true,true,true,true,true,true,false,false,false,false,false,false,false,false,false] rfl rfl (by kernel_rfl) (fun _ _ _ h=>h) hHeld (by rfl) (by rintro w' ⟨s0,s1⟩;go_simp;with_reducible rfl) (by simp only [pt_];rfl) ?_
 refine pu_ 6 (some 7) #[true,true,true,true,true,true,true,false,false,false,false,false,false,false,false] rfl rfl (by kernel_rfl) (fun _ _ _ h=>h) (by rfl) (by intro w';go_simp;with_reducible rfl) (by simp only [pt_];rfl) ?_
 refine pu_ 7 (some 8) #[true,true,true,true,true,true,true,true,false,false,false,false,false,false,false] rfl rfl (by kernel_rfl) (fun _ _ _ h=>h) (by rfl) (by intro w';go_simp;with_reducible rfl) (by simp only [pt_];rfl) ?_
 refine ta_ 8 (some 9) #[true,true,true,true,true,true,true,true,true,false,false,false,false,false,false] rfl rfl (by kernel_rfl) (fun _ _ _ h=>h) hHeld (by rfl) (by rintro w' ⟨s0,s1⟩;go_simp;with_reducible rfl) (by simp only [pt_];rfl) ?_
 refine pu_ 9 (some 10) #[true,true,true,true,true,true,true,true,true,true,false,false,false,false,false] rfl rfl (by kernel_rfl) (fun _ _ _ h=>h) (by rfl) (by intro w';go_simp;with_reducible rfl) (by simp only [pt_];rfl) ?_
 refine pu_ 10 (some 11) #[true,true,true,true,true,true,true,true,true,true,true,false,false,false,false] rfl rfl (by kernel_rfl) (fun _ _ _ h=>h) (by rfl) (by intro w';go_simp;with_reducible rfl) (by simp only [pt_];rfl) ?_
 refine pu_ 11 (some 12) #[true,true,true,true,true,true,true,true,true,true,true,true,false,false,false] rfl rfl (by kernel_rfl) (fun _ _ _ h=>h) (by rfl) (by intro w';go_simp;with_reducible rfl) (by simp only [pt_];rfl) ?_
 refine pu_ 12 (some 13) #[true,true,true,true,true,true,true,true,true,true,true,true,true,false,false] rfl rfl (by kernel_rfl) (fun _ _ _ h=>h) (by rfl) (by intro w';go_simp;with_reducible rfl) (by simp only [pt_];rfl) ?_
 refine pu_ 13 (some 14) #[true,true,true,true,true,true,true,true,true,true,true,true,true,true,false] rfl rfl (by kernel_rfl) (fun _ _ _ h=>h) (by rfl) (by intro w';go_simp;with_reducible rfl) (by simp only [pt_];rfl) ?_
 refine last_ (i:=14) (N:=none) #[true,true,true,true,true,true,true,true,true,true,true,true,true,true,true] rfl rfl (by kernel_rfl) (by decide) (fun K hK=>?_)
 have q2:w.drew.cell? ⟨C,2,none⟩=some (.slice (some ⟨g,0,none⟩) N1 c):=by simpa using c2
 have q3:w.drew.frozen? ⟨C,2,none⟩=false:=(H.out.blk.ext ((Ext.refl w).drew)).frozen 2
 go_simp
 refine hK.out _ _ ?_
 clear hK K
 refine done_ (by kernel_rfl) ?_
 go_wp2
 go_end0
 refine ⟨rfl,.slice (some ⟨g,0,none⟩) n c,?_,?_⟩
 ·have h2:=H.out
  rw [HN2.out] at h2
  exact (h2.pop HN.out.symm).ext ((Ext.refl _).drew)
 ·exact Tch.trans (Tch.set (v:=.slice (some ⟨g,0,none⟩) N1 c) (v':=.slice (some ⟨g,0,none⟩) n c) (ms:=ms) (.slice (some ⟨g,0,none⟩) n c) 2 rfl) (Tch.ext (v:=.slice (some ⟨g,0,none⟩) n c) (T:=T) (ms:=ms) ((Ext.refl _).drew)) (fun b hb=>.inl hb)
open Go Go.RowKit Md Go.Proofs.YtcfggjmdcaoecaaGreatDoorW.PrintLast
theorem i_wrongAt (e f a:Int) (w:World):Calls Tryz.prog 89 #[.int .i64 e,.int .i64 f,.int .i64 a] w (Same (.iface 69 (.agg #[.int .i64 e,.int .i64 f,.int .i64 a])) w):=by
 go_enter Tryz.func89,Tryz.ntmps89
 go_wp2
 go_ret
 exact ⟨rfl,rfl⟩
theorem ext_world {P:Program} {c:Code} {Q:Exit→Act→World→Prop} {a:Act} {w0 W:World} (hx:Ext w0 W) (h:∀ wa,Ext w0 wa→c.wp P Q a wa):c.wp P Q a W:=h W hx
set_option maxRecDepth 1000000 in
set_option maxHeartbeats 0 in
theorem i_stmt (K:Foot) (base:Nat) (t:PTree) (fs:List Fn) (ub:Value) (fn:Int) (C T n:Nat) (hK:∀ b,K b→b<base) (s:PStmt) (p:Nat) (x:Ex) (y:Option Ex) (TT UU:List St) (IT:BlockOk K base t fs ub fn C T n TT) (IU:BlockOk K base t fs ub fn C T n UU)
  (w:World) (vs v:Value) (ms:List Nat) (b:Nat) (mm:List MP) (m tk:MP) (sc tkl:List ByteArray) (hS:StAt K w vs (.mk s p x y TT UU)) (hU:UnitAt K w ub t fs) (h:CkS w base ub fn C T v (ms ++ [b]) (mm ++ [m]) tk)
  (hl:ms.length+1+n≤1000) (hN:Names t (mm ++ [m]) sc) (hT:TkRel t tk tkl) (hsz:s.e.length≤1048576∧s.f.length≤1048576) (hb:base≤w.heap.size) :
  Calls Tryz.prog 158 #[.pointer (some ⟨C,0,none⟩),vs] w
   (CkOut t base ub fn C T (ms ++ [b]) v w (ckSt t sc tkl (.mk s p x y TT UU)) (fun mm'=>∃ m',mm'=mm ++ [m']∧Names t (mm ++ [m']) (sc1 s sc))):=by
 obtain ⟨R,hR⟩:∃ R,R=ckSt t sc tkl (.mk s p x y TT UU):=⟨_,rfl⟩
 rw [← hR]
 rw [ckSt_eq,stE_eq] at hR
 obtain ⟨SC,hSC⟩:∃ SC,SC=sc1 s sc:=⟨_,rfl⟩
 obtain ⟨TKL,hTKL⟩:∃ TKL,TKL=sc1 s tkl:=⟨_,rfl⟩
 rw [← hSC,← hTKL] at hR
 rw [← hSC]
 have HR:=Lib.hid hR
 have HSC:=Lib.hid hSC
 have HTKL:=Lib.hid hTKL
 have HSt:Hid (∀ w',Below base w w'→StAt K w' vs (.mk s p x y TT UU)):=fun w' k=>hS.keep (keep_below hK k) (fun _ h=>h)
 have HU:Hid (∀ w',Below base w w'→UnitAt K w' ub t fs):=fun w' k=>hU.keep (keep_below hK k) (fun _ h=>h)
 obtain ⟨a,cc,rfl⟩:=rw_form0 h.sc.row
 obtain ⟨N1,hN1⟩:∃ N1,N1=(ms ++ [b]).length:=⟨_,rfl⟩
 rw [← hN1] at h ⊢
 have HN1:Hid (N1=ms.length+1):=by rw [hN1];show _=_;simp
 have HS:=Lib.hid h
 have HNm:=Lib.hid hN
 have HTk:=Lib.hid hT
 have HIT:=Lib.hid IT
 have HIU:=Lib.hid IU
 have Hb:=Lib.hid hb
 obtain ⟨sb,vE,vF,ve,vf,vt,vu,ts,us,rfl,hcs,sE,sF,_,_,_,hnm,_,_,slT,slU,zT,zU⟩:=hS.op
 simp only [St.s,St.at_] at hcs sE sF
 obtain ⟨kd,nm,xe,xf,thn,els⟩:=s
 simp only at hcs sE sF hsz hR HR hnm hSC HSC hTKL HTKL
 obtain ⟨aE,nE,cE,rfl⟩:=sE.shape
 obtain ⟨aF,nF,cF,rfl⟩:=sF.shape
 obtain ⟨aT,nT,cT,rfl⟩:=slT.shape
 obtain ⟨aU,nU,cU,rfl⟩:=slU.shape
 have k0:=hcs 0 _ rfl
 have k1:=hcs 1 _ rfl
 have k2:=hcs 2 _ rfl
 have k3:=hcs 3 _ rfl
 have k6:=hcs 6 _ rfl
 have k9:=hcs 9 _ rfl
 have k10:=hcs 10 _ rfl
 have HE:=Lib.hid sE
 have HF:=Lib.hid sF
 have hlC:(xe ++ xf).length≤2097152:=by rw [List.length_append];omega
 have Hsz:=Lib.hid hsz
 have HlC:=Lib.hid hlC
 have c1:=(h.blk.cell 1).trans (show _=some (Value.int .i64 fn) from rfl)
 obtain ⟨w1,hw1⟩:∃ w1,w1=(w.alloc (.cells #[.slice aE nE cE,.slice aF nF cF] 100)).drew:=⟨_,rfl⟩
 have X1:Ext w w1:=by rw [hw1];exact ((Ext.refl w).alloc _).drew
 have BB:Blk w1 w.heap.size 100 #[.slice aE nE cE,.slice aF nF cF]:=by rw [hw1];exact (Blk.alloc w _ _).ext ((Ext.refl _).drew)
 have HCc:=Lib.hid (g_Concat K _ _ xe xf w.heap.size w1 (sE.ext X1 (fun _ _ h=>h.any)) (sF.ext X1 (fun _ _ h=>h.any)) BB Hsz.out.1 Hsz.out.2)
 have HX1:=Lib.hid X1
 have HW1:=Lib.hid hw1
 clear hS hU h hN hT IT IU hb hR hSC hTKL hN1 hcs sE sF slT slU zT zU hsz X1 BB hw1
 go_enter Tryz.func158,Tryz.ntmps158
 go_wp2_with fail
 refine start_ (n:=14) (S:=fun w'=>w'.cell? ⟨sb,2,none⟩=some (.slice aE nE cE)∧w'.cell? ⟨sb,3,none⟩=some (.slice aF nF cF)) (ds:=[]) #[false,false,false,false,false,false,false,false,false,false,false,false,false,false] (by kernel_rfl) rfl rfl ?hS (fun hHeld=>?_)
 case hS=>exact ⟨by simpa using k2,by simpa using k3⟩
 refine pu_ 0 (some 12) #[true,false,false,false,false,false,false,false,false,false,false,false,false,false] rfl rfl (by kernel_rfl) (fun _ _ _ h=>h) (by rfl) (by intro w';go_simp;with_reducible rfl) (by simp only [pt_];rfl) ?_
 refine pu_ 1 (some 13) #[true,true,false,false,false,false,false,false,false,false,false,false,false,false] rfl rfl (by kernel_rfl) (fun _ _ _ h=>h) (by rfl) (by intro w';go_simp;with_reducible rfl) (by simp only [pt_];rfl) ?_
 refine pu_ 2 (some 14) #[true,true,true,false,false,false,false,false,false,false,false,false,false,false] rfl rfl (by kernel_rfl) (fun _ _ _ h=>h) (by rfl) (by intro w';go_simp;with_reducible rfl) (by simp only [pt_];rfl) ?_
 refine pu_ 3 (some 15) #[true,true,true,true,false,false,false,false,false,false,false,false,false,false] rfl rfl (by kernel_rfl) (fun _ _ _ h=>h) (by rfl) (by intro w';go_simp;with_reducible rfl) (by simp only [pt_];rfl) ?_
 refine ta_ 4 (some 16) #[true,true,true,true,true,false,false,false,false,false,false,false,false,false] rfl rfl (by kernel_rfl) (fun _ _ _ h=>h) hHeld (by rfl) (by rintro w' ⟨s0,s1⟩;go_simp;with_reducible rfl) (by simp only [pt_];rfl) ?_
 refine pu_ 5 (some 17) #[true,true,true,true,true,true,false,false,false,false,false,false,false,false] rfl rfl (by kernel_rfl) (fun _ _ _ h=>h) (by rfl) (by intro w';go_simp;with_reducible rfl) (by simp only [pt_];rfl) ?_
 refine pu_ 6 (some 18) #[true,true,true,true,true,true,true,false,false,false,false,false,false,false] rfl rfl (by kernel_rfl) (fun _ _ _ h=>h) (by rfl) (by intro w';go_simp;with_reducible rfl) (by simp only [pt_];rfl) ?_
 refine pu_ 7 (some 19) #[true,true,true,true,true,true,true,true,false,false,false,false,false,false] rfl rfl (by kernel_rfl) (fun _ _ _ h=>h) (by rfl) (by intro w';go_simp;with_reducible rfl) (by simp only [pt_];rfl) ?_
 refine pu_ 8 (some 20) #[true,true,true,true,true,true,true,true,true,false,false,false,false,false] rfl rfl (by kernel_rfl) (fun _ _ _ h=>h) (by rfl) (by intro w';go_simp;with_reducible rfl) (by simp only [pt_];rfl) ?_
 refine ta_ 9 (some 21) #[true,true,true,true,true,true,true,true,true,true,false,false,false,false] rfl rfl (by kernel_rfl) (fun _ _ _ h=>h) hHeld (by rfl) (by rintro w' ⟨s0,s1⟩;go_simp;with_reducible rfl) (by simp only [pt_];rfl) ?_
 refine pu_ 13 (some 25) #[true,true,true,true,true,true,true,true,true,true,false,false,false,true] rfl rfl (by kernel_rfl) (fun _ _ _ h=>h) (by rfl) (by intro w';go_simp;with_reducible rfl) (by simp only [pt_];rfl) ?_
 refine one_ (i:=10) (N:=some 22) #[true,true,true,true,true,true,true,true,true,true,true,false,false,true] rfl rfl (by kernel_rfl) (by decide) (fun K hK=>?_)
 refine value_ (by rfl) rfl (by go_simp;constructor<;>rfl) ?_
 refine hK.out _ _ ⟨((Ext.refl w).drew.alloc _).cell k2,((Ext.refl w).drew.alloc _).cell k3⟩ (fun hHeld=>?_)
 clear hK K
 refine norm_ (by show Act.put _ (some 22) _=_;simp only [pt_];rfl) ?_
 refine one_ (i:=11) (N:=some 23) #[true,true,true,true,true,true,true,true,true,true,true,true,false,true] rfl rfl (by kernel_rfl) (by decide) (fun K hK=>?_)
 refine goes_ (N:=some 23) Tryz.func73 (by kernel_rfl) rfl #[.slice (some ⟨w.heap.size,0,none⟩) 2 2] (by rfl) rfl rfl (by simp [Act.eval]) ?_
 rw [← HW1.out]
 refine HCc.out.mono ?_
 rintro e w2 ⟨vC,rfl,hC,hX2⟩
 refine ⟨_,rfl,?_⟩
 have hX02:=HX1.out.trans hX2
 refine hK.out _ _ ⟨hX02.cell k2,hX02.cell k3⟩ (fun hHeld=>?_)
 clear hK K
 refine norm_ (by show Act.put _ (some 23) _=_;simp only [pt_];rfl) ?_
 obtain ⟨aC,nC,cC,rfl,HlC2,hlcC,hcmC,helC⟩:=hC.op
 refine pu_ 12 (some 24) #[true,true,true,true,true,true,true,true,true,true,true,true,true,true] rfl rfl (by kernel_rfl) (fun _ _ _ h=>h) (by rfl) (by intro w';go_simp;with_reducible rfl) (by simp only [pt_];rfl) ?_
 refine done_ (by kernel_rfl) ?_
 have hnC:nC≤2097152:=by have:=HlC2.out;have:=HlC.out;omega
 have HX02:=Lib.hid hX02
 clear hHeld hC hX2 hX02
 go_wp2_with fail
 go_loopw [25] (fun j wr=>∃ q:Nat,q≤nC∧j=.int .i64 q∧Hid (exprE t sc (xe ++ xf)=exprE t sc ((xe ++ xf).drop q))∧Hid (Ext w2 wr)) (fun j _=>nC - (intOf j).toNat)
 case atStart=>exact ⟨0,Nat.zero_le _,rfl,rfl,Ext.refl _⟩
 case round =>
  obtain ⟨q,hq,rfl,HA,HX⟩:=hrel
  have HX0:=Lib.hid (HX02.out.trans HX.out)
  have HB0:Hid (Below base w wr):=HX0.out.mono Hb.out
  by_cases hqt:q<nC
  ·obtain ⟨bC,oC,rfl,_,helC⟩:=helC (by omega)
   obtain ⟨nd,csy,hy,_,hCy,hcsy⟩:=helC q hqt
   obtain ⟨rfl,_,_,hny⟩:=hCy
   have y0:=HX.out.cell (hcsy.z rfl)
   have y1:=HX.out.cell (hcsy 1 _ rfl)
   have y2:=HX.out.cell (hcsy 2 _ rfl)
   have Hy:=Lib.hid (exprE_drop (t:=t) (sc:=sc) hy)
   have hXa:Ext wr (wr.alloc (.cells #[.int .i64 nd.kind,.int .i64 nd.val,.string nd.name] 104)):=(Ext.refl wr).alloc _
   have BX:=Blk.alloc wr 104 #[.int .i64 nd.kind,.int .i64 nd.val,.string nd.name]
   have HNd:=Lib.hid (i_node K base t fs ub fn C T _ _ _ tk sc nd _ (HU.out _ (HB0.out.trans ((hXa.mono (Nat.le_trans Hb.out HX0.out.size))))) ((HS.out.ext HX0.out).ext hXa) (by simp;omega) HNm.out)
   have d0:(wr.alloc (.cells #[.int .i64 nd.kind,.int .i64 nd.val,.string nd.name] 104)).cell? ⟨wr.heap.size,0,none⟩=some (.int .i64 nd.kind):=(BX.cell 0).trans rfl
   have d1:(wr.alloc (.cells #[.int .i64 nd.kind,.int .i64 nd.val,.string nd.name] 104)).cell? ⟨wr.heap.size,1,none⟩=some (.int .i64 nd.val):=(BX.cell 1).trans rfl
   have d2:(wr.alloc (.cells #[.int .i64 nd.kind,.int .i64 nd.val,.string nd.name] 104)).cell? ⟨wr.heap.size,2,none⟩=some (.string nd.name):=(BX.cell 2).trans rfl
   have HXa:=Lib.hid hXa
   have g2:(0:Int)≤(q:Int):=by omega
   have g3:(q:Int)<(nC:Int):=by omega
   obtain ⟨er,her⟩:∃ er,er=nodeE t sc nd:=⟨_,rfl⟩
   rw [← her] at HNd Hy
   clear hy hcsy helC BX hXa hny her
   go_wp2_with fail
   refine HNd.out.mono ?_
   rintro e w3 ⟨rfl,hX3⟩
   have HX3:=Lib.hid ((HX.out.trans HXa.out).trans hX3)
   clear hX3 d0 d1 d2 y0 y1 y2 HNd
   by_cases he:er=0
   ·subst he
    have HA2:Hid (exprE t sc (xe ++ xf)=exprE t sc ((xe ++ xf).drop (q+1))):=by
     show _=_
     rw [HA.out,Hy.out,if_pos rfl]
    go_wp2
    go_roundw
    case rel=>exact ⟨q+1,by omega,by go_num,HA2.out,HX3.out⟩
    case measure=>simp [intOf];omega
   ·have hqe:(er == 0)=false:=by simpa using he
    have HRr:Hid (R=.bad er p):=by
     show _=_
     rw [HR.out,HA.out,Hy.out,if_neg he,if_neg he,if_neg he]
    have HXw:=Lib.hid (HX02.out.trans HX3.out)
    have c1:=HXw.out.cell c1
    have k6:=HXw.out.cell k6
    clear he
    go_wp2_with fail
    go_region_held3 (fun w'=>w'.cell? ⟨C,1,none⟩=some (.int .i64 fn)∧w'.cell? ⟨sb,6,none⟩=some (.int .i64 (p:Int)))
     (first | go_keep | (refine ⟨hX3.cell ?_,hX3.cell ?_⟩<;>simp [*]))
     (first | (go_at_call 89;(refine (i_wrongAt _ _ _ _).mono ?_);rintro e4 w4 ⟨rfl,rfl⟩))
    go_wp2
    go_ret
    exact ⟨_,_,_,HS.out.ext (HXw.out.drew),Tch.ext (HXw.out.drew),.inl ⟨er,p,HRr.out,rfl⟩⟩
  ·have HRk:Hid (R=if kindE t sc tkl ⟨kd,nm,xe,xf,thn,els⟩=0 then insR t SC TKL TT UU else .bad (kindE t sc tkl ⟨kd,nm,xe,xf,thn,els⟩) p):=by
    show _=_
    rw [HR.out,HA.out,List.drop_eq_nil_of_le (by rw [HlC2.out];omega)]
    rfl
   have HSr:=Lib.hid (HS.out.ext HX0.out)
   have HXr:=HX0
   have k0r:=HX0.out.cell k0
   have k1r:=HX0.out.cell k1
   have c0r:=(HSr.out.blk.cell 3).trans (show _=some (Value.map (some T)) from rfl)
   have c1r:=c0r
   clear k0 k1 k2 k3 k6 k9 k10 c1 HA HX HX0 hq helC hnC
   by_cases h2:kd=2
   ·subst h2
    have HRk2:Hid (R=if useE t sc nm false=0 then insR t SC TKL TT UU else .bad (useE t sc nm false) p):=HRk.out
    have HUse:=Lib.hid (i_use base t _ (ms ++ [b]) _ sc nm false _ ((HSr.out.sc.ext ((Ext.refl wr).drew))) (by simp;omega) HNm.out)
    obtain ⟨er,her⟩:∃ er,er=useE t sc nm false:=⟨_,rfl⟩
    rw [← her] at HUse HRk2
    have c2:=(HSr.out.blk.cell 2).trans (show _=some (Value.slice a N1 cc) from rfl)
    clear her
    go_wp2_with fail
    go_region_held3 (fun w'=>w'.cell? ⟨C,2,none⟩=some (.slice a N1 cc)∧w'.cell? ⟨sb,1,none⟩=some (.string nm))
     (first | go_keep | (refine ⟨hX3.cell ?_,hX3.cell ?_⟩<;>simp [*]))
     (first | (go_at_call 177;(refine HUse.out.mono ?_);rintro e3 w3 ⟨rfl,hX3⟩))
    have HX3:=Lib.hid (((Ext.refl wr).drew).trans hX3)
    have HSt3:=Lib.hid (HSr.out.ext HX3.out)
    have HTc:Hid (Tch w w3 C T (ms ++ [b]) (.slice a N1 cc) (.slice a N1 cc)):=Tch.ext (HXr.out.trans HX3.out)
    clear c0r c1r c2 k1r hX3
    by_cases he:er=0
    ·subst he
     have HRt:Hid (R=insR t SC TKL TT UU):=HRk2.out
     have HNm3:Hid (Names t (mm ++ [m]) SC):=by
      show Names _ _ _
      rw [HSC.out];exact HNm.out
     have HTk3:Hid (TkRel t tk TKL):=by
      show TkRel _ _ _
      rw [HTKL.out];exact HTk.out
     have HBw:Hid (Below base w w3):=HTc.out.below HS.out
     obtain ⟨sb',vE',vF',ve',vf',vt',vu',ts',us',eP,hcs',_,_,_,_,_,_,_,_,slT,slU,zT,zU⟩:=(HSt.out _ HBw.out).op
     cases eP
     obtain ⟨aT',nT',cT',rfl⟩:=slT.shape
     have k9:World.cell? w3 ⟨sb,9,none⟩=some (.slice aT' nT' cT'):=hcs' 9 _ rfl
     have C1:=Lib.hid (HIT.out w3 _ ts' _ _ _ _ _ _ slT zT (HU.out _ HBw.out) HSt3.out (by simp) (by simp;omega) HNm3.out HTk3.out (Nat.le_trans Hb.out HBw.out.size))
     clear hcs' slT slU zT zU
     go_wp2_with fail
     refine C1.out.mono ?_
     rintro e w5 ⟨v5,mm5,tk5,hS5,hT5,hres⟩
     have HT5:=Lib.hid (HTc.out.trans hT5 (fun _ h=>.inl h))
     have HS5:=Lib.hid hS5
     clear C1 hS5 hT5
     rcases hres with ⟨er,a5,hr,rfl⟩ | ⟨tkl5,hr,rfl,hTk5,rfl⟩
     ·have Hr:=Lib.hid hr
      clear hr
      go_wp2
      go_ret
      exact ⟨v5,mm5,tk5,HS5.out,HT5.out,.inl ⟨er,a5,by rw [HRt.out];unfold insR;rw [Hr.out],rfl⟩⟩
     ·have HB5:Hid (Below base w w5):=HT5.out.below HS.out
      obtain ⟨sb',vE',vF',ve',vf',vt',vu',ts',us',eP,hcs',_,_,_,_,_,_,_,_,slT,slU,zT,zU⟩:=(HSt.out _ HB5.out).op
      cases eP
      obtain ⟨aU',nU',cU',rfl⟩:=slU.shape
      have k10:w5.cell? ⟨sb,10,none⟩=some (.slice aU' nU' cU'):=hcs' 10 _ rfl
      have C2:=Lib.hid (HIU.out w5 _ us' _ _ _ _ _ _ slU zU (HU.out _ HB5.out) HS5.out (by simp) (by simp;omega) HNm3.out hTk5 (Nat.le_trans Hb.out HB5.out.size))
      have Hr:=Lib.hid hr
      clear hcs' slT slU zT zU hr hTk5
      go_wp2_with fail
      refine C2.out.mono ?_
      rintro e w6 ⟨v6,mm6,tk6,hS6,hT6,hres⟩
      have HT6:=Lib.hid (HT5.out.trans hT6 (fun _ h=>.inl h))
      have HS6:=Lib.hid hS6
      clear C2 hS6 hT6
      rcases hres with ⟨er,a6,hr2,rfl⟩ | ⟨tkl6,hr2,rfl,hTk6,rfl⟩
      ·have Hr2:=Lib.hid hr2
       clear hr2
       go_wp2
       go_ret
       exact ⟨v6,mm6,tk6,HS6.out,HT6.out,.inl ⟨er,a6,by rw [HRt.out];unfold insR;rw [Hr.out];exact Hr2.out,rfl⟩⟩
      ·have Hr2:=Lib.hid hr2
       have HTk6:=Lib.hid hTk6
       clear hr2 hTk6
       go_wp2
       go_ret
       exact ⟨v6,_,tk6,HS6.out,HT6.out,.inr ⟨tkl6,by rw [HRt.out];unfold insR;rw [Hr.out];exact Hr2.out,rfl,HTk6.out,m,rfl,HNm3.out⟩⟩
    ·have HRb:Hid (R=.bad er p):=by
      show _=_
      rw [HRk2.out,if_neg he]
     have hqe:(er == 0)=false:=by simpa using he
     clear he
     have HBw:Hid (Below base w w3):=HTc.out.below HS.out
     obtain ⟨sb',vE',vF',ve',vf',vt',vu',ts',us',eP,hcs',_⟩:=(HSt.out _ HBw.out).op
     cases eP
     have k6:World.cell? w3 ⟨sb,6,none⟩=some (.int .i64 (p:Int)):=hcs' 6 _ rfl
     have c1:=(HSt3.out.blk.cell 1).trans (show _=some (Value.int .i64 fn) from rfl)
     clear hcs'
     go_wp2_with fail
     go_region_held3 (fun w'=>w'.cell? ⟨C,1,none⟩=some (.int .i64 fn)∧w'.cell? ⟨sb,6,none⟩=some (.int .i64 (p:Int)))
      (first | go_keep | (refine ⟨hX3.cell ?_,hX3.cell ?_⟩<;>simp [*]))
      (first | (go_at_call 89;(refine (i_wrongAt _ _ _ _).mono ?_);rintro e4 w4 ⟨rfl,rfl⟩))
     go_wp2
     go_ret
     exact ⟨_,_,_,HSt3.out.ext ((Ext.refl _).drew),HTc.out.trans (Tch.ext ((Ext.refl _).drew)) (fun _ h=>.inl h),.inl ⟨er,p,HRb.out,rfl⟩⟩
   by_cases h3:kd=3
   ·subst h3
    have HRk2:Hid (R=if useE t sc nm true=0 then insR t SC TKL TT UU else .bad (useE t sc nm true) p):=HRk.out
    have HUse:=Lib.hid (i_use base t _ (ms ++ [b]) _ sc nm true _ ((HSr.out.sc.ext ((Ext.refl wr).drew))) (by simp;omega) HNm.out)
    obtain ⟨er,her⟩:∃ er,er=useE t sc nm true:=⟨_,rfl⟩
    rw [← her] at HUse HRk2
    have c2:=(HSr.out.blk.cell 2).trans (show _=some (Value.slice a N1 cc) from rfl)
    clear her
    go_wp2_with fail
    go_region_held3 (fun w'=>w'.cell? ⟨C,2,none⟩=some (.slice a N1 cc)∧w'.cell? ⟨sb,1,none⟩=some (.string nm))
     (first | go_keep | (refine ⟨hX3.cell ?_,hX3.cell ?_⟩<;>simp [*]))
     (first | (go_at_call 177;(refine HUse.out.mono ?_);rintro e3 w3 ⟨rfl,hX3⟩))
    have HX3:=Lib.hid (((Ext.refl wr).drew).trans hX3)
    have HSt3:=Lib.hid (HSr.out.ext HX3.out)
    have HTc:Hid (Tch w w3 C T (ms ++ [b]) (.slice a N1 cc) (.slice a N1 cc)):=Tch.ext (HXr.out.trans HX3.out)
    clear c0r c1r c2 k1r hX3
    by_cases he:er=0
    ·subst he
     have HRt:Hid (R=insR t SC TKL TT UU):=HRk2.out
     have HNm3:Hid (Names t (mm ++ [m]) SC):=by
      show Names _ _ _
      rw [HSC.out];exact HNm.out
     have HTk3:Hid (TkRel t tk TKL):=by
      show TkRel _ _ _
      rw [HTKL.out];exact HTk.out
     have HBw:Hid (Below base w w3):=HTc.out.below HS.out
     obtain ⟨sb',vE',vF',ve',vf',vt',vu',ts',us',eP,hcs',_,_,_,_,_,_,_,_,slT,slU,zT,zU⟩:=(HSt.out _ HBw.out).op
     cases eP
     obtain ⟨aT',nT',cT',rfl⟩:=slT.shape
     have k9:World.cell? w3 ⟨sb,9,none⟩=some (.slice aT' nT' cT'):=hcs' 9 _ rfl
     have C1:=Lib.hid (HIT.out w3 _ ts' _ _ _ _ _ _ slT zT (HU.out _ HBw.out) HSt3.out (by simp) (by simp;omega) HNm3.out HTk3.out (Nat.le_trans Hb.out HBw.out.size))
     clear hcs' slT slU zT zU
     go_wp2_with fail
     refine C1.out.mono ?_
     rintro e w5 ⟨v5,mm5,tk5,hS5,hT5,hres⟩
     have HT5:=Lib.hid (HTc.out.trans hT5 (fun _ h=>.inl h))
     have HS5:=Lib.hid hS5
     clear C1 hS5 hT5
     rcases hres with ⟨er,a5,hr,rfl⟩ | ⟨tkl5,hr,rfl,hTk5,rfl⟩
     ·have Hr:=Lib.hid hr
      clear hr
      go_wp2
      go_ret
      exact ⟨v5,mm5,tk5,HS5.out,HT5.out,.inl ⟨er,a5,by rw [HRt.out];unfold insR;rw [Hr.out],rfl⟩⟩
     ·have HB5:Hid (Below base w w5):=HT5.out.below HS.out
      obtain ⟨sb',vE',vF',ve',vf',vt',vu',ts',us',eP,hcs',_,_,_,_,_,_,_,_,slT,slU,zT,zU⟩:=(HSt.out _ HB5.out).op
      cases eP
      obtain ⟨aU',nU',cU',rfl⟩:=slU.shape
      have k10:w5.cell? ⟨sb,10,none⟩=some (.slice aU' nU' cU'):=hcs' 10 _ rfl
      have C2:=Lib.hid (HIU.out w5 _ us' _ _ _ _ _ _ slU zU (HU.out _ HB5.out) HS5.out (by simp) (by simp;omega) HNm3.out hTk5 (Nat.le_trans Hb.out HB5.out.size))
      have Hr:=Lib.hid hr
      clear hcs' slT slU zT zU hr hTk5
      go_wp2_with fail
      refine C2.out.mono ?_
      rintro e w6 ⟨v6,mm6,tk6,hS6,hT6,hres⟩
      have HT6:=Lib.hid (HT5.out.trans hT6 (fun _ h=>.inl h))
      have HS6:=Lib.hid hS6
      clear C2 hS6 hT6
      rcases hres with ⟨er,a6,hr2,rfl⟩ | ⟨tkl6,hr2,rfl,hTk6,rfl⟩
      ·have Hr2:=Lib.hid hr2
       clear hr2
       go_wp2
       go_ret
       exact ⟨v6,mm6,tk6,HS6.out,HT6.out,.inl ⟨er,a6,by rw [HRt.out];unfold insR;rw [Hr.out];exact Hr2.out,rfl⟩⟩
      ·have Hr2:=Lib.hid hr2
       have HTk6:=Lib.hid hTk6
       clear hr2 hTk6
       go_wp2
       go_ret
       exact ⟨v6,_,tk6,HS6.out,HT6.out,.inr ⟨tkl6,by rw [HRt.out];unfold insR;rw [Hr.out];exact Hr2.out,rfl,HTk6.out,m,rfl,HNm3.out⟩⟩
    ·have HRb:Hid (R=.bad er p):=by
      show _=_
      rw [HRk2.out,if_neg he]
     have hqe:(er == 0)=false:=by simpa using he
     clear he
     have HBw:Hid (Below base w w3):=HTc.out.below HS.out
     obtain ⟨sb',vE',vF',ve',vf',vt',vu',ts',us',eP,hcs',_⟩:=(HSt.out _ HBw.out).op
     cases eP
     have k6:World.cell? w3 ⟨sb,6,none⟩=some (.int .i64 (p:Int)):=hcs' 6 _ rfl
     have c1:=(HSt3.out.blk.cell 1).trans (show _=some (Value.int .i64 fn) from rfl)
     clear hcs'
     go_wp2_with fail
     go_region_held3 (fun w'=>w'.cell? ⟨C,1,none⟩=some (.int .i64 fn)∧w'.cell? ⟨sb,6,none⟩=some (.int .i64 (p:Int)))
      (first | go_keep | (refine ⟨hX3.cell ?_,hX3.cell ?_⟩<;>simp [*]))
      (first | (go_at_call 89;(refine (i_wrongAt _ _ _ _).mono ?_);rintro e4 w4 ⟨rfl,rfl⟩))
     go_wp2
     go_ret
     exact ⟨_,_,_,HSt3.out.ext ((Ext.refl _).drew),HTc.out.trans (Tch.ext ((Ext.refl _).drew)) (fun _ h=>.inl h),.inl ⟨er,p,HRb.out,rfl⟩⟩
   by_cases h1:kd=1
   ·subst h1
    have HRk2:Hid (R=if (if nm∈tkl∨0≤gsize t nm then (2:Int) else 0)=0 then insR t SC TKL TT UU else .bad (if nm∈tkl∨0≤gsize t nm then 2 else 0) p):=by
     have h:=HRk.out
     unfold kindE at h
     simp only [if_pos] at h
     exact h
    obtain ⟨uu,huu⟩:∃ uu,(assoc tk nm).getD (.agg #[.bool false])=.agg #[.bool uu]:=by
     cases h:assoc tk nm with
     | none=>exact ⟨false,rfl⟩
     | some u =>
       obtain ⟨b',hb'⟩:=HTk.out.allV nm u h
       exact ⟨b',hb'⟩
    have HLk:Hid (∀ w',MapAt strKey w' T tk→(Instr.lookup 142 (.map (some T)) (.string nm) true).run Tryz.prog w'=.ok (.tuple #[.agg #[.bool uu],.bool (decide (nm∈tkl∨0≤gsize t nm))]) w'):=fun w' hM=>by
     have h:=run_look (kk:=strKey) hM Tryz.underlying142 Tryz.underlying9 (zero_var w') nm
     rw [huu,HTk.out.has nm] at h
     exact h
    clear huu
    by_cases hin:nm∈tkl∨0≤gsize t nm
    ·rw [decide_eq_true hin] at HLk
     have HRb:Hid (R=.bad 2 p):=by
      show _=_
      rw [HRk2.out,if_pos hin]
      rfl
     clear hin HRk2
     have HLk2:Hid (∀ w',MapAt strKey w' T tk→(Instr.lookup 142 (.map (some T)) (.string nm) true).run Tryz.prog w'=.ok (.tuple #[.agg #[.bool uu],.bool true]) w'):=HLk.out
     clear HLk
     go_wp2_with fail
     refine start_ (n:=16) (S:=fun w'=>w'.cell? ⟨C,3,none⟩=some (.map (some T))∧w'.cell? ⟨sb,1,none⟩=some (.string nm)∧(Instr.lookup 142 (.map (some T)) (.string nm) true).run Tryz.prog w'=.ok (.tuple #[.agg #[.bool uu],.bool true]) w') (ds:=[14]) #[false,false,false,false,false,false,false,false,false,false,false,false,false,false,false,false] (by kernel_rfl) rfl rfl ?hS (fun hHeld=>?_)
     case hS=>exact ⟨by simpa using c0r,by simpa using k1r,HLk2.out _ (HSr.out.taken.ext ((Ext.refl wr).drew))⟩
     refine pu_ 0 (some 53) #[true,false,false,false,false,false,false,false,false,false,false,false,false,false,false,false] rfl rfl (by kernel_rfl) (fun _ _ _ h=>h) (by rfl) (by intro w';go_simp;with_reducible rfl) (by simp only [pt_];rfl) ?_
     refine pu_ 1 (some 54) #[true,true,false,false,false,false,false,false,false,false,false,false,false,false,false,false] rfl rfl (by kernel_rfl) (fun _ _ _ h=>h) (by rfl) (by intro w';go_simp;with_reducible rfl) (by simp only [pt_];rfl) ?_
     refine pu_ 2 (some 55) #[true,true,true,false,false,false,false,false,false,false,false,false,false,false,false,false] rfl rfl (by kernel_rfl) (fun _ _ _ h=>h) (by rfl) (by intro w';go_simp;with_reducible rfl) (by simp only [pt_];rfl) ?_
     refine ta_ 3 (some 56) #[true,true,true,true,false,false,false,false,false,false,false,false,false,false,false,false] rfl rfl (by kernel_rfl) (fun _ _ _ h=>h) hHeld (by rfl) (by rintro w' ⟨s0,s1,s2⟩;go_simp;with_reducible rfl) (by simp only [pt_];rfl) ?_
     refine pu_ 4 (some 57) #[true,true,true,true,true,false,false,false,false,false,false,false,false,false,false,false] rfl rfl (by kernel_rfl) (fun _ _ _ h=>h) (by rfl) (by intro w';go_simp;with_reducible rfl) (by simp only [pt_];rfl) ?_
     refine pu_ 5 (some 58) #[true,true,true,true,true,true,false,false,false,false,false,false,false,false,false,false] rfl rfl (by kernel_rfl) (fun _ _ _ h=>h) (by rfl) (by intro w';go_simp;with_reducible rfl) (by simp only [pt_];rfl) ?_
     refine pu_ 6 (some 59) #[true,true,true,true,true,true,true,false,false,false,false,false,false,false,false,false] rfl rfl (by kernel_rfl) (fun _ _ _ h=>h) (by rfl) (by intro w';go_simp;with_reducible rfl) (by simp only [pt_];rfl) ?_
     refine pu_ 7 (some 60) #[true,true,true,true,true,true,true,true,false,false,false,false,false,false,false,false] rfl rfl (by kernel_rfl) (fun _ _ _ h=>h) (by rfl) (by intro w';go_simp;with_reducible rfl) (by simp only [pt_];rfl) ?_
     refine ta_ 8 (some 61) #[true,true,true,true,true,true,true,true,true,false,false,false,false,false,false,false] rfl rfl (by kernel_rfl) (fun _ _ _ h=>h) hHeld (by rfl) (by rintro w' ⟨s0,s1,s2⟩;go_simp;with_reducible rfl) (by simp only [pt_];rfl) ?_
     refine ta_ 9 (some 62) #[true,true,true,true,true,true,true,true,true,true,false,false,false,false,false,false] rfl rfl (by kernel_rfl) (fun _ _ _ h=>h) hHeld (by rfl) (by rintro w' ⟨s0,s1,s2⟩;go_simp;with_reducible rfl) (by simp only [pt_];rfl) ?_
     refine pu_ 10 (some 52) #[true,true,true,true,true,true,true,true,true,true,true,false,false,false,false,false] rfl rfl (by kernel_rfl) (fun _ _ _ h=>h) (by rfl) (by intro w';go_simp;with_reducible rfl) (by simp only [pt_];rfl) ?_
     refine pu_ 11 (some 63) #[true,true,true,true,true,true,true,true,true,true,true,true,false,false,false,false] rfl rfl (by kernel_rfl) (fun _ _ _ h=>h) (by rfl) (by intro w';go_simp;with_reducible rfl) (by simp only [pt_];rfl) ?_
     refine pu_ 12 (some 64) #[true,true,true,true,true,true,true,true,true,true,true,true,true,false,false,false] rfl rfl (by kernel_rfl) (fun _ _ _ h=>h) (by rfl) (by intro w';go_simp;with_reducible rfl) (by simp only [pt_];rfl) ?_
     refine one_ (i:=13) (N:=some 9) #[true,true,true,true,true,true,true,true,true,true,true,true,true,true,false,false] rfl rfl (by kernel_rfl) (by decide) (fun K hK=>?_)
     refine value_ (by rfl) rfl (by go_simp;constructor<;>rfl) ?_
     have hXb:Ext wr (wr.drew.alloc (.cells #[.bool false] 144)):=((Ext.refl wr).drew).alloc _
     refine hK.out _ _ ⟨hXb.cell c0r,hXb.cell k1r,HLk2.out _ (HSr.out.taken.ext hXb)⟩ (fun hHeld=>?_)
     clear hK K
     refine norm_ (by show Act.put _ (some 9) _=_;simp only [pt_];rfl) ?_
     refine last_ (i:=14) (N:=none) #[true,true,true,true,true,true,true,true,true,true,true,true,true,true,true,false] rfl rfl (by kernel_rfl) (by decide) (fun K hK=>?_)
     go_simp
     refine hK.out _ _ ?_
     clear hK K
     refine pu_ 15 (some 10) #[true,true,true,true,true,true,true,true,true,true,true,true,true,true,true,true] rfl rfl (by kernel_rfl) (fun _ _ _ h=>h) (by rfl) (by intro w';go_simp;with_reducible rfl) (by simp only [pt_];rfl) ?_
     refine done_ (by kernel_rfl) ?_
     clear hXb hHeld HLk2
     go_wp2_with fail
     refine ext_world (w0:=wr) (by (repeat' (first | assumption | exact Ext.refl _ | refine Ext.drew ?_ | refine Ext.alloc ?_ _ | refine Ext.set ?_ (by first | omega | (simp;done) | (simp;omega)) _ _))) ?_
     intro wa hXa
     have HXa:=Lib.hid hXa
     have HSa:=Lib.hid (HSr.out.ext hXa)
     have c0a:=hXa.cell c0r
     have k1a:=hXa.cell k1r
     obtain ⟨w6,r6,hM6,hT6⟩:=run_upd (kk:=strKey) (P:=Tryz.prog) (HSa.out.taken.ext ((Ext.refl wa).drew)) Tryz.underlying142 Tryz.underlying9 nm (varV false)
     have HR6:=Lib.hid r6
     have HS6:=Lib.hid ((HSa.out.ext ((Ext.refl wa).drew)).turnT hM6 hT6)
     have HT6:Hid (Tch w w6 C T (ms ++ [b]) (.slice a N1 cc) (.slice a N1 cc)):=(Tch.ext ((HXr.out.trans hXa).drew)).trans (Tch.turn hT6 (.inl rfl)) (fun _ h=>.inl h)
     clear hXa c0r k1r r6 hM6 hT6
     refine start_ (n:=11) (S:=fun w'=>w'.cell? ⟨C,3,none⟩=some (.map (some T))∧w'.cell? ⟨sb,1,none⟩=some (.string nm)) (ds:=[10]) #[false,false,false,false,false,false,false,false,false,false,false] (by kernel_rfl) rfl rfl ?hS (fun hHeld=>?_)
     case hS=>exact ⟨by simpa using c0a,by simpa using k1a⟩
     refine pu_ 0 (some 66) #[true,false,false,false,false,false,false,false,false,false,false] rfl rfl (by kernel_rfl) (fun _ _ _ h=>h) (by rfl) (by intro w';go_simp;with_reducible rfl) (by simp only [pt_];rfl) ?_
     refine pu_ 1 (some 67) #[true,true,false,false,false,false,false,false,false,false,false] rfl rfl (by kernel_rfl) (fun _ _ _ h=>h) (by rfl) (by intro w';go_simp;with_reducible rfl) (by simp only [pt_];rfl) ?_
     refine pu_ 2 (some 68) #[true,true,true,false,false,false,false,false,false,false,false] rfl rfl (by kernel_rfl) (fun _ _ _ h=>h) (by rfl) (by intro w';go_simp;with_reducible rfl) (by simp only [pt_];rfl) ?_
     refine ta_ 3 (some 69) #[true,true,true,true,false,false,false,false,false,false,false] rfl rfl (by kernel_rfl) (fun _ _ _ h=>h) hHeld (by rfl) (by rintro w' ⟨s0,s1⟩;go_simp;with_reducible rfl) (by simp only [pt_];rfl) ?_
     refine pu_ 4 (some 70) #[true,true,true,true,true,false,false,false,false,false,false] rfl rfl (by kernel_rfl) (fun _ _ _ h=>h) (by rfl) (by intro w';go_simp;with_reducible rfl) (by simp only [pt_];rfl) ?_
     refine pu_ 5 (some 71) #[true,true,true,true,true,true,false,false,false,false,false] rfl rfl (by kernel_rfl) (fun _ _ _ h=>h) (by rfl) (by intro w';go_simp;with_reducible rfl) (by simp only [pt_];rfl) ?_
     refine pu_ 6 (some 72) #[true,true,true,true,true,true,true,false,false,false,false] rfl rfl (by kernel_rfl) (fun _ _ _ h=>h) (by rfl) (by intro w';go_simp;with_reducible rfl) (by simp only [pt_];rfl) ?_
     refine pu_ 7 (some 73) #[true,true,true,true,true,true,true,true,false,false,false] rfl rfl (by kernel_rfl) (fun _ _ _ h=>h) (by rfl) (by intro w';go_simp;with_reducible rfl) (by simp only [pt_];rfl) ?_
     refine ta_ 8 (some 74) #[true,true,true,true,true,true,true,true,true,false,false] rfl rfl (by kernel_rfl) (fun _ _ _ h=>h) hHeld (by rfl) (by rintro w' ⟨s0,s1⟩;go_simp;with_reducible rfl) (by simp only [pt_];rfl) ?_
     refine pu_ 9 (some 75) #[true,true,true,true,true,true,true,true,true,true,false] rfl rfl (by kernel_rfl) (fun _ _ _ h=>h) (by rfl) (by intro w';go_simp;with_reducible rfl) (by simp only [pt_];rfl) ?_
     refine last_ (i:=10) (N:=none) #[true,true,true,true,true,true,true,true,true,true,true] rfl rfl (by kernel_rfl) (by decide) (fun K hK=>?_)
     refine skip_ (w1:=w6) (by rfl) rfl (exec_upd rfl rfl rfl rfl HR6.out) ?_
     refine hK.out _ _ ?_
     clear hK K
     refine done_ (by kernel_rfl) ?_
     have HB6:Hid (Below base w w6):=HT6.out.below HS.out
     obtain ⟨sb',vE',vF',ve',vf',vt',vu',ts',us',eP,hcs',_⟩:=(HSt.out _ HB6.out).op
     cases eP
     have k1b:w6.cell? ⟨sb,1,none⟩=some (.string nm):=hcs' 1 _ rfl
     have c2b:=(HS6.out.blk.cell 2).trans (show _=some (Value.slice a N1 cc) from rfl)
     obtain ⟨g0,d0,e0,_,_,hl0,hm0⟩:=rw_form HS6.out.sc.row (by simp)
     have e0':a=some ⟨g0,0,none⟩∧d0=cc:=by cases e0;exact ⟨rfl,rfl⟩
     obtain ⟨rfl,rfl⟩:=e0'
     have hrow:w6.ownsRow base 142 1 (.slice (some ⟨g0,0,none⟩) N1 d0) N1 ((ms ++ [b]).map fun b=>Value.map (some b)):=by
      have h:=HS6.out.sc.row
      rw [show (ms ++ [b]).length=N1 by rw [HN1.out];simp] at h
      exact h
     have hcell:=(rw_at hrow (i:=ms.length) (u:=.map (some b)) (by rw [List.getElem?_map,List.getElem?_append_right (Nat.le_refl _),Nat.sub_self];rfl)).1
     obtain ⟨J,hJ⟩:∃ J,J=ms.length:=⟨_,rfl⟩
     rw [← hJ] at hcell
     have p0:wrap64 ((N1:Int) - 1)=(J:Int):=by have:=HN1.out;unfold wrap64;omega
     have z0:(0:Int)≤(J:Int):=by omega
     have z1:(J:Int)<(N1:Int):=by have:=HN1.out;omega
     have hlen:ms.length=mm.length:=by have:=HS6.out.sc.len;simpa using this
     have hMb:=HS6.out.top hlen
     obtain ⟨w8,r8,hM8,hT8⟩:=run_upd (kk:=strKey) (P:=Tryz.prog) (hMb.ext ((Ext.refl w6).drew)) Tryz.underlying142 Tryz.underlying9 nm (varV false)
     have HR8:=Lib.hid r8
     have HSt3:=Lib.hid ((HS6.out.ext ((Ext.refl w6).drew)).turnTop hM8 hT8 hlen (hMb.ext ((Ext.refl w6).drew)))
     have HTc:Hid (Tch w w8 C T (ms ++ [b]) (.slice (some ⟨g0,0,none⟩) N1 d0) (.slice (some ⟨g0,0,none⟩) N1 d0)):=HT6.out.trans ((Tch.ext ((Ext.refl w6).drew)).trans (Tch.turn hT8 (.inr (by simp))) (fun _ h=>.inl h)) (fun _ h=>.inl h)
     have HNm3:Hid (Names t (mm ++ [updA m nm (varV false)]) SC):=by
      show Names _ _ _
      rw [HSC.out];exact HNm.out.decl nm
     have HTk3:Hid (TkRel t (updA tk nm (varV false)) TKL):=by
      show TkRel _ _ _
      rw [HTKL.out];exact HTk.out.decl nm false
     clear hcs' e0 hJ hlen hMb hrow r8 hM8 hT8 hl0 hHeld c0a k1a
     go_wp2_with fail
     refine start_ (n:=19) (S:=fun w'=>w'.cell? ⟨C,2,none⟩=some (.slice (some ⟨g0,0,none⟩) N1 d0)∧w'.cell? ⟨g0,J,none⟩=some (.map (some b))∧w'.cell? ⟨sb,1,none⟩=some (.string nm)) (ds:=[18]) #[false,false,false,false,false,false,false,false,false,false,false,false,false,false,false,false,false,false,false] (by kernel_rfl) rfl rfl ?hS (fun hHeld=>?_)
     case hS=>exact ⟨by simpa using c2b,by simpa using hcell,by simpa using k1b⟩
     refine pu_ 0 (some 76) #[true,false,false,false,false,false,false,false,false,false,false,false,false,false,false,false,false,false,false] rfl rfl (by kernel_rfl) (fun _ _ _ h=>h) (by rfl) (by intro w';go_simp;with_reducible rfl) (by simp only [pt_];rfl) ?_
     refine pu_ 1 (some 77) #[true,true,false,false,false,false,false,false,false,false,false,false,false,false,false,false,false,false,false] rfl rfl (by kernel_rfl) (fun _ _ _ h=>h) (by rfl) (by intro w';go_simp;with_reducible rfl) (by simp only [pt_];rfl) ?_
     refine pu_ 2 (some 78) #[true,true,true,false,false,false,false,false,false,false,false,false,false,false,false,false,false,false,false] rfl rfl (by kernel_rfl) (fun _ _ _ h=>h) (by rfl) (by intro w';go_simp;with_reducible rfl) (by simp only [pt_];rfl) ?_
     refine ta_ 3 (some 79) #[true,true,true,true,false,false,false,false,false,false,false,false,false,false,false,false,false,false,false] rfl rfl (by kernel_rfl) (fun _ _ _ h=>h) hHeld (by rfl) (by rintro w' ⟨s0,s1,s2⟩;go_simp;with_reducible rfl) (by simp only [pt_];rfl) ?_
     refine pu_ 4 (some 80) #[true,true,true,true,true,false,false,false,false,false,false,false,false,false,false,false,false,false,false] rfl rfl (by kernel_rfl) (fun _ _ _ h=>h) (by rfl) (by intro w';go_simp;with_reducible rfl) (by simp only [pt_];rfl) ?_
     refine pu_ 5 (some 81) #[true,true,true,true,true,true,false,false,false,false,false,false,false,false,false,false,false,false,false] rfl rfl (by kernel_rfl) (fun _ _ _ h=>h) (by rfl) (by intro w';go_simp;with_reducible rfl) (by simp only [pt_];rfl) ?_
     refine pu_ 6 (some 82) #[true,true,true,true,true,true,true,false,false,false,false,false,false,false,false,false,false,false,false] rfl rfl (by kernel_rfl) (fun _ _ _ h=>h) (by rfl) (by intro w';go_simp;with_reducible rfl) (by simp only [pt_];rfl) ?_
     refine ta_ 7 (some 83) #[true,true,true,true,true,true,true,true,false,false,false,false,false,false,false,false,false,false,false] rfl rfl (by kernel_rfl) (fun _ _ _ h=>h) hHeld (by rfl) (by rintro w' ⟨s0,s1,s2⟩;go_simp;with_reducible rfl) (by simp only [pt_];rfl) ?_
     refine pu_ 8 (some 84) #[true,true,true,true,true,true,true,true,true,false,false,false,false,false,false,false,false,false,false] rfl rfl (by kernel_rfl) (fun _ _ _ h=>h) (by rfl) (by intro w';go_simp;with_reducible rfl) (by simp only [pt_];rfl) ?_
     refine pu_ 9 (some 85) #[true,true,true,true,true,true,true,true,true,true,false,false,false,false,false,false,false,false,false] rfl rfl (by kernel_rfl) (fun _ _ _ h=>h) (by rfl) (by intro w';go_simp;with_reducible rfl) (by simp only [pt_];rfl) ?_
     refine pu_ 10 (some 86) #[true,true,true,true,true,true,true,true,true,true,true,false,false,false,false,false,false,false,false] rfl rfl (by kernel_rfl) (fun _ _ _ h=>h) (by rfl) (by intro w';go_simp;with_reducible rfl) (by simp only [pt_];rfl) ?_
     refine ta_ 11 (some 87) #[true,true,true,true,true,true,true,true,true,true,true,true,false,false,false,false,false,false,false] rfl rfl (by kernel_rfl) (fun _ _ _ h=>h) hHeld (by rfl) (by rintro w' ⟨s0,s1,s2⟩;go_simp;with_reducible rfl) (by simp only [pt_];rfl) ?_
     refine pu_ 12 (some 88) #[true,true,true,true,true,true,true,true,true,true,true,true,true,false,false,false,false,false,false] rfl rfl (by kernel_rfl) (fun _ _ _ h=>h) (by rfl) (by intro w';go_simp;with_reducible rfl) (by simp only [pt_];rfl) ?_
     refine pu_ 13 (some 89) #[true,true,true,true,true,true,true,true,true,true,true,true,true,true,false,false,false,false,false] rfl rfl (by kernel_rfl) (fun _ _ _ h=>h) (by rfl) (by intro w';go_simp;with_reducible rfl) (by simp only [pt_];rfl) ?_
     refine pu_ 14 (some 90) #[true,true,true,true,true,true,true,true,true,true,true,true,true,true,true,false,false,false,false] rfl rfl (by kernel_rfl) (fun _ _ _ h=>h) (by rfl) (by intro w';go_simp;with_reducible rfl) (by simp only [pt_];rfl) ?_
     refine pu_ 15 (some 91) #[true,true,true,true,true,true,true,true,true,true,true,true,true,true,true,true,false,false,false] rfl rfl (by kernel_rfl) (fun _ _ _ h=>h) (by rfl) (by intro w';go_simp;with_reducible rfl) (by simp only [pt_];rfl) ?_
     refine ta_ 16 (some 92) #[true,true,true,true,true,true,true,true,true,true,true,true,true,true,true,true,true,false,false] rfl rfl (by kernel_rfl) (fun _ _ _ h=>h) hHeld (by rfl) (by rintro w' ⟨s0,s1,s2⟩;go_simp;with_reducible rfl) (by simp only [pt_];rfl) ?_
     refine pu_ 17 (some 93) #[true,true,true,true,true,true,true,true,true,true,true,true,true,true,true,true,true,true,false] rfl rfl (by kernel_rfl) (fun _ _ _ h=>h) (by rfl) (by intro w';go_simp;with_reducible rfl) (by simp only [pt_];rfl) ?_
     refine last_ (i:=18) (N:=none) #[true,true,true,true,true,true,true,true,true,true,true,true,true,true,true,true,true,true,true] rfl rfl (by kernel_rfl) (by decide) (fun K hK=>?_)
     refine skip_ (w1:=w8) (by rfl) rfl (exec_upd rfl rfl rfl rfl HR8.out) ?_
     refine hK.out _ _ ?_
     clear hK K
     refine done_ (by kernel_rfl) ?_
     clear hHeld c2b k1b hcell p0 z0 z1
     have HBw:Hid (Below base w w8):=HTc.out.below HS.out
     obtain ⟨sb',vE',vF',ve',vf',vt',vu',ts',us',eP,hcs',_⟩:=(HSt.out _ HBw.out).op
     cases eP
     have k6:World.cell? w8 ⟨sb,6,none⟩=some (.int .i64 (p:Int)):=hcs' 6 _ rfl
     have c1:=(HSt3.out.blk.cell 1).trans (show _=some (Value.int .i64 fn) from rfl)
     clear hcs'
     go_wp2_with fail
     go_region_held3 (fun w'=>w'.cell? ⟨C,1,none⟩=some (.int .i64 fn)∧w'.cell? ⟨sb,6,none⟩=some (.int .i64 (p:Int)))
      (first | go_keep | (refine ⟨hX3.cell ?_,hX3.cell ?_⟩<;>simp [*]))
      (first | (go_at_call 89;(refine (i_wrongAt _ _ _ _).mono ?_);rintro e4 w4 ⟨rfl,rfl⟩))
     go_wp2
     go_ret
     exact ⟨_,_,_,HSt3.out.ext ((Ext.refl _).drew),HTc.out.trans (Tch.ext ((Ext.refl _).drew)) (fun _ h=>.inl h),.inl ⟨2,p,HRb.out,rfl⟩⟩
    ·rw [decide_eq_false hin] at HLk
     have HRt:Hid (R=insR t SC TKL TT UU):=by
      show _=_
      rw [HRk2.out,if_neg hin]
      rfl
     clear hin HRk2
     have HLk2:Hid (∀ w',MapAt strKey w' T tk→(Instr.lookup 142 (.map (some T)) (.string nm) true).run Tryz.prog w'=.ok (.tuple #[.agg #[.bool uu],.bool false]) w'):=HLk.out
     clear HLk
     go_wp2_with fail
     refine start_ (n:=16) (S:=fun w'=>w'.cell? ⟨C,3,none⟩=some (.map (some T))∧w'.cell? ⟨sb,1,none⟩=some (.string nm)∧(Instr.lookup 142 (.map (some T)) (.string nm) true).run Tryz.prog w'=.ok (.tuple #[.agg #[.bool uu],.bool false]) w') (ds:=[14]) #[false,false,false,false,false,false,false,false,false,false,false,false,false,false,false,false] (by kernel_rfl) rfl rfl ?hS (fun hHeld=>?_)
     case hS=>exact ⟨by simpa using c0r,by simpa using k1r,HLk2.out _ (HSr.out.taken.ext ((Ext.refl wr).drew))⟩
     refine pu_ 0 (some 53) #[true,false,false,false,false,false,false,false,false,false,false,false,false,false,false,false] rfl rfl (by kernel_rfl) (fun _ _ _ h=>h) (by rfl) (by intro w';go_simp;with_reducible rfl) (by simp only [pt_];rfl) ?_
     refine pu_ 1 (some 54) #[true,true,false,false,false,false,false,false,false,false,false,false,false,false,false,false] rfl rfl (by kernel_rfl) (fun _ _ _ h=>h) (by rfl) (by intro w';go_simp;with_reducible rfl) (by simp only [pt_];rfl) ?_
     refine pu_ 2 (some 55) #[true,true,true,false,false,false,false,false,false,false,false,false,false,false,false,false] rfl rfl (by kernel_rfl) (fun _ _ _ h=>h) (by rfl) (by intro w';go_simp;with_reducible rfl) (by simp only [pt_];rfl) ?_
     refine ta_ 3 (some 56) #[true,true,true,true,false,false,false,false,false,false,false,false,false,false,false,false] rfl rfl (by kernel_rfl) (fun _ _ _ h=>h) hHeld (by rfl) (by rintro w' ⟨s0,s1,s2⟩;go_simp;with_reducible rfl) (by simp only [pt_];rfl) ?_
     refine pu_ 4 (some 57) #[true,true,true,true,true,false,false,false,false,false,false,false,false,false,false,false] rfl rfl (by kernel_rfl) (fun _ _ _ h=>h) (by rfl) (by intro w';go_simp;with_reducible rfl) (by simp only [pt_];rfl) ?_
     refine pu_ 5 (some 58) #[true,true,true,true,true,true,false,false,false,false,false,false,false,false,false,false] rfl rfl (by kernel_rfl) (fun _ _ _ h=>h) (by rfl) (by intro w';go_simp;with_reducible rfl) (by simp only [pt_];rfl) ?_
     refine pu_ 6 (some 59) #[true,true,true,true,true,true,true,false,false,false,false,false,false,false,false,false] rfl rfl (by kernel_rfl) (fun _ _ _ h=>h) (by rfl) (by intro w';go_simp;with_reducible rfl) (by simp only [pt_];rfl) ?_
     refine pu_ 7 (some 60) #[true,true,true,true,true,true,true,true,false,false,false,false,false,false,false,false] rfl rfl (by kernel_rfl) (fun _ _ _ h=>h) (by rfl) (by intro w';go_simp;with_reducible rfl) (by simp only [pt_];rfl) ?_
     refine ta_ 8 (some 61) #[true,true,true,true,true,true,true,true,true,false,false,false,false,false,false,false] rfl rfl (by kernel_rfl) (fun _ _ _ h=>h) hHeld (by rfl) (by rintro w' ⟨s0,s1,s2⟩;go_simp;with_reducible rfl) (by simp only [pt_];rfl) ?_
     refine ta_ 9 (some 62) #[true,true,true,true,true,true,true,true,true,true,false,false,false,false,false,false] rfl rfl (by kernel_rfl) (fun _ _ _ h=>h) hHeld (by rfl) (by rintro w' ⟨s0,s1,s2⟩;go_simp;with_reducible rfl) (by simp only [pt_];rfl) ?_
     refine pu_ 10 (some 52) #[true,true,true,true,true,true,true,true,true,true,true,false,false,false,false,false] rfl rfl (by kernel_rfl) (fun _ _ _ h=>h) (by rfl) (by intro w';go_simp;with_reducible rfl) (by simp only [pt_];rfl) ?_
     refine pu_ 11 (some 63) #[true,true,true,true,true,true,true,true,true,true,true,true,false,false,false,false] rfl rfl (by kernel_rfl) (fun _ _ _ h=>h) (by rfl) (by intro w';go_simp;with_reducible rfl) (by simp only [pt_];rfl) ?_
     refine pu_ 12 (some 64) #[true,true,true,true,true,true,true,true,true,true,true,true,true,false,false,false] rfl rfl (by kernel_rfl) (fun _ _ _ h=>h) (by rfl) (by intro w';go_simp;with_reducible rfl) (by simp only [pt_];rfl) ?_
     refine one_ (i:=13) (N:=some 9) #[true,true,true,true,true,true,true,true,true,true,true,true,true,true,false,false] rfl rfl (by kernel_rfl) (by decide) (fun K hK=>?_)
     refine value_ (by rfl) rfl (by go_simp;constructor<;>rfl) ?_
     have hXb:Ext wr (wr.drew.alloc (.cells #[.bool false] 144)):=((Ext.refl wr).drew).alloc _
     refine hK.out _ _ ⟨hXb.cell c0r,hXb.cell k1r,HLk2.out _ (HSr.out.taken.ext hXb)⟩ (fun hHeld=>?_)
     clear hK K
     refine norm_ (by show Act.put _ (some 9) _=_;simp only [pt_];rfl) ?_
     refine last_ (i:=14) (N:=none) #[true,true,true,true,true,true,true,true,true,true,true,true,true,true,true,false] rfl rfl (by kernel_rfl) (by decide) (fun K hK=>?_)
     go_simp
     refine hK.out _ _ ?_
     clear hK K
     refine pu_ 15 (some 10) #[true,true,true,true,true,true,true,true,true,true,true,true,true,true,true,true] rfl rfl (by kernel_rfl) (fun _ _ _ h=>h) (by rfl) (by intro w';go_simp;with_reducible rfl) (by simp only [pt_];rfl) ?_
     refine done_ (by kernel_rfl) ?_
     clear hXb hHeld HLk2
     go_wp2_with fail
     refine ext_world (w0:=wr) (by (repeat' (first | assumption | exact Ext.refl _ | refine Ext.drew ?_ | refine Ext.alloc ?_ _ | refine Ext.set ?_ (by first | omega | (simp;done) | (simp;omega)) _ _))) ?_
     intro wa hXa
     have HXa:=Lib.hid hXa
     have HSa:=Lib.hid (HSr.out.ext hXa)
     have c0a:=hXa.cell c0r
     have k1a:=hXa.cell k1r
     obtain ⟨w6,r6,hM6,hT6⟩:=run_upd (kk:=strKey) (P:=Tryz.prog) (HSa.out.taken.ext ((Ext.refl wa).drew)) Tryz.underlying142 Tryz.underlying9 nm (varV false)
     have HR6:=Lib.hid r6
     have HS6:=Lib.hid ((HSa.out.ext ((Ext.refl wa).drew)).turnT hM6 hT6)
     have HT6:Hid (Tch w w6 C T (ms ++ [b]) (.slice a N1 cc) (.slice a N1 cc)):=(Tch.ext ((HXr.out.trans hXa).drew)).trans (Tch.turn hT6 (.inl rfl)) (fun _ h=>.inl h)
     clear hXa c0r k1r r6 hM6 hT6
     refine start_ (n:=11) (S:=fun w'=>w'.cell? ⟨C,3,none⟩=some (.map (some T))∧w'.cell? ⟨sb,1,none⟩=some (.string nm)) (ds:=[10]) #[false,false,false,false,false,false,false,false,false,false,false] (by kernel_rfl) rfl rfl ?hS (fun hHeld=>?_)
     case hS=>exact ⟨by simpa using c0a,by simpa using k1a⟩
     refine pu_ 0 (some 66) #[true,false,false,false,false,false,false,false,false,false,false] rfl rfl (by kernel_rfl) (fun _ _ _ h=>h) (by rfl) (by intro w';go_simp;with_reducible rfl) (by simp only [pt_];rfl) ?_
     refine pu_ 1 (some 67) #[true,true,false,false,false,false,false,false,false,false,false] rfl rfl (by kernel_rfl) (fun _ _ _ h=>h) (by rfl) (by intro w';go_simp;with_reducible rfl) (by simp only [pt_];rfl) ?_
     refine pu_ 2 (some 68) #[true,true,true,false,false,false,false,false,false,false,false] rfl rfl (by kernel_rfl) (fun _ _ _ h=>h) (by rfl) (by intro w';go_simp;with_reducible rfl) (by simp only [pt_];rfl) ?_
     refine ta_ 3 (some 69) #[true,true,true,true,false,false,false,false,false,false,false] rfl rfl (by kernel_rfl) (fun _ _ _ h=>h) hHeld (by rfl) (by rintro w' ⟨s0,s1⟩;go_simp;with_reducible rfl) (by simp only [pt_];rfl) ?_
     refine pu_ 4 (some 70) #[true,true,true,true,true,false,false,false,false,false,false] rfl rfl (by kernel_rfl) (fun _ _ _ h=>h) (by rfl) (by intro w';go_simp;with_reducible rfl) (by simp only [pt_];rfl) ?_
     refine pu_ 5 (some 71) #[true,true,true,true,true,true,false,false,false,false,false] rfl rfl (by kernel_rfl) (fun _ _ _ h=>h) (by rfl) (by intro w';go_simp;with_reducible rfl) (by simp only [pt_];rfl) ?_
     refine pu_ 6 (some 72) #[true,true,true,true,true,true,true,false,false,false,false] rfl rfl (by kernel_rfl) (fun _ _ _ h=>h) (by rfl) (by intro w';go_simp;with_reducible rfl) (by simp only [pt_];rfl) ?_
     refine pu_ 7 (some 73) #[true,true,true,true,true,true,true,true,false,false,false] rfl rfl (by kernel_rfl) (fun _ _ _ h=>h) (by rfl) (by intro w';go_simp;with_reducible rfl) (by simp only [pt_];rfl) ?_
     refine ta_ 8 (some 74) #[true,true,true,true,true,true,true,true,true,false,false] rfl rfl (by kernel_rfl) (fun _ _ _ h=>h) hHeld (by rfl) (by rintro w' ⟨s0,s1⟩;go_simp;with_reducible rfl) (by simp only [pt_];rfl) ?_
     refine pu_ 9 (some 75) #[true,true,true,true,true,true,true,true,true,true,false] rfl rfl (by kernel_rfl) (fun _ _ _ h=>h) (by rfl) (by intro w';go_simp;with_reducible rfl) (by simp only [pt_];rfl) ?_
     refine last_ (i:=10) (N:=none) #[true,true,true,true,true,true,true,true,true,true,true] rfl rfl (by kernel_rfl) (by decide) (fun K hK=>?_)
     refine skip_ (w1:=w6) (by rfl) rfl (exec_upd rfl rfl rfl rfl HR6.out) ?_
     refine hK.out _ _ ?_
     clear hK K
     refine done_ (by kernel_rfl) ?_
     have HB6:Hid (Below base w w6):=HT6.out.below HS.out
     obtain ⟨sb',vE',vF',ve',vf',vt',vu',ts',us',eP,hcs',_⟩:=(HSt.out _ HB6.out).op
     cases eP
     have k1b:w6.cell? ⟨sb,1,none⟩=some (.string nm):=hcs' 1 _ rfl
     have c2b:=(HS6.out.blk.cell 2).trans (show _=some (Value.slice a N1 cc) from rfl)
     obtain ⟨g0,d0,e0,_,_,hl0,hm0⟩:=rw_form HS6.out.sc.row (by simp)
     have e0':a=some ⟨g0,0,none⟩∧d0=cc:=by cases e0;exact ⟨rfl,rfl⟩
     obtain ⟨rfl,rfl⟩:=e0'
     have hrow:w6.ownsRow base 142 1 (.slice (some ⟨g0,0,none⟩) N1 d0) N1 ((ms ++ [b]).map fun b=>Value.map (some b)):=by
      have h:=HS6.out.sc.row
      rw [show (ms ++ [b]).length=N1 by rw [HN1.out];simp] at h
      exact h
     have hcell:=(rw_at hrow (i:=ms.length) (u:=.map (some b)) (by rw [List.getElem?_map,List.getElem?_append_right (Nat.le_refl _),Nat.sub_self];rfl)).1
     obtain ⟨J,hJ⟩:∃ J,J=ms.length:=⟨_,rfl⟩
     rw [← hJ] at hcell
     have p0:wrap64 ((N1:Int) - 1)=(J:Int):=by have:=HN1.out;unfold wrap64;omega
     have z0:(0:Int)≤(J:Int):=by omega
     have z1:(J:Int)<(N1:Int):=by have:=HN1.out;omega
     have hlen:ms.length=mm.length:=by have:=HS6.out.sc.len;simpa using this
     have hMb:=HS6.out.top hlen
     obtain ⟨w8,r8,hM8,hT8⟩:=run_upd (kk:=strKey) (P:=Tryz.prog) (hMb.ext ((Ext.refl w6).drew)) Tryz.underlying142 Tryz.underlying9 nm (varV false)
     have HR8:=Lib.hid r8
     have HSt3:=Lib.hid ((HS6.out.ext ((Ext.refl w6).drew)).turnTop hM8 hT8 hlen (hMb.ext ((Ext.refl w6).drew)))
     have HTc:Hid (Tch w w8 C T (ms ++ [b]) (.slice (some ⟨g0,0,none⟩) N1 d0) (.slice (some ⟨g0,0,none⟩) N1 d0)):=HT6.out.trans ((Tch.ext ((Ext.refl w6).drew)).trans (Tch.turn hT8 (.inr (by simp))) (fun _ h=>.inl h)) (fun _ h=>.inl h)
     have HNm3:Hid (Names t (mm ++ [updA m nm (varV false)]) SC):=by
      show Names _ _ _
      rw [HSC.out];exact HNm.out.decl nm
     have HTk3:Hid (TkRel t (updA tk nm (varV false)) TKL):=by
      show TkRel _ _ _
      rw [HTKL.out];exact HTk.out.decl nm false
     clear hcs' e0 hJ hlen hMb hrow r8 hM8 hT8 hl0 hHeld c0a k1a
     go_wp2_with fail
     refine start_ (n:=19) (S:=fun w'=>w'.cell? ⟨C,2,none⟩=some (.slice (some ⟨g0,0,none⟩) N1 d0)∧w'.cell? ⟨g0,J,none⟩=some (.map (some b))∧w'.cell? ⟨sb,1,none⟩=some (.string nm)) (ds:=[18]) #[false,false,false,false,false,false,false,false,false,false,false,false,false,false,false,false,false,false,false] (by kernel_rfl) rfl rfl ?hS (fun hHeld=>?_)
     case hS=>exact ⟨by simpa using c2b,by simpa using hcell,by simpa using k1b⟩
     refine pu_ 0 (some 76) #[true,false,false,false,false,false,false,false,false,false,false,false,false,false,false,false,false,false,false] rfl rfl (by kernel_rfl) (fun _ _ _ h=>h) (by rfl) (by intro w';go_simp;with_reducible rfl) (by simp only [pt_];rfl) ?_
     refine pu_ 1 (some 77) #[true,true,false,false,false,false,false,false,false,false,false,false,false,false,false,false,false,false,false] rfl rfl (by kernel_rfl) (fun _ _ _ h=>h) (by rfl) (by intro w';go_simp;with_reducible rfl) (by simp only [pt_];rfl) ?_
     refine pu_ 2 (some 78) #[true,true,true,false,false,false,false,false,false,false,false,false,false,false,false,false,false,false,false] rfl rfl (by kernel_rfl) (fun _ _ _ h=>h) (by rfl) (by intro w';go_simp;with_reducible rfl) (by simp only [pt_];rfl) ?_
     refine ta_ 3 (some 79) #[true,true,true,true,false,false,false,false,false,false,false,false,false,false,false,false,false,false,false] rfl rfl (by kernel_rfl) (fun _ _ _ h=>h) hHeld (by rfl) (by rintro w' ⟨s0,s1,s2⟩;go_simp;with_reducible rfl) (by simp only [pt_];rfl) ?_
     refine pu_ 4 (some 80) #[true,true,true,true,true,false,false,false,false,false,false,false,false,false,false,false,false,false,false] rfl rfl (by kernel_rfl) (fun _ _ _ h=>h) (by rfl) (by intro w';go_simp;with_reducible rfl) (by simp only [pt_];rfl) ?_
     refine pu_ 5 (some 81) #[true,true,true,true,true,true,false,false,false,false,false,false,false,false,false,false,false,false,false] rfl rfl (by kernel_rfl) (fun _ _ _ h=>h) (by rfl) (by intro w';go_simp;with_reducible rfl) (by simp only [pt_];rfl) ?_
     refine pu_ 6 (some 82) #[true,true,true,true,true,true,true,false,false,false,false,false,false,false,false,false,false,false,false] rfl rfl (by kernel_rfl) (fun _ _ _ h=>h) (by rfl) (by intro w';go_simp;with_reducible rfl) (by simp only [pt_];rfl) ?_
     refine ta_ 7 (some 83) #[true,true,true,true,true,true,true,true,false,false,false,false,false,false,false,false,false,false,false] rfl rfl (by kernel_rfl) (fun _ _ _ h=>h) hHeld (by rfl) (by rintro w' ⟨s0,s1,s2⟩;go_simp;with_reducible rfl) (by simp only [pt_];rfl) ?_
     refine pu_ 8 (some 84) #[true,true,true,true,true,true,true,true,true,false,false,false,false,false,false,false,false,false,false] rfl rfl (by kernel_rfl) (fun _ _ _ h=>h) (by rfl) (by intro w';go_simp;with_reducible rfl) (by simp only [pt_];rfl) ?_
     refine pu_ 9 (some 85) #[true,true,true,true,true,true,true,true,true,true,false,false,false,false,false,false,false,false,false] rfl rfl (by kernel_rfl) (fun _ _ _ h=>h) (by rfl) (by intro w';go_simp;with_reducible rfl) (by simp only [pt_];rfl) ?_
     refine pu_ 10 (some 86) #[true,true,true,true,true,true,true,true,true,true,true,false,false,false,false,false,false,false,false] rfl rfl (by kernel_rfl) (fun _ _ _ h=>h) (by rfl) (by intro w';go_simp;with_reducible rfl) (by simp only [pt_];rfl) ?_
     refine ta_ 11 (some 87) #[true,true,true,true,true,true,true,true,true,true,true,true,false,false,false,false,false,false,false] rfl rfl (by kernel_rfl) (fun _ _ _ h=>h) hHeld (by rfl) (by rintro w' ⟨s0,s1,s2⟩;go_simp;with_reducible rfl) (by simp only [pt_];rfl) ?_
     refine pu_ 12 (some 88) #[true,true,true,true,true,true,true,true,true,true,true,true,true,false,false,false,false,false,false] rfl rfl (by kernel_rfl) (fun _ _ _ h=>h) (by rfl) (by intro w';go_simp;with_reducible rfl) (by simp only [pt_];rfl) ?_
     refine pu_ 13 (some 89) #[true,true,true,true,true,true,true,true,true,true,true,true,true,true,false,false,false,false,false] rfl rfl (by kernel_rfl) (fun _ _ _ h=>h) (by rfl) (by intro w';go_simp;with_reducible rfl) (by simp only [pt_];rfl) ?_
     refine pu_ 14 (some 90) #[true,true,true,true,true,true,true,true,true,true,true,true,true,true,true,false,false,false,false] rfl rfl (by kernel_rfl) (fun _ _ _ h=>h) (by rfl) (by intro w';go_simp;with_reducible rfl) (by simp only [pt_];rfl) ?_
     refine pu_ 15 (some 91) #[true,true,true,true,true,true,true,true,true,true,true,true,true,true,true,true,false,false,false] rfl rfl (by kernel_rfl) (fun _ _ _ h=>h) (by rfl) (by intro w';go_simp;with_reducible rfl) (by simp only [pt_];rfl) ?_
     refine ta_ 16 (some 92) #[true,true,true,true,true,true,true,true,true,true,true,true,true,true,true,true,true,false,false] rfl rfl (by kernel_rfl) (fun _ _ _ h=>h) hHeld (by rfl) (by rintro w' ⟨s0,s1,s2⟩;go_simp;with_reducible rfl) (by simp only [pt_];rfl) ?_
     refine pu_ 17 (some 93) #[true,true,true,true,true,true,true,true,true,true,true,true,true,true,true,true,true,true,false] rfl rfl (by kernel_rfl) (fun _ _ _ h=>h) (by rfl) (by intro w';go_simp;with_reducible rfl) (by simp only [pt_];rfl) ?_
     refine last_ (i:=18) (N:=none) #[true,true,true,true,true,true,true,true,true,true,true,true,true,true,true,true,true,true,true] rfl rfl (by kernel_rfl) (by decide) (fun K hK=>?_)
     refine skip_ (w1:=w8) (by rfl) rfl (exec_upd rfl rfl rfl rfl HR8.out) ?_
     refine hK.out _ _ ?_
     clear hK K
     refine done_ (by kernel_rfl) ?_
     clear hHeld c2b k1b hcell p0 z0 z1
     have HBw:Hid (Below base w w8):=HTc.out.below HS.out
     obtain ⟨sb',vE',vF',ve',vf',vt',vu',ts',us',eP,hcs',_,_,_,_,_,_,_,_,slT,slU,zT,zU⟩:=(HSt.out _ HBw.out).op
     cases eP
     obtain ⟨aT',nT',cT',rfl⟩:=slT.shape
     have k9:World.cell? w8 ⟨sb,9,none⟩=some (.slice aT' nT' cT'):=hcs' 9 _ rfl
     have C1:=Lib.hid (HIT.out w8 _ ts' _ _ _ _ _ _ slT zT (HU.out _ HBw.out) HSt3.out (by simp) (by simp;omega) HNm3.out HTk3.out (Nat.le_trans Hb.out HBw.out.size))
     clear hcs' slT slU zT zU
     go_wp2_with fail
     refine C1.out.mono ?_
     rintro e w5 ⟨v5,mm5,tk5,hS5,hT5,hres⟩
     have HT5:=Lib.hid (HTc.out.trans hT5 (fun _ h=>.inl h))
     have HS5:=Lib.hid hS5
     clear C1 hS5 hT5
     rcases hres with ⟨er,a5,hr,rfl⟩ | ⟨tkl5,hr,rfl,hTk5,rfl⟩
     ·have Hr:=Lib.hid hr
      clear hr
      go_wp2
      go_ret
      exact ⟨v5,mm5,tk5,HS5.out,HT5.out,.inl ⟨er,a5,by rw [HRt.out];unfold insR;rw [Hr.out],rfl⟩⟩
     ·have HB5:Hid (Below base w w5):=HT5.out.below HS.out
      obtain ⟨sb',vE',vF',ve',vf',vt',vu',ts',us',eP,hcs',_,_,_,_,_,_,_,_,slT,slU,zT,zU⟩:=(HSt.out _ HB5.out).op
      cases eP
      obtain ⟨aU',nU',cU',rfl⟩:=slU.shape
      have k10:w5.cell? ⟨sb,10,none⟩=some (.slice aU' nU' cU'):=hcs' 10 _ rfl
      have C2:=Lib.hid (HIU.out w5 _ us' _ _ _ _ _ _ slU zU (HU.out _ HB5.out) HS5.out (by simp) (by simp;omega) HNm3.out hTk5 (Nat.le_trans Hb.out HB5.out.size))
      have Hr:=Lib.hid hr
      clear hcs' slT slU zT zU hr hTk5
      go_wp2_with fail
      refine C2.out.mono ?_
      rintro e w6 ⟨v6,mm6,tk6,hS6,hT6,hres⟩
      have HT6:=Lib.hid (HT5.out.trans hT6 (fun _ h=>.inl h))
      have HS6:=Lib.hid hS6
      clear C2 hS6 hT6
      rcases hres with ⟨er,a6,hr2,rfl⟩ | ⟨tkl6,hr2,rfl,hTk6,rfl⟩
      ·have Hr2:=Lib.hid hr2
       clear hr2
       go_wp2
       go_ret
       exact ⟨v6,mm6,tk6,HS6.out,HT6.out,.inl ⟨er,a6,by rw [HRt.out];unfold insR;rw [Hr.out];exact Hr2.out,rfl⟩⟩
      ·have Hr2:=Lib.hid hr2
       have HTk6:=Lib.hid hTk6
       clear hr2 hTk6
       go_wp2
       go_ret
       exact ⟨v6,_,tk6,HS6.out,HT6.out,.inr ⟨tkl6,by rw [HRt.out];unfold insR;rw [Hr.out];exact Hr2.out,rfl,HTk6.out,(updA m nm (varV false)),rfl,HNm3.out⟩⟩
   ·have HRt:Hid (R=insR t SC TKL TT UU):=by
     have h:=HRk.out
     unfold kindE at h
     simp only [if_neg h1,if_neg h2,if_neg h3] at h
     exact h
    have q1:(kd == 1)=false:=by simpa using h1
    have q2:(kd == 2)=false:=by simpa using h2
    have q3:(kd == 3)=false:=by simpa using h3
    have HSt3:=HSr
    have HTc:Hid (Tch w wr C T (ms ++ [b]) (.slice a N1 cc) (.slice a N1 cc)):=Tch.ext HXr.out
    have HNm3:Hid (Names t (mm ++ [m]) SC):=by
     show Names _ _ _
     rw [HSC.out];unfold sc1;rw [if_neg h1];exact HNm.out
    have HTk3:Hid (TkRel t tk TKL):=by
     show TkRel _ _ _
     rw [HTKL.out];unfold sc1;rw [if_neg h1];exact HTk.out
    clear h1 h2 h3 c0r c1r
    have HBw:Hid (Below base w wr):=HTc.out.below HS.out
    obtain ⟨sb',vE',vF',ve',vf',vt',vu',ts',us',eP,hcs',_,_,_,_,_,_,_,_,slT,slU,zT,zU⟩:=(HSt.out _ HBw.out).op
    cases eP
    obtain ⟨aT',nT',cT',rfl⟩:=slT.shape
    have k9:World.cell? wr ⟨sb,9,none⟩=some (.slice aT' nT' cT'):=hcs' 9 _ rfl
    have C1:=Lib.hid (HIT.out wr _ ts' _ _ _ _ _ _ slT zT (HU.out _ HBw.out) HSt3.out (by simp) (by simp;omega) HNm3.out HTk3.out (Nat.le_trans Hb.out HBw.out.size))
    clear hcs' slT slU zT zU
    go_wp2_with fail
    refine C1.out.mono ?_
    rintro e w5 ⟨v5,mm5,tk5,hS5,hT5,hres⟩
    have HT5:=Lib.hid (HTc.out.trans hT5 (fun _ h=>.inl h))
    have HS5:=Lib.hid hS5
    clear C1 hS5 hT5
    rcases hres with ⟨er,a5,hr,rfl⟩ | ⟨tkl5,hr,rfl,hTk5,rfl⟩
    ·have Hr:=Lib.hid hr
     clear hr
     go_wp2
     go_ret
     exact ⟨v5,mm5,tk5,HS5.out,HT5.out,.inl ⟨er,a5,by rw [HRt.out];unfold insR;rw [Hr.out],rfl⟩⟩
    ·have HB5:Hid (Below base w w5):=HT5.out.below HS.out
     obtain ⟨sb',vE',vF',ve',vf',vt',vu',ts',us',eP,hcs',_,_,_,_,_,_,_,_,slT,slU,zT,zU⟩:=(HSt.out _ HB5.out).op
     cases eP
     obtain ⟨aU',nU',cU',rfl⟩:=slU.shape
     have k10:w5.cell? ⟨sb,10,none⟩=some (.slice aU' nU' cU'):=hcs' 10 _ rfl
     have C2:=Lib.hid (HIU.out w5 _ us' _ _ _ _ _ _ slU zU (HU.out _ HB5.out) HS5.out (by simp) (by simp;omega) HNm3.out hTk5 (Nat.le_trans Hb.out HB5.out.size))
     have Hr:=Lib.hid hr
     clear hcs' slT slU zT zU hr hTk5
     go_wp2_with fail
     refine C2.out.mono ?_
     rintro e w6 ⟨v6,mm6,tk6,hS6,hT6,hres⟩
     have HT6:=Lib.hid (HT5.out.trans hT6 (fun _ h=>.inl h))
     have HS6:=Lib.hid hS6
     clear C2 hS6 hT6
     rcases hres with ⟨er,a6,hr2,rfl⟩ | ⟨tkl6,hr2,rfl,hTk6,rfl⟩
     ·have Hr2:=Lib.hid hr2
      clear hr2
      go_wp2
      go_ret
      exact ⟨v6,mm6,tk6,HS6.out,HT6.out,.inl ⟨er,a6,by rw [HRt.out];unfold insR;rw [Hr.out];exact Hr2.out,rfl⟩⟩
     ·have Hr2:=Lib.hid hr2
      have HTk6:=Lib.hid hTk6
      clear hr2 hTk6
      go_wp2
      go_ret
      exact ⟨v6,_,tk6,HS6.out,HT6.out,.inr ⟨tkl6,by rw [HRt.out];unfold insR;rw [Hr.out];exact Hr2.out,rfl,HTk6.out,m,rfl,HNm3.out⟩⟩
end Go.Proofs.YtcfggjmdcaoecaaGreatDoor
