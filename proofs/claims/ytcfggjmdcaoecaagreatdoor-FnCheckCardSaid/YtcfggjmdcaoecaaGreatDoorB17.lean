/- A part of the proofs of FnBound and FnCheck: the lemmas and walks SpecCkC. -/
import Derived.Deep.RegionHeld3
import Derived.IntWalk
import Derived.Test.YtcfggjmdcaoecaaGreatDoorB14
import Derived.Test.YtcfggjmdcaoecaaGreatDoorB03
import Derived.Test.YtcfggjmdcaoecaaGreatDoorB02
set_option linter.unusedVariables false
set_option linter.unusedSimpArgs false
namespace Go.Proofs.YtcfggjmdcaoecaaGreatDoor
open Go Go.RowKit Md Go.Proofs.YtcfggjmdcaoecaaGreatDoorW.PrintLast
theorem info_str:(Tryz.prog.info? 9).map (fun i=>(i.zero,i.size,i.bytes))=some (some (.string ⟨#[]⟩),1,16):=by kernel_rfl
theorem info_pst:(Tryz.prog.info? 102).map (·.size)=some 6:=by kernel_rfl
theorem bs0 (w:World):(Instr.buildSlice 80 0 #[]).run Tryz.prog w=.ok (.slice (some ⟨w.heap.size,0,none⟩) 0 0) (w.alloc (.cells #[] 9)):=by kernel_rfl
theorem bs1 (w:World) (x:ByteArray):(Instr.buildSlice 80 1 #[(0,.string x)]).run Tryz.prog w=.ok (.slice (some ⟨w.heap.size,0,none⟩) 1 1) (w.alloc (.cells #[.string x] 9)):=by kernel_rfl
def CkPost (w:World) (r:Ck) (e:Ending) (w':World):Prop :=
 ∃ er ea v tk,e=.returned (.tuple #[.int .i64 er,.int .i64 ea,v])∧Ext w w'∧SlStr AnyB w' v tk∧((r=.bad er ea∧er≠0)∨(er=0∧ea=0∧r=.ok tk))
theorem blk_cells2 {w:World} {g t:Nat} {a0 a1:Value} (h:Blk w g t #[a0,a1]):w.cell? ⟨g,0,none⟩=some a0∧w.cell? ⟨g,1,none⟩=some a1:=⟨(h.cell 0).trans rfl,(h.cell 1).trans rfl⟩
theorem blk_cells6 {w:World} {g t:Nat} {a0 a1 a2 a3 a4 a5:Value} (h:Blk w g t #[a0,a1,a2,a3,a4,a5]) :
  w.cell? ⟨g,0,none⟩=some a0∧w.cell? ⟨g,1,none⟩=some a1∧w.cell? ⟨g,2,none⟩=some a2∧w.cell? ⟨g,3,none⟩=some a3∧w.cell? ⟨g,4,none⟩=some a4∧w.cell? ⟨g,5,none⟩=some a5 :=
 ⟨(h.cell 0).trans rfl,(h.cell 1).trans rfl,(h.cell 2).trans rfl,(h.cell 3).trans rfl,(h.cell 4).trans rfl,(h.cell 5).trans rfl⟩
theorem Sl.sizes {K:Foot} {w:World} {v:Value} {l:List ByteArray} (h:SlStr K w v l):∀ x∈l,x.size≤maxLen:=by
 obtain ⟨a,cap,e,h1,h2,h3⟩:=h
 intro x hx
 obtain ⟨i,hi,rfl⟩:=List.getElem_of_mem hx
 obtain ⟨b,o,_,_,he⟩:=h3 (by omega)
 obtain ⟨cs,_,hC,_⟩:=he i hi
 exact hC.2
theorem blocks_at {l:List PStmt} {k p:Nat} {x:PStmt} {sts:List St} (hx:l[k]? = some x) (h:blocks (l.drop k) p=some sts):blocks (x :: l.drop (k+1)) p=some sts:=by
 obtain ⟨hk,e⟩:=List.getElem?_eq_some_iff.1 hx
 rwa [List.drop_eq_getElem_cons hk,e] at h
set_option maxRecDepth 1000000 in
set_option maxHeartbeats 0 in
theorem s_l3Block (K:Foot) (t:PTree) (vG vF:Value) (n:Nat):∀ (l:List PStmt) (p:Nat) (pi:Int) (hpi:pi=p) (sts:List St) (sc tk:List ByteArray) (vL vS vT:Value) (w:World) (hG:SlGlob K w vG t.globals) (hF:SlFunc K w vF t.funcs) (hL:SlStmt K w vL l) (hS:SlStr AnyB w vS sc) (hT:SlStr AnyB w vT tk)
  (hn:l.length=n) (hb:blocks l p=some sts) (hsc:sc.length+l.length≤1000000) (htk:tk.length+l.length≤1000000) (hp:p+l.length≤1000000),
  Calls Tryz.prog 84 #[.agg #[vG,vF],vL,.int .i64 pi,vS,vT] w (CkPost w (ckBlk t sc tk sts)):=by
 induction n using Nat.strongRecOn with
 | ind n ih =>
   intro l p pi hpi sts sc tk vL vS vT w hG hF hL hS hT hn hb hsc htk hp
   subst hpi
   obtain ⟨i1,hi1,hs1⟩:=Option.map_eq_some_iff.1 info_pst
   obtain ⟨iS,hiS,hzS,hsS,hbS⟩:=info_parts info_str
   obtain ⟨aG,nG,cG,rfl⟩:=hG.shape
   obtain ⟨aF,nF,cF,rfl⟩:=hF.shape
   obtain ⟨aS,nS,cS,rfl⟩:=hS.shape
   obtain ⟨aT,nT,cT,rfl⟩:=hT.shape
   obtain ⟨aL,len,cL,rfl,HlL,hlcL,hcmL,helL⟩:=hL.op
   have hll:=HlL.out
   have hlm:p+len≤1000000:=by omega
   obtain ⟨r,hr⟩:∃ r,r=ckBlk t sc tk sts:=⟨_,rfl⟩
   rw [← hr]
   have HG:=Lib.hid hG
   have HF:=Lib.hid hF
   have HL:=Lib.hid hL
   have HS:=Lib.hid hS
   have HT:=Lib.hid hT
   have HB:=Lib.hid hb
   have HR:=Lib.hid hr
   have HN:=Lib.hid hn
   have HSC:Hid (sc.length+len≤1000000):=by show _≤_;omega
   have HTK:Hid (tk.length+len≤1000000):=by show _≤_;omega
   have IH:=Lib.hid ih
   have BT:=Blk.alloc w 32 #[.slice aG nG cG,.slice aF nF cF]
   have X0:Ext w (w.alloc (.cells #[.slice aG nG cG,.slice aF nF cF] 32)):=(Ext.refl w).alloc _
   clear hG hF hL hS hT hb hr hn hsc htk hp hll ih
   go_enter Tryz.func84,Tryz.ntmps84
   go_wp2
   go_loopw [3,4,13] (fun v3 v4 i wr=>∃ (k:Nat) (sc tk:List ByteArray) (sts:List St),k≤len∧i=.int .i64 k∧Hid (SlStr AnyB wr v3 sc)∧Hid (SlStr AnyB wr v4 tk)∧Hid (blocks (l.drop k) (p+k)=some sts)∧Hid (r=ckBlk t sc tk sts)∧Hid (sc.length+(len - k)≤1000000)∧Hid (tk.length+(len - k)≤1000000)∧Hid (Ext (w.alloc (.cells #[.slice aG nG cG,.slice aF nF cF] 32)) wr)) (fun _ _ i _=>len - (intOf i).toNat)
   case atStart=>exact ⟨0,sc,tk,sts,Nat.zero_le _,rfl,HS.out.ext X0 (fun _ _ h=>h.any),HT.out.ext X0 (fun _ _ h=>h.any),by show _=_;rw [List.drop_zero,Nat.add_zero];exact HB.out,HR.out,HSC.out,HTK.out,Ext.refl _⟩
   case round =>
    clear HS HT HB HR HSC HTK
    obtain ⟨k,sc,tk,sts,hk,rfl,HS,HT,HB,HR,HSC,HTK,HX⟩:=hrel
    obtain ⟨aS',nS',cS',rfl⟩:=HS.out.shape
    obtain ⟨aT',nT',cT',rfl⟩:=HT.out.shape
    by_cases hlt:k<len
    ·obtain ⟨b,o,rfl,_,hel⟩:=helL (by omega)
     obtain ⟨x,cs,hx,_,hC,hcs⟩:=hel k hlt
     obtain ⟨vE,vF,rfl,sE,sF,q1,q2,q3,q4⟩:=hC
     have hX:=X0.trans HX.out
     have c0:=hX.cell (hcs.z rfl)
     have c1:=hX.cell (hcs 1 _ rfl)
     have c2:=hX.cell (hcs 2 _ rfl)
     have c3:=hX.cell (hcs 3 _ rfl)
     have c4:=hX.cell (hcs 4 _ rfl)
     have c5:=hX.cell (hcs 5 _ rfl)
     obtain ⟨ex,T,U,R,_,hok,ht0,hu0,hle,hbT,hbU,hbR,hsts⟩:=blocks_inv (blocks_at hx HB.out)
     subst hsts
     have hr1:=HR.out
     rw [ck_cons] at hr1
     have hkd:=stOk_range hok
     obtain ⟨aE,nE,cE,rfl⟩:=sE.shape
     obtain ⟨aFF,nFF,cFF,rfl⟩:=sF.shape
     obtain ⟨kind,name,xe,xf,thn,els⟩:=x
     simp only at *
     obtain ⟨tn,rfl⟩:=Int.eq_ofNat_of_zero_le ht0
     obtain ⟨un,rfl⟩:=Int.eq_ofNat_of_zero_le hu0
     simp only [Int.toNat_natCast] at hle hbT hbU hbR
     have HE1:=Lib.hid (fun w' (h:Ext wr w')=>s_l3Expr K AnyB K t _ _ _ _ sc xe w' (HG.out.ext (hX.trans h) (fun _ _ h=>h.any)) (HF.out.ext (hX.trans h) (fun _ _ h'=>h'.ext (hX.trans h))) (HS.out.ext h (fun _ _ h=>h.any)) (sE.ext (hX.trans h) (fun _ _ h=>h.any)))
     have HF1:=Lib.hid (fun w' (h:Ext wr w')=>s_l3Expr K AnyB K t _ _ _ _ sc xf w' (HG.out.ext (hX.trans h) (fun _ _ h=>h.any)) (HF.out.ext (hX.trans h) (fun _ _ h'=>h'.ext (hX.trans h))) (HS.out.ext h (fun _ _ h=>h.any)) (sF.ext (hX.trans h) (fun _ _ h=>h.any)))
     have HU1:=Lib.hid (fun (arr:Bool) w' (h:Ext wr w')=>s_l3Use K AnyB t _ _ _ sc name arr w' (HG.out.ext (hX.trans h) (fun _ _ h=>h.any)) (HF.out.ext (hX.trans h) (fun _ _ h'=>h'.ext (hX.trans h))) (HS.out.ext h (fun _ _ h=>h.any)))
     have HI1:=Lib.hid (fun w' (h:Ext wr w')=>s_l3In AnyB tk _ name w' (HT.out.ext h (fun _ _ h=>h.any)))
     have HG1:=Lib.hid (fun w' (h:Ext wr w')=>s_l3Global K t _ _ name w' (HG.out.ext (hX.trans h) (fun _ _ h=>h.any)) (HF.out.ext (hX.trans h) (fun _ _ h'=>h'.ext (hX.trans h))))
     have BX:=Blk.alloc wr 102 #[.int .i64 kind,.string name,.slice aE nE cE,.slice aFF nFF cFF,.int .i64 tn,.int .i64 un]
     have X1:Ext wr (wr.alloc (.cells #[.int .i64 kind,.string name,.slice aE nE cE,.slice aFF nFF cFF,.int .i64 tn,.int .i64 un] 102)):=(Ext.refl wr).alloc _
     have BT1:=(BT.ext HX.out).ext X1
     have HSt:Hid (stE t sc tk ⟨kind,name,xe,xf,tn,un⟩=stE t sc tk ⟨kind,name,xe,xf,tn,un⟩):=rfl
     have Hbad:Hid (∀ e:Int,stE t sc tk ⟨kind,name,xe,xf,tn,un⟩=e→e≠0→r=.bad e ((p:Int)+(k:Int))):=fun e he h0=>by
      rw [hr1,if_neg (by rw [he];exact h0),he];rfl
     have Hok1:Hid (stE t sc tk ⟨kind,name,xe,xf,tn,un⟩=0→r=ckTail t (sc1 ⟨kind,name,xe,xf,tn,un⟩ sc) (sc1 ⟨kind,name,xe,xf,tn,un⟩ tk) T U R):=fun h=>by rw [hr1,if_pos h]
     have HBT:=Lib.hid hbT
     have HBU:=Lib.hid hbU
     have HBR:=Lib.hid hbR
     have HOK:=Lib.hid hok
     have HLE:=Lib.hid hle
     clear hel hcs hx hr1 sE sF hok hle hbT hbU hbR ht0 hu0
     have g0:(0:Int)≤(k:Int):=by omega
     have g1:(k:Int)<(len:Int):=by omega
     have hHX:=Lib.hid hX
     clear hX
     obtain ⟨t0,t1⟩:=blk_cells2 BT1
     obtain ⟨e1,he1⟩:∃ e1,e1=exprE t sc xe:=⟨_,rfl⟩
     rw [← he1] at HE1
     have HEE:=Lib.hid he1
     clear he1
     go_wp2_with fail
     refine (HE1.out _ X1).mono ?_
     rintro e w2 ⟨rfl,hX2⟩
     have X2:Ext wr w2:=X1.trans hX2
     replace BX:=BX.ext hX2
     replace BT1:=BT1.ext hX2
     clear hX2 t0 t1 X1 c0 c1 c2 c3 c4 c5 HE1
     obtain ⟨t0,t1⟩:=blk_cells2 BT1
     obtain ⟨d0,d1,d2,d3,d4,d5⟩:=blk_cells6 BX
     by_cases h1:e1=0
     rotate_left
     ·have b1:(e1 == 0)=false:=by simpa using h1
      have b1':(e1 != 0)=true:=by simpa using h1
      have H1:=Lib.hid h1
      clear h1
      go_wp2
      refine bodyPost_ret (v:=.tuple #[.int .i64 e1,.int .i64 ((p:Int)+(k:Int)),.slice aT' nT' cT']) (by simp [results,Tryz.results84,go_sem]) rfl ?_
      exact ⟨_,_,_,tk,rfl,(hHX.out.trans X2),HT.out.ext X2 (fun _ _ h=>h.any),.inl ⟨Hbad.out _ (by unfold stE;simp only;rw [if_neg (by rw [← HEE.out];exact H1.out)];exact HEE.out.symm) H1.out,H1.out⟩⟩
     subst h1
     obtain ⟨e2,he2⟩:∃ e2,e2=exprE t sc xf:=⟨_,rfl⟩
     rw [← he2] at HF1
     have HFE:=Lib.hid he2
     clear he2
     go_wp2_with fail
     refine (HF1.out _ X2).mono ?_
     rintro e w3 ⟨rfl,hX3⟩
     have X3:Ext wr w3:=X2.trans hX3
     replace BX:=BX.ext hX3
     replace BT1:=BT1.ext hX3
     clear hX3 t0 t1 d0 d1 d2 d3 d4 d5 X2 HF1
     obtain ⟨t0,t1⟩:=blk_cells2 BT1
     obtain ⟨d0,d1,d2,d3,d4,d5⟩:=blk_cells6 BX
     by_cases h1:e2=0
     rotate_left
     ·have b1:(e2 == 0)=false:=by simpa using h1
      have b1':(e2 != 0)=true:=by simpa using h1
      have H1:=Lib.hid h1
      clear h1
      go_wp2
      refine bodyPost_ret (v:=.tuple #[.int .i64 e2,.int .i64 ((p:Int)+(k:Int)),.slice aT' nT' cT']) (by simp [results,Tryz.results84,go_sem]) rfl ?_
      exact ⟨_,_,_,tk,rfl,(hHX.out.trans X3),HT.out.ext X3 (fun _ _ h=>h.any),.inl ⟨Hbad.out _ (by unfold stE;simp only;rw [if_pos HEE.out.symm,if_neg (by rw [← HFE.out];exact H1.out)];exact HFE.out.symm) H1.out,H1.out⟩⟩
     subst h1
     have hsum:Hid (∀ e:Int,e≠0→stE t sc tk ⟨kind,name,xe,xf,tn,un⟩=e→r=.bad e ((p:Int)+(k:Int))):=fun e h0 he=>Hbad.out e he h0
     by_cases hk1:kind=1
     ·subst hk1
      have b1:((1:Int) == 1)=true:=rfl
      have hst:stE t sc tk ⟨1,name,xe,xf,tn,un⟩=if name∈tk∨0≤gsize t name then 2 else 0:=by unfold stE;simp only;rw [if_pos HEE.out.symm,if_pos HFE.out.symm];simp
      have HST:=Lib.hid hst
      have HI2:=Lib.hid (HI1.out w3 X3)
      have HG2:=Lib.hid (HG1.out w3 X3)
      obtain ⟨z,hz⟩:∃ z,z=gsize t name:=⟨_,rfl⟩
      rw [← hz] at HG2 HST
      clear hst b1 hz
      obtain ⟨bi,hbi⟩:∃ bi:Bool,bi=decide (name∈tk):=⟨_,rfl⟩
      rw [← hbi] at HI2
      go_wp2_with fail
      refine HI2.out.mono ?_
      rintro e w4 ⟨rfl,rfl⟩
      cases bi with
      | true =>
        have hin:name∈tk:=of_decide_eq_true hbi.symm
        have HIN:=Lib.hid hin
        clear hin hbi
        go_wp2
        refine bodyPost_ret (v:=.tuple #[.int .i64 2,.int .i64 ((p:Int)+(k:Int)),.slice aT' nT' cT']) (by simp [results,Tryz.results84,go_sem]) rfl ?_
        exact ⟨_,_,_,tk,rfl,(hHX.out.trans X3),HT.out.ext X3 (fun _ _ h=>h.any),.inl ⟨Hbad.out 2 (by rw [HST.out,if_pos (.inl HIN.out)]) (by decide),by decide⟩⟩
      | false =>
      have HIN:=Lib.hid (of_decide_eq_false hbi.symm)
      clear hbi
      go_wp2_with fail
      refine HG2.out.mono ?_
      rintro e w4 ⟨rfl,hX4⟩
      have X4:Ext wr w4:=X3.trans hX4
      replace BX:=BX.ext hX4
      replace BT1:=BT1.ext hX4
      clear t0 t1 d0 d1 d2 d3 d4 d5 X3 hX4
      obtain ⟨d0,d1,d2,d3,d4,d5⟩:=blk_cells6 BX
      by_cases h1:0≤z
      ·have H1:=Lib.hid h1
       go_wp2
       refine bodyPost_ret (v:=.tuple #[.int .i64 2,.int .i64 ((p:Int)+(k:Int)),.slice aT' nT' cT']) (by simp [results,Tryz.results84,go_sem]) rfl ?_
       exact ⟨_,_,_,tk,rfl,(hHX.out.trans X4),HT.out.ext X4 (fun _ _ h=>h.any),.inl ⟨Hbad.out 2 (by rw [HST.out,if_pos (.inr H1.out)]) (by decide),by decide⟩⟩
      have hr5:=Hok1.out (by rw [HST.out,if_neg (fun h=>h.elim HIN.out h1)])
      have hsame:∀ l:List ByteArray,sc1 ⟨1,name,xe,xf,tn,un⟩ l=l ++ [name]:=fun l=>by unfold sc1;simp
      rw [hsame,hsame] at hr5
      have HR5:=Lib.hid hr5
      clear hr5 hsame
      go_wp2_with fail
      clear d0 d2 d3 d4 d5 h1
      refine start_ (n:=8) (S:=(fun w'=>w'.cell? ⟨wr.heap.size,1,none⟩=some (.string name))) (ds:=[]) #[false,false,false,false,false,false,false,false] (by kernel_rfl) rfl rfl ?hS (fun hHeld=>?_)
      case hS=>exact d1
      refine pu_ 1 (some 88) #[false,true,false,false,false,false,false,false] rfl rfl (by kernel_rfl) (fun _ _ _ h=>h) (by rfl) (by intro w';go_simp;with_reducible rfl) (by simp only [pt_];rfl) ?_
      refine pu_ 3 (some 90) #[false,true,false,true,false,false,false,false] rfl rfl (by kernel_rfl) (fun _ _ _ h=>h) (by rfl) (by intro w';go_simp;with_reducible rfl) (by simp only [pt_];rfl) ?_
      refine ta_ 4 (some 91) #[false,true,false,true,true,false,false,false] rfl rfl (by kernel_rfl) (fun _ _ _ h=>h) hHeld (by rfl) (by rintro w' s1;go_simp;with_reducible rfl) (by simp only [pt_];rfl) ?_
      refine app2 (.string) CStr (fun _ _ _ h=>h.1) (fun _=>rfl) Tryz.underlying80 hiS hzS hsS hbS rfl bs0 bs1 (fun w' h=>h.cell hHeld) (by decide) ⟨by exact (by decide:87<171),by exact (by decide:89<171),by exact (by decide:92<171),by exact (by decide:93<171)⟩ AnyB (.slice aS' nS' cS') sc name rfl (HS.out.ext (X4.trans ((Ext.refl w4).drew)) (fun _ _ h=>h.any)) rfl (by have:=HSC.out;omega) (by have:=HSC.out;omega) (fun _ _ _ _ _ h=>h.any) (fun _=>⟨rfl,q4⟩) _ rfl ?_
      intro v0 v2 v5 v6 w5 ho5 hX5
      have hs5:SlStr AnyB w5 v6 (sc ++ [name]):=sl_own (.string) CStr (fun _ _=>.inr trivial) ho5 (fun _ _=>trivial) (fun y hy=>⟨rfl,by
       rcases List.mem_append.1 hy with hy | hy
       ·exact Sl.sizes HS.out y hy
       ·rw [List.mem_singleton.1 hy];exact q4⟩)
      obtain ⟨aS5,nS5,cS5,rfl⟩:=hs5.shape
      have X5:Ext wr w5:=X4.trans (((Ext.refl w4).drew).trans hX5)
      have HS5:=Lib.hid hs5
      replace BX:=(BX.ext ((Ext.refl w4).drew)).ext hX5
      replace BT1:=(BT1.ext ((Ext.refl w4).drew)).ext hX5
      clear hs5 ho5 hX5 hHeld d1
      simp only [Act.put,List.setIfInBounds_toArray,List.set_cons_zero,List.set_cons_succ]
      go_wp2_with fail
      obtain ⟨e0,e1,e2,e3,e4,e5⟩:=blk_cells6 BX
      clear e0 e2 e3 e4 e5
      refine start_ (n:=8) (S:=(fun w'=>w'.cell? ⟨wr.heap.size,1,none⟩=some (.string name))) (ds:=[]) #[false,false,false,false,false,false,false,false] (by kernel_rfl) rfl rfl ?hS (fun hHeld=>?_)
      case hS=>exact e1
      refine pu_ 1 (some 95) #[false,true,false,false,false,false,false,false] rfl rfl (by kernel_rfl) (fun _ _ _ h=>h) (by rfl) (by intro w';go_simp;with_reducible rfl) (by simp only [pt_];rfl) ?_
      refine pu_ 3 (some 97) #[false,true,false,true,false,false,false,false] rfl rfl (by kernel_rfl) (fun _ _ _ h=>h) (by rfl) (by intro w';go_simp;with_reducible rfl) (by simp only [pt_];rfl) ?_
      refine ta_ 4 (some 98) #[false,true,false,true,true,false,false,false] rfl rfl (by kernel_rfl) (fun _ _ _ h=>h) hHeld (by rfl) (by rintro w' s1;go_simp;with_reducible rfl) (by simp only [pt_];rfl) ?_
      refine app2 (.string) CStr (fun _ _ _ h=>h.1) (fun _=>rfl) Tryz.underlying80 hiS hzS hsS hbS rfl bs0 bs1 (fun w' h=>h.cell hHeld) (by decide) ⟨by exact (by decide:94<171),by exact (by decide:96<171),by exact (by decide:99<171),by exact (by decide:100<171)⟩ AnyB (.slice aT' nT' cT') tk name rfl (HT.out.ext (X5.trans ((Ext.refl w5).drew)) (fun _ _ h=>h.any)) rfl (by have:=HTK.out;omega) (by have:=HTK.out;omega) (fun _ _ _ _ _ h=>h.any) (fun _=>⟨rfl,q4⟩) _ rfl ?_
      intro v0 v2 v5 v6 w6 ho6 hX6
      have hs6:SlStr AnyB w6 v6 (tk ++ [name]):=sl_own (.string) CStr (fun _ _=>.inr trivial) ho6 (fun _ _=>trivial) (fun y hy=>⟨rfl,by
       rcases List.mem_append.1 hy with hy | hy
       ·exact Sl.sizes HT.out y hy
       ·rw [List.mem_singleton.1 hy];exact q4⟩)
      obtain ⟨aT5,nT5,cT5,rfl⟩:=hs6.shape
      have hX56:=((Ext.refl w5).drew).trans hX6
      replace X5:Ext wr w6:=X5.trans hX56
      replace HS5:=Lib.hid (HS5.out.ext hX56 (fun _ _ h=>h.any))
      have HT5:=Lib.hid hs6
      replace BX:=BX.ext hX56
      replace BT1:=BT1.ext hX56
      clear hs6 ho6 hX6 hHeld e1 hX56
      simp only [Act.put,List.setIfInBounds_toArray,List.set_cons_zero,List.set_cons_succ]
      obtain ⟨sc5,tk5,HS5,HT5,HR5,HSC5,HTK5⟩:∃ sc5 tk5,Hid (SlStr AnyB w6 (.slice aS5 nS5 cS5) sc5)∧Hid (SlStr AnyB w6 (.slice aT5 nT5 cT5) tk5)∧Hid (r=ckTail t sc5 tk5 T U R)∧Hid (sc5.length+(len - (k+1))≤1000000)∧Hid (tk5.length+(len - (k+1))≤1000000) :=
       ⟨sc ++ [name],tk ++ [name],HS5.out,HT5.out,HR5.out,by have:=HSC.out;show _≤_;simp;omega,by have:=HTK.out;show _≤_;simp;omega⟩
      obtain ⟨w5,hw5⟩:∃ w5,w5=w6:=⟨_,rfl⟩
      go_wp2_with fail
      rw [← hw5] at X5 HS5 HT5 BX BT1 ⊢
      clear hw5
      have hld:(l.drop (k+1)).length=len - (k+1):=by rw [List.length_drop,HlL.out]
      have hle2:tn+un≤len - (k+1):=by have:=HLE.out;omega
      obtain ⟨aQ,hcutQ,hatQ⟩:=cut_mid_int Tryz.underlying81 hi1 hs1 (some ⟨b,o,none⟩) len cL (k+1) (k+1+tn) ((k:Int)+1) ((k:Int)+1+(tn:Int)) (by omega) (by omega) (by omega) (by omega)
      have y1:IntKind.i64.wrap ((k:Int)+1)=(k:Int)+1:=IntWalk.i64_in _ (by omega)
      have y2:IntKind.i64.wrap ((k:Int)+1+(tn:Int))=(k:Int)+1+(tn:Int):=IntWalk.i64_in _ (by omega)
      have y3:IntKind.i64.wrap ((p:Int)+(k:Int))=(p:Int)+(k:Int):=IntWalk.i64_in _ (by omega)
      have y4:IntKind.i64.wrap ((p:Int)+(k:Int)+1)=(p:Int)+(k:Int)+1:=IntWalk.i64_in _ (by omega)
      have hsl:=(HL.out.ext ((hHX.out.trans X5).trans ((Ext.refl w5).drew)) (fun _ _ h'=>h'.ext ((hHX.out.trans X5).trans ((Ext.refl w5).drew)))).cutAt (k+1) tn (by omega) (c:=cL - (k+1)) (by omega) (by omega) (by rw [show k+1+tn - (k+1)=tn by omega] at hatQ;exact hatQ)
      rw [show k+1+tn - (k+1)=tn by omega] at hcutQ
      have HSL:=Lib.hid hsl
      have HQ:=Lib.hid hcutQ
      have HLD:=Lib.hid hld
      have hX17:=(hHX.out.trans X5).trans ((Ext.refl w5).drew)
      have HIT:=Lib.hid (IH.out tn (by have:=HN.out;have:=HlL.out;omega) ((l.drop (k+1)).take tn) (p+k+1) ((p:Int)+(k:Int)+1) (by omega) T sc5 tk5 _ _ _ w5.drew (HG.out.ext hX17 (fun _ _ h=>h.any)) (HF.out.ext hX17 (fun _ _ h'=>h'.ext hX17)) HSL.out (HS5.out.ext ((Ext.refl w5).drew) (fun _ _ h=>h.any)) (HT5.out.ext ((Ext.refl w5).drew) (fun _ _ h=>h.any)) (by rw [List.length_take];omega) HBT.out (by have:=HSC5.out;rw [List.length_take];omega) (by have:=HTK5.out;rw [List.length_take];omega) (by rw [List.length_take];omega))
      clear hsl hld hX17 hatQ
      clear hcutQ
      have hcutQ:=HQ.out
      obtain ⟨t0,t1⟩:=blk_cells2 BT1
      obtain ⟨d0,d1,d2,d3,d4,d5⟩:=blk_cells6 BX
      go_region_held3 (fun w'=>w'.cell? ⟨w.heap.size,0,none⟩=some (.slice aG nG cG)∧w'.cell? ⟨w.heap.size,1,none⟩=some (.slice aF nF cF)∧w'.cell? ⟨wr.heap.size,4,none⟩=some (.int .i64 (tn:Int)))
       (first | go_keep | (refine ⟨hX6.cell ?_,hX6.cell ?_,hX6.cell ?_⟩<;>simp [*]))
       (first
        | (go_at_call 84;(refine HIT.out.mono ?_);rintro e6 w6 ⟨er,ea,ev,tk6,rfl,hX6,hT6,hc6⟩;obtain ⟨aT6,nT6,cT6,rfl⟩:=hT6.shape))
      have X6:Ext wr w6:=X5.trans (((Ext.refl w5).drew).trans hX6)
      replace BX:=(BX.ext ((Ext.refl w5).drew)).ext hX6
      replace BT1:=(BT1.ext ((Ext.refl w5).drew)).ext hX6
      have HT6:=Lib.hid hT6
      have HS6:=Lib.hid (HS5.out.ext (((Ext.refl w5).drew).trans hX6) (fun _ _ h=>h.any))
      clear t0 t1 d0 d1 d2 d3 d4 d5 hT6 HT5 HS5 X5 hX6 HIT HSL HQ hcutQ y1 y2
      rcases hc6 with ⟨hr6,hne⟩ | ⟨rfl,rfl,hr6⟩
      ·have b4:(er == 0)=false:=by simpa using hne
       have b5:(er != 0)=true:=by simpa using hne
       have HNE:=Lib.hid hne
       have hrr:r=.bad er ea:=by
        have:=HR5.out
        unfold ckTail at this
        rw [hr6] at this
        exact this
       have HRR:=Lib.hid hrr
       clear hr6 hne hrr
       go_wp2
       refine bodyPost_ret (v:=.tuple #[.int .i64 er,.int .i64 ea,.slice aT6 nT6 cT6]) (by simp [results,Tryz.results84,go_sem]) rfl ?_
       exact ⟨_,_,_,tk6,rfl,hHX.out.trans X6,HT6.out,.inl ⟨HRR.out,HNE.out⟩⟩
      have hlen6:tk6.length≤tk5.length+tn:=by
       have:=ck_len t tn ((l.drop (k+1)).take tn) (p+k+1) T sc5 tk5 tk6 (by rw [List.length_take];omega) HBT.out hr6
       rw [List.length_take] at this
       omega
      have HR6:Hid (r=(match ckBlk t sc5 tk6 U with | .bad e a=>.bad e a | .ok tk3=>ckBlk t sc5 tk3 R)):=by
       have:=HR5.out
       unfold ckTail at this
       rw [hr6] at this
       exact this
      have HL6:=Lib.hid hlen6
      clear hr6 hlen6 HR5
      obtain ⟨aU,hcutU,hatU⟩:=cut_mid_int Tryz.underlying81 hi1 hs1 (some ⟨b,o,none⟩) len cL (k+1+tn) (k+1+tn+un) ((k:Int)+1+(tn:Int)) ((k:Int)+1+(tn:Int)+(un:Int)) (by omega) (by omega) (by omega) (by omega)
      have z1:IntKind.i64.wrap ((k:Int)+1)=(k:Int)+1:=IntWalk.i64_in _ (by omega)
      have z2:IntKind.i64.wrap ((k:Int)+1+(tn:Int))=(k:Int)+1+(tn:Int):=IntWalk.i64_in _ (by omega)
      have z3:IntKind.i64.wrap ((k:Int)+1+(tn:Int)+(un:Int))=(k:Int)+1+(tn:Int)+(un:Int):=IntWalk.i64_in _ (by omega)
      have z4:IntKind.i64.wrap ((p:Int)+(k:Int)+1+(tn:Int))=(p:Int)+(k:Int)+1+(tn:Int):=IntWalk.i64_in _ (by omega)
      have hsl:=(HL.out.ext ((hHX.out.trans X6).trans ((Ext.refl w6).drew)) (fun _ _ h'=>h'.ext ((hHX.out.trans X6).trans ((Ext.refl w6).drew)))).cutAt (k+1+tn) un (by omega) (c:=cL - (k+1+tn)) (by omega) (by omega) (by rw [show k+1+tn+un - (k+1+tn)=un by omega] at hatU;exact hatU)
      rw [show k+1+tn+un - (k+1+tn)=un by omega] at hcutU
      have HSL:=Lib.hid hsl
      have HQ:=Lib.hid hcutU
      have hX17:=(hHX.out.trans X6).trans ((Ext.refl w6).drew)
      have HIU:=Lib.hid (IH.out un (by have:=HN.out;have:=HlL.out;omega) ((l.drop (k+1+tn)).take un) (p+k+1+tn) ((p:Int)+(k:Int)+1+(tn:Int)) (by omega) U sc5 tk6 _ _ _ w6.drew (HG.out.ext hX17 (fun _ _ h=>h.any)) (HF.out.ext hX17 (fun _ _ h'=>h'.ext hX17)) HSL.out (HS6.out.ext ((Ext.refl w6).drew) (fun _ _ h=>h.any)) (HT6.out.ext ((Ext.refl w6).drew) (fun _ _ h=>h.any)) (by have:=HlL.out;rw [List.length_take,List.length_drop];omega) (by have:=HBU.out;rw [List.drop_drop] at this;exact this) (by have:=HSC5.out;have:=HlL.out;rw [List.length_take,List.length_drop];omega) (by have:=HTK5.out;have:=HL6.out;have:=HlL.out;rw [List.length_take,List.length_drop];omega) (by have:=HlL.out;rw [List.length_take,List.length_drop];omega))
      clear hsl hX17 hatU
      clear hcutU
      have hcutU:=HQ.out
      obtain ⟨t0,t1⟩:=blk_cells2 BT1
      obtain ⟨d0,d1,d2,d3,d4,d5⟩:=blk_cells6 BX
      go_wp2_with fail
      go_region_held3 (fun w'=>w'.cell? ⟨w.heap.size,0,none⟩=some (.slice aG nG cG)∧w'.cell? ⟨w.heap.size,1,none⟩=some (.slice aF nF cF)∧w'.cell? ⟨wr.heap.size,4,none⟩=some (.int .i64 (tn:Int))∧w'.cell? ⟨wr.heap.size,5,none⟩=some (.int .i64 (un:Int)))
       (first | go_keep | (refine ⟨hX7.cell ?_,hX7.cell ?_,hX7.cell ?_,hX7.cell ?_⟩<;>simp [*]))
       (first
        | (go_at_call 84;(refine HIU.out.mono ?_);rintro e7 w7 ⟨er,ea,ev,tk7,rfl,hX7,hT7,hc7⟩;obtain ⟨aT7,nT7,cT7,rfl⟩:=hT7.shape))
      have X7:Ext wr w7:=X6.trans (((Ext.refl w6).drew).trans hX7)
      replace BX:=(BX.ext ((Ext.refl w6).drew)).ext hX7
      have HT7:=Lib.hid hT7
      have HS7:=Lib.hid (HS6.out.ext (((Ext.refl w6).drew).trans hX7) (fun _ _ h=>h.any))
      clear t0 t1 d0 d1 d2 d3 d4 d5 hT7 HT6 HS6 hX7 HIU HSL HQ hcutU z1 z2 z3 z4 y3 y4 X6 BT1
      obtain ⟨d0,d1,d2,d3,d4,d5⟩:=blk_cells6 BX
      rcases hc7 with ⟨hr7,hne⟩ | ⟨rfl,rfl,hr7⟩
      ·have b4:(er == 0)=false:=by simpa using hne
       have b5:(er != 0)=true:=by simpa using hne
       have HNE:=Lib.hid hne
       have hrr:r=.bad er ea:=by
        have:=HR6.out
        rw [hr7] at this
        exact this
       have HRR:=Lib.hid hrr
       clear hr7 hne hrr
       go_wp2
       refine bodyPost_ret (v:=.tuple #[.int .i64 er,.int .i64 ea,.slice aT7 nT7 cT7]) (by simp [results,Tryz.results84,go_sem]) rfl ?_
       exact ⟨_,_,_,tk7,rfl,hHX.out.trans X7,HT7.out,.inl ⟨HRR.out,HNE.out⟩⟩
      have hlen7:tk7.length≤tk6.length+un:=by
       have hbu:=HBU.out
       rw [List.drop_drop] at hbu
       have:=ck_len t un ((l.drop (k+1+tn)).take un) (p+k+1+tn) U sc5 tk6 tk7 (by rw [List.length_take];omega) hbu hr7
       rw [List.length_take] at this
       omega
      have HR7:Hid (r=ckBlk t sc5 tk7 R):=by
       have:=HR6.out
       rw [hr7] at this
       exact this
      have HL7:=Lib.hid hlen7
      have HX7:=Lib.hid (HX.out.trans X7)
      clear hr7 hlen7 HR6
      go_wp2
      go_roundw
      case rel =>
       refine ⟨k+1+tn+un,sc5,tk7,R,by omega,by go_num,HS7.out,HT7.out,?_,HR7.out,?_,?_,HX7.out⟩
       ·show _=_
        have:=HBR.out
        rw [List.drop_drop] at this
        rw [show k+1+tn+un=k+1+(tn+un) by omega,show p+(k+1+(tn+un))=p+k+1+tn+un by omega]
        exact this
       ·have:=HSC5.out;show _≤_;omega
       ·have:=HTK5.out;have:=HL6.out;have:=HL7.out;show _≤_;omega
      case measure=>simp [intOf];omega
     ·have b1:(kind == 1)=false:=by simpa using hk1
      by_cases hk2:kind=2
      ·subst hk2
       have b2:((2:Int) == 2)=true:=rfl
       obtain ⟨u,hu⟩:∃ u,u=useE t sc name false:=⟨_,rfl⟩
       have hst:stE t sc tk ⟨2,name,xe,xf,tn,un⟩=u:=by unfold stE;simp only;rw [if_pos HEE.out.symm,if_pos HFE.out.symm,hu];simp
       have HU2:=Lib.hid (HU1.out false w3 X3)
       rw [← hu] at HU2
       have HST:=Lib.hid hst
       clear hst hu b2
       go_wp2_with fail
       refine HU2.out.mono ?_
       rintro e w5 ⟨rfl,hX5⟩
       have X5:Ext wr w5:=X3.trans hX5
       replace BX:=BX.ext hX5
       replace BT1:=BT1.ext hX5
       clear t0 t1 d0 d1 d2 d3 d4 d5 X3 hX5
       obtain ⟨d0,d1,d2,d3,d4,d5⟩:=blk_cells6 BX
       by_cases h1:u=0
       rotate_left
       ·have b4:(u == 0)=false:=by simpa using h1
        have b5:(u != 0)=true:=by simpa using h1
        have H1:=Lib.hid h1
        clear h1
        go_wp2
        refine bodyPost_ret (v:=.tuple #[.int .i64 u,.int .i64 ((p:Int)+(k:Int)),.slice aT' nT' cT']) (by simp [results,Tryz.results84,go_sem]) rfl ?_
        exact ⟨_,_,_,tk,rfl,(hHX.out.trans X5),HT.out.ext X5 (fun _ _ h=>h.any),.inl ⟨Hbad.out _ HST.out H1.out,H1.out⟩⟩
       subst h1
       have hr5:=Hok1.out HST.out
       have hsame:∀ l:List ByteArray,sc1 ⟨2,name,xe,xf,tn,un⟩ l=l:=fun l=>by unfold sc1;simp
       rw [hsame,hsame] at hr5
       have HR5:=Lib.hid hr5
       clear hr5 hsame
       obtain ⟨sc5,tk5,HS5,HT5,HR5,HSC5,HTK5⟩:∃ sc5 tk5,Hid (SlStr AnyB w5 (.slice aS' nS' cS') sc5)∧Hid (SlStr AnyB w5 (.slice aT' nT' cT') tk5)∧Hid (r=ckTail t sc5 tk5 T U R)∧Hid (sc5.length+(len - (k+1))≤1000000)∧Hid (tk5.length+(len - (k+1))≤1000000) :=
        ⟨sc,tk,HS.out.ext X5 (fun _ _ h=>h.any),HT.out.ext X5 (fun _ _ h=>h.any),HR5.out,by have:=HSC.out;show _≤_;omega,by have:=HTK.out;show _≤_;omega⟩
       go_wp2_with fail
       clear d0 d1 d2 d3 d4 d5
       have hld:(l.drop (k+1)).length=len - (k+1):=by rw [List.length_drop,HlL.out]
       have hle2:tn+un≤len - (k+1):=by have:=HLE.out;omega
       obtain ⟨aQ,hcutQ,hatQ⟩:=cut_mid_int Tryz.underlying81 hi1 hs1 (some ⟨b,o,none⟩) len cL (k+1) (k+1+tn) ((k:Int)+1) ((k:Int)+1+(tn:Int)) (by omega) (by omega) (by omega) (by omega)
       have y1:IntKind.i64.wrap ((k:Int)+1)=(k:Int)+1:=IntWalk.i64_in _ (by omega)
       have y2:IntKind.i64.wrap ((k:Int)+1+(tn:Int))=(k:Int)+1+(tn:Int):=IntWalk.i64_in _ (by omega)
       have y3:IntKind.i64.wrap ((p:Int)+(k:Int))=(p:Int)+(k:Int):=IntWalk.i64_in _ (by omega)
       have y4:IntKind.i64.wrap ((p:Int)+(k:Int)+1)=(p:Int)+(k:Int)+1:=IntWalk.i64_in _ (by omega)
       have hsl:=(HL.out.ext ((hHX.out.trans X5).trans ((Ext.refl w5).drew)) (fun _ _ h'=>h'.ext ((hHX.out.trans X5).trans ((Ext.refl w5).drew)))).cutAt (k+1) tn (by omega) (c:=cL - (k+1)) (by omega) (by omega) (by rw [show k+1+tn - (k+1)=tn by omega] at hatQ;exact hatQ)
       rw [show k+1+tn - (k+1)=tn by omega] at hcutQ
       have HSL:=Lib.hid hsl
       have HQ:=Lib.hid hcutQ
       have HLD:=Lib.hid hld
       have hX17:=(hHX.out.trans X5).trans ((Ext.refl w5).drew)
       have HIT:=Lib.hid (IH.out tn (by have:=HN.out;have:=HlL.out;omega) ((l.drop (k+1)).take tn) (p+k+1) ((p:Int)+(k:Int)+1) (by omega) T sc5 tk5 _ _ _ w5.drew (HG.out.ext hX17 (fun _ _ h=>h.any)) (HF.out.ext hX17 (fun _ _ h'=>h'.ext hX17)) HSL.out (HS5.out.ext ((Ext.refl w5).drew) (fun _ _ h=>h.any)) (HT5.out.ext ((Ext.refl w5).drew) (fun _ _ h=>h.any)) (by rw [List.length_take];omega) HBT.out (by have:=HSC5.out;rw [List.length_take];omega) (by have:=HTK5.out;rw [List.length_take];omega) (by rw [List.length_take];omega))
       clear hsl hld hX17 hatQ
       clear hcutQ
       have hcutQ:=HQ.out
       obtain ⟨t0,t1⟩:=blk_cells2 BT1
       obtain ⟨d0,d1,d2,d3,d4,d5⟩:=blk_cells6 BX
       go_region_held3 (fun w'=>w'.cell? ⟨w.heap.size,0,none⟩=some (.slice aG nG cG)∧w'.cell? ⟨w.heap.size,1,none⟩=some (.slice aF nF cF)∧w'.cell? ⟨wr.heap.size,4,none⟩=some (.int .i64 (tn:Int)))
        (first | go_keep | (refine ⟨hX6.cell ?_,hX6.cell ?_,hX6.cell ?_⟩<;>simp [*]))
        (first
         | (go_at_call 84;(refine HIT.out.mono ?_);rintro e6 w6 ⟨er,ea,ev,tk6,rfl,hX6,hT6,hc6⟩;obtain ⟨aT6,nT6,cT6,rfl⟩:=hT6.shape))
       have X6:Ext wr w6:=X5.trans (((Ext.refl w5).drew).trans hX6)
       replace BX:=(BX.ext ((Ext.refl w5).drew)).ext hX6
       replace BT1:=(BT1.ext ((Ext.refl w5).drew)).ext hX6
       have HT6:=Lib.hid hT6
       have HS6:=Lib.hid (HS5.out.ext (((Ext.refl w5).drew).trans hX6) (fun _ _ h=>h.any))
       clear t0 t1 d0 d1 d2 d3 d4 d5 hT6 HT5 HS5 X5 hX6 HIT HSL HQ hcutQ y1 y2
       rcases hc6 with ⟨hr6,hne⟩ | ⟨rfl,rfl,hr6⟩
       ·have b4:(er == 0)=false:=by simpa using hne
        have b5:(er != 0)=true:=by simpa using hne
        have HNE:=Lib.hid hne
        have hrr:r=.bad er ea:=by
         have:=HR5.out
         unfold ckTail at this
         rw [hr6] at this
         exact this
        have HRR:=Lib.hid hrr
        clear hr6 hne hrr
        go_wp2
        refine bodyPost_ret (v:=.tuple #[.int .i64 er,.int .i64 ea,.slice aT6 nT6 cT6]) (by simp [results,Tryz.results84,go_sem]) rfl ?_
        exact ⟨_,_,_,tk6,rfl,hHX.out.trans X6,HT6.out,.inl ⟨HRR.out,HNE.out⟩⟩
       have hlen6:tk6.length≤tk5.length+tn:=by
        have:=ck_len t tn ((l.drop (k+1)).take tn) (p+k+1) T sc5 tk5 tk6 (by rw [List.length_take];omega) HBT.out hr6
        rw [List.length_take] at this
        omega
       have HR6:Hid (r=(match ckBlk t sc5 tk6 U with | .bad e a=>.bad e a | .ok tk3=>ckBlk t sc5 tk3 R)):=by
        have:=HR5.out
        unfold ckTail at this
        rw [hr6] at this
        exact this
       have HL6:=Lib.hid hlen6
       clear hr6 hlen6 HR5
       obtain ⟨aU,hcutU,hatU⟩:=cut_mid_int Tryz.underlying81 hi1 hs1 (some ⟨b,o,none⟩) len cL (k+1+tn) (k+1+tn+un) ((k:Int)+1+(tn:Int)) ((k:Int)+1+(tn:Int)+(un:Int)) (by omega) (by omega) (by omega) (by omega)
       have z1:IntKind.i64.wrap ((k:Int)+1)=(k:Int)+1:=IntWalk.i64_in _ (by omega)
       have z2:IntKind.i64.wrap ((k:Int)+1+(tn:Int))=(k:Int)+1+(tn:Int):=IntWalk.i64_in _ (by omega)
       have z3:IntKind.i64.wrap ((k:Int)+1+(tn:Int)+(un:Int))=(k:Int)+1+(tn:Int)+(un:Int):=IntWalk.i64_in _ (by omega)
       have z4:IntKind.i64.wrap ((p:Int)+(k:Int)+1+(tn:Int))=(p:Int)+(k:Int)+1+(tn:Int):=IntWalk.i64_in _ (by omega)
       have hsl:=(HL.out.ext ((hHX.out.trans X6).trans ((Ext.refl w6).drew)) (fun _ _ h'=>h'.ext ((hHX.out.trans X6).trans ((Ext.refl w6).drew)))).cutAt (k+1+tn) un (by omega) (c:=cL - (k+1+tn)) (by omega) (by omega) (by rw [show k+1+tn+un - (k+1+tn)=un by omega] at hatU;exact hatU)
       rw [show k+1+tn+un - (k+1+tn)=un by omega] at hcutU
       have HSL:=Lib.hid hsl
       have HQ:=Lib.hid hcutU
       have hX17:=(hHX.out.trans X6).trans ((Ext.refl w6).drew)
       have HIU:=Lib.hid (IH.out un (by have:=HN.out;have:=HlL.out;omega) ((l.drop (k+1+tn)).take un) (p+k+1+tn) ((p:Int)+(k:Int)+1+(tn:Int)) (by omega) U sc5 tk6 _ _ _ w6.drew (HG.out.ext hX17 (fun _ _ h=>h.any)) (HF.out.ext hX17 (fun _ _ h'=>h'.ext hX17)) HSL.out (HS6.out.ext ((Ext.refl w6).drew) (fun _ _ h=>h.any)) (HT6.out.ext ((Ext.refl w6).drew) (fun _ _ h=>h.any)) (by have:=HlL.out;rw [List.length_take,List.length_drop];omega) (by have:=HBU.out;rw [List.drop_drop] at this;exact this) (by have:=HSC5.out;have:=HlL.out;rw [List.length_take,List.length_drop];omega) (by have:=HTK5.out;have:=HL6.out;have:=HlL.out;rw [List.length_take,List.length_drop];omega) (by have:=HlL.out;rw [List.length_take,List.length_drop];omega))
       clear hsl hX17 hatU
       clear hcutU
       have hcutU:=HQ.out
       obtain ⟨t0,t1⟩:=blk_cells2 BT1
       obtain ⟨d0,d1,d2,d3,d4,d5⟩:=blk_cells6 BX
       go_wp2_with fail
       go_region_held3 (fun w'=>w'.cell? ⟨w.heap.size,0,none⟩=some (.slice aG nG cG)∧w'.cell? ⟨w.heap.size,1,none⟩=some (.slice aF nF cF)∧w'.cell? ⟨wr.heap.size,4,none⟩=some (.int .i64 (tn:Int))∧w'.cell? ⟨wr.heap.size,5,none⟩=some (.int .i64 (un:Int)))
        (first | go_keep | (refine ⟨hX7.cell ?_,hX7.cell ?_,hX7.cell ?_,hX7.cell ?_⟩<;>simp [*]))
        (first
         | (go_at_call 84;(refine HIU.out.mono ?_);rintro e7 w7 ⟨er,ea,ev,tk7,rfl,hX7,hT7,hc7⟩;obtain ⟨aT7,nT7,cT7,rfl⟩:=hT7.shape))
       have X7:Ext wr w7:=X6.trans (((Ext.refl w6).drew).trans hX7)
       replace BX:=(BX.ext ((Ext.refl w6).drew)).ext hX7
       have HT7:=Lib.hid hT7
       have HS7:=Lib.hid (HS6.out.ext (((Ext.refl w6).drew).trans hX7) (fun _ _ h=>h.any))
       clear t0 t1 d0 d1 d2 d3 d4 d5 hT7 HT6 HS6 hX7 HIU HSL HQ hcutU z1 z2 z3 z4 y3 y4 X6 BT1
       obtain ⟨d0,d1,d2,d3,d4,d5⟩:=blk_cells6 BX
       rcases hc7 with ⟨hr7,hne⟩ | ⟨rfl,rfl,hr7⟩
       ·have b4:(er == 0)=false:=by simpa using hne
        have b5:(er != 0)=true:=by simpa using hne
        have HNE:=Lib.hid hne
        have hrr:r=.bad er ea:=by
         have:=HR6.out
         rw [hr7] at this
         exact this
        have HRR:=Lib.hid hrr
        clear hr7 hne hrr
        go_wp2
        refine bodyPost_ret (v:=.tuple #[.int .i64 er,.int .i64 ea,.slice aT7 nT7 cT7]) (by simp [results,Tryz.results84,go_sem]) rfl ?_
        exact ⟨_,_,_,tk7,rfl,hHX.out.trans X7,HT7.out,.inl ⟨HRR.out,HNE.out⟩⟩
       have hlen7:tk7.length≤tk6.length+un:=by
        have hbu:=HBU.out
        rw [List.drop_drop] at hbu
        have:=ck_len t un ((l.drop (k+1+tn)).take un) (p+k+1+tn) U sc5 tk6 tk7 (by rw [List.length_take];omega) hbu hr7
        rw [List.length_take] at this
        omega
       have HR7:Hid (r=ckBlk t sc5 tk7 R):=by
        have:=HR6.out
        rw [hr7] at this
        exact this
       have HL7:=Lib.hid hlen7
       have HX7:=Lib.hid (HX.out.trans X7)
       clear hr7 hlen7 HR6
       go_wp2
       go_roundw
       case rel =>
        refine ⟨k+1+tn+un,sc5,tk7,R,by omega,by go_num,HS7.out,HT7.out,?_,HR7.out,?_,?_,HX7.out⟩
        ·show _=_
         have:=HBR.out
         rw [List.drop_drop] at this
         rw [show k+1+tn+un=k+1+(tn+un) by omega,show p+(k+1+(tn+un))=p+k+1+tn+un by omega]
         exact this
        ·have:=HSC5.out;show _≤_;omega
        ·have:=HTK5.out;have:=HL6.out;have:=HL7.out;show _≤_;omega
       case measure=>simp [intOf];omega
      ·by_cases hk3:kind=3
       ·subst hk3
        have b2:((2:Int) == 2)=true:=rfl
        obtain ⟨u,hu⟩:∃ u,u=useE t sc name true:=⟨_,rfl⟩
        have hst:stE t sc tk ⟨3,name,xe,xf,tn,un⟩=u:=by unfold stE;simp only;rw [if_pos HEE.out.symm,if_pos HFE.out.symm,hu];simp
        have HU2:=Lib.hid (HU1.out true w3 X3)
        rw [← hu] at HU2
        have HST:=Lib.hid hst
        clear hst hu b2
        go_wp2_with fail
        refine HU2.out.mono ?_
        rintro e w5 ⟨rfl,hX5⟩
        have X5:Ext wr w5:=X3.trans hX5
        replace BX:=BX.ext hX5
        replace BT1:=BT1.ext hX5
        clear t0 t1 d0 d1 d2 d3 d4 d5 X3 hX5
        obtain ⟨d0,d1,d2,d3,d4,d5⟩:=blk_cells6 BX
        by_cases h1:u=0
        rotate_left
        ·have b4:(u == 0)=false:=by simpa using h1
         have b5:(u != 0)=true:=by simpa using h1
         have H1:=Lib.hid h1
         clear h1
         go_wp2
         refine bodyPost_ret (v:=.tuple #[.int .i64 u,.int .i64 ((p:Int)+(k:Int)),.slice aT' nT' cT']) (by simp [results,Tryz.results84,go_sem]) rfl ?_
         exact ⟨_,_,_,tk,rfl,(hHX.out.trans X5),HT.out.ext X5 (fun _ _ h=>h.any),.inl ⟨Hbad.out _ HST.out H1.out,H1.out⟩⟩
        subst h1
        have hr5:=Hok1.out HST.out
        have hsame:∀ l:List ByteArray,sc1 ⟨3,name,xe,xf,tn,un⟩ l=l:=fun l=>by unfold sc1;simp
        rw [hsame,hsame] at hr5
        have HR5:=Lib.hid hr5
        clear hr5 hsame
        obtain ⟨sc5,tk5,HS5,HT5,HR5,HSC5,HTK5⟩:∃ sc5 tk5,Hid (SlStr AnyB w5 (.slice aS' nS' cS') sc5)∧Hid (SlStr AnyB w5 (.slice aT' nT' cT') tk5)∧Hid (r=ckTail t sc5 tk5 T U R)∧Hid (sc5.length+(len - (k+1))≤1000000)∧Hid (tk5.length+(len - (k+1))≤1000000) :=
         ⟨sc,tk,HS.out.ext X5 (fun _ _ h=>h.any),HT.out.ext X5 (fun _ _ h=>h.any),HR5.out,by have:=HSC.out;show _≤_;omega,by have:=HTK.out;show _≤_;omega⟩
        go_wp2_with fail
        clear d0 d1 d2 d3 d4 d5
        have hld:(l.drop (k+1)).length=len - (k+1):=by rw [List.length_drop,HlL.out]
        have hle2:tn+un≤len - (k+1):=by have:=HLE.out;omega
        obtain ⟨aQ,hcutQ,hatQ⟩:=cut_mid_int Tryz.underlying81 hi1 hs1 (some ⟨b,o,none⟩) len cL (k+1) (k+1+tn) ((k:Int)+1) ((k:Int)+1+(tn:Int)) (by omega) (by omega) (by omega) (by omega)
        have y1:IntKind.i64.wrap ((k:Int)+1)=(k:Int)+1:=IntWalk.i64_in _ (by omega)
        have y2:IntKind.i64.wrap ((k:Int)+1+(tn:Int))=(k:Int)+1+(tn:Int):=IntWalk.i64_in _ (by omega)
        have y3:IntKind.i64.wrap ((p:Int)+(k:Int))=(p:Int)+(k:Int):=IntWalk.i64_in _ (by omega)
        have y4:IntKind.i64.wrap ((p:Int)+(k:Int)+1)=(p:Int)+(k:Int)+1:=IntWalk.i64_in _ (by omega)
        have hsl:=(HL.out.ext ((hHX.out.trans X5).trans ((Ext.refl w5).drew)) (fun _ _ h'=>h'.ext ((hHX.out.trans X5).trans ((Ext.refl w5).drew)))).cutAt (k+1) tn (by omega) (c:=cL - (k+1)) (by omega) (by omega) (by rw [show k+1+tn - (k+1)=tn by omega] at hatQ;exact hatQ)
        rw [show k+1+tn - (k+1)=tn by omega] at hcutQ
        have HSL:=Lib.hid hsl
        have HQ:=Lib.hid hcutQ
        have HLD:=Lib.hid hld
        have hX17:=(hHX.out.trans X5).trans ((Ext.refl w5).drew)
        have HIT:=Lib.hid (IH.out tn (by have:=HN.out;have:=HlL.out;omega) ((l.drop (k+1)).take tn) (p+k+1) ((p:Int)+(k:Int)+1) (by omega) T sc5 tk5 _ _ _ w5.drew (HG.out.ext hX17 (fun _ _ h=>h.any)) (HF.out.ext hX17 (fun _ _ h'=>h'.ext hX17)) HSL.out (HS5.out.ext ((Ext.refl w5).drew) (fun _ _ h=>h.any)) (HT5.out.ext ((Ext.refl w5).drew) (fun _ _ h=>h.any)) (by rw [List.length_take];omega) HBT.out (by have:=HSC5.out;rw [List.length_take];omega) (by have:=HTK5.out;rw [List.length_take];omega) (by rw [List.length_take];omega))
        clear hsl hld hX17 hatQ
        clear hcutQ
        have hcutQ:=HQ.out
        obtain ⟨t0,t1⟩:=blk_cells2 BT1
        obtain ⟨d0,d1,d2,d3,d4,d5⟩:=blk_cells6 BX
        go_region_held3 (fun w'=>w'.cell? ⟨w.heap.size,0,none⟩=some (.slice aG nG cG)∧w'.cell? ⟨w.heap.size,1,none⟩=some (.slice aF nF cF)∧w'.cell? ⟨wr.heap.size,4,none⟩=some (.int .i64 (tn:Int)))
         (first | go_keep | (refine ⟨hX6.cell ?_,hX6.cell ?_,hX6.cell ?_⟩<;>simp [*]))
         (first
          | (go_at_call 84;(refine HIT.out.mono ?_);rintro e6 w6 ⟨er,ea,ev,tk6,rfl,hX6,hT6,hc6⟩;obtain ⟨aT6,nT6,cT6,rfl⟩:=hT6.shape))
        have X6:Ext wr w6:=X5.trans (((Ext.refl w5).drew).trans hX6)
        replace BX:=(BX.ext ((Ext.refl w5).drew)).ext hX6
        replace BT1:=(BT1.ext ((Ext.refl w5).drew)).ext hX6
        have HT6:=Lib.hid hT6
        have HS6:=Lib.hid (HS5.out.ext (((Ext.refl w5).drew).trans hX6) (fun _ _ h=>h.any))
        clear t0 t1 d0 d1 d2 d3 d4 d5 hT6 HT5 HS5 X5 hX6 HIT HSL HQ hcutQ y1 y2
        rcases hc6 with ⟨hr6,hne⟩ | ⟨rfl,rfl,hr6⟩
        ·have b4:(er == 0)=false:=by simpa using hne
         have b5:(er != 0)=true:=by simpa using hne
         have HNE:=Lib.hid hne
         have hrr:r=.bad er ea:=by
          have:=HR5.out
          unfold ckTail at this
          rw [hr6] at this
          exact this
         have HRR:=Lib.hid hrr
         clear hr6 hne hrr
         go_wp2
         refine bodyPost_ret (v:=.tuple #[.int .i64 er,.int .i64 ea,.slice aT6 nT6 cT6]) (by simp [results,Tryz.results84,go_sem]) rfl ?_
         exact ⟨_,_,_,tk6,rfl,hHX.out.trans X6,HT6.out,.inl ⟨HRR.out,HNE.out⟩⟩
        have hlen6:tk6.length≤tk5.length+tn:=by
         have:=ck_len t tn ((l.drop (k+1)).take tn) (p+k+1) T sc5 tk5 tk6 (by rw [List.length_take];omega) HBT.out hr6
         rw [List.length_take] at this
         omega
        have HR6:Hid (r=(match ckBlk t sc5 tk6 U with | .bad e a=>.bad e a | .ok tk3=>ckBlk t sc5 tk3 R)):=by
         have:=HR5.out
         unfold ckTail at this
         rw [hr6] at this
         exact this
        have HL6:=Lib.hid hlen6
        clear hr6 hlen6 HR5
        obtain ⟨aU,hcutU,hatU⟩:=cut_mid_int Tryz.underlying81 hi1 hs1 (some ⟨b,o,none⟩) len cL (k+1+tn) (k+1+tn+un) ((k:Int)+1+(tn:Int)) ((k:Int)+1+(tn:Int)+(un:Int)) (by omega) (by omega) (by omega) (by omega)
        have z1:IntKind.i64.wrap ((k:Int)+1)=(k:Int)+1:=IntWalk.i64_in _ (by omega)
        have z2:IntKind.i64.wrap ((k:Int)+1+(tn:Int))=(k:Int)+1+(tn:Int):=IntWalk.i64_in _ (by omega)
        have z3:IntKind.i64.wrap ((k:Int)+1+(tn:Int)+(un:Int))=(k:Int)+1+(tn:Int)+(un:Int):=IntWalk.i64_in _ (by omega)
        have z4:IntKind.i64.wrap ((p:Int)+(k:Int)+1+(tn:Int))=(p:Int)+(k:Int)+1+(tn:Int):=IntWalk.i64_in _ (by omega)
        have hsl:=(HL.out.ext ((hHX.out.trans X6).trans ((Ext.refl w6).drew)) (fun _ _ h'=>h'.ext ((hHX.out.trans X6).trans ((Ext.refl w6).drew)))).cutAt (k+1+tn) un (by omega) (c:=cL - (k+1+tn)) (by omega) (by omega) (by rw [show k+1+tn+un - (k+1+tn)=un by omega] at hatU;exact hatU)
        rw [show k+1+tn+un - (k+1+tn)=un by omega] at hcutU
        have HSL:=Lib.hid hsl
        have HQ:=Lib.hid hcutU
        have hX17:=(hHX.out.trans X6).trans ((Ext.refl w6).drew)
        have HIU:=Lib.hid (IH.out un (by have:=HN.out;have:=HlL.out;omega) ((l.drop (k+1+tn)).take un) (p+k+1+tn) ((p:Int)+(k:Int)+1+(tn:Int)) (by omega) U sc5 tk6 _ _ _ w6.drew (HG.out.ext hX17 (fun _ _ h=>h.any)) (HF.out.ext hX17 (fun _ _ h'=>h'.ext hX17)) HSL.out (HS6.out.ext ((Ext.refl w6).drew) (fun _ _ h=>h.any)) (HT6.out.ext ((Ext.refl w6).drew) (fun _ _ h=>h.any)) (by have:=HlL.out;rw [List.length_take,List.length_drop];omega) (by have:=HBU.out;rw [List.drop_drop] at this;exact this) (by have:=HSC5.out;have:=HlL.out;rw [List.length_take,List.length_drop];omega) (by have:=HTK5.out;have:=HL6.out;have:=HlL.out;rw [List.length_take,List.length_drop];omega) (by have:=HlL.out;rw [List.length_take,List.length_drop];omega))
        clear hsl hX17 hatU
        clear hcutU
        have hcutU:=HQ.out
        obtain ⟨t0,t1⟩:=blk_cells2 BT1
        obtain ⟨d0,d1,d2,d3,d4,d5⟩:=blk_cells6 BX
        go_wp2_with fail
        go_region_held3 (fun w'=>w'.cell? ⟨w.heap.size,0,none⟩=some (.slice aG nG cG)∧w'.cell? ⟨w.heap.size,1,none⟩=some (.slice aF nF cF)∧w'.cell? ⟨wr.heap.size,4,none⟩=some (.int .i64 (tn:Int))∧w'.cell? ⟨wr.heap.size,5,none⟩=some (.int .i64 (un:Int)))
         (first | go_keep | (refine ⟨hX7.cell ?_,hX7.cell ?_,hX7.cell ?_,hX7.cell ?_⟩<;>simp [*]))
         (first
          | (go_at_call 84;(refine HIU.out.mono ?_);rintro e7 w7 ⟨er,ea,ev,tk7,rfl,hX7,hT7,hc7⟩;obtain ⟨aT7,nT7,cT7,rfl⟩:=hT7.shape))
        have X7:Ext wr w7:=X6.trans (((Ext.refl w6).drew).trans hX7)
        replace BX:=(BX.ext ((Ext.refl w6).drew)).ext hX7
        have HT7:=Lib.hid hT7
        have HS7:=Lib.hid (HS6.out.ext (((Ext.refl w6).drew).trans hX7) (fun _ _ h=>h.any))
        clear t0 t1 d0 d1 d2 d3 d4 d5 hT7 HT6 HS6 hX7 HIU HSL HQ hcutU z1 z2 z3 z4 y3 y4 X6 BT1
        obtain ⟨d0,d1,d2,d3,d4,d5⟩:=blk_cells6 BX
        rcases hc7 with ⟨hr7,hne⟩ | ⟨rfl,rfl,hr7⟩
        ·have b4:(er == 0)=false:=by simpa using hne
         have b5:(er != 0)=true:=by simpa using hne
         have HNE:=Lib.hid hne
         have hrr:r=.bad er ea:=by
          have:=HR6.out
          rw [hr7] at this
          exact this
         have HRR:=Lib.hid hrr
         clear hr7 hne hrr
         go_wp2
         refine bodyPost_ret (v:=.tuple #[.int .i64 er,.int .i64 ea,.slice aT7 nT7 cT7]) (by simp [results,Tryz.results84,go_sem]) rfl ?_
         exact ⟨_,_,_,tk7,rfl,hHX.out.trans X7,HT7.out,.inl ⟨HRR.out,HNE.out⟩⟩
        have hlen7:tk7.length≤tk6.length+un:=by
         have hbu:=HBU.out
         rw [List.drop_drop] at hbu
         have:=ck_len t un ((l.drop (k+1+tn)).take un) (p+k+1+tn) U sc5 tk6 tk7 (by rw [List.length_take];omega) hbu hr7
         rw [List.length_take] at this
         omega
        have HR7:Hid (r=ckBlk t sc5 tk7 R):=by
         have:=HR6.out
         rw [hr7] at this
         exact this
        have HL7:=Lib.hid hlen7
        have HX7:=Lib.hid (HX.out.trans X7)
        clear hr7 hlen7 HR6
        go_wp2
        go_roundw
        case rel =>
         refine ⟨k+1+tn+un,sc5,tk7,R,by omega,by go_num,HS7.out,HT7.out,?_,HR7.out,?_,?_,HX7.out⟩
         ·show _=_
          have:=HBR.out
          rw [List.drop_drop] at this
          rw [show k+1+tn+un=k+1+(tn+un) by omega,show p+(k+1+(tn+un))=p+k+1+tn+un by omega]
          exact this
         ·have:=HSC5.out;show _≤_;omega
         ·have:=HTK5.out;have:=HL6.out;have:=HL7.out;show _≤_;omega
        case measure=>simp [intOf];omega
       ·have b2:(kind == 2)=false:=by simpa using hk2
        have b3:(kind == 3)=false:=by simpa using hk3
        have hr5:=Hok1.out (by unfold stE;simp only;rw [if_pos HEE.out.symm,if_pos HFE.out.symm,if_neg hk1,if_neg hk2,if_neg hk3])
        have hsame:∀ l:List ByteArray,sc1 ⟨kind,name,xe,xf,tn,un⟩ l=l:=fun l=>by unfold sc1;simp only;rw [if_neg hk1]
        rw [hsame,hsame] at hr5
        have HR5:=Lib.hid hr5
        clear hr5 hsame hk1 hk2 hk3
        obtain ⟨sc5,tk5,HS5,HT5,HR5,HSC5,HTK5⟩:∃ sc5 tk5,Hid (SlStr AnyB w3 (.slice aS' nS' cS') sc5)∧Hid (SlStr AnyB w3 (.slice aT' nT' cT') tk5)∧Hid (r=ckTail t sc5 tk5 T U R)∧Hid (sc5.length+(len - (k+1))≤1000000)∧Hid (tk5.length+(len - (k+1))≤1000000) :=
         ⟨sc,tk,HS.out.ext X3 (fun _ _ h=>h.any),HT.out.ext X3 (fun _ _ h=>h.any),HR5.out,by have:=HSC.out;show _≤_;omega,by have:=HTK.out;show _≤_;omega⟩
        have X5:=X3
        obtain ⟨w5,hw5⟩:∃ w5,w5=w3:=⟨_,rfl⟩
        go_wp2_with fail
        rw [← hw5] at X5 HS5 HT5 BX BT1 ⊢
        clear t0 t1 d0 d1 d2 d3 d4 d5 X3 hw5
        have hld:(l.drop (k+1)).length=len - (k+1):=by rw [List.length_drop,HlL.out]
        have hle2:tn+un≤len - (k+1):=by have:=HLE.out;omega
        obtain ⟨aQ,hcutQ,hatQ⟩:=cut_mid_int Tryz.underlying81 hi1 hs1 (some ⟨b,o,none⟩) len cL (k+1) (k+1+tn) ((k:Int)+1) ((k:Int)+1+(tn:Int)) (by omega) (by omega) (by omega) (by omega)
        have y1:IntKind.i64.wrap ((k:Int)+1)=(k:Int)+1:=IntWalk.i64_in _ (by omega)
        have y2:IntKind.i64.wrap ((k:Int)+1+(tn:Int))=(k:Int)+1+(tn:Int):=IntWalk.i64_in _ (by omega)
        have y3:IntKind.i64.wrap ((p:Int)+(k:Int))=(p:Int)+(k:Int):=IntWalk.i64_in _ (by omega)
        have y4:IntKind.i64.wrap ((p:Int)+(k:Int)+1)=(p:Int)+(k:Int)+1:=IntWalk.i64_in _ (by omega)
        have hsl:=(HL.out.ext ((hHX.out.trans X5).trans ((Ext.refl w5).drew)) (fun _ _ h'=>h'.ext ((hHX.out.trans X5).trans ((Ext.refl w5).drew)))).cutAt (k+1) tn (by omega) (c:=cL - (k+1)) (by omega) (by omega) (by rw [show k+1+tn - (k+1)=tn by omega] at hatQ;exact hatQ)
        rw [show k+1+tn - (k+1)=tn by omega] at hcutQ
        have HSL:=Lib.hid hsl
        have HQ:=Lib.hid hcutQ
        have HLD:=Lib.hid hld
        have hX17:=(hHX.out.trans X5).trans ((Ext.refl w5).drew)
        have HIT:=Lib.hid (IH.out tn (by have:=HN.out;have:=HlL.out;omega) ((l.drop (k+1)).take tn) (p+k+1) ((p:Int)+(k:Int)+1) (by omega) T sc5 tk5 _ _ _ w5.drew (HG.out.ext hX17 (fun _ _ h=>h.any)) (HF.out.ext hX17 (fun _ _ h'=>h'.ext hX17)) HSL.out (HS5.out.ext ((Ext.refl w5).drew) (fun _ _ h=>h.any)) (HT5.out.ext ((Ext.refl w5).drew) (fun _ _ h=>h.any)) (by rw [List.length_take];omega) HBT.out (by have:=HSC5.out;rw [List.length_take];omega) (by have:=HTK5.out;rw [List.length_take];omega) (by rw [List.length_take];omega))
        clear hsl hld hX17 hatQ
        clear hcutQ
        have hcutQ:=HQ.out
        obtain ⟨t0,t1⟩:=blk_cells2 BT1
        obtain ⟨d0,d1,d2,d3,d4,d5⟩:=blk_cells6 BX
        go_region_held3 (fun w'=>w'.cell? ⟨w.heap.size,0,none⟩=some (.slice aG nG cG)∧w'.cell? ⟨w.heap.size,1,none⟩=some (.slice aF nF cF)∧w'.cell? ⟨wr.heap.size,4,none⟩=some (.int .i64 (tn:Int)))
         (first | go_keep | (refine ⟨hX6.cell ?_,hX6.cell ?_,hX6.cell ?_⟩<;>simp [*]))
         (first
          | (go_at_call 84;(refine HIT.out.mono ?_);rintro e6 w6 ⟨er,ea,ev,tk6,rfl,hX6,hT6,hc6⟩;obtain ⟨aT6,nT6,cT6,rfl⟩:=hT6.shape))
        have X6:Ext wr w6:=X5.trans (((Ext.refl w5).drew).trans hX6)
        replace BX:=(BX.ext ((Ext.refl w5).drew)).ext hX6
        replace BT1:=(BT1.ext ((Ext.refl w5).drew)).ext hX6
        have HT6:=Lib.hid hT6
        have HS6:=Lib.hid (HS5.out.ext (((Ext.refl w5).drew).trans hX6) (fun _ _ h=>h.any))
        clear t0 t1 d0 d1 d2 d3 d4 d5 hT6 HT5 HS5 X5 hX6 HIT HSL HQ hcutQ y1 y2
        rcases hc6 with ⟨hr6,hne⟩ | ⟨rfl,rfl,hr6⟩
        ·have b4:(er == 0)=false:=by simpa using hne
         have b5:(er != 0)=true:=by simpa using hne
         have HNE:=Lib.hid hne
         have hrr:r=.bad er ea:=by
          have:=HR5.out
          unfold ckTail at this
          rw [hr6] at this
          exact this
         have HRR:=Lib.hid hrr
         clear hr6 hne hrr
         go_wp2
         refine bodyPost_ret (v:=.tuple #[.int .i64 er,.int .i64 ea,.slice aT6 nT6 cT6]) (by simp [results,Tryz.results84,go_sem]) rfl ?_
         exact ⟨_,_,_,tk6,rfl,hHX.out.trans X6,HT6.out,.inl ⟨HRR.out,HNE.out⟩⟩
        have hlen6:tk6.length≤tk5.length+tn:=by
         have:=ck_len t tn ((l.drop (k+1)).take tn) (p+k+1) T sc5 tk5 tk6 (by rw [List.length_take];omega) HBT.out hr6
         rw [List.length_take] at this
         omega
        have HR6:Hid (r=(match ckBlk t sc5 tk6 U with | .bad e a=>.bad e a | .ok tk3=>ckBlk t sc5 tk3 R)):=by
         have:=HR5.out
         unfold ckTail at this
         rw [hr6] at this
         exact this
        have HL6:=Lib.hid hlen6
        clear hr6 hlen6 HR5
        obtain ⟨aU,hcutU,hatU⟩:=cut_mid_int Tryz.underlying81 hi1 hs1 (some ⟨b,o,none⟩) len cL (k+1+tn) (k+1+tn+un) ((k:Int)+1+(tn:Int)) ((k:Int)+1+(tn:Int)+(un:Int)) (by omega) (by omega) (by omega) (by omega)
        have z1:IntKind.i64.wrap ((k:Int)+1)=(k:Int)+1:=IntWalk.i64_in _ (by omega)
        have z2:IntKind.i64.wrap ((k:Int)+1+(tn:Int))=(k:Int)+1+(tn:Int):=IntWalk.i64_in _ (by omega)
        have z3:IntKind.i64.wrap ((k:Int)+1+(tn:Int)+(un:Int))=(k:Int)+1+(tn:Int)+(un:Int):=IntWalk.i64_in _ (by omega)
        have z4:IntKind.i64.wrap ((p:Int)+(k:Int)+1+(tn:Int))=(p:Int)+(k:Int)+1+(tn:Int):=IntWalk.i64_in _ (by omega)
        have hsl:=(HL.out.ext ((hHX.out.trans X6).trans ((Ext.refl w6).drew)) (fun _ _ h'=>h'.ext ((hHX.out.trans X6).trans ((Ext.refl w6).drew)))).cutAt (k+1+tn) un (by omega) (c:=cL - (k+1+tn)) (by omega) (by omega) (by rw [show k+1+tn+un - (k+1+tn)=un by omega] at hatU;exact hatU)
        rw [show k+1+tn+un - (k+1+tn)=un by omega] at hcutU
        have HSL:=Lib.hid hsl
        have HQ:=Lib.hid hcutU
        have hX17:=(hHX.out.trans X6).trans ((Ext.refl w6).drew)
        have HIU:=Lib.hid (IH.out un (by have:=HN.out;have:=HlL.out;omega) ((l.drop (k+1+tn)).take un) (p+k+1+tn) ((p:Int)+(k:Int)+1+(tn:Int)) (by omega) U sc5 tk6 _ _ _ w6.drew (HG.out.ext hX17 (fun _ _ h=>h.any)) (HF.out.ext hX17 (fun _ _ h'=>h'.ext hX17)) HSL.out (HS6.out.ext ((Ext.refl w6).drew) (fun _ _ h=>h.any)) (HT6.out.ext ((Ext.refl w6).drew) (fun _ _ h=>h.any)) (by have:=HlL.out;rw [List.length_take,List.length_drop];omega) (by have:=HBU.out;rw [List.drop_drop] at this;exact this) (by have:=HSC5.out;have:=HlL.out;rw [List.length_take,List.length_drop];omega) (by have:=HTK5.out;have:=HL6.out;have:=HlL.out;rw [List.length_take,List.length_drop];omega) (by have:=HlL.out;rw [List.length_take,List.length_drop];omega))
        clear hsl hX17 hatU
        clear hcutU
        have hcutU:=HQ.out
        obtain ⟨t0,t1⟩:=blk_cells2 BT1
        obtain ⟨d0,d1,d2,d3,d4,d5⟩:=blk_cells6 BX
        go_wp2_with fail
        go_region_held3 (fun w'=>w'.cell? ⟨w.heap.size,0,none⟩=some (.slice aG nG cG)∧w'.cell? ⟨w.heap.size,1,none⟩=some (.slice aF nF cF)∧w'.cell? ⟨wr.heap.size,4,none⟩=some (.int .i64 (tn:Int))∧w'.cell? ⟨wr.heap.size,5,none⟩=some (.int .i64 (un:Int)))
         (first | go_keep | (refine ⟨hX7.cell ?_,hX7.cell ?_,hX7.cell ?_,hX7.cell ?_⟩<;>simp [*]))
         (first
          | (go_at_call 84;(refine HIU.out.mono ?_);rintro e7 w7 ⟨er,ea,ev,tk7,rfl,hX7,hT7,hc7⟩;obtain ⟨aT7,nT7,cT7,rfl⟩:=hT7.shape))
        have X7:Ext wr w7:=X6.trans (((Ext.refl w6).drew).trans hX7)
        replace BX:=(BX.ext ((Ext.refl w6).drew)).ext hX7
        have HT7:=Lib.hid hT7
        have HS7:=Lib.hid (HS6.out.ext (((Ext.refl w6).drew).trans hX7) (fun _ _ h=>h.any))
        clear t0 t1 d0 d1 d2 d3 d4 d5 hT7 HT6 HS6 hX7 HIU HSL HQ hcutU z1 z2 z3 z4 y3 y4 X6 BT1
        obtain ⟨d0,d1,d2,d3,d4,d5⟩:=blk_cells6 BX
        rcases hc7 with ⟨hr7,hne⟩ | ⟨rfl,rfl,hr7⟩
        ·have b4:(er == 0)=false:=by simpa using hne
         have b5:(er != 0)=true:=by simpa using hne
         have HNE:=Lib.hid hne
         have hrr:r=.bad er ea:=by
          have:=HR6.out
          rw [hr7] at this
          exact this
         have HRR:=Lib.hid hrr
         clear hr7 hne hrr
         go_wp2
         refine bodyPost_ret (v:=.tuple #[.int .i64 er,.int .i64 ea,.slice aT7 nT7 cT7]) (by simp [results,Tryz.results84,go_sem]) rfl ?_
         exact ⟨_,_,_,tk7,rfl,hHX.out.trans X7,HT7.out,.inl ⟨HRR.out,HNE.out⟩⟩
        have hlen7:tk7.length≤tk6.length+un:=by
         have hbu:=HBU.out
         rw [List.drop_drop] at hbu
         have:=ck_len t un ((l.drop (k+1+tn)).take un) (p+k+1+tn) U sc5 tk6 tk7 (by rw [List.length_take];omega) hbu hr7
         rw [List.length_take] at this
         omega
        have HR7:Hid (r=ckBlk t sc5 tk7 R):=by
         have:=HR6.out
         rw [hr7] at this
         exact this
        have HL7:=Lib.hid hlen7
        have HX7:=Lib.hid (HX.out.trans X7)
        clear hr7 hlen7 HR6
        go_wp2
        go_roundw
        case rel =>
         refine ⟨k+1+tn+un,sc5,tk7,R,by omega,by go_num,HS7.out,HT7.out,?_,HR7.out,?_,?_,HX7.out⟩
         ·show _=_
          have:=HBR.out
          rw [List.drop_drop] at this
          rw [show k+1+tn+un=k+1+(tn+un) by omega,show p+(k+1+(tn+un))=p+k+1+tn+un by omega]
          exact this
         ·have:=HSC5.out;show _≤_;omega
         ·have:=HTK5.out;have:=HL6.out;have:=HL7.out;show _≤_;omega
        case measure=>simp [intOf];omega
    ·go_wp2
     refine bodyPost_ret (v:=.tuple #[.int .i64 0,.int .i64 0,.slice aT' nT' cT']) (by simp [results,Tryz.results84,go_sem]) rfl ?_
     refine ⟨0,0,_,tk,rfl,X0.trans HX.out,HT.out,.inr ⟨rfl,rfl,?_⟩⟩
     have h1:=HB.out
     rw [List.drop_eq_nil_of_le (by rw [HlL.out];omega),blocks] at h1
     cases h1
     rw [HR.out,ck_nil]
end Go.Proofs.YtcfggjmdcaoecaaGreatDoor
