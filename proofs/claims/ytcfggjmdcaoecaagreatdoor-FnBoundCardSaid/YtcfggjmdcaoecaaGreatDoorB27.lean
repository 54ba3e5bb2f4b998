/- A part of the proofs of FnBound and FnCheck: the lemmas and walks LwDeep, LwBound. -/
import Derived.Test.YtcfggjmdcaoecaaGreatDoorB25
import Derived.Test.YtcfggjmdcaoecaaGreatDoorB26
import Derived.Test.YtcfggjmdcaoecaaGreatDoorB02
set_option linter.unusedVariables false
set_option linter.unusedSimpArgs false
namespace Go.Proofs.YtcfggjmdcaoecaaGreatDoor
open Go Go.RowKit Md Go.Proofs.YtcfggjmdcaoecaaGreatDoorW.PrintLast
theorem calls_succ {t:PTree} (hv:valid t=true) {f:Nat} (hf:f<t.funcs.length):callsAns t (f:Int)=succ t (f:Int):=by
 unfold callsAns
 rw [if_pos ⟨hv,by omega,by omega⟩]
 unfold succ
 congr 1
set_option maxRecDepth 1000000 in
set_option maxHeartbeats 8000000 in
theorem c_lwDeep (t:PTree) (vG vF vR:Value) (w0:World) (hG:SlGlob AnyB w0 vG t.globals) (hF:SlFunc AnyB w0 vF t.funcs) (hz:Small t) (hres:Res w0) (hR:SlInt .i64 AnyB w0 vR (t.funcs.map fun x=>((frameSz x:Nat):Int))) (hv:valid t=true) (hfr:∀ x∈t.funcs,frameSz x≤2032) :
  ∀ (r f:Nat) (w:World),r≤50→f<t.funcs.length→Ext w0 w→Calls Tryz.prog 30 #[.agg #[vG,vF],vR,.int .i64 (f:Int),.int .i64 (r:Int)] w (Gives (.int .i64 (Dn t r (f:Int):Nat)) w):=by
 intro r
 induction r with
 | zero =>
   intro f w _ hf hX
   obtain ⟨aG,nG,cG,rfl⟩:=hG.shape
   obtain ⟨aF,nF,cF,rfl⟩:=hF.shape
   obtain ⟨aR,nR,cR,rfl⟩:=hR.shape
   clear hG hF hR hz hres hv hfr
   go_enter Tryz.func30,Tryz.ntmps30
   go_wp2
   go_ret
   exact Gives.int rfl ((Ext.refl w).alloc _)
 | succ r ih =>
   intro f w hr hf hX
   have hvb:=valid_bounds hv
   have hn50:=hvb.2.1
   have hDle:∀ c:Int,Dn t r c≤101600:=fun c=>by
    have h1:=Dn_le (fsz_le hfr) r c
    have h2:r*2032≤50*2032:=Nat.mul_le_mul_right _ (by omega)
    omega
   have hXb:Ext w (w.alloc (.cells #[vG,vF] 32)):=(Ext.refl w).alloc _
   have BT:=Blk.alloc w 32 #[vG,vF]
   have HC:=Lib.hid (i_Calls AnyB t vG vF (f:Int) (w.alloc (.cells #[vG,vF] 32)) (hG.ext (hX.trans hXb) (fun _ _ h=>h.any)) (Sl.ext hF (hX.trans hXb) (fun _ _ h=>h.ext (hX.trans hXb))) hz (hres.ext (hX.trans hXb)) (by omega))
   rw [calls_succ hv hf] at HC
   have Hrow:Hid (∀ w',Ext w w'→SlInt .i64 AnyB w' vR (t.funcs.map fun x=>((frameSz x:Nat):Int))):=fun w' h=>Sl.ext hR (hX.trans h) (fun _ _ h=>h.any)
   have HIH:Hid (∀ (c:Nat) (w':World),c<t.funcs.length→Ext w w'→Calls Tryz.prog 30 #[.agg #[vG,vF],vR,.int .i64 (c:Int),.int .i64 (r:Int)] w' (Gives (.int .i64 (Dn t r (c:Int):Nat)) w')):=fun c w' hc h=>ih c w' (by omega) hc (hX.trans h)
   obtain ⟨aG,nG,cG,rfl⟩:=hG.shape
   obtain ⟨aF,nF,cF,rfl⟩:=hF.shape
   obtain ⟨aR,nR,cR,rfl⟩:=hR.shape
   have hsl:(succ t (f:Int)).length≤50:=by
    have h:(succ t (f:Int)).length≤t.funcs.length:=callsL_len t _
    omega
   have Hrng:Hid (∀ x∈succ t (f:Int),0≤x∧x<t.funcs.length):=fun x hx=>succ_range hx
   have HD:Hid (Dn t (r+1) (f:Int)=maxL (Dn t r) (succ t (f:Int))+fsz t (f:Int)):=by
    show _=_
    rw [Dn]
   have Hfz:Hid (fsz t (f:Int)≤2032):=fsz_le hfr _
   obtain ⟨w1,hw1⟩:∃ w1,w.alloc (.cells #[.slice aG nG cG,.slice aF nF cF] 32)=w1:=⟨_,rfl⟩
   rw [hw1] at HC hXb BT
   obtain ⟨cl,hcl⟩:∃ cl,cl=succ t (f:Int):=⟨_,rfl⟩
   rw [← hcl] at HC hsl Hrng HD
   have HXb:=Lib.hid hXb
   have HBT:=Lib.hid BT
   have HDle:=Lib.hid hDle
   have Hfl:=Lib.hid hf
   have b0:w1.cell? ⟨w.heap.size,0,none⟩=some (.slice aG nG cG):=(BT.cell 0).trans rfl
   have b1:w1.cell? ⟨w.heap.size,1,none⟩=some (.slice aF nF cF):=(BT.cell 1).trans rfl
   clear hG hF hR hz hres hv hfr hX hXb BT hvb hn50 hDle ih hcl hf
   go_enter Tryz.func30,Tryz.ntmps30
   go_wp2_with fail
   clear hw1 b0 b1
   refine HC.out.mono ?_
   rintro e w2 ⟨v2,rfl,ho2,hX2⟩
   obtain ⟨nc,hnc⟩:∃ nc,nc=cl.length:=⟨_,rfl⟩
   rw [← hnc] at ho2 hsl
   obtain ⟨a2,c2,rfl⟩:=rw_form0 ho2
   have HO2:=Lib.hid ho2
   have Hnc:=Lib.hid hnc
   have HX2:=Lib.hid (HXb.out.trans hX2)
   have HBT2:=Lib.hid (HBT.out.ext hX2)
   have hr1:(r:Int)+1≤50:=by omega
   clear ho2 hnc hX2 HC hr
   go_wp2_with fail
   go_loopw [9,11] (fun v9 v11 wr=>∃ (k most:Nat),k≤nc∧most≤101600∧v11=.int .i64 k∧v9=.int .i64 most∧Hid (most=(cl.take k).foldl (fun m x=>max m (Dn t r x)) 0)∧Hid (Ext w2 wr)) (fun _ v11 _=>nc - (intOf v11).toNat)
   case atStart=>exact ⟨0,0,Nat.zero_le _,by omega,rfl,rfl,rfl,Ext.refl _⟩
   case round =>
    obtain ⟨k,most,hk,hmb,rfl,rfl,HA,HX⟩:=hrel
    by_cases hlt:k<nc
    ·obtain ⟨x,hx⟩:∃ x,cl[k]? = some x:=⟨cl[k]'(by have:=Hnc.out;omega),List.getElem?_eq_getElem _⟩
     have hx0:=Hrng.out x (List.mem_of_getElem? hx)
     obtain ⟨c,rfl⟩:∃ c:Nat,x=c:=⟨x.toNat,by omega⟩
     obtain ⟨g2,c2',e2,_,_,_,_⟩:=rw_form HO2.out (by omega)
     obtain ⟨rfl,rfl⟩:a2=some ⟨g2,0,none⟩∧c2'=c2:=by cases e2;exact ⟨rfl,rfl⟩
     have k0:=HX.out.cell (rw_at HO2.out (i:=k) (u:=.int .i64 (c:Int)) (by rw [List.getElem?_map,hx];rfl)).1
     have t0:=HX.out.cell ((HBT2.out.cell 0).trans (show _=some (Value.slice aG nG cG) from rfl))
     have t1:=HX.out.cell ((HBT2.out.cell 1).trans (show _=some (Value.slice aF nF cF) from rfl))
     have hA2:=fold_snoc (g:=Dn t r) hx
     rw [← HA.out] at hA2
     have HR:=Lib.hid (HIH.out c wr.drew (by omega) ((HX2.out.trans HX.out).trans ((Ext.refl wr).drew)))
     obtain ⟨dc,hdc⟩:∃ dc,dc=Dn t r (c:Int):=⟨_,rfl⟩
     have hdb:dc≤101600:=by rw [hdc];exact HDle.out _
     rw [← hdc] at HR hA2
     have HA2:=Lib.hid hA2.symm
     have z0:(0:Int)≤(k:Int):=by omega
     have z1:(k:Int)<(nc:Int):=by omega
     have X1:Ext wr wr.drew:=(Ext.refl wr).drew
     clear hx hx0 e2 hA2 hdc
     go_wp2_with fail
     refine start_ (n:=10) (S:=fun w'=>w'.cell? ⟨w.heap.size,0,none⟩=some (.slice aG nG cG)∧w'.cell? ⟨w.heap.size,1,none⟩=some (.slice aF nF cF)∧w'.cell? ⟨g2,k,none⟩=some (.int .i64 (c:Int))) (ds:=[]) #[false,false,false,false,false,false,false,false,false,false] (by kernel_rfl) rfl rfl ?hS (fun hHeld=>?_)
     case hS=>exact ⟨X1.cell t0,X1.cell t1,X1.cell (by simpa using k0)⟩
     refine ta_ 0 (some 24) #[true,false,false,false,false,false,false,false,false,false] rfl rfl (by kernel_rfl) (fun _ _ _ h=>h) hHeld (by rfl) (by rintro w' ⟨s0,s1,s2⟩;go_simp;with_reducible rfl) (by simp only [pt_];rfl) ?_
     refine pu_ 1 (some 25) #[true,true,false,false,false,false,false,false,false,false] rfl rfl (by kernel_rfl) (fun _ _ _ h=>h) (by rfl) (by intro w';go_simp;with_reducible rfl) (by simp only [pt_];rfl) ?_
     refine pu_ 2 (some 26) #[true,true,true,false,false,false,false,false,false,false] rfl rfl (by kernel_rfl) (fun _ _ _ h=>h) (by rfl) (by intro w';go_simp;with_reducible rfl) (by simp only [pt_];rfl) ?_
     refine pu_ 3 (some 27) #[true,true,true,true,false,false,false,false,false,false] rfl rfl (by kernel_rfl) (fun _ _ _ h=>h) (by rfl) (by intro w';go_simp;with_reducible rfl) (by simp only [pt_];rfl) ?_
     refine pu_ 4 (some 28) #[true,true,true,true,true,false,false,false,false,false] rfl rfl (by kernel_rfl) (fun _ _ _ h=>h) (by rfl) (by intro w';go_simp;with_reducible rfl) (by simp only [pt_];rfl) ?_
     refine ta_ 5 (some 29) #[true,true,true,true,true,true,false,false,false,false] rfl rfl (by kernel_rfl) (fun _ _ _ h=>h) hHeld (by rfl) (by rintro w' ⟨s0,s1,s2⟩;go_simp;with_reducible rfl) (by simp only [pt_];rfl) ?_
     refine pu_ 6 (some 30) #[true,true,true,true,true,true,true,false,false,false] rfl rfl (by kernel_rfl) (fun _ _ _ h=>h) (by rfl) (by intro w';go_simp;with_reducible rfl) (by simp only [pt_];rfl) ?_
     refine pu_ 7 (some 31) #[true,true,true,true,true,true,true,true,false,false] rfl rfl (by kernel_rfl) (fun _ _ _ h=>h) (by rfl) (by intro w';go_simp;with_reducible rfl) (by simp only [pt_];rfl) ?_
     obtain ⟨e0,e1,e2⟩:=hHeld
     refine one_ (i:=8) (N:=some 32) #[true,true,true,true,true,true,true,true,true,false] rfl rfl (by kernel_rfl) (by decide) (fun K hK=>?_)
     refine goes_ (N:=some 32) Tryz.func30 (by kernel_rfl) rfl #[.agg #[.slice aG nG cG,.slice aF nF cF],.slice aR nR cR,.int .i64 (c:Int),.int .i64 (r:Int)] (by rfl) rfl rfl (by simp [Act.eval];unfold wrap64;omega) ?_
     refine HR.out.mono ?_
     rintro e w5 ⟨rfl,hX5⟩
     refine ⟨_,rfl,?_⟩
     refine hK.out _ _ ⟨hX5.cell e0,hX5.cell e1,hX5.cell e2⟩ (fun hHeld=>?_)
     clear hK K
     refine norm_ (by show Act.put _ (some 32) _=_;simp only [pt_];rfl) ?_
     refine pu_ 9 (some 12) #[true,true,true,true,true,true,true,true,true,true] rfl rfl (by kernel_rfl) (fun _ _ _ h=>h) (by rfl) (by intro w';go_simp;with_reducible rfl) (by simp only [pt_];rfl) ?_
     refine done_ (by kernel_rfl) ?_
     have HX5:=Lib.hid ((HX.out.trans X1).trans hX5)
     clear hHeld e0 e1 e2 hX5 X1 HR t0 t1 k0
     by_cases hgt:most<dc
     ·have HA3:Hid (dc=(cl.take (k+1)).foldl (fun m x=>max m (Dn t r x)) 0):=by
       have:=HA2.out
       show _=_
       omega
      have hgt2:(most:Int)<(dc:Int):=by omega
      go_wp2
      go_roundw
      case rel=>exact ⟨k+1,dc,by omega,hdb,by go_num,rfl,HA3.out,HX5.out⟩
      case measure=>simp [intOf];omega
     ·have HA3:Hid (most=(cl.take (k+1)).foldl (fun m x=>max m (Dn t r x)) 0):=by
       have:=HA2.out
       show _=_
       omega
      have hgt2:¬ (most:Int)<(dc:Int):=by omega
      go_wp2
      go_roundw
      case rel=>exact ⟨k+1,most,by omega,hmb,by go_num,rfl,HA3.out,HX5.out⟩
      case measure=>simp [intOf];omega
    ·have hke:cl.take k=cl:=List.take_of_length_le (by rw [← Hnc.out];omega)
     have hA:=HA.out
     rw [hke] at hA
     have HDm:Hid (Dn t (r+1) (f:Int)=most+fsz t (f:Int)):=by
      show _=_
      rw [HD.out,hA]
      rfl
     obtain ⟨_,_,_,e1,l1,_,_,hat⟩:=Sl.op (Hrow.out wr (HX2.out.trans HX.out))
     cases e1
     have hl1:=l1.out
     rw [List.length_map] at hl1
     have hfl:=Hfl.out
     obtain ⟨bR,oR,rfl,_,hel⟩:=hat (by omega)
     obtain ⟨y,cs,hy,_,hC,hcs⟩:=hel f (by omega)
     obtain ⟨rfl,_⟩:=hC
     have k0:=hcs.z rfl
     rw [Nat.mul_one] at k0
     have hyf:y=(fsz t (f:Int):Nat):=by
      rw [List.getElem?_map] at hy
      obtain ⟨z,hz,rfl⟩:=Option.map_eq_some_iff.1 hy
      unfold fsz
      simp [hz]
     obtain ⟨F,hF⟩:∃ F,F=fsz t (f:Int):=⟨_,rfl⟩
     rw [← hF] at hyf HDm Hfz
     subst hyf
     have hF2:F≤2032:=Hfz.out
     have z0:(0:Int)≤(f:Int):=by omega
     have z1:(f:Int)<(nR:Int):=by omega
     have HXe:=Lib.hid (HX2.out.trans HX.out)
     clear hke hA hat hel hcs hy hF hl1 hfl
     go_wp2
     go_ret
     exact Gives.int (by rw [HDm.out];omega) HXe.out
open Go Go.RowKit Md Go.Proofs.YtcfggjmdcaoecaaGreatDoorW.PrintLast
def Draws (w:World) (e:Ending) (w':World):Prop:=∃ vG vF t,e=.returned (.agg #[vG,vF])∧SlGlob AnyB w' vG t.globals∧SlFunc AnyB w' vF t.funcs∧Small t∧Ext w w'
theorem frameSz_16 (x:PFunc):frameSz x % 16=0∧16≤frameSz x:=by
 unfold frameSz
 omega
theorem list_sl {w:World} {base:Nat} {v:Value} {l:List Int} (h:w.ownsRow base 2 1 v l.length (l.map (Value.int .i64))) (hl:∀ x∈l,I64 x):SlInt .i64 AnyB w v l :=
 sl_own (E:=2) (Value.int .i64) (CInt .i64) (fun _ _=>.inr trivial) h (fun _ _=>trivial) (fun y hy=>⟨rfl,by
  have:=hl y hy
  simp [Lit.wf]
  exact this⟩)
theorem frames_i64 (t:PTree):∀ x∈framesAns t,I64 x:=by
 intro x hx
 unfold framesAns at hx
 by_cases h0:(checkAns t).1=0
 ·rw [if_pos h0] at hx
  obtain ⟨f,hf,rfl⟩:=List.mem_map.1 hx
  have hok:=valid_frOk (check_valid h0) f hf
  have hn:f.params.length+(declsL f.body).length≤600:=by
   have:=decls_le f.body
   have:=hok.1
   have:=hok.2.1
   omega
  have hm:placesL f.body≤3000:=Nat.le_trans (places_le (fun s hs=>(hok.2.2 s hs).2) 0 (by omega)) (by omega)
  have:frameSz f≤20000:=by
   unfold frameSz
   omega
  unfold I64
  omega
 ·rw [if_neg h0] at hx
  cases hx
set_option maxRecDepth 1000000 in
set_option maxHeartbeats 16000000 in
theorem w_FnBound (a:Option Addr) (n cap:Nat) (w:World) (hcap:n≤9223372036854775807) (hD:n≤1048576→Calls Tryz.prog 28 #[.slice a n cap] w (Draws w)) (hres:Res w) :
  Calls Tryz.prog 8 #[.slice a n cap] w (Gives (.bool true) w):=by
 have HRes:=Lib.hid hres
 by_cases hn:n≤1048576
 ·have HD:=Lib.hid (hD hn)
  have hn2:¬ (1048576:Int)<(n:Int):=by omega
  clear hD hres
  go_enter Tryz.func8,Tryz.ntmps8
  go_wp2_with fail
  refine HD.out.mono ?_
  rintro e w1 ⟨vG,vF,t,rfl,hG,hF,hz,hX1⟩
  obtain ⟨aG,nG,cG,rfl⟩:=hG.shape
  obtain ⟨aF,nF,cF,rfl,HlF,_,_,_⟩:=Sl.op hF
  have BT:=Blk.alloc w1 32 #[.slice aG nG cG,.slice aF nF cF]
  have X2:Ext w1 (w1.alloc (.cells #[.slice aG nG cG,.slice aF nF cF] 32)):=(Ext.refl w1).alloc _
  generalize hw2:w1.alloc (.cells #[.slice aG nG cG,.slice aF nF cF] 32)=w2 at BT X2
  have HX2:=Lib.hid (hX1.trans X2)
  have HG:Hid (∀ w',Ext w2 w'→SlGlob AnyB w' (.slice aG nG cG) t.globals):=fun w' h=>hG.ext (X2.trans h) (fun _ _ h=>h.any)
  have HF:Hid (∀ w',Ext w2 w'→SlFunc AnyB w' (.slice aF nF cF) t.funcs):=fun w' h=>Sl.ext hF (X2.trans h) (fun _ _ k=>k.ext (X2.trans h))
  have HR2:Hid (∀ w',Ext w2 w'→Res w'):=fun w' h=>HRes.out.ext (HX2.out.trans h)
  have Hz:=Lib.hid hz
  have HBT:=Lib.hid BT
  have Ht:Hid (∀ w',Ext w2 w'→w'.cell? ⟨w1.heap.size,0,none⟩=some (.slice aG nG cG)∧w'.cell? ⟨w1.heap.size,1,none⟩=some (.slice aF nF cF)):=fun w' h=>⟨h.cell ((BT.cell 0).trans rfl),h.cell ((BT.cell 1).trans rfl)⟩
  have HFr:=Lib.hid (i_Frames AnyB t (.slice aG nG cG) (.slice aF nF cF) w2 (HG.out _ (Ext.refl _)) (HF.out _ (Ext.refl _)) hz (HR2.out _ (Ext.refl _)))
  obtain ⟨t0,t1⟩:=Ht.out w2 (Ext.refl _)
  clear hG hF hz hX1 BT X2 HD
  go_wp2_with fail
  refine HFr.out.mono ?_
  rintro e w3 ⟨v3,rfl,ho3,hX3⟩
  clear hw2 t0 t1 HFr
  obtain ⟨fa,hfa⟩:∃ fa,fa=framesAns t:=⟨_,rfl⟩
  rw [← hfa] at ho3
  have hfI:∀ x∈fa,I64 x:=by rw [hfa];exact frames_i64 t
  have hS3:=list_sl ho3 hfI
  obtain ⟨nf,hnf⟩:∃ nf,nf=fa.length:=⟨_,rfl⟩
  rw [← hnf] at ho3
  obtain ⟨a3,c3,rfl⟩:=rw_form0 ho3
  have HS3:=Lib.hid hS3
  have HO3:=Lib.hid ho3
  have Hfa:=Lib.hid hfa
  have Hnf:=Lib.hid hnf
  have HX3:=Lib.hid hX3
  have Xd:Ext w3 w3.drew:=(Ext.refl w3).drew
  have HSF:Hid (∀ w',Ext w2 w'→Calls Tryz.prog 26 #[.agg #[.slice aG nG cG,.slice aF nF cF]] w' (Listed64 w' fa)):=fun w' h=>by
   have:=s_Frames AnyB t (.slice aG nG cG) (.slice aF nF cF) w' (HG.out _ h) (HF.out _ h) Hz.out
   rw [← Hfa.out] at this
   exact this
  obtain ⟨bd,hbd⟩:∃ bd,bd=boundAns t:=⟨_,rfl⟩
  have Hbd:=Lib.hid hbd
  have HIB:Hid (∀ w',Ext w2 w'→Calls Tryz.prog 25 #[.agg #[.slice aG nG cG,.slice aF nF cF]] w' (Gives (.int .i64 bd) w')):=fun w' h=>by
   have:=i_Bound AnyB t (.slice aG nG cG) (.slice aF nF cF) w' (HG.out _ h) (HF.out _ h) Hz.out (HR2.out _ h)
   rw [← Hbd.out] at this
   exact this
  have HSB:Hid (∀ w',Ext w2 w'→Calls Tryz.prog 24 #[.agg #[.slice aG nG cG,.slice aF nF cF]] w' (Gives (.int .i64 bd) w')):=fun w' h=>by
   have:=s_Bound AnyB t (.slice aG nG cG) (.slice aF nF cF) w' (HG.out _ h) (HF.out _ h) Hz.out
   rw [← Hbd.out] at this
   exact this
  obtain ⟨t0,t1⟩:=Ht.out w3 hX3
  clear ho3 hS3 hfI hfa hnf hbd hX3
  go_wp2_with fail
  refine start_ (n:=12) (S:=fun w'=>w'.cell? ⟨w1.heap.size,0,none⟩=some (.slice aG nG cG)∧w'.cell? ⟨w1.heap.size,1,none⟩=some (.slice aF nF cF)) (ds:=[]) #[false,false,false,false,false,false,false,false,false,false,false,false] (by kernel_rfl) rfl rfl ?hS (fun hHeld=>?_)
  case hS=>exact Ht.out _ (HX3.out.trans Xd)
  refine pu_ 0 (some 14) #[true,false,false,false,false,false,false,false,false,false,false,false] rfl rfl (by kernel_rfl) (fun _ _ _ h=>h) (by rfl) (by intro w';go_simp;with_reducible rfl) (by simp only [pt_];rfl) ?_
  refine ta_ 1 (some 15) #[true,true,false,false,false,false,false,false,false,false,false,false] rfl rfl (by kernel_rfl) (fun _ _ _ h=>h) hHeld (by rfl) (by rintro w' ⟨s0,s1⟩;go_simp;with_reducible rfl) (by simp only [pt_];rfl) ?_
  have HXd:=Lib.hid (HX3.out.trans Xd)
  generalize w3.drew=wd at HXd Xd hHeld ⊢
  refine one_ (i:=2) (N:=some 16) #[true,true,true,false,false,false,false,false,false,false,false,false] rfl rfl (by kernel_rfl) (by decide) (fun K hK=>?_)
  refine goes_ (N:=some 16) Tryz.func26 (by kernel_rfl) rfl #[.agg #[.slice aG nG cG,.slice aF nF cF]] (by rfl) rfl rfl (by simp [Act.eval]) ?_
  refine (HSF.out wd HXd.out).mono ?_
  rintro e w4 ⟨v4,rfl,ho4,hX4⟩
  refine ⟨_,rfl,?_⟩
  have HX4:=Lib.hid (HXd.out.trans hX4)
  refine hK.out _ _ (Ht.out _ HX4.out) (fun hHeld=>?_)
  clear hK K
  refine norm_ (by show Act.put _ (some 16) _=_;simp only [pt_];rfl) ?_
  have HLN:=Lib.hid (c_lwNums AnyB fa (.slice a3 nf c3) v4 w4 (HS3.out.ext (Xd.trans hX4) (fun _ _ h=>h.any)) (list_sl ho4 (by rw [Hfa.out];exact frames_i64 t)))
  have HX34:=Lib.hid (Xd.trans hX4)
  clear ho4 hX4 Xd
  refine one_ (i:=3) (N:=some 17) #[true,true,true,true,false,false,false,false,false,false,false,false] rfl rfl (by kernel_rfl) (by decide) (fun K hK=>?_)
  refine goes_ (N:=some 17) Tryz.func29 (by kernel_rfl) rfl #[.slice a3 nf c3,v4] (by rfl) rfl rfl (by simp [Act.eval]) ?_
  refine HLN.out.mono ?_
  rintro e w5 ⟨rfl,hX5⟩
  refine ⟨_,rfl,?_⟩
  have HX5:=Lib.hid (HX4.out.trans hX5)
  have HX35:=Lib.hid (HX34.out.trans hX5)
  refine hK.out _ _ (Ht.out _ HX5.out) (fun hHeld=>?_)
  clear hK K
  refine norm_ (by show Act.put _ (some 17) _=_;simp only [pt_];rfl) ?_
  refine pu_ 4 (some 18) #[true,true,true,true,true,false,false,false,false,false,false,false] rfl rfl (by kernel_rfl) (fun _ _ _ h=>h) (by rfl) (by intro w';go_simp;with_reducible rfl) (by simp only [pt_];rfl) ?_
  refine pu_ 5 (some 19) #[true,true,true,true,true,true,false,false,false,false,false,false] rfl rfl (by kernel_rfl) (fun _ _ _ h=>h) (by rfl) (by intro w';go_simp;with_reducible rfl) (by simp only [pt_];rfl) ?_
  refine ta_ 6 (some 20) #[true,true,true,true,true,true,true,false,false,false,false,false] rfl rfl (by kernel_rfl) (fun _ _ _ h=>h) hHeld (by rfl) (by rintro w' ⟨s0,s1⟩;go_simp;with_reducible rfl) (by simp only [pt_];rfl) ?_
  refine ta_ 8 (some 22) #[true,true,true,true,true,true,true,false,true,false,false,false] rfl rfl (by kernel_rfl) (fun _ _ _ h=>h) hHeld (by rfl) (by rintro w' ⟨s0,s1⟩;go_simp;with_reducible rfl) (by simp only [pt_];rfl) ?_
  refine one_ (i:=7) (N:=some 21) #[true,true,true,true,true,true,true,true,true,false,false,false] rfl rfl (by kernel_rfl) (by decide) (fun K hK=>?_)
  refine goes_ (N:=some 21) Tryz.func25 (by kernel_rfl) rfl #[.agg #[.slice aG nG cG,.slice aF nF cF]] (by rfl) rfl rfl (by simp [Act.eval]) ?_
  refine (HIB.out w5 HX5.out).mono ?_
  rintro e w6 ⟨rfl,hX6⟩
  refine ⟨_,rfl,?_⟩
  have HX6:=Lib.hid (HX5.out.trans hX6)
  have HX36:=Lib.hid (HX35.out.trans hX6)
  refine hK.out _ _ (Ht.out _ HX6.out) (fun hHeld=>?_)
  clear hK K
  refine norm_ (by show Act.put _ (some 21) _=_;simp only [pt_];rfl) ?_
  refine one_ (i:=9) (N:=some 23) #[true,true,true,true,true,true,true,true,true,true,false,false] rfl rfl (by kernel_rfl) (by decide) (fun K hK=>?_)
  refine goes_ (N:=some 23) Tryz.func24 (by kernel_rfl) rfl #[.agg #[.slice aG nG cG,.slice aF nF cF]] (by rfl) rfl rfl (by simp [Act.eval]) ?_
  refine (HSB.out w6 HX6.out).mono ?_
  rintro e w7 ⟨rfl,hX7⟩
  refine ⟨_,rfl,?_⟩
  have HX7:=Lib.hid (HX6.out.trans hX7)
  have HX37:=Lib.hid (HX36.out.trans hX7)
  refine hK.out _ _ (Ht.out _ HX7.out) (fun hHeld=>?_)
  clear hK K
  refine norm_ (by show Act.put _ (some 23) _=_;simp only [pt_];rfl) ?_
  refine pu_ 10 (some 24) #[true,true,true,true,true,true,true,true,true,true,true,false] rfl rfl (by kernel_rfl) (fun _ _ _ h=>h) (by rfl) (by intro w';go_simp;with_reducible rfl) (by simp only [pt_];rfl) ?_
  refine pu_ 11 (some 25) #[true,true,true,true,true,true,true,true,true,true,true,true] rfl rfl (by kernel_rfl) (fun _ _ _ h=>h) (by rfl) (by intro w';go_simp;with_reducible rfl) (by simp only [pt_];rfl) ?_
  refine done_ (by kernel_rfl) ?_
  obtain ⟨ra,hra⟩:∃ ra,ra=(checkAns t).1:=⟨_,rfl⟩
  have HCk:Hid (∀ w',Ext w2 w'→Calls Tryz.prog 18 #[.agg #[.slice aG nG cG,.slice aF nF cF]] w' (fun e w''=>∃ rb rc,e=.returned (.agg #[.int .i64 ra,.int .i64 rb,.int .i64 rc])∧Ext w' w'')):=fun w' h=>by
   rw [hra]
   exact (s_CheckC AnyB t (.slice aG nG cG) (.slice aF nF cF) w' (HG.out _ h) (HF.out _ h) Hz.out).mono fun e w'' hh=>⟨_,_,hh.1,hh.2⟩
  have Hra:=Lib.hid hra
  obtain ⟨t0,t1⟩:=Ht.out w7 HX7.out
  clear hHeld hX5 hX6 hX7 HLN hra HX34 HX35 HX36 HX4 HX5 HX6 HXd
  go_wp2_with fail
  refine (HCk.out w7 HX7.out).mono ?_
  rintro e w8 ⟨rb,rc,rfl,hX8⟩
  have HX8:=Lib.hid (HX7.out.trans hX8)
  have HX38:=Lib.hid (HX37.out.trans hX8)
  obtain ⟨t0,t1⟩:=Ht.out w8 HX8.out
  have hfield:∀ w',(Instr.field 40 (.agg #[.int .i64 ra,.int .i64 rb,.int .i64 rc]) 0).run Tryz.prog w'=.ok (.int .i64 ra) w':=fun _=>by kernel_rfl
  clear hX8 HX7 HX37
  by_cases h0:ra=0
  ·subst h0
   have Hck:Hid ((checkAns t).1=0):=Hra.out.symm
   have hv:=check_valid Hck.out
   have Hv:=Lib.hid hv
   have hvb:=(valid_bounds hv).2.1
   have HfM:Hid (fa=t.funcs.map fun x=>((frameSz x:Nat):Int)):=by
    show _=_
    rw [Hfa.out]
    unfold framesAns
    rw [if_pos Hck.out]
   have HnL:Hid (nf=t.funcs.length):=by
    show _=_
    rw [Hnf.out,HfM.out,List.length_map]
   have hn50:nf≤50:=by rw [HnL.out];exact hvb
   clear hv hvb Hra HCk HSF HSB
   go_wp2_with fail
   clear hfield
   go_loop [5,6] (fun v5 v6=>∃ (k:Nat) (wd:Bool),k≤nf∧v6=.int .i64 k∧v5=.bool wd∧Hid (wd=true↔∃ i x,i<k∧t.funcs[i]? = some x∧2032<frameSz x)) (fun _ v6=>nf - (intOf v6).toNat)
   case atStart=>exact ⟨0,false,Nat.zero_le _,rfl,rfl,by show _↔_;simp⟩
   case round =>
    obtain ⟨k,wd,hk,rfl,rfl,HA⟩:=hrel
    by_cases hlt:k<nf
    ·obtain ⟨x,hx⟩:∃ x,t.funcs[k]? = some x:=⟨t.funcs[k]'(by have:=HnL.out;omega),List.getElem?_eq_getElem _⟩
     obtain ⟨g3,c3',e3,_,_,_,_⟩:=rw_form HO3.out (by omega)
     obtain ⟨rfl,rfl⟩:a3=some ⟨g3,0,none⟩∧c3'=c3:=by cases e3;exact ⟨rfl,rfl⟩
     have k0:=HX38.out.cell (rw_at HO3.out (i:=k) (u:=.int .i64 ((frameSz x:Nat):Int)) (by rw [List.getElem?_map,HfM.out,List.getElem?_map,hx];rfl)).1
     obtain ⟨F,hF⟩:∃ F,F=frameSz x:=⟨_,rfl⟩
     rw [← hF] at k0
     have h16:=frameSz_16 x
     rw [← hF] at h16
     have hm1:(F:Int) % 16=0:=by omega
     have hm2:(F:Int).tmod 16=0:=by rw [Int.tmod_eq_emod_of_nonneg (by omega)];exact hm1
     have hm3:¬ (F:Int)<16:=by omega
     have z0:(0:Int)≤(k:Int):=by omega
     have z1:(k:Int)<(nf:Int):=by omega
     have hnext:∀ b:Bool,(b=true↔wd=true∨2032<F)→Hid (b=true↔∃ i x,i<k+1∧t.funcs[i]? = some x∧2032<frameSz x):=fun b hb=>by
      show _↔_
      rw [hb,HA.out]
      constructor
      ·rintro (⟨i,y,h1,h2,h3⟩ | h)
       ·exact ⟨i,y,by omega,h2,h3⟩
       ·exact ⟨k,x,by omega,hx,by omega⟩
      ·rintro ⟨i,y,h1,h2,h3⟩
       by_cases hik:i<k
       ·exact .inl ⟨i,y,hik,h2,h3⟩
       ·obtain rfl:i=k:=by omega
        rw [hx] at h2
        cases h2
        exact .inr (by omega)
     have Hnext:=Lib.hid hnext
     clear hnext hx hF h16 e3
     cases wd with
     | true =>
       have HB:=Hnext.out true (by simp)
       clear Hnext
       go_wp2
       go_round
       case rel=>exact ⟨k+1,true,by omega,by go_num,rfl,HB⟩
       case measure=>simp [intOf];omega
     | false =>
       by_cases hw:2032<F
       ·have hw2:(2032:Int)<(F:Int):=by omega
        have HB:=Hnext.out true (by simp [hw])
        clear Hnext
        go_wp2
        go_round
        case rel=>exact ⟨k+1,true,by omega,by go_num,rfl,HB⟩
        case measure=>simp [intOf];omega
       ·have hw2:¬ (2032:Int)<(F:Int):=by omega
        have HB:=Hnext.out false (by simp [hw])
        clear Hnext
        go_wp2
        go_round
        case rel=>exact ⟨k+1,false,by omega,by go_num,rfl,HB⟩
        case measure=>simp [intOf];omega
    ·obtain rfl:k=nf:=by omega
     cases wd with
     | true =>
       have hbd1:bd = -1:=by
        obtain ⟨i,x,_,hx,hw⟩:=HA.out.1 rfl
        rw [Hbd.out]
        exact bound_wide (List.mem_of_getElem? hx) hw
       subst hbd1
       go_wp2_with fail
       refine (HIB.out w8 HX8.out).mono ?_
       rintro e w9 ⟨rfl,hX9⟩
       go_wp2
       go_ret
       exact Gives.bool rfl (HX2.out.trans (HX8.out.trans hX9))
     | false =>
       have hfr:∀ x∈t.funcs,frameSz x≤2032:=fun x hx=>by
        obtain ⟨i,hi,e⟩:=List.getElem_of_mem hx
        refine Nat.le_of_not_lt fun hl=>?_
        have:=HA.out.2 ⟨i,x,by rw [HnL.out];exact hi,by rw [List.getElem?_eq_getElem hi,e],hl⟩
        cases this
       have hmain:=(check_bd Hck.out hfr).rg
       obtain ⟨m,hm⟩:∃ m:Nat,findF t mainB=m:=⟨(findF t mainB).toNat,by omega⟩
       rw [hm] at hmain
       have hmn:m<t.funcs.length:=by omega
       obtain ⟨D,hD⟩:∃ D,D=Dn t nF (m:Int):=⟨_,rfl⟩
       have hbd1:bd=(D:Nat):=by
        rw [Hbd.out,bound_deep Hck.out hfr,hm,hD]
        unfold deep
        rw [HlF.out]
       have HMn:Hid (∀ w',Ext w2 w'→Calls Tryz.prog 22 #[.agg #[.slice aG nG cG,.slice aF nF cF]] w' (Gives (.int .i64 (m:Int)) w')):=fun w' h=>by
        have:=c_lwMain AnyB t (.slice aG nG cG) (.slice aF nF cF) w' (HG.out _ h) (HF.out _ h)
        rw [hm] at this
        exact this
       have HDp:Hid (∀ w',Ext w8 w'→Calls Tryz.prog 30 #[.agg #[.slice aG nG cG,.slice aF nF cF],.slice a3 k c3,.int .i64 (m:Int),.int .i64 (nF:Int)] w' (Gives (.int .i64 (D:Nat)) w')):=fun w' h=>by
        have:=c_lwDeep t (.slice aG nG cG) (.slice aF nF cF) (.slice a3 k c3) w8 (HG.out _ HX8.out) (HF.out _ HX8.out) Hz.out (HR2.out _ HX8.out) (by
         have:=HS3.out.ext HX38.out (fun _ _ h=>h.any)
         rw [HfM.out] at this
         exact this) Hv.out hfr nF m w' (by rw [← HlF.out,← HnL.out];exact hn50) hmn h
        rw [← hD] at this
        exact this
       subst hbd1
       have X1:Ext w8 w8.drew:=(Ext.refl w8).drew
       clear hm hD hfr hmain hmn HA
       go_wp2_with fail
       refine start_ (n:=12) (S:=fun w'=>w'.cell? ⟨w1.heap.size,0,none⟩=some (.slice aG nG cG)∧w'.cell? ⟨w1.heap.size,1,none⟩=some (.slice aF nF cF)) (ds:=[]) #[false,false,false,false,false,false,false,false,false,false,false,false] (by kernel_rfl) rfl rfl ?hS (fun hHeld=>?_)
       case hS=>exact Ht.out _ (HX8.out.trans X1)
       refine ta_ 0 (some 69) #[true,false,false,false,false,false,false,false,false,false,false,false] rfl rfl (by kernel_rfl) (fun _ _ _ h=>h) hHeld (by rfl) (by rintro w' ⟨s0,s1⟩;go_simp;with_reducible rfl) (by simp only [pt_];rfl) ?_
       refine ta_ 2 (some 71) #[true,false,true,false,false,false,false,false,false,false,false,false] rfl rfl (by kernel_rfl) (fun _ _ _ h=>h) hHeld (by rfl) (by rintro w' ⟨s0,s1⟩;go_simp;with_reducible rfl) (by simp only [pt_];rfl) ?_
       refine pu_ 3 (some 72) #[true,false,true,true,false,false,false,false,false,false,false,false] rfl rfl (by kernel_rfl) (fun _ _ _ h=>h) (by rfl) (by intro w';go_simp;with_reducible rfl) (by simp only [pt_];rfl) ?_
       refine ta_ 4 (some 73) #[true,false,true,true,true,false,false,false,false,false,false,false] rfl rfl (by kernel_rfl) (fun _ _ _ h=>h) hHeld (by rfl) (by rintro w' ⟨s0,s1⟩;go_simp;with_reducible rfl) (by simp only [pt_];rfl) ?_
       refine pu_ 6 (some 75) #[true,false,true,true,true,false,true,false,false,false,false,false] rfl rfl (by kernel_rfl) (fun _ _ _ h=>h) (by rfl) (by intro w';go_simp;with_reducible rfl) (by simp only [pt_];rfl) ?_
       refine ta_ 7 (some 76) #[true,false,true,true,true,false,true,true,false,false,false,false] rfl rfl (by kernel_rfl) (fun _ _ _ h=>h) hHeld (by rfl) (by rintro w' ⟨s0,s1⟩;go_simp;with_reducible rfl) (by simp only [pt_];rfl) ?_
       refine pu_ 8 (some 77) #[true,false,true,true,true,false,true,true,true,false,false,false] rfl rfl (by kernel_rfl) (fun _ _ _ h=>h) (by rfl) (by intro w';go_simp;with_reducible rfl) (by simp only [pt_];rfl) ?_
       generalize w8.drew=wd at X1 hHeld ⊢
       refine one_ (i:=1) (N:=some 70) #[true,true,true,true,true,false,true,true,true,false,false,false] rfl rfl (by kernel_rfl) (by decide) (fun K hK=>?_)
       refine goes_ (N:=some 70) Tryz.func25 (by kernel_rfl) rfl #[.agg #[.slice aG nG cG,.slice aF nF cF]] (by rfl) rfl rfl (by simp [Act.eval]) ?_
       refine (HIB.out wd (HX8.out.trans X1)).mono ?_
       rintro e w9 ⟨rfl,hX9⟩
       refine ⟨_,rfl,?_⟩
       have HX9:=Lib.hid (X1.trans hX9)
       refine hK.out _ _ (Ht.out _ (HX8.out.trans HX9.out)) (fun hHeld=>?_)
       clear hK K
       refine norm_ (by show Act.put _ (some 70) _=_;simp only [pt_];rfl) ?_
       refine one_ (i:=5) (N:=some 74) #[true,true,true,true,true,true,true,true,true,false,false,false] rfl rfl (by kernel_rfl) (by decide) (fun K hK=>?_)
       refine goes_ (N:=some 74) Tryz.func22 (by kernel_rfl) rfl #[.agg #[.slice aG nG cG,.slice aF nF cF]] (by rfl) rfl rfl (by simp [Act.eval]) ?_
       refine (HMn.out w9 (HX8.out.trans HX9.out)).mono ?_
       rintro e w10 ⟨rfl,hX10⟩
       refine ⟨_,rfl,?_⟩
       have HX10:=Lib.hid (HX9.out.trans hX10)
       refine hK.out _ _ (Ht.out _ (HX8.out.trans HX10.out)) (fun hHeld=>?_)
       clear hK K
       refine norm_ (by show Act.put _ (some 74) _=_;simp only [pt_];rfl) ?_
       refine one_ (i:=9) (N:=some 78) #[true,true,true,true,true,true,true,true,true,true,false,false] rfl rfl (by kernel_rfl) (by decide) (fun K hK=>?_)
       refine goes_ (N:=some 78) Tryz.func30 (by kernel_rfl) rfl #[.agg #[.slice aG nG cG,.slice aF nF cF],.slice a3 k c3,.int .i64 (m:Int),.int .i64 (nF:Int)] (by rfl) rfl rfl (by simp [Act.eval]) ?_
       refine (HDp.out w10 HX10.out).mono ?_
       rintro e w11 ⟨rfl,hX11⟩
       refine ⟨_,rfl,?_⟩
       have HX11:=Lib.hid (HX10.out.trans hX11)
       refine hK.out _ _ (Ht.out _ (HX8.out.trans HX11.out)) (fun hHeld=>?_)
       clear hK K
       refine norm_ (by show Act.put _ (some 78) _=_;simp only [pt_];rfl) ?_
       refine pu_ 10 (some 79) #[true,true,true,true,true,true,true,true,true,true,true,false] rfl rfl (by kernel_rfl) (fun _ _ _ h=>h) (by rfl) (by intro w';go_simp;with_reducible rfl) (by simp only [pt_];rfl) ?_
       refine pu_ 11 (some 2) #[true,true,true,true,true,true,true,true,true,true,true,true] rfl rfl (by kernel_rfl) (fun _ _ _ h=>h) (by rfl) (by intro w';go_simp;with_reducible rfl) (by simp only [pt_];rfl) ?_
       refine done_ (by kernel_rfl) ?_
       clear hHeld hX9 hX10 hX11 X1
       go_wp2
       go_ret
       exact Gives.bool rfl (HX2.out.trans (HX8.out.trans HX11.out))
  ·have hnf0:nf=0:=by
    have h1:=Hfa.out
    unfold framesAns at h1
    rw [if_neg (by rw [← Hra.out];exact h0)] at h1
    rw [Hnf.out,h1]
    rfl
   have hbd1:bd = -1:=by
    rw [Hbd.out]
    exact bound_neg (by rw [← Hra.out];exact h0)
   subst hnf0
   subst hbd1
   go_wp2_with fail
   refine (HIB.out w8 HX8.out).mono ?_
   rintro e w9 ⟨rfl,hX9⟩
   go_wp2
   go_ret
   exact Gives.bool rfl (HX2.out.trans (HX8.out.trans hX9))
 ·have hn2:(1048576:Int)<(n:Int):=by omega
  clear hD hres
  go_enter Tryz.func8,Tryz.ntmps8
  go_wp2
  go_ret
  exact Gives.bool rfl (Ext.refl w)
end Go.Proofs.YtcfggjmdcaoecaaGreatDoor
