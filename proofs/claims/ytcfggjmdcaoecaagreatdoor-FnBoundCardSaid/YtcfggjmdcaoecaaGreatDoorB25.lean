/- A part of the proofs of FnBound and FnCheck: the lemmas and walks SpecBound, ImplBound. -/
import Derived.Test.YtcfggjmdcaoecaaGreatDoorB23
import Derived.Test.YtcfggjmdcaoecaaGreatDoorB02
import Derived.Test.YtcfggjmdcaoecaaGreatDoorB24
set_option linter.unusedVariables false
set_option linter.unusedSimpArgs false
namespace Go.Proofs.YtcfggjmdcaoecaaGreatDoor
open Go Go.RowKit Md Go.Proofs.YtcfggjmdcaoecaaGreatDoorW.PrintLast
structure BdOk (t:PTree) (m:Int):Prop where
 val:valid t=true
 fr:∀ x∈t.funcs,frameSz x≤2032
 rg:0≤m∧m<t.funcs.length
 rec_:∀ x,MetF t m x→¬ Rch t [x] x
theorem row_of {w:World} {base n:Nat} {v:Value} {xs:List Int} (h:RowI w base v xs) (hn:n=xs.length):w.ownsRow base 2 1 v n (xs.map (Value.int .i64)):=by
 rw [hn];exact h
theorem rowS_succ (S:Nat→Nat) (k:Nat):rowS S (k+1)=rowS S k ++ [((S k:Nat):Int)]:=by
 unfold rowS
 rw [List.range_succ,List.map_append]
 rfl
theorem fold_snoc' {g:Int→Nat} {l:List Int} {k:Nat} {x:Int} (h:l[k]? = some x):(l.take (k+1)).foldl (fun m x=>max m (g x)) 0=max ((l.take k).foldl (fun m x=>max m (g x)) 0) (g x):=by
 rw [take_snoc h,List.foldl_append]
 rfl
theorem mapset (xs:List Int) (f:Nat) (v:Int):(xs.map (Value.int .i64)).set f (.int .i64 v)=(xs.set f v).map (Value.int .i64):=by
 rw [List.map_set]
set_option maxRecDepth 1000000 in
set_option maxHeartbeats 0 in
theorem s_l6Deep (K:Foot) (t:PTree) (vG vF:Value) (m:Nat) (w:World) (hG:SlGlob K w vG t.globals) (hF:SlFunc K w vF t.funcs) (hb:BdOk t (m:Int)) :
  Calls Tryz.prog 55 #[.agg #[vG,vF],.int .i64 (m:Int)] w (Gives (.int .i64 (deep t (m:Int):Nat)) w):=by
 obtain ⟨aG,nG,cG,rfl⟩:=hG.shape
 have HF:=Lib.hid hF
 obtain ⟨aF,nF,cF,rfl,HlF,hlcF,hcmF,helF⟩:=hF.op
 have hlF:t.funcs.length=nF:=HlF.out
 have hnF:nF≤50:=by have:=(valid_bounds hb.val).2.1;omega
 have hmn:m<nF:=by have:=hb.rg.2;omega
 obtain ⟨w1,hw1⟩:∃ w1,w1=w.alloc (.cells #[.slice aG nG cG,.slice aF nF cF] 32):=⟨_,rfl⟩
 obtain ⟨w2,hw2⟩:∃ w2,w2=w1.alloc (.cells #[.int .i64 (m:Int)] 2):=⟨_,rfl⟩
 have X1:Ext w w1:=by rw [hw1];exact (Ext.refl w).alloc _
 have X2:Ext w1 w2:=by rw [hw2];exact (Ext.refl w1).alloc _
 have BT:Blk w1 w.heap.size 32 #[.slice aG nG cG,.slice aF nF cF]:=by rw [hw1];exact Blk.alloc _ _ _
 have hs1:w1.heap.size=w.heap.size+1:=by rw [hw1];simp
 have HRc:=Lib.hid (s_l3Reach K t _ _ [(m:Int)] (.slice (some ⟨w1.heap.size,0,none⟩) 1 1) w1.heap.size w2 (Sl.ext hG (X1.trans X2) (fun _ _ h=>h.any)) (Sl.ext hF (X1.trans X2) (fun _ _ h=>h.ext (X1.trans X2))) hb.val (by rw [hw2];exact one_row w1 m) (fun y hy=>by rw [List.mem_singleton.1 hy];exact hb.rg) (Nat.le_refl _))
 have HCalls:Hid (∀ (f:Nat) w',Ext w w'→f<nF→Calls Tryz.prog 35 #[.agg #[.slice aG nG cG,.slice aF nF cF],.int .i64 (f:Int)] w' (Listed64 w' (succ t (f:Int)))):=fun f w' hX hf=>by
  obtain ⟨x,hx⟩:∃ x,t.funcs[f]? = some x:=⟨t.funcs[f]'(by omega),List.getElem?_eq_getElem _⟩
  have hvb:=(valid_bounds hb.val).2.2 x (List.mem_of_getElem? hx)
  have h:=s_l3Calls K t _ _ f (f:Int) rfl x w' (Sl.ext hG hX (fun _ _ h=>h.any)) (Sl.ext hF hX (fun _ _ h=>h.ext hX)) hx (by omega) ⟨by omega,fun s hs=>by have:=nodes_mem hs;omega⟩
  rw [bodyOf_at (h:=(f:Int)) (x:=x) (by simpa using hx)]
  exact h
 have HFr:Hid (∀ (f:Nat) (x:PFunc) (vP vB:Value) w',Ext w w'→t.funcs[f]? = some x→SlStr K w vP x.params→SlStmt K w vB x.body→Calls Tryz.prog 58 #[.agg #[.string x.name,vP,vB]] w' (Gives (.int .i64 (fsz t (f:Int):Nat)) w')):=fun f x vP vB w' hX hx sP sB=>by
  have e:fsz t (f:Int)=frameSz x:=by unfold fsz;simp [hx]
  rw [e]
  exact s_l6Frame K x vP vB w' (sP.ext hX (fun _ _ h=>h)) (sB.ext hX (fun _ _ h=>h.ext hX)) (valid_frOk hb.val x (List.mem_of_getElem? hx))
 obtain ⟨i1,hi1,hy0,hy1,hy2⟩:=info_parts info_int64
 have HApp:Hid (∀ (w0 wr:World) (v:Value) (n:Nat) (xs:List Int) (y:Int),Ext w0 wr→wr.ownsRow w0.heap.size 2 1 v n (xs.map (Value.int .i64))→n≤2000000 →
   ∃ v' w',(Builtin.append_ #[27,27] 27 #[v,.slice (some ⟨wr.heap.size,0,none⟩) 1 1]).run Tryz.prog (wr.alloc (.cells #[.int .i64 y] 2))=.ok v' w'∧w'.ownsRow w0.heap.size 2 1 v' (n+1) ((xs ++ [y]).map (Value.int .i64))∧Ext w0 w') :=
  fun w0 wr v n xs y hX ho hl=>app_one (P:=Tryz.prog) (Value.int .i64) (fun _=>rfl) Tryz.underlying27 hi1 hy0 hy1 hy2 rfl 27 hX ho y (by omega) (by omega)
 have HX1:=Lib.hid X1
 have HXa:=Lib.hid X1
 have HX2:=Lib.hid X2
 have HBT:=Lib.hid BT
 have HW1:=Lib.hid hw1
 have HW2:=Lib.hid hw2
 have Hs1:=Lib.hid hs1
 have Hb:=Lib.hid hb
 obtain ⟨R,hR⟩:∃ R,R=deep t (m:Int):=⟨_,rfl⟩
 rw [← hR]
 have HR:=Lib.hid hR
 have HlF2:=Lib.hid hlF
 have b0:w2.cell? ⟨w.heap.size,0,none⟩=some (.slice aG nG cG):=X2.cell ((BT.cell 0).trans rfl)
 have b1:w2.cell? ⟨w.heap.size,1,none⟩=some (.slice aF nF cF):=X2.cell ((BT.cell 1).trans rfl)
 rw [hw2,hw1] at b0 b1
 clear hG hF hb hlF X1 X2 BT hw1 hw2 hs1 hR HlF
 go_enter Tryz.func55,Tryz.ntmps55
 go_wp2_with fail
 rw [← HW1.out,← HW2.out,← Hs1.out]
 refine HRc.out.mono ?_
 rintro e w3 ⟨v3,out,rfl,ho3,hmem,hlen,hX3⟩
 obtain ⟨lo,hlo⟩:∃ lo,lo=out.length:=⟨_,rfl⟩
 have ho3':=row_of ho3 hlo
 have HX3:=Lib.hid (HX2.out.trans hX3)
 have hlo2:lo≤50:=by have:=HlF2.out;omega
 obtain ⟨v4,w4,r1,r2,r3⟩:=HApp.out w2 w3 v3 lo out (m:Int) hX3 ho3' (by omega)
 obtain ⟨a3,c3,rfl⟩:=rw_form0 ho3'
 obtain ⟨a4,c4,rfl⟩:=rw_form0 r2
 obtain ⟨live,hlive⟩:∃ live,live=out ++ [(m:Int)]:=⟨_,rfl⟩
 rw [← hlive] at r2
 have HLm:Hid (∀ x,MetF t (m:Int) x→x∈live):=fun x hx=>by
  rw [hlive,List.mem_append]
  rcases hx with rfl | hx
  ·exact .inr (List.mem_singleton.2 rfl)
  ·exact .inl ((hmem x).2 hx)
 have HLx:Hid (∀ x∈live,MetF t (m:Int) x):=fun x hx=>by
  rw [hlive,List.mem_append] at hx
  rcases hx with hx | hx
  ·exact .inr ((hmem x).1 hx)
  ·exact .inl (List.mem_singleton.1 hx)
 have HLl:Hid (live.length=lo+1):=by
  show _=_
  rw [hlive,hlo];simp
 have HP1:=Lib.hid r1
 have HLv:=Lib.hid r2
 have HX4:Hid (Ext w1 w4):=HX2.out.trans r3
 obtain ⟨L,hL⟩:∃ L,L=lo+1:=⟨_,rfl⟩
 rw [← hL] at HLv HLl
 have hL51:L≤51:=by omega
 have hL0:0<L:=by omega
 clear b0 b1 HRc ho3 hmem hX3 hlo ho3' r1 r2 r3 hlive hlen
 go_wp2_with (at_builtin;refine Lib.wpList_append_run _ rfl _ _ _ _ rfl _ _ rfl rfl _ _ HP1.out ?_)
 rw [← hL]
 clear HP1 hL
 obtain ⟨w5,hw5⟩:∃ w5,w5=w4.alloc (.cells #[] 2):=⟨_,rfl⟩
 have X5:Ext w4 w5:=by rw [hw5];exact (Ext.refl w4).alloc _
 have ho5:w5.ownsRow w4.heap.size 2 1 (.slice (some ⟨w4.heap.size,0,none⟩) 0 0) 0 ((rowS (fun _=>0) 0).map (Value.int .i64)):=by rw [hw5];exact rw_new0 w4 w4.heap.size _ 1 (Nat.le_refl _)
 have HX5:=Lib.hid X5
 have HO5:=Lib.hid ho5
 have HW5:=Lib.hid hw5
 clear X5 ho5 hw5
 go_loopw [6,7] (fun v6 v7 wr=>∃ (k:Nat) (a:Option Addr) (c:Nat),k≤nF∧v7=.int .i64 k∧v6=.slice a k c∧Hid (wr.ownsRow w4.heap.size 2 1 (.slice a k c) k ((rowS (fun _=>0) k).map (Value.int .i64)))∧Hid (Ext w4 wr)) (fun _ v7 _=>nF - (intOf v7).toNat)
 case atStart=>exact ⟨0,_,_,Nat.zero_le _,rfl,rfl,by rw [← HW5.out];exact HO5.out,by rw [← HW5.out];exact HX5.out⟩
 case round =>
  clear HO5 HX5 HW5
  obtain ⟨k,a,c,hk,rfl,rfl,HO,HX⟩:=hrel
  have t1:wr.cell? ⟨w.heap.size,1,none⟩=some (.slice aF nF cF):=(HX4.out.trans HX.out).cell ((HBT.out.cell 1).trans rfl)
  by_cases hlt:k<nF
  ·obtain ⟨v',w',p1,p2,p3⟩:=HApp.out w4 wr _ k _ (0:Int) HX.out HO.out (by omega)
   obtain ⟨a5,c5,rfl⟩:=rw_form0 p2
   have HP1:=Lib.hid p1
   have HX6:=Lib.hid p3
   have HO6:Hid (w'.ownsRow w4.heap.size 2 1 (.slice a5 (k+1) c5) (k+1) ((rowS (fun _=>0) (k+1)).map (Value.int .i64))):=by
    rw [rowS_succ];exact p2
   clear p1 p2 p3 HO
   go_wp2_with (at_builtin;refine Lib.wpList_append_run _ rfl _ _ _ _ rfl _ _ rfl rfl _ _ HP1.out ?_)
   go_roundw
   case rel=>exact ⟨k+1,_,_,by omega,by go_num,rfl,HO6.out,HX6.out⟩
   case measure=>simp [intOf];omega
  obtain rfl:nF=k:=by omega
  obtain ⟨g,c',e',hg,_,hgc,hgm⟩:=rw_form HO.out (by omega)
  obtain ⟨rfl,rfl⟩:a=some ⟨g,0,none⟩∧c'=c:=by cases e';exact ⟨rfl,rfl⟩
  obtain ⟨g4,c4',e4,_,_,hlc,hlm⟩:=rw_form HLv.out hL0
  obtain ⟨rfl,rfl⟩:a4=some ⟨g4,0,none⟩∧c4'=c4:=by cases e4;exact ⟨rfl,rfl⟩
  have HA0:Hid (AtR t (m:Int) live 0 0 (fun _=>0)):=AtR.zero _ _ _
  have Hg:=Lib.hid hg
  clear e' e4 hg
  go_wp2_with fail
  go_loopw [8] (fun v8 w6=>∃ (r:Nat) (S:Nat→Nat),r≤L∧v8=.int .i64 r∧Hid (AtR t (m:Int) live r 0 S)∧Hid (w6.ownsRow w4.heap.size 2 1 (.slice (some ⟨g,0,none⟩) nF c') nF ((rowS S nF).map (Value.int .i64)))∧Hid (Ext w4 w6)) (fun v8 _=>L - (intOf v8).toNat)
  case atStart=>exact ⟨0,_,Nat.zero_le _,rfl,HA0.out,HO.out,HX.out⟩
  case round =>
   clear HA0 HO HX t1
   obtain ⟨r,S,hr,rfl,HA,HO,HX⟩:=hrel
   by_cases hlr:r<L
   ·have HA1:=HA
    have HO1:=HO
    have HX1:=HX
    clear HA HO HX
    go_wp2_with fail
    go_loopw [9] (fun v9 w7=>∃ (k:Nat) (S:Nat→Nat),k≤L∧v9=.int .i64 k∧Hid (AtR t (m:Int) live r k S)∧Hid (w7.ownsRow w4.heap.size 2 1 (.slice (some ⟨g,0,none⟩) nF c') nF ((rowS S nF).map (Value.int .i64)))∧Hid (Ext w4 w7)) (fun v9 _=>L - (intOf v9).toNat)
    case atStart=>exact ⟨0,S,Nat.zero_le _,rfl,HA1.out,HO1.out,HX1.out⟩
    case round =>
     clear HA1 HO1 HX1
     obtain ⟨k,S,hk,rfl,HA,HO,HX⟩:=hrel
     by_cases hlk:k<L
     ·obtain ⟨fi,hfi⟩:∃ fi,live[k]? = some fi:=⟨live[k]'(by have:=HLl.out;omega),List.getElem?_eq_getElem _⟩
      have hmet:=HLx.out fi (List.mem_of_getElem? hfi)
      have hfr:=met_all Hb.out.rg hmet
      obtain ⟨f,rfl⟩:∃ f:Nat,fi=f:=⟨fi.toNat,by omega⟩
      have hfn:f<nF:=by have:=HlF2.out;omega
      have HXw:=Lib.hid (HXa.out.trans (HX4.out.trans HX.out))
      have k0:=(rw_at (rw_ext HLv.out HX.out) (i:=k) (u:=.int .i64 (f:Int)) (by rw [List.getElem?_map,hfi];rfl)).1
      have t0:wr.cell? ⟨w.heap.size,0,none⟩=some (.slice aG nG cG):=(HX4.out.trans HX.out).cell ((HBT.out.cell 0).trans rfl)
      have t1:wr.cell? ⟨w.heap.size,1,none⟩=some (.slice aF nF cF):=(HX4.out.trans HX.out).cell ((HBT.out.cell 1).trans rfl)
      have HC:=Lib.hid (HCalls.out f wr HXw.out hfn)
      have Hfi:=Lib.hid hfi
      have Hmet:=Lib.hid hmet
      have z0:(0:Int)≤(k:Int):=by omega
      have z1:(k:Int)<(L:Int):=by omega
      clear hfi hmet hfr
      go_wp2_with fail
      refine HC.out.mono ?_
      rintro e w8 ⟨v8,rfl,ho8,hX8⟩
      obtain ⟨nc,hnc⟩:∃ nc,nc=(succ t (f:Int)).length:=⟨_,rfl⟩
      obtain ⟨cl,hcl⟩:∃ cl,cl=succ t (f:Int):=⟨_,rfl⟩
      have hnc50:nc≤50:=by
       have h:(succ t (f:Int)).length≤t.funcs.length:=callsL_len t _
       have:=HlF2.out
       omega
      have Hsr:Hid (∀ x∈cl,0≤x∧x<nF):=fun x hx=>by
       rw [hcl] at hx
       have:=succ_range hx
       have:=HlF2.out
       omega
      rw [← hcl] at hnc ho8
      rw [← hnc] at ho8
      obtain ⟨a8,c8,rfl⟩:=rw_form0 ho8
      have HO8:=Lib.hid ho8
      have HX8:=Lib.hid (HX.out.trans hX8)
      have HXw8:=Lib.hid (HXw.out.trans hX8)
      have HOs:=Lib.hid (rw_ext HO.out hX8)
      have Hnc:=Lib.hid hnc
      have Hcl:=Lib.hid hcl
      have hdl:=deep_le Hb.out.fr (by rw [HlF2.out];exact hnF)
      have HSb:Hid (∀ i:Nat,S i≤101600):=fun i=>Nat.le_trans (HA.out.le i) (hdl _)
      clear ho8 hX8 HC HO k0 t0 t1 hnc hcl hdl
      go_wp2_with fail
      go_loop [11,13] (fun v11 v13=>∃ (q most:Nat),q≤nc∧most≤101600∧v13=.int .i64 q∧v11=.int .i64 most∧Hid (most=(cl.take q).foldl (fun m x=>max m (S x.toNat)) 0)) (fun _ v13=>nc - (intOf v13).toNat)
      case atStart=>exact ⟨0,0,Nat.zero_le _,by omega,rfl,rfl,rfl⟩
      case round =>
       obtain ⟨q,most,hq,hmb,rfl,rfl,HM⟩:=hrel
       by_cases hqn:q<nc
       ·obtain ⟨x,hx⟩:∃ x,cl[q]? = some x:=⟨cl[q]'(by have:=Hnc.out;omega),List.getElem?_eq_getElem _⟩
        have hx0:=Hsr.out x (List.mem_of_getElem? hx)
        obtain ⟨xc,rfl⟩:∃ xc:Nat,x=xc:=⟨x.toNat,by omega⟩
        obtain ⟨g8,c8',e8,_,_,_,_⟩:=rw_form HO8.out (by omega)
        obtain ⟨rfl,rfl⟩:a8=some ⟨g8,0,none⟩∧c8'=c8:=by cases e8;exact ⟨rfl,rfl⟩
        have k0:=(rw_at HO8.out (i:=q) (u:=.int .i64 (xc:Int)) (by rw [List.getElem?_map,hx];rfl)).1
        have hxn:xc<nF:=by omega
        have k1:=(rw_at HOs.out (i:=xc) (u:=.int .i64 (S xc:Nat)) (by rw [List.getElem?_map,rowS_at hxn];rfl)).1
        have hm2:=fold_snoc' (g:=fun x=>S x.toNat) hx
        rw [← HM.out] at hm2
        obtain ⟨sv,hsv⟩:∃ sv,sv=S xc:=⟨_,rfl⟩
        have hsb:sv≤101600:=by rw [hsv];exact HSb.out _
        rw [show S ((xc:Int)).toNat=sv from hsv.symm] at hm2
        rw [← hsv] at k1
        have HM2:=Lib.hid hm2.symm
        have z2:(0:Int)≤(q:Int):=by omega
        have z3:(q:Int)<(nc:Int):=by omega
        have z4:(0:Int)≤(xc:Int):=by omega
        have z5:(xc:Int)<(nF:Int):=by omega
        clear hx hx0 e8 hm2 hsv
        go_wp2_with fail
        refine (s_l6Most most sv _).mono ?_
        rintro e w9 ⟨rfl,rfl⟩
        go_wp2
        go_round
        case rel=>exact ⟨q+1,max most sv,by omega,by omega,by go_num,rfl,HM2.out⟩
        case measure=>simp [intOf];omega
       ·have hke:cl.take q=cl:=List.take_of_length_le (by rw [← Hnc.out];omega)
        have hme:most=maxL (fun x=>S x.toNat) (succ t (f:Int)):=by rw [HM.out,hke,Hcl.out];rfl
        obtain ⟨aF',nF',cF',eF,_,_,_,helF2⟩:=HF.out.op
        cases eF
        obtain ⟨bF,oF,rfl,_,helF3⟩:=helF2 (by omega)
        obtain ⟨x,cs,hxk,_,hC,hcs⟩:=helF3 f hfn
        obtain ⟨vP,vB,rfl,sP,sB,_⟩:=hC
        have q0:=HXw8.out.cell (hcs.z rfl)
        have q1:=HXw8.out.cell (hcs 1 _ rfl)
        have q2:=HXw8.out.cell (hcs 2 _ rfl)
        have t1:w8.cell? ⟨w.heap.size,1,none⟩=some (.slice (some ⟨bF,oF,none⟩) nF cF):=(HX4.out.trans HX8.out).cell ((HBT.out.cell 1).trans rfl)
        have HFc:=Lib.hid (HFr.out f x vP vB w8 HXw8.out hxk sP sB)
        obtain ⟨aP,nP,cP,rfl⟩:=sP.shape
        obtain ⟨aB,nB,cB,rfl⟩:=sB.shape
        have hfz:=fsz_le Hb.out.fr (f:Int)
        have hst:=AtR.step Hb.out.rg Hb.out.rec_ HA.out (fun x hx=>(met_all Hb.out.rg (HLx.out x hx)).1) Hfi.out Hmet.out
        rw [← hme,show ((f:Int)).toNat=f from rfl] at hst
        obtain ⟨fz,hfzd⟩:∃ fz,fz=fsz t (f:Int):=⟨_,rfl⟩
        rw [← hfzd] at hfz hst HFc
        have Hst:=Lib.hid hst
        have z4:(0:Int)≤(f:Int):=by omega
        have z5:(f:Int)<(nF:Int):=by omega
        obtain ⟨nm,xp,xb⟩:=x
        simp only at q0 HFc
        clear hke hme helF2 helF3 hxk hcs sP sB hst hfzd helF
        go_wp2_with fail
        refine HFc.out.mono ?_
        rintro e w9 ⟨rfl,hX9⟩
        have hrow:=rw_ext HOs.out hX9
        obtain ⟨k1,k2⟩:=rw_at hrow (i:=f) (u:=.int .i64 (S f:Nat)) (by rw [List.getElem?_map,rowS_at hfn];rfl)
        have hset:=rw_set hrow hfn (.int .i64 ((most:Int)+(fz:Int)))
        rw [mapset,show (most:Int)+(fz:Int)=((most+fz:Nat):Int) by omega,rowS_set] at hset
        have HO9:Hid ((w9.setCell ⟨g,f,none⟩ (.int .i64 ((most:Int)+(fz:Int)))).ownsRow w4.heap.size 2 1 (.slice (some ⟨g,0,none⟩) nF c') nF ((rowS (updS S f (most+fz)) nF).map (Value.int .i64))):=by
         rw [show (most:Int)+(fz:Int)=((most+fz:Nat):Int) by omega];exact hset
        have HX9:Hid (Ext w4 (w9.setCell ⟨g,f,none⟩ (.int .i64 ((most:Int)+(fz:Int))))):=Below.setCell (HX8.out.trans hX9) (p:=⟨g,f,none⟩) Hg.out _
        clear hrow hset hX9 q0 q1 q2 t1 HFc
        go_wp2
        go_roundw
        case rel=>exact ⟨k+1,_,by omega,by go_num,Hst.out,HO9.out,HX9.out⟩
        case measure=>simp [intOf];omega
     ·obtain rfl:L=k:=by omega
      have hA2:=HA.out
      rw [← HLl.out] at hA2
      have HA2:=Lib.hid (hA2.next HLm.out)
      clear hA2
      go_wp2
      go_roundw
      case rel=>exact ⟨r+1,S,by omega,by go_num,HA2.out,HO.out,HX.out⟩
      case measure=>simp [intOf];omega
   ·obtain rfl:L=r:=by omega
    have hA2:=HA.out
    rw [← HLl.out] at hA2
    have hfin:=AtR.fin Hb.out.rec_ HLm.out hA2
    rw [← HR.out,show ((m:Int)).toNat=m from rfl] at hfin
    have k1:=(rw_at HO.out (i:=m) (u:=.int .i64 (S m:Nat)) (by rw [List.getElem?_map,rowS_at hmn];rfl)).1
    rw [hfin] at k1
    have HXe:=Lib.hid (HXa.out.trans (HX4.out.trans HX.out))
    have z4:(0:Int)≤(m:Int):=by omega
    have z5:(m:Int)<(nF:Int):=by omega
    clear hA2 hfin HA HO HX
    go_wp2
    go_ret
    exact Gives.int rfl HXe.out
theorem check_bd {t:PTree} (h:(checkAns t).1=0) (hfr:∀ x∈t.funcs,frameSz x≤2032):BdOk t (findF t mainB):=by
 have hv:=check_valid h
 unfold checkAns at h
 rw [if_pos hv] at h
 obtain ⟨h1,h2⟩:=check_met h
 refine ⟨hv,hfr,⟨h1,?_⟩,h2⟩
 rcases findF_range t mainB with h3 | ⟨_,h3,_⟩
 ·omega
 ·omega
theorem bound_neg {t:PTree} (h:(checkAns t).1≠0):boundAns t = -1:=by
 unfold boundAns
 rw [if_neg h]
theorem bound_wide {t:PTree} {x:PFunc} (hx:x∈t.funcs) (h:2032<frameSz x):boundAns t = -1:=by
 unfold boundAns
 by_cases h0:(checkAns t).1=0
 ·rw [if_pos h0,if_pos ⟨x,hx,h⟩]
 ·rw [if_neg h0]
theorem bound_deep {t:PTree} (h:(checkAns t).1=0) (hfr:∀ x∈t.funcs,frameSz x≤2032):boundAns t=(deep t (findF t mainB):Nat):=by
 unfold boundAns
 rw [if_pos h,if_neg]
 rintro ⟨x,hx,hl⟩
 have:=hfr x hx
 omega
theorem sound_funcs {t:PTree} (h:(checkAns t).1=0):0<t.funcs.length:=by
 have hv:=check_valid h
 unfold checkAns at h
 rw [if_pos hv] at h
 have h1:=(check_met h).1
 rcases findF_range t mainB with h3 | ⟨_,h3,_⟩
 ·omega
 ·omega
set_option maxRecDepth 1000000 in
set_option maxHeartbeats 4000000 in
theorem s_Bound (K:Foot) (t:PTree) (vG vF:Value) (w:World) (hG:SlGlob K w vG t.globals) (hF:SlFunc K w vF t.funcs) (hz:Small t) :
  Calls Tryz.prog 24 #[.agg #[vG,vF]] w (Gives (.int .i64 (boundAns t)) w):=by
 obtain ⟨w1,hw1⟩:∃ w1,w1=w.alloc (.cells #[vG,vF] 32):=⟨_,rfl⟩
 have X1:Ext w w1:=by rw [hw1];exact (Ext.refl w).alloc _
 have HFr:=Lib.hid (s_Frames K t vG vF w1 (Sl.ext hG X1 (fun _ _ h=>h.any)) (Sl.ext hF X1 (fun _ _ h=>h.ext X1)) hz)
 have HGx:Hid (∀ w',Ext w w'→SlGlob K w' vG t.globals):=fun w' k=>Sl.ext hG k (fun _ _ h=>h.any)
 have HFx:Hid (∀ w',Ext w w'→SlFunc K w' vF t.funcs):=fun w' k=>Sl.ext hF k (fun _ _ h=>h.ext k)
 obtain ⟨aG,nG,cG,rfl⟩:=hG.shape
 obtain ⟨aF,nF,cF,rfl⟩:=hF.shape
 have BT:Blk w1 w.heap.size 32 #[.slice aG nG cG,.slice aF nF cF]:=by rw [hw1];exact Blk.alloc _ _ _
 obtain ⟨R,hR⟩:∃ R,R=boundAns t:=⟨_,rfl⟩
 rw [← hR]
 have HR:=Lib.hid hR
 have HX1:=Lib.hid X1
 have HBT:=Lib.hid BT
 have HW1:=Lib.hid hw1
 have b0:w1.cell? ⟨w.heap.size,0,none⟩=some (.slice aG nG cG):=(BT.cell 0).trans rfl
 have b1:w1.cell? ⟨w.heap.size,1,none⟩=some (.slice aF nF cF):=(BT.cell 1).trans rfl
 rw [hw1] at b0 b1
 clear hG hF hz hR X1 BT hw1
 go_enter Tryz.func24,Tryz.ntmps24
 go_wp2_with fail
 rw [← HW1.out]
 refine HFr.out.mono ?_
 rintro e w2 ⟨v2,rfl,ho2,hX2⟩
 have HX2:=Lib.hid (HX1.out.trans hX2)
 have t0:w2.cell? ⟨w.heap.size,0,none⟩=some (.slice aG nG cG):=hX2.cell ((HBT.out.cell 0).trans rfl)
 have t1:w2.cell? ⟨w.heap.size,1,none⟩=some (.slice aF nF cF):=hX2.cell ((HBT.out.cell 1).trans rfl)
 obtain ⟨a2,c2,rfl⟩:=rw_form0 ho2
 clear hX2 HFr b0 b1
 by_cases h0:(checkAns t).1=0
 case neg =>
  have hl:framesAns t=[]:=by unfold framesAns;rw [if_neg h0]
  have HRr:Hid (R = -1):=by
   show _=_
   rw [HR.out];exact bound_neg h0
  rw [hl]
  clear ho2 h0 hl
  go_wp2
  go_ret
  exact Gives.int HRr.out.symm HX2.out
 have hl:framesAns t=t.funcs.map fun x=>((frameSz x:Nat):Int):=by unfold framesAns;rw [if_pos h0]
 rw [hl,List.length_map] at ho2
 rw [hl,List.length_map]
 obtain ⟨n,hn⟩:∃ n,n=t.funcs.length:=⟨_,rfl⟩
 have hn0:0<n:=by rw [hn];exact sound_funcs h0
 have hn50:n≤50:=by rw [hn];exact (valid_bounds (check_valid h0)).2.1
 rw [← hn] at ho2 ⊢
 have HO2:=Lib.hid ho2
 have Hn:=Lib.hid hn
 have H0:=Lib.hid h0
 clear ho2 hn hl h0
 have q0:((n:Int) == 0)=false:=by simp;omega
 go_wp2_with fail
 go_loop [4] (fun v4=>∃ k:Nat,k≤n∧v4=.int .i64 k∧Hid (∀ i x,i<k→t.funcs[i]? = some x→frameSz x≤2032)) (fun v4=>n - (intOf v4).toNat)
 case atStart=>exact ⟨0,Nat.zero_le _,rfl,fun i x h=>absurd h (Nat.not_lt_zero _)⟩
 case round =>
  obtain ⟨k,hk,rfl,HA⟩:=hrel
  by_cases hlt:k<n
  ·obtain ⟨x,hx⟩:∃ x,t.funcs[k]? = some x:=⟨t.funcs[k]'(by have:=Hn.out;omega),List.getElem?_eq_getElem _⟩
   obtain ⟨g,c',e',_,_,_,_⟩:=rw_form HO2.out (by omega)
   obtain ⟨rfl,rfl⟩:a2=some ⟨g,0,none⟩∧c'=c2:=by cases e';exact ⟨rfl,rfl⟩
   have k0:=(rw_at HO2.out (i:=k) (u:=.int .i64 (frameSz x:Nat)) (by rw [List.map_map,List.getElem?_map,hx];rfl)).1
   obtain ⟨fz,hfz⟩:∃ fz,fz=frameSz x:=⟨_,rfl⟩
   rw [← hfz] at k0
   have z0:(0:Int)≤(k:Int):=by omega
   have z1:(k:Int)<(n:Int):=by omega
   by_cases hb:(2032:Int)<(fz:Int)
   ·have HRr:Hid (R = -1):=by
     show _=_
     rw [HR.out];exact bound_wide (List.mem_of_getElem? hx) (by omega)
    clear hx hfz e'
    go_wp2
    go_ret
    exact Gives.int HRr.out.symm HX2.out
   ·have HA2:Hid (∀ i x,i<k+1→t.funcs[i]? = some x→frameSz x≤2032):=fun i y hi hy=>by
     by_cases hik:i<k
     ·exact HA.out i y hik hy
     ·obtain rfl:k=i:=by omega
      obtain rfl:x=y:=Option.some.inj (hx.symm.trans hy)
      omega
    clear hx hfz e'
    go_wp2
    go_round
    case rel=>exact ⟨k+1,by omega,by go_num,HA2.out⟩
    case measure=>simp [intOf];omega
  ·obtain rfl:n=k:=by omega
   have hall:∀ x∈t.funcs,frameSz x≤2032:=fun x hx=>by
    obtain ⟨i,hi,e⟩:=List.getElem_of_mem hx
    exact HA.out i x (by have:=Hn.out;omega) (by rw [List.getElem?_eq_getElem hi,e])
   have hbd:=check_bd H0.out hall
   have hR2:=bound_deep H0.out hall
   obtain ⟨m,hm⟩:∃ m:Nat,findF t mainB=m:=⟨(findF t mainB).toNat,by have:=hbd.rg;omega⟩
   rw [hm] at hbd hR2
   have HRr:Hid (R=(deep t (m:Int):Nat)):=by
    show _=_
    rw [HR.out];exact hR2
   have HFn:Hid (∀ w',Ext w w'→Calls Tryz.prog 46 #[.agg #[.slice aG nG cG,.slice aF nF cF],.string mainB] w' (Gives (.int .i64 (m:Int)) w')):=fun w' hX=>by
    have:=s_l3Func K t _ _ mainB w' (HGx.out w' hX) (HFx.out w' hX)
    rw [hm] at this
    exact this
   have HDp:Hid (∀ w',Ext w w'→Calls Tryz.prog 55 #[.agg #[.slice aG nG cG,.slice aF nF cF],.int .i64 (m:Int)] w' (Gives (.int .i64 (deep t (m:Int):Nat)) w')):=fun w' hX=>s_l6Deep K t _ _ m w' (HGx.out w' hX) (HFx.out w' hX) hbd
   clear hall hbd hR2 hm
   go_wp2_with fail
   refine start_ (n:=5) (S:=fun w'=>w'.cell? ⟨w.heap.size,0,none⟩=some (.slice aG nG cG)∧w'.cell? ⟨w.heap.size,1,none⟩=some (.slice aF nF cF)) (ds:=[]) #[false,false,false,false,false] (by kernel_rfl) rfl rfl ?hS (fun hHeld=>?_)
   case hS=>exact ⟨by simpa using t0,by simpa using t1⟩
   refine ta_ 0 (some 21) #[true,false,false,false,false] rfl rfl (by kernel_rfl) (fun _ _ _ h=>h) hHeld (by rfl) (by rintro w' ⟨s0,s1⟩;go_simp;with_reducible rfl) (by simp only [pt_];rfl) ?_
   refine ta_ 1 (some 22) #[true,true,false,false,false] rfl rfl (by kernel_rfl) (fun _ _ _ h=>h) hHeld (by rfl) (by rintro w' ⟨s0,s1⟩;go_simp;with_reducible rfl) (by simp only [pt_];rfl) ?_
   refine one_ (i:=2) (N:=some 23) #[true,true,true,false,false] rfl rfl (by kernel_rfl) (by decide) (fun K hK=>?_)
   refine goes_ (N:=some 23) Tryz.func46 (by kernel_rfl) rfl #[.agg #[.slice aG nG cG,.slice aF nF cF],.string mainB] (by rfl) rfl rfl (by simp [Act.eval,mainB]) ?_
   refine (HFn.out _ (HX2.out.drew)).mono ?_
   rintro e w5 ⟨rfl,hX5⟩
   refine ⟨_,rfl,?_⟩
   have hX25:Ext w2 w5:=((Ext.refl w2).drew).trans hX5
   refine hK.out _ _ ⟨hX25.cell t0,hX25.cell t1⟩ (fun hHeld=>?_)
   clear hK K
   refine norm_ (by show Act.put _ (some 23) _=_;simp only [pt_];rfl) ?_
   refine one_ (i:=3) (N:=some 24) #[true,true,true,true,false] rfl rfl (by kernel_rfl) (by decide) (fun K hK=>?_)
   refine goes_ (N:=some 24) Tryz.func55 (by kernel_rfl) rfl #[.agg #[.slice aG nG cG,.slice aF nF cF],.int .i64 (m:Int)] (by rfl) rfl rfl (by simp [Act.eval]) ?_
   refine (HDp.out _ (HX2.out.trans hX25)).mono ?_
   rintro e w6 ⟨rfl,hX6⟩
   refine ⟨_,rfl,?_⟩
   have hX26:=hX25.trans hX6
   refine hK.out _ _ ⟨hX26.cell t0,hX26.cell t1⟩ (fun hHeld=>?_)
   clear hK K
   refine norm_ (by show Act.put _ (some 24) _=_;simp only [pt_];rfl) ?_
   refine pu_ 4 (some 2) #[true,true,true,true,true] rfl rfl (by kernel_rfl) (fun _ _ _ h=>h) (by rfl) (by intro w';go_simp;with_reducible rfl) (by simp only [pt_];rfl) ?_
   refine done_ (by kernel_rfl) ?_
   clear hHeld
   go_wp2
   go_ret
   exact Gives.int HRr.out.symm (HX2.out.trans hX26)
open Go Go.RowKit Md Go.Proofs.YtcfggjmdcaoecaaGreatDoorW.PrintLast
abbrev NP:=List (Int×Value)
structure Tm (M:Nat) (w w':World):Prop where
 os:w'.os=w.os
 tape:w'.tape=w.tape
 output:w'.output=w.output
 size:w.heap.size≤w'.heap.size
 block:∀ k,k<w.heap.size→k≠M→w'.heap[k]? = w.heap[k]?
theorem Tm.refl (M:Nat) (w:World):Tm M w w:=⟨rfl,rfl,rfl,Nat.le_refl _,fun _ _ _=>rfl⟩
theorem Tm.trans {M:Nat} {a b c:World} (h:Tm M a b) (k:Tm M b c):Tm M a c :=
 ⟨k.os.trans h.os,k.tape.trans h.tape,k.output.trans h.output,Nat.le_trans h.size k.size,fun i hi hn=>(k.block i (Nat.lt_of_lt_of_le hi h.size) hn).trans (h.block i hi hn)⟩
theorem Tm.ext {M:Nat} {w w':World} (k:Ext w w'):Tm M w w':=⟨k.os,k.tape,k.output,k.size,fun i hi _=>k.block i hi⟩
theorem Tm.turn {M:Nat} {w w':World} (k:Turned w M w'):Tm M w w':=⟨k.1,k.2.1,k.2.2.1,by rw [k.2.2.2.1];exact Nat.le_refl _,fun i _ hn=>k.2.2.2.2 i hn⟩
theorem Tm.cell {M:Nat} {w w':World} (h:Tm M w w') {a:Addr} {v:Value} (ha:a.block≠M) (hc:w.cell? a=some v):w'.cell? a=some v :=
 (World.cell?_of_block (w:=w) (h.block a.block (World.block_lt_of_cell? w a hc) ha)).trans hc
theorem Tm.keep {M:Nat} {w w':World} (h:Tm M w w') {K:Foot} (hK:∀ b,K b→b≠M):Keep K w w':=fun b hb hl=>h.block b hl (hK b hb)
theorem Tm.below {M base:Nat} {w w':World} (h:Tm M w w') (hb:base≤M) (hs:base≤w.heap.size):Below base w w':=⟨h.os,h.tape,h.output,h.size,fun k hk=>h.block k (by omega) (by omega)⟩
def GoodM (t:PTree) (m:NP):Prop:=∀ k v,assoc m k=some v→v=.int .i64 (deep t k:Nat)
theorem GoodM.nil (t:PTree):GoodM t []:=fun k v h=>by cases h
theorem GoodM.add {t:PTree} {m:NP} (h:GoodM t m) (k:Int):GoodM t (updA m k (.int .i64 (deep t k:Nat))):=fun j v hv=>by
 rw [assoc_upd] at hv
 by_cases he:j=k
 ·rw [if_pos he] at hv
  cases hv
  rw [he]
 ·rw [if_neg he] at hv
  exact h j v hv
structure FromS (K:Foot) (t:PTree) (fs:List Fn) (w0:World) (Fo Ub Cl Fr M ub g n cR:Nat):Prop where
 c1:w0.cell? ⟨Fo,0,none⟩=some (.map (some M))
 c2:w0.cell? ⟨Ub,0,none⟩=some (.pointer (some ⟨ub,0,none⟩))
 c3:w0.cell? ⟨Cl,0,none⟩=some (.func (.func 98) #[] #[.pointer (some ⟨Fo,0,none⟩),.pointer (some ⟨Ub,0,none⟩),.pointer (some ⟨Cl,0,none⟩),.pointer (some ⟨Fr,0,none⟩)])
 c4:w0.cell? ⟨Fr,0,none⟩=some (.slice (some ⟨g,0,none⟩) n cR)
 row:∀ i,i<n→w0.cell? ⟨g,i,none⟩=some (.int .i64 (fsz t (i:Int):Nat))
 ne:Fo≠M∧Ub≠M∧Cl≠M∧Fr≠M∧g≠M
 unit:UnitAt K w0 (.pointer (some ⟨ub,0,none⟩)) t fs
 apart:∀ b,K b→b≠M
 lt:M<w0.heap.size
 len:t.funcs.length=n∧n≤cR∧cR≤9223372036854775807
structure MOk (t:PTree) (w0:World) (M:Nat) (w:World) (m:NP):Prop where
 tm:Tm M w0 w
 mp:MapAt intKey w M m
 good:GoodM t m
def FromOut (t:PTree) (M:Nat) (i:Int) (w:World) (e:Ending) (w':World):Prop:=∃ m,e=.returned (.int .i64 (deep t i:Nat))∧MapAt intKey w' M m∧GoodM t m∧Tm M w w'
theorem zero_i64 (w:World):(zeroValue 2).run Tryz.prog w=.ok (.int .i64 0) w:=by kernel_rfl
theorem fold_snoc {g:Int→Nat} {l:List Int} {k:Nat} {x:Int} (h:l[k]? = some x):(l.take (k+1)).foldl (fun m x=>max m (g x)) 0=max ((l.take k).foldl (fun m x=>max m (g x)) 0) (g x):=by
 rw [take_snoc h,List.foldl_append]
 rfl
set_option maxRecDepth 1000000 in
set_option maxHeartbeats 0 in
theorem i_from (K:Foot) (t:PTree) (fs:List Fn) (m0:Int) (w0:World) (Fo Ub Cl Fr M ub g n cR:Nat) (hS:FromS K t fs w0 Fo Ub Cl Fr M ub g n cR) (hv:valid t=true) (hfr:∀ x∈t.funcs,frameSz x≤2032) (hm:0≤m0∧m0<t.funcs.length) (hrec:∀ x,MetF t m0 x→¬ Rch t [x] x) :
  ∀ (r:Nat) (i:Nat) (w:World) (m:NP),Low t r (i:Int)→MetF t m0 (i:Int)→MOk t w0 M w m →
   Calls Tryz.prog 98 #[.int .i64 (i:Int),.pointer (some ⟨Fo,0,none⟩),.pointer (some ⟨Ub,0,none⟩),.pointer (some ⟨Cl,0,none⟩),.pointer (some ⟨Fr,0,none⟩)] w (FromOut t M (i:Int) w):=by
 intro r
 induction r with
 | zero=>intro i w m h;exact h.elim
 | succ r ih =>
 intro i w m hlow hmet hok
 have hin:i<n:=by have:=(met_all hm hmet).2;have:=hS.len.1;omega
 have hvb:=valid_bounds hv
 have hn50:n≤50:=by have:=hvb.2.1;have:=hS.len.1;omega
 have hD:=deep_eq hm hrec hmet
 have hdl:=deep_le hfr hvb.2.1
 obtain ⟨D,hDd⟩:∃ D,D=deep t (i:Int):=⟨_,rfl⟩
 obtain ⟨F,hF⟩:∃ F,F=fsz t (i:Int):=⟨_,rfl⟩
 have hF2:F≤2032:=by rw [hF];exact fsz_le hfr _
 rw [← hF,← hDd] at hD
 unfold FromOut
 rw [← hDd]
 have HM:=Lib.hid hok
 have HC:Hid (∀ w',Tm M w0 w'→Calls Tryz.prog 39 #[.pointer (some ⟨ub,0,none⟩),.int .i64 (i:Int)] w' (Listed w' (succ t (i:Int)))):=fun w' hT=>by
  obtain ⟨x,hx⟩:∃ x,t.funcs[i]? = some x:=⟨t.funcs[i]'(by have:=hS.len.1;omega),List.getElem?_eq_getElem _⟩
  have hxb:=hvb.2.2 x (List.mem_of_getElem? hx)
  have:=i_calls K t fs (.pointer (some ⟨ub,0,none⟩)) i (i:Int) rfl x w' (hS.unit.keep (hT.keep hS.apart) (fun _ h=>h)) hx (by omega) (by omega) (fun s hs=>by have:=nodes_mem hs;omega) (by have:=outL_nodes t x.body;omega)
  unfold succ bodyOf
  simpa [hx] using this
 have HSl:Hid ((succ t (i:Int)).length≤50):=by
  have h:(succ t (i:Int)).length≤t.funcs.length:=callsL_len t _
  have:=hvb.2.1
  show _≤_
  omega
 have HIH:Hid (∀ (c:Nat) (w':World) (m':NP),(c:Int)∈succ t (i:Int)→MOk t w0 M w' m'→Calls Tryz.prog 98 #[.int .i64 (c:Int),.pointer (some ⟨Fo,0,none⟩),.pointer (some ⟨Ub,0,none⟩),.pointer (some ⟨Cl,0,none⟩),.pointer (some ⟨Fr,0,none⟩)] w' (FromOut t M (c:Int) w')) :=
  fun c w' m' hc hk=>ih c w' m' (hlow c hc) (hmet.succ hc) hk
 have Hc:Hid (∀ w',Tm M w0 w'→w'.cell? ⟨Fo,0,none⟩=some (.map (some M))∧w'.cell? ⟨Ub,0,none⟩=some (.pointer (some ⟨ub,0,none⟩))∧w'.cell? ⟨Cl,0,none⟩=some (.func (.func 98) #[] #[.pointer (some ⟨Fo,0,none⟩),.pointer (some ⟨Ub,0,none⟩),.pointer (some ⟨Cl,0,none⟩),.pointer (some ⟨Fr,0,none⟩)]) ∧
   w'.cell? ⟨Fr,0,none⟩=some (.slice (some ⟨g,0,none⟩) n cR)∧w'.cell? ⟨g,i,none⟩=some (.int .i64 (F:Nat))):=fun w' hT =>
  ⟨hT.cell hS.ne.1 hS.c1,hT.cell hS.ne.2.1 hS.c2,hT.cell hS.ne.2.2.1 hS.c3,hT.cell hS.ne.2.2.2.1 hS.c4,by rw [hF];exact hT.cell (a:=⟨g,i,none⟩) hS.ne.2.2.2.2 (hS.row i hin)⟩
 have Hlen:=Lib.hid hS.len.2
 have HMlt:=Lib.hid hS.lt
 have HD:=Lib.hid hD
 have HDd:=Lib.hid hDd
 have Hdl:=Lib.hid hdl
 have Hsr:Hid (∀ x∈succ t (i:Int),0≤x):=fun x hx=>(succ_range hx).1
 clear hS ih hlow hmet hvb hD hF hDd hdl hok hm hrec hfr hv
 obtain ⟨q1,q2,q3,q4,q5⟩:=Hc.out w HM.out.tm
 have hlk:=run_look (P:=Tryz.prog) (kk:=intKey) HM.out.mp Tryz.underlying161 Tryz.underlying3 (zero_i64 w) (i:Int)
 go_enter Tryz.func98,Tryz.ntmps98
 cases ha:assoc m (i:Int) with
 | some u =>
   obtain rfl:=HM.out.good _ u ha
   rw [ha,← HDd.out] at hlk
   have hlk2:(Instr.lookup 161 (.map (some M)) (.int .i64 (i:Int)) true).run Tryz.prog w=.ok (.tuple #[.int .i64 (D:Nat),.bool true]) w:=hlk
   clear ha hlk
   go_wp2
   go_ret
   exact ⟨m,rfl,HM.out.mp,HM.out.good,Tm.refl _ _⟩
 | none =>
   rw [ha] at hlk
   have hlk2:(Instr.lookup 161 (.map (some M)) (.int .i64 (i:Int)) true).run Tryz.prog w=.ok (.tuple #[.int .i64 0,.bool false]) w:=hlk
   have HC1:=Lib.hid (HC.out w HM.out.tm)
   clear ha hlk
   go_wp2_with fail
   refine HC1.out.mono ?_
   rintro e w2 ⟨v2,rfl,ho2,hX2⟩
   obtain ⟨nc,hnc⟩:∃ nc,nc=(succ t (i:Int)).length:=⟨_,rfl⟩
   obtain ⟨cl,hcl⟩:∃ cl,cl=succ t (i:Int):=⟨_,rfl⟩
   rw [← hcl] at hnc ho2 HSl HIH HD Hsr
   rw [← hnc] at ho2 HSl
   obtain ⟨a2,c2,rfl⟩:=rw_form0 ho2
   have hnc50:nc≤50:=HSl.out
   have HM2:Hid (MOk t w0 M w2 m):=⟨HM.out.tm.trans (Tm.ext hX2),HM.out.mp.ext hX2,HM.out.good⟩
   have HO2:=Lib.hid ho2
   have Hnc:=Lib.hid hnc
   have HX2:=Lib.hid hX2
   clear ho2 hX2 HC1 HC hlk2 q1 q2 q3 q4 q5 hnc hcl
   go_wp2_with fail
   go_loopw [9,24] (fun v9 v24 wr=>∃ (k most:Nat) (m2:NP),k≤nc∧most≤110000∧v24=.int .i64 k∧v9=.int .i64 most∧Hid (most=(cl.take k).foldl (fun m x=>max m (deep t x)) 0)∧Hid (MOk t w0 M wr m2)∧Hid (wr.ownsRow w.heap.size 3 1 (.slice a2 nc c2) nc (cl.map (Value.int .i64)))∧Hid (Tm M w wr)) (fun _ v24 _=>nc - (intOf v24).toNat)
   case atStart=>exact ⟨0,0,m,Nat.zero_le _,by omega,rfl,rfl,rfl,HM2.out,HO2.out,Tm.ext HX2.out⟩
   case round =>
    clear HM2 HO2 HX2
    obtain ⟨k,most,m2,hk,hmb,rfl,rfl,HA,HM2,HO,HT⟩:=hrel
    obtain ⟨q1,q2,q3,q4,q5⟩:=Hc.out wr HM2.out.tm
    by_cases hlt:k<nc
    ·obtain ⟨x,hx⟩:∃ x,cl[k]? = some x:=⟨cl[k]'(by have:=Hnc.out;omega),List.getElem?_eq_getElem _⟩
     have hx0:=Hsr.out x (List.mem_of_getElem? hx)
     obtain ⟨c,rfl⟩:∃ c:Nat,x=c:=⟨x.toNat,by omega⟩
     obtain ⟨g2,c2',e2,hg2,hgl,_,_⟩:=rw_form HO.out (by omega)
     obtain ⟨rfl,rfl⟩:a2=some ⟨g2,0,none⟩∧c2'=c2:=by cases e2;exact ⟨rfl,rfl⟩
     have k0:=(rw_at HO.out (i:=k) (u:=.int .i64 (c:Int)) (by rw [List.getElem?_map,hx];rfl)).1
     have HR:=Lib.hid (HIH.out c wr m2 (List.mem_of_getElem? hx) HM2.out)
     have hA2:=fold_snoc (g:=deep t) hx
     rw [← HA.out] at hA2
     obtain ⟨dc,hdc⟩:∃ dc,dc=deep t (c:Int):=⟨_,rfl⟩
     have hdb:dc≤101600:=by rw [hdc];exact Hdl.out _
     unfold FromOut at HR
     rw [← hdc] at HR hA2
     have HA2:=Lib.hid hA2.symm
     have hgM:g2≠M:=by have:=HMlt.out;have:=HM.out.tm.size;omega
     have HgM:=Lib.hid hgM
     have Hgl:=Lib.hid hgl
     have z0:(0:Int)≤(k:Int):=by omega
     have z1:(k:Int)<(nc:Int):=by omega
     clear hx hx0 e2 hg2 hgl hA2 hdc hgM
     go_wp2_with fail
     refine HR.out.mono ?_
     rintro e w5 ⟨m5,rfl,hM5,hG5,hT5⟩
     have HM5:Hid (MOk t w0 M w5 m5):=⟨HM2.out.tm.trans hT5,hM5,hG5⟩
     have HT5:Hid (Tm M w w5):=HT.out.trans hT5
     have HO5:Hid (w5.ownsRow w.heap.size 3 1 (.slice (some ⟨g2,0,none⟩) nc c2') nc (cl.map (Value.int .i64))):=own_keep HO.out (fun g hg=>by
      cases hg
      exact hT5.block _ Hgl.out HgM.out)
     clear hM5 hG5 hT5 HR q1 q2 q3 q4 q5 k0
     go_wp2
     go_roundw
     case rel=>exact ⟨k+1,max most dc,m5,by omega,by omega,by go_num,by (first | (congr 1;omega) | simp),HA2.out,HM5.out,HO5.out,HT5.out⟩
     case measure=>simp [intOf];omega
    ·have hke:cl.take k=cl:=List.take_of_length_le (by rw [← Hnc.out];omega)
     have hDm:D=most+F:=by
      rw [HD.out,HA.out,hke]
      rfl
     have HDw:Hid (wrap64 ((F:Int)+(most:Int))=(D:Int)):=by
      show _=_
      rw [hDm]
      unfold Go.RowKit.wrap64
      omega
     have hDd:Hid (deep t (i:Int)=D):=HDd.out.symm
     obtain ⟨w6,r6,hM6,hT6⟩:=run_upd (kk:=intKey) (P:=Tryz.prog) (HM2.out.mp.ext ((Ext.refl wr).drew)) Tryz.underlying161 Tryz.underlying3 (i:Int) (.int .i64 (D:Int))
     have hG6:GoodM t (updA m2 (i:Int) (.int .i64 (D:Int))):=by
      have:=HM2.out.good.add (i:Int)
      rw [hDd.out] at this
      exact this
     have hlk6:=run_look1 (P:=Tryz.prog) (kk:=intKey) hM6 Tryz.underlying161 Tryz.underlying3 (zero_i64 w6) (i:Int)
     rw [assoc_upd,if_pos rfl] at hlk6
     have hlk7:(Instr.lookup 161 (.map (some M)) (.int .i64 (i:Int)) false).run Tryz.prog w6=.ok (.int .i64 (D:Int)) w6:=hlk6
     have hT06:Tm M wr w6:=(Tm.ext ((Ext.refl wr).drew)).trans (Tm.turn hT6)
     have HM6:Hid (MOk t w0 M w6 (updA m2 (i:Int) (.int .i64 (D:Int)))):=⟨HM2.out.tm.trans hT06,hM6,hG6⟩
     have HT6:Hid (Tm M w w6):=HT.out.trans hT06
     have HR6:=Lib.hid r6
     obtain ⟨p1,_,_,_,_⟩:=Hc.out w6 HM6.out.tm
     have z0:(0:Int)≤(i:Int):=by omega
     have z1:(i:Int)<(n:Int):=by omega
     clear hke hDm r6 hM6 hT6 hG6 hlk6 hT06
     go_wp2_with fail
     refine start_ (n:=9) (S:=fun w'=>w'.cell? ⟨Fo,0,none⟩=some (.map (some M))∧w'.cell? ⟨Fr,0,none⟩=some (.slice (some ⟨g,0,none⟩) n cR)∧w'.cell? ⟨g,i,none⟩=some (.int .i64 (F:Nat))) (ds:=[8]) #[false,false,false,false,false,false,false,false,false] (by kernel_rfl) rfl rfl ?hS (fun hHeld=>?_)
     case hS=>exact ⟨by simpa using q1,by simpa using q4,by simpa using q5⟩
     refine ta_ 0 (some 34) #[true,false,false,false,false,false,false,false,false] rfl rfl (by kernel_rfl) (fun _ _ _ h=>h) hHeld (by rfl) (by rintro w' ⟨s0,s1,s2⟩;go_simp;with_reducible rfl) (by simp only [pt_];rfl) ?_
     refine pu_ 1 (some 35) #[true,true,false,false,false,false,false,false,false] rfl rfl (by kernel_rfl) (fun _ _ _ h=>h) (by rfl) (by intro w';go_simp;with_reducible rfl) (by simp only [pt_];rfl) ?_
     refine ta_ 2 (some 36) #[true,true,true,false,false,false,false,false,false] rfl rfl (by kernel_rfl) (fun _ _ _ h=>h) hHeld (by rfl) (by rintro w' ⟨s0,s1,s2⟩;go_simp;with_reducible rfl) (by simp only [pt_];rfl) ?_
     refine pu_ 3 (some 37) #[true,true,true,true,false,false,false,false,false] rfl rfl (by kernel_rfl) (fun _ _ _ h=>h) (by rfl) (by intro w';go_simp;with_reducible rfl) (by simp only [pt_];rfl) ?_
     refine pu_ 4 (some 38) #[true,true,true,true,true,false,false,false,false] rfl rfl (by kernel_rfl) (fun _ _ _ h=>h) (by rfl) (by intro w';go_simp;with_reducible rfl) (by simp only [pt_];rfl) ?_
     refine ta_ 5 (some 39) #[true,true,true,true,true,true,false,false,false] rfl rfl (by kernel_rfl) (fun _ _ _ h=>h) hHeld (by rfl) (by rintro w' ⟨s0,s1,s2⟩;go_simp;with_reducible rfl) (by simp only [pt_];rfl) ?_
     refine pu_ 6 (some 40) #[true,true,true,true,true,true,true,false,false] rfl rfl (by kernel_rfl) (fun _ _ _ h=>h) (by rfl) (by intro w';go_simp;with_reducible rfl) (by simp only [pt_];rfl) ?_
     refine pu_ 7 (some 41) #[true,true,true,true,true,true,true,true,false] rfl rfl (by kernel_rfl) (fun _ _ _ h=>h) (by rfl) (by intro w';go_simp;with_reducible rfl) (by simp only [pt_];rfl) ?_
     refine last_ (i:=8) (N:=none) #[true,true,true,true,true,true,true,true,true] rfl rfl (by kernel_rfl) (by decide) (fun K hK=>?_)
     refine skip_ (w1:=w6) (by rfl) rfl (exec_upd (v:=.int .i64 (D:Int)) rfl rfl rfl (congrArg (Value.int .i64) HDw.out) HR6.out) ?_
     refine hK.out _ _ ?_
     clear hK K
     refine done_ (by kernel_rfl) ?_
     clear hHeld q1 q2 q3 q4 q5
     go_wp2
     go_ret
     exact ⟨_,rfl,HM6.out.mp,HM6.out.good,HT6.out⟩
theorem goesC_ {P:Program} {ops:Array Oper} {Q:Exit→Act→World→Prop} {oi:Oper} {N:Option Tmp} {a:Act} {w:World} {K:Act→World→Prop} {f:FuncId} {fn:Func} {x:Operand} {caps:Array Value} {xs:Array Operand} {ts:Array TypeId} (hf:P.funcs[f]? = some fn) (hname:(fn.name == "runtime.NumGoroutine")=false) (hb:fn.body.isSome=true) (args:Array Value)
  (hw:Region.wanted oi (yielded ops a.tmps)=true) (hN:oi.dst=N) (hop:oi.op=.call { callee:=.value x,args:=xs,argTypes:=ts }) (hx:a.eval x=.func (.func f) #[] caps) (hargs:xs.map a.eval ++ caps=args)
  (h:Calls P f args w fun e w'=>∃ v,e=.returned v∧K (a.put N v) w'):if Region.wanted oi (yielded ops a.tmps)=true then Oper.wp P oi a w K Q else K (a.put N undef) w:=by
 refine call_ f args hw hN ?_ h
 have he:=enters_ hf hname hb args w
 unfold execOp
 simp [hop,resolve,hx,Deferred.ofValue,invoke,hargs,he]
set_option maxRecDepth 1000000 in
set_option maxHeartbeats 4000000 in
theorem i_bound (K:Foot) (t:PTree) (fs:List Fn) (ub:Nat) (w:World) (hK:∀ b,K b→b<w.heap.size) (hU:UnitAt K w (.pointer (some ⟨ub,0,none⟩)) t fs) (hB:Bodies t.funcs fs) (hS:∀ p∈fs,SoundFn p) (hv:valid t=true) (hrec:0≤findF t mainB∧∀ x,MetF t (findF t mainB) x→¬ Rch t [x] x) (R:Int) (HR:Hid (R=if ∃ x∈t.funcs,2032<frameSz x then -1 else ((deep t (findF t mainB):Nat):Int))) :
  Calls Tryz.prog 57 #[.pointer (some ⟨ub,0,none⟩)] w (Gives (.int .i64 R) w):=by
 have hn50:=(valid_bounds hv).2.1
 have hln:fs.length≤50:=by
  rw [← hB.1,List.length_map] at hn50
  exact hn50
 have hmr:=findF_range t mainB
 obtain ⟨m,hm⟩:∃ m:Nat,findF t mainB=m:=⟨(findF t mainB).toNat,by omega⟩
 have hmn:m<t.funcs.length:=by
  rcases hmr with h | ⟨_,h,_⟩
  ·omega
  ·omega
 rw [hm] at hrec HR
 obtain ⟨n,hn⟩:∃ n,n=t.funcs.length:=⟨_,rfl⟩
 obtain ⟨w1,hw1⟩:∃ w1,w1=w.alloc (.cells #[.pointer (some ⟨ub,0,none⟩)] 57):=⟨_,rfl⟩
 have X1:Ext w w1:=by rw [hw1];exact (Ext.refl w).alloc _
 have BU:Blk w1 w.heap.size 57 #[.pointer (some ⟨ub,0,none⟩)]:=by rw [hw1];exact Blk.alloc _ _ _
 have HFr:=Lib.hid (i_frames K t fs (.pointer (some ⟨ub,0,none⟩)) w1 (fun b hb=>Nat.lt_of_lt_of_le (hK b hb) X1.size) (hU.ext X1) hB hS hln)
 have HUx:Hid (∀ w',Ext w w'→UnitAt K w' (.pointer (some ⟨ub,0,none⟩)) t fs):=fun w' k=>hU.ext k
 obtain ⟨_,vG,vF,vs,ps,e,_,hc,hG,hF,_⟩:=hU
 cases e
 have HFN:Hid (∀ w',Ext w w'→Calls Tryz.prog 74 #[.agg #[vG,vF],.string mainB] w' (Gives (.int .i64 (m:Int)) w')):=fun w' hX=>by
  have:=i_funcNamed K t vG vF mainB w' (hG.ext hX (fun _ _ h=>h.any)) (Sl.ext hF hX (fun _ _ h=>h.ext hX))
  rw [hm] at this
  exact this
 obtain ⟨aG,nG,cG,rfl⟩:=hG.shape
 obtain ⟨aF,nF,cF,rfl⟩:=hF.shape
 have u0:=hc 0 _ rfl
 have u1:=hc 1 _ rfl
 simp only [Nat.zero_add] at u0 u1
 have HU0:=Lib.hid u0
 have HU1:=Lib.hid u1
 have HX1:=Lib.hid X1
 have HBU:=Lib.hid BU
 have HW1:=Lib.hid hw1
 have HK:=Lib.hid hK
 have Hn:=Lib.hid hn
 have Hv:=Lib.hid hv
 have Hrec:=Lib.hid hrec
 have HB:=Lib.hid hB
 have hmn':m<n:=by omega
 have hn50':n≤50:=by omega
 have hmm:=@run_makeMap Tryz.prog
 have b0:w1.cell? ⟨w.heap.size,0,none⟩=some (.pointer (some ⟨ub,0,none⟩)):=(BU.cell 0).trans rfl
 have hmn:m<n:=hmn'
 clear hn50 hln hmr hm hc hG hF u0 u1 X1 BU hw1 hK hn hv hrec hB hS hmn'
 rw [HW1.out] at b0
 go_enter Tryz.func57,Tryz.ntmps57
 go_wp2_with fail
 rw [← HW1.out]
 refine HFr.out.mono ?_
 rintro e w2 ⟨v2,rfl,ho2,hX2⟩
 rw [List.length_map,← Hn.out] at ho2
 obtain ⟨a2,c2,rfl⟩:=rw_form0 ho2
 obtain ⟨g,c2',e2,hg,hgl,hlc,hlm⟩:=rw_form ho2 (by omega)
 obtain ⟨rfl,rfl⟩:a2=some ⟨g,0,none⟩∧c2'=c2:=by cases e2;exact ⟨rfl,rfl⟩
 have HO2:=Lib.hid ho2
 have HX2:=Lib.hid hX2
 obtain ⟨w3,hw3⟩:∃ w3,w3=w2.alloc (.cells #[.slice (some ⟨g,0,none⟩) n c2'] 27):=⟨_,rfl⟩
 have X3:Ext w2 w3:=by rw [hw3];exact (Ext.refl w2).alloc _
 have BF:Blk w3 w2.heap.size 27 #[.slice (some ⟨g,0,none⟩) n c2']:=by rw [hw3];exact Blk.alloc _ _ _
 have HX3:=Lib.hid (hX2.trans X3)
 have HBF:=Lib.hid BF
 have HW3:=Lib.hid hw3
 have Hcel:Hid (∀ i x,i<n→t.funcs[i]? = some x→w3.cell? ⟨g,i,none⟩=some (.int .i64 (frameSz x:Nat))):=fun i x hi hx =>
  X3.cell (rw_at ho2 (i:=i) (u:=.int .i64 (frameSz x:Nat)) (by rw [List.map_map,List.getElem?_map,hx];rfl)).1
 have Hgl:=Lib.hid hgl
 clear b0 HFr ho2 hX2 X3 BF e2 hg hgl hw3
 have b1:w3.cell? ⟨w2.heap.size,0,none⟩=some (.slice (some ⟨g,0,none⟩) n c2'):=(HBF.out.cell 0).trans rfl
 rw [HW3.out] at b1
 go_wp2_with fail
 rw [← HW3.out]
 clear b1
 go_loop [12] (fun v12=>∃ k:Nat,k≤n∧v12=.int .i64 k∧Hid (∀ i x,i<k→t.funcs[i]? = some x→frameSz x≤2032)) (fun v12=>n - (intOf v12).toNat)
 case atStart=>exact ⟨0,Nat.zero_le _,rfl,fun i x h=>absurd h (Nat.not_lt_zero _)⟩
 case round =>
  obtain ⟨k,hk,rfl,HA⟩:=hrel
  by_cases hlt:k<n
  ·obtain ⟨x,hx⟩:∃ x,t.funcs[k]? = some x:=⟨t.funcs[k]'(by have:=Hn.out;omega),List.getElem?_eq_getElem _⟩
   have k0:=Hcel.out k x hlt hx
   obtain ⟨fz,hfz⟩:∃ fz,fz=frameSz x:=⟨_,rfl⟩
   rw [← hfz] at k0
   have z0:(0:Int)≤(k:Int):=by omega
   have z1:(k:Int)<(n:Int):=by omega
   by_cases hb:(2032:Int)<(fz:Int)
   ·have HRr:Hid (R = -1):=by
     show _=_
     rw [HR.out,if_pos ⟨x,List.mem_of_getElem? hx,by omega⟩]
    clear hx hfz
    go_wp2
    go_ret
    exact Gives.int HRr.out.symm (HX1.out.trans HX3.out)
   ·have HA2:Hid (∀ i x,i<k+1→t.funcs[i]? = some x→frameSz x≤2032):=fun i y hi hy=>by
     by_cases hik:i<k
     ·exact HA.out i y hik hy
     ·obtain rfl:k=i:=by omega
      obtain rfl:x=y:=Option.some.inj (hx.symm.trans hy)
      omega
    clear hx hfz
    go_wp2
    go_round
    case rel=>exact ⟨k+1,by omega,by go_num,HA2.out⟩
    case measure=>simp [intOf];omega
  ·obtain rfl:n=k:=by omega
   have hall:∀ x∈t.funcs,frameSz x≤2032:=fun x hx=>by
    obtain ⟨i,hi,e⟩:=List.getElem_of_mem hx
    exact HA.out i x (by have:=Hn.out;omega) (by rw [List.getElem?_eq_getElem hi,e])
   have HRr:Hid (R=(deep t (m:Int):Nat)):=by
    show _=_
    rw [HR.out,if_neg]
    rintro ⟨x,hx,h⟩
    have:=hall x hx
    omega
   have Hall:=Lib.hid hall
   have hmf:∀ (fn:Go.Fn) (first cap:Array Value) (w:World),(Instr.makeFunc fn first cap).run Tryz.prog w=.ok (.func fn first cap) w:=fun _ _ _ _=>rfl
   clear hall
   obtain ⟨M,hM⟩:∃ M,M=w3.heap.size:=⟨_,rfl⟩
   obtain ⟨Fo,hFo⟩:∃ Fo,Fo=M+1:=⟨_,rfl⟩
   obtain ⟨Cl,hCl⟩:∃ Cl,Cl=M+1+1:=⟨_,rfl⟩
   obtain ⟨Fr,hFr⟩:∃ Fr,Fr=w2.heap.size:=⟨_,rfl⟩
   obtain ⟨Ub,hUb⟩:∃ Ub,Ub=w.heap.size:=⟨_,rfl⟩
   obtain ⟨cv,hcv⟩:∃ cv,cv=Value.func (.func 98) #[] #[.pointer (some ⟨Fo,0,none⟩),.pointer (some ⟨Ub,0,none⟩),.pointer (some ⟨Cl,0,none⟩),.pointer (some ⟨Fr,0,none⟩)]:=⟨_,rfl⟩
   obtain ⟨wN,hwN⟩:∃ wN,wN=((w3.alloc (.map #[] 0)).alloc (.cells #[.map (some M)] 161)).alloc (.cells #[.nilFunc] 162):=⟨_,rfl⟩
   obtain ⟨wA,hwA⟩:∃ wA,wA=((w3.alloc (.map #[] 0)).alloc (.cells #[.map (some M)] 161)).alloc (.cells #[cv] 162):=⟨_,rfl⟩
   have XA:Ext w3 wA:=by rw [hwA];exact (((Ext.refl w3).alloc _).alloc _).alloc _
   have hs1:(w3.alloc (.map #[] 0)).heap.size=Fo:=by rw [hFo,hM];simp
   have hs2:((w3.alloc (.map #[] 0)).alloc (.cells #[.map (some M)] 161)).heap.size=Cl:=by rw [hCl,hM];simp
   have BN:Blk wN Cl 162 #[.nilFunc]:=by rw [hwN,← hs2];exact Blk.alloc _ _ _
   have BC:Blk wA Cl 162 #[cv]:=by rw [hwA,← hs2];exact Blk.alloc _ _ _
   have BM:Blk wA Fo 161 #[.map (some M)]:=by rw [hwA,← hs1];exact (Blk.alloc _ _ _).ext ((Ext.refl _).alloc _)
   have MM:MapAt intKey wA M ([]:NP):=by rw [hwA,hM];exact ((MapAt.new intKey w3).ext ((Ext.refl _).alloc _)).ext ((Ext.refl _).alloc _)
   have cA:wN.cell? ⟨Cl,0,none⟩=some .nilFunc:=(BN.cell 0).trans rfl
   have gA:wN.frozen? ⟨Cl,0,none⟩=false:=BN.frozen 0
   have HXA:=Lib.hid XA
   have HBC:=Lib.hid BC
   have HBM:=Lib.hid BM
   have HMM:=Lib.hid MM
   have hsf:∀ (a:Addr) (fn:Go.Fn) (first cap:Array Value) (mo:Mode) (w:World),(store a (.func fn first cap) mo).run Tryz.prog w=stored Tryz.prog w a (.func fn first cap) mo:=fun a fn first cap mo w=>run_store Tryz.prog w a _ mo rfl
   rw [hwN,hCl,hM] at cA gA
   have HFo:Hid (w3.heap.size+1=Fo):=by rw [hFo,hM];rfl
   have HCl:Hid (w3.heap.size+1+1=Cl):=by rw [hCl,hM];rfl
   have HMm:Hid (w3.heap.size=M):=hM.symm
   have HFr':Hid (w2.heap.size=Fr):=hFr.symm
   have HUb:Hid (w.heap.size=Ub):=hUb.symm
   have Hcv:=Lib.hid hcv
   have HWA:Hid (((w3.alloc (.map #[] 0)).alloc (.cells #[.map (some M)] 161)).alloc (.cells #[cv] 162)=wA):=hwA.symm
   clear hwN hwA XA hs1 hs2 BN BC BM MM hM hFo hCl hFr hUb hcv
   go_wp2_with fail
   clear cA gA hsf hmf
   rw [HCl.out,HFo.out,HMm.out,HFr'.out]
   try rw [HUb.out]
   rw [← Hcv.out,HWA.out]
   have HXwA:=Lib.hid (HX3.out.trans HXA.out)
   have hFS:FromS K t fs wA Fo Ub Cl Fr M ub g n c2':=by
    have hcl:wA.cell? ⟨Cl,0,none⟩=some cv:=(HBC.out.cell 0).trans rfl
    rw [Hcv.out] at hcl
    have hUb2:wA.cell? ⟨Ub,0,none⟩=some (.pointer (some ⟨ub,0,none⟩)):=by
     rw [← HUb.out]
     exact HXwA.out.cell ((HBU.out.cell 0).trans rfl)
    have hFr2:wA.cell? ⟨Fr,0,none⟩=some (.slice (some ⟨g,0,none⟩) n c2'):=by
     rw [← HFr'.out]
     exact HXA.out.cell ((HBF.out.cell 0).trans rfl)
    have h2:w2.heap.size<w3.heap.size:=HBF.out.lt
    have h1:w.heap.size<w1.heap.size:=HBU.out.lt
    have h3:=HX3.out.size
    have e1:=HUb.out
    have e2:=HFr'.out
    have e3:=HMm.out
    have e4:=HFo.out
    have e5:=HCl.out
    have e6:=Hgl.out
    refine ⟨(HBM.out.cell 0).trans rfl,hUb2,hcl,hFr2,fun i hi=>?_,⟨by omega,by omega,by omega,by omega,by omega⟩,HUx.out _ (HX1.out.trans HXwA.out),fun b hb=>?_,HMM.out.lt,⟨Hn.out.symm,hlc,hlm⟩⟩
    ·obtain ⟨x,hx⟩:∃ x,t.funcs[i]? = some x:=⟨t.funcs[i]'(by have:=Hn.out;omega),List.getElem?_eq_getElem _⟩
     have e:fsz t (i:Int)=frameSz x:=by unfold fsz;simp [hx]
     rw [e]
     exact HXA.out.cell (Hcel.out i x hi hx)
    ·have:=HK.out b hb
     omega
   have hmr:0≤(m:Int)∧(m:Int)<t.funcs.length:=⟨by omega,by have:=Hn.out;omega⟩
   have HFrom:Hid (∀ w',MOk t wA M w' []→Calls Tryz.prog 98 #[.int .i64 (m:Int),.pointer (some ⟨Fo,0,none⟩),.pointer (some ⟨Ub,0,none⟩),.pointer (some ⟨Cl,0,none⟩),.pointer (some ⟨Fr,0,none⟩)] w' (FromOut t M (m:Int) w')):=fun w' hk =>
    i_from K t fs (m:Int) wA Fo Ub Cl Fr M ub g n c2' hFS Hv.out Hall.out hmr Hrec.out.2 t.funcs.length m w' [] (met_n hmr Hrec.out.2 (.inl rfl)) (.inl rfl) hk
   have d0:wA.cell? ⟨Cl,0,none⟩=some cv:=(HBC.out.cell 0).trans rfl
   have d1:wA.cell? ⟨Ub,0,none⟩=some (.pointer (some ⟨ub,0,none⟩)):=hFS.c2
   have d2:wA.cell? ⟨ub,0,none⟩=some (.slice aG nG cG):=(HX1.out.trans HXwA.out).cell HU0.out
   have d3:wA.cell? ⟨ub,1,none⟩=some (.slice aF nF cF):=(HX1.out.trans HXwA.out).cell HU1.out
   clear hFS hmr
   refine start_ (n:=8) (S:=fun w'=>w'.cell? ⟨Cl,0,none⟩=some cv∧w'.cell? ⟨Ub,0,none⟩=some (.pointer (some ⟨ub,0,none⟩))∧w'.cell? ⟨ub,0,none⟩=some (.slice aG nG cG)∧w'.cell? ⟨ub,1,none⟩=some (.slice aF nF cF)) (ds:=[6]) #[false,false,false,false,false,false,false,false] (by kernel_rfl) rfl rfl ?hS (fun hHeld=>?_)
   case hS=>exact ⟨by simpa using d0,by simpa using d1,by simpa using d2,by simpa using d3⟩
   refine ta_ 0 (some 21) #[true,false,false,false,false,false,false,false] rfl rfl (by kernel_rfl) (fun _ _ _ h=>h) hHeld (by rfl) (by rintro w' ⟨s0,s1,s2,s3⟩;go_simp;with_reducible rfl) (by simp only [pt_];rfl) ?_
   refine ta_ 1 (some 22) #[true,true,false,false,false,false,false,false] rfl rfl (by kernel_rfl) (fun _ _ _ h=>h) hHeld (by rfl) (by rintro w' ⟨s0,s1,s2,s3⟩;go_simp;with_reducible rfl) (by simp only [pt_];rfl) ?_
   refine pu_ 2 (some 23) #[true,true,true,false,false,false,false,false] rfl rfl (by kernel_rfl) (fun _ _ _ h=>h) (by rfl) (by intro w';go_simp;with_reducible rfl) (by simp only [pt_];rfl) ?_
   refine pu_ 3 (some 24) #[true,true,true,true,false,false,false,false] rfl rfl (by kernel_rfl) (fun _ _ _ h=>h) (by rfl) (by intro w';go_simp;with_reducible rfl) (by simp only [pt_];rfl) ?_
   refine ta_ 4 (some 25) #[true,true,true,true,true,false,false,false] rfl rfl (by kernel_rfl) (fun _ _ _ h=>h) hHeld (by rfl) (by rintro w' ⟨s0,s1,s2,s3⟩;go_simp;with_reducible rfl) (by simp only [pt_];rfl) ?_
   refine one_ (i:=5) (N:=some 26) #[true,true,true,true,true,true,false,false] rfl rfl (by kernel_rfl) (by decide) (fun K hK=>?_)
   refine goes_ (N:=some 26) Tryz.func74 (by kernel_rfl) rfl #[.agg #[.slice aG nG cG,.slice aF nF cF],.string mainB] (by rfl) rfl rfl (by simp [Act.eval,mainB]) ?_
   refine (HFN.out _ ((HX1.out.trans HXwA.out).drew)).mono ?_
   rintro e w5 ⟨rfl,hX5⟩
   refine ⟨_,rfl,?_⟩
   have hXA5:Ext wA w5:=((Ext.refl wA).drew).trans hX5
   refine hK.out _ _ ⟨hXA5.cell d0,hXA5.cell d1,hXA5.cell d2,hXA5.cell d3⟩ (fun hHeld=>?_)
   clear hK K
   refine norm_ (by show Act.put _ (some 26) _=_;simp only [pt_];rfl) ?_
   refine last_ (i:=6) (N:=some 27) #[true,true,true,true,true,true,true,false] rfl rfl (by kernel_rfl) (by decide) (fun K hK=>?_)
   refine goesC_ (N:=some 27) Tryz.func98 (by kernel_rfl) rfl #[.int .i64 (m:Int),.pointer (some ⟨Fo,0,none⟩),.pointer (some ⟨Ub,0,none⟩),.pointer (some ⟨Cl,0,none⟩),.pointer (some ⟨Fr,0,none⟩)] (by rfl) rfl rfl Hcv.out (by simp [Act.eval]) ?_
   refine (HFrom.out w5 ⟨Tm.ext hXA5,HMM.out.ext hXA5,GoodM.nil t⟩).mono ?_
   rintro e w6 ⟨m6,rfl,hM6,hG6,hT6⟩
   refine ⟨_,rfl,?_⟩
   have hB6:Ext w w6:=Below.trans ((HX1.out.trans HXwA.out).trans hXA5) (hT6.below (by have h1:w.heap.size<w1.heap.size:=HBU.out.lt;have:=HX3.out.size;have:=HMm.out;omega) ((HX1.out.trans HXwA.out).trans hXA5).size)
   have HB6:=Lib.hid hB6
   clear hB6 hT6 hM6 hG6
   refine hK.out _ _ ?_
   clear hK K
   refine pu_ 7 (some 2) #[true,true,true,true,true,true,true,true] rfl rfl (by kernel_rfl) (fun _ _ _ h=>h) (by rfl) (by intro w';go_simp;with_reducible rfl) (by simp only [pt_];rfl) ?_
   refine done_ (by kernel_rfl) ?_
   clear hHeld d0 d1 d2 d3
   go_wp2
   go_ret
   exact Gives.int HRr.out.symm HB6.out
set_option maxRecDepth 1000000 in
set_option maxHeartbeats 4000000 in
theorem i_Bound (K:Foot) (t:PTree) (vG vF:Value) (w:World) (hG:SlGlob K w vG t.globals) (hF:SlFunc K w vF t.funcs) (hz:Small t) (hres:Res w) :
  Calls Tryz.prog 25 #[.agg #[vG,vF]] w (Gives (.int .i64 (boundAns t)) w):=by
 obtain ⟨w1,hw1⟩:∃ w1,w1=w.alloc (.cells #[vG,vF] 32):=⟨_,rfl⟩
 have X0:Ext w w1:=by rw [hw1];exact (Ext.refl w).alloc _
 have HU:=Lib.hid (i_sound _ t vG vF w1 ((SlGlob.bound hG).ext X0 (fun _ _ h=>h.any)) ((SlFunc.bound hF).ext X0 (fun _ _ h=>h.ext X0)) hz (hres.ext X0) (fun b hb=>Nat.lt_of_lt_of_le hb.2 X0.size))
 obtain ⟨aG,nG,cG,rfl⟩:=hG.shape
 obtain ⟨aF,nF,cF,rfl⟩:=hF.shape
 have BT:Blk w1 w.heap.size 32 #[.slice aG nG cG,.slice aF nF cF]:=by rw [hw1];exact Blk.alloc _ _ _
 have t0:=(BT.cell 0).trans (show _=some (Value.slice aG nG cG) from rfl)
 have t1:=(BT.cell 1).trans (show _=some (Value.slice aF nF cF) from rfl)
 obtain ⟨R,hR⟩:∃ R,R=boundAns t:=⟨_,rfl⟩
 rw [← hR]
 have HR:=Lib.hid hR
 have HX0:=Lib.hid X0
 have HW1:=Lib.hid hw1
 rw [hw1] at t0 t1
 clear hG hF hz hres hR X0 BT hw1
 go_enter Tryz.func25,Tryz.ntmps25
 go_wp2_with fail
 rw [← HW1.out]
 refine HU.out.mono ?_
 rintro e w2 (⟨h0,fs,ub,hb,hs,rfl,hu,hX2⟩ | ⟨h0,rfl,hX2⟩)
 ·have hv:=check_valid h0
  have hc:=h0
  unfold checkAns at hc
  rw [if_pos hv] at hc
  have HRr:Hid (R=if ∃ x∈t.funcs,2032<frameSz x then -1 else ((deep t (findF t mainB):Nat):Int)):=by
   show _=_
   rw [HR.out]
   by_cases hx:∃ x∈t.funcs,2032<frameSz x
   ·rw [if_pos hx]
    obtain ⟨x,hx1,hx2⟩:=hx
    exact bound_wide hx1 hx2
   ·rw [if_neg hx]
    exact bound_deep h0 (fun x hxm=>Nat.le_of_not_lt fun hl=>hx ⟨x,hxm,hl⟩)
  have HF:=Lib.hid (i_bound _ t fs ub w2 (fun b hb=>hb.2) hu.bound hb hs hv (check_met hc) R HRr)
  have HX2:=Lib.hid (HX0.out.trans hX2)
  clear h0 hb hs hu hX2 hv hc t0 t1 HU HRr
  go_wp2_with fail
  refine HF.out.mono ?_
  rintro e w3 ⟨rfl,hX3⟩
  go_wp2
  go_ret
  exact Gives.int rfl (HX2.out.trans hX3)
 ·have HRr:Hid (R = -1):=by
   show _=_
   rw [HR.out];exact bound_neg h0
  have HX2:=Lib.hid (HX0.out.trans hX2)
  clear h0 hX2
  go_wp2
  go_ret
  exact Gives.int HRr.out.symm HX2.out
end Go.Proofs.YtcfggjmdcaoecaaGreatDoor
