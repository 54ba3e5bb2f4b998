/- A part of the proofs of FnBound and FnCheck: the lemmas and walks SpecShape, SpecValid. -/
import Derived.Test.YtcfggjmdcaoecaaGreatDoorB04
import Derived.Test.YtcfggjmdcaoecaaGreatDoorB11
set_option linter.unusedVariables false
set_option linter.unusedSimpArgs false
namespace Go.Proofs.YtcfggjmdcaoecaaGreatDoor
open Go Go.RowKit Md
def NonNeg (l:List PStmt):Prop:=∀ s∈l,0≤s.thn∧0≤s.els
theorem shaped_cons (s:PStmt) (rest:List PStmt) (t u:Nat) (ht:s.thn=t) (hu:s.els=u) :
  shaped (s :: rest)=(decide (t≤rest.length) && decide (u≤rest.length - t) && (shaped (rest.take t) && shaped ((rest.drop t).take u) && shaped (rest.drop (t+u)))):=by
 rw [shaped,ht,hu]
 by_cases h:t≤rest.length
 ·by_cases h2:u≤rest.length - t
  ·rw [if_pos (by omega)];simp [h,h2]
  ·rw [if_neg (by omega)];simp [h,h2]
 ·rw [if_neg (by omega)];simp [h]
theorem Sl.cut {α:Type} {K:Foot} {w:World} {sz:Nat} {C:World→List Value→α→Prop} {a:Option Addr} {len cap:Nat} {xs:List α} (h:Sl K w sz C (.slice a len cap) xs) (lo n:Nat) (h2:lo+n≤len)
  {a':Option Addr} {c:Nat} (hc:c=cap - lo) (ha:∀ b o,a=some ⟨b,o,none⟩→0<n→a'=some ⟨b,o+lo*sz,none⟩):Sl K w sz C (.slice a' n c) ((xs.drop lo).take n):=by
 obtain ⟨a0,cap0,e,g1,g2,g3⟩:=h
 cases e
 have hl:((xs.drop lo).take n).length=n:=by simp;omega
 refine ⟨a',c,by rw [hl],by omega,by omega,fun hp=>?_⟩
 rw [hl] at hp
 obtain ⟨b,o,e1,e2,e3⟩:=g3 (by omega)
 refine ⟨b,o+lo*sz,ha b o e1 hp,e2,fun i hi=>?_⟩
 rw [hl] at hi
 obtain ⟨cs,c1,c2,c3⟩:=e3 (lo+i) (by omega)
 refine ⟨cs,c1,by simpa using c2,?_⟩
 rw [Nat.add_assoc,← Nat.add_mul]
 exact c3
set_option maxRecDepth 1000000 in
theorem s_l2Shaped (K:Foot) (n:Nat):∀ (l:List PStmt) (v:Value) (w:World) (hv:SlStmt K w v l) (hl:l.length=n) (hm:l.length≤1000000) (hn:NonNeg l),
  Calls Tryz.prog 108 #[v] w (Gives (.bool (shaped l)) w):=by
 induction n using Nat.strongRecOn with
 | ind n ih =>
   intro l v w hv hl hm hn
   obtain ⟨a,len,cap,rfl,Hlen,hlc,hcm,hel⟩:=hv.op
   have hlm:len≤1000000:=by have:=Hlen.out;omega
   obtain ⟨r,hr⟩:∃ r,r=shaped l:=⟨_,rfl⟩
   rw [← hr]
   have Hr:=Lib.hid hr
   have Hn:=Lib.hid hn
   have Hv:=Lib.hid hv
   have Hl:=Lib.hid hl
   clear hv hr hn hl hm
   go_enter Tryz.func108,Tryz.ntmps108
   go_wp2
   go_loopw [3] (fun i wr=>∃ (k:Nat),k≤len∧i=.int .i64 k∧Hid (r=shaped (l.drop k))∧Ext w wr) (fun i _=>len - (intOf i).toNat)
   case atStart=>exact ⟨0,Nat.zero_le _,rfl,Hr,Ext.refl _⟩
   case round =>
    obtain ⟨k,hk,rfl,hS,hE⟩:=hrel
    by_cases hlt:k<len
    ·obtain ⟨b,o,rfl,_,hel⟩:=hel (by omega)
     obtain ⟨x,cs,hx,_,hC,hcs⟩:=hel k (by omega)
     obtain ⟨vE,vF,rfl,m1,m2,i1,i2,i3,i4⟩:=hC
     obtain ⟨aE,nE,zE,rfl⟩:=m1.shape
     obtain ⟨aF,nF,zF,rfl⟩:=m2.shape
     obtain ⟨n1,n2⟩:=Hn.out x (List.mem_of_getElem? hx)
     obtain ⟨t,ht⟩:∃ t:Nat,x.thn=t:=⟨x.thn.toNat,by omega⟩
     obtain ⟨u,hu⟩:∃ u:Nat,x.els=u:=⟨x.els.toNat,by omega⟩
     have hd:l.drop k=x :: l.drop (k+1):=by
      have hkl:k<l.length:=by have:=Hlen.out;omega
      rw [List.drop_eq_getElem_cons hkl]
      congr 1
      rw [List.getElem?_eq_getElem hkl] at hx
      exact Option.some.inj hx
     have hS2:=hS.out
     rw [hd,shaped_cons x _ t u ht hu] at hS2
     have hdl:(l.drop (k+1)).length=len - (k+1):=by have:=Hlen.out;simp;omega
     rw [hdl] at hS2
     rw [ht,hu] at hcs
     have HS:=Lib.hid hS2
     have hX:=Blk.alloc wr 102 #[.int .i64 x.kind,.string x.name,.slice aE nE zE,.slice aF nF zF,.int .i64 t,.int .i64 u]
     have hEx:Ext w (wr.alloc (.cells #[.int .i64 x.kind,.string x.name,.slice aE nE zE,.slice aF nF zF,.int .i64 t,.int .i64 u] 102)):=hE.alloc _
     have c0:=hE.cell (hcs.z rfl)
     have c1:=hE.cell (hcs 1 _ rfl)
     have c2:=hE.cell (hcs 2 _ rfl)
     have c3:=hE.cell (hcs 3 _ rfl)
     have c4:=hE.cell (hcs 4 _ rfl)
     have c5:=hE.cell (hcs 5 _ rfl)
     clear hel hcs hx hd hS2 hdl m1 m2 n1 n2 ht hu hS i1 i2 i3 i4
     have g0:(0:Int)≤(k:Int):=by omega
     have g1:(k:Int)<(len:Int):=by omega
     by_cases h1:(len:Int) - (k:Int) - 1<(t:Int)
     ·have d1:decide (t≤len - (k+1))=false:=decide_eq_false (by omega)
      have D1:=Lib.hid d1
      clear d1
      go_wp2
      go_ret
      exact Gives.bool (by rw [HS.out,D1.out];rfl) hEx
     have d1:decide (t≤len - (k+1))=true:=decide_eq_true (by omega)
     have D1:=Lib.hid d1
     clear d1
     by_cases h2:(len:Int) - (k:Int) - 1 - (t:Int)<(u:Int)
     ·have d1:decide (u≤len - (k+1) - t)=false:=decide_eq_false (by omega)
      have D2:=Lib.hid d1
      clear d1
      go_wp2
      go_ret
      exact Gives.bool (by rw [HS.out,D1.out,D2.out];rfl) hEx
     have d1:decide (u≤len - (k+1) - t)=true:=decide_eq_true (by omega)
     have D2:=Lib.hid d1
     clear d1
     go_wp2_with fail
     all_goals
      try (have hc:cap=k+1:=by assumption
           subst hc)
      refine (ih t (by have:=Hl.out;have:=Hlen.out;omega) ((l.drop (k+1)).take t) _ _ ((Hv.out.ext hEx (fun _ _ h=>h.ext hEx)).cut (k+1) t (by omega) (by omega) (by intro b' o' e hp;cases e;first | rfl | (exfalso;omega))) (by have:=Hlen.out;simp;omega) (by have:=Hlen.out;simp;omega) (fun s hs=>Hn.out s (List.mem_of_mem_drop (List.mem_of_mem_take hs)))).mono ?_
      rintro _ w1 ⟨rfl,hX1⟩
      have hB:=hX.ext hX1
      clear c0 c1 c2 c3 c4 c5
      have c0:w1.cell? ⟨wr.heap.size,0,none⟩=some (.int .i64 x.kind):=hB.cell 0
      have c1:w1.cell? ⟨wr.heap.size,1,none⟩=some (.string x.name):=hB.cell 1
      have c2:w1.cell? ⟨wr.heap.size,2,none⟩=some (.slice aE nE zE):=hB.cell 2
      have c3:w1.cell? ⟨wr.heap.size,3,none⟩=some (.slice aF nF zF):=hB.cell 3
      have c4:w1.cell? ⟨wr.heap.size,4,none⟩=some (.int .i64 t):=hB.cell 4
      have c5:w1.cell? ⟨wr.heap.size,5,none⟩=some (.int .i64 u):=hB.cell 5
      have hE1:=hEx.trans hX1
      cases hg:shaped ((l.drop (k+1)).take t)
      ·go_wp2
       go_ret
       exact Gives.bool (by rw [HS.out,D1.out,D2.out,hg];rfl) hE1
      ·go_wp2_with fail
       all_goals
        try (have hc:cap=k+1+t:=by assumption
             subst hc)
        refine (ih u (by have:=Hl.out;have:=Hlen.out;omega) ((l.drop (k+1+t)).take u) _ _ ((Hv.out.ext hE1 (fun _ _ h=>h.ext hE1)).cut (k+1+t) u (by omega) (by omega) (by intro b' o' e hp;cases e;first | rfl | (exfalso;omega))) (by have:=Hlen.out;simp;omega) (by have:=Hlen.out;simp;omega) (fun s hs=>Hn.out s (List.mem_of_mem_drop (List.mem_of_mem_take hs)))).mono ?_
        rintro _ w2 ⟨rfl,hX2⟩
        have hB2:=hB.ext hX2
        clear c0 c1 c2 c3 c4 c5
        have c0:w2.cell? ⟨wr.heap.size,0,none⟩=some (.int .i64 x.kind):=hB2.cell 0
        have c1:w2.cell? ⟨wr.heap.size,1,none⟩=some (.string x.name):=hB2.cell 1
        have c2:w2.cell? ⟨wr.heap.size,2,none⟩=some (.slice aE nE zE):=hB2.cell 2
        have c3:w2.cell? ⟨wr.heap.size,3,none⟩=some (.slice aF nF zF):=hB2.cell 3
        have c4:w2.cell? ⟨wr.heap.size,4,none⟩=some (.int .i64 t):=hB2.cell 4
        have c5:w2.cell? ⟨wr.heap.size,5,none⟩=some (.int .i64 u):=hB2.cell 5
        have hE2:=hE1.trans hX2
        cases hg2:shaped ((l.drop (k+1+t)).take u)
        ·go_wp2
         go_ret
         exact Gives.bool (by rw [HS.out,D1.out,D2.out,hg,List.drop_drop,hg2];rfl) hE2
        ·go_wp2
         go_roundw
         case rel=>exact ⟨k+1+t+u,by omega,by go_num,(by rw [HS.out,D1.out,D2.out,hg,List.drop_drop,hg2,List.drop_drop,Nat.add_assoc (k+1) t u];rfl),hE2⟩
         case measure=>simp [intOf];omega
    ·go_wp2
     go_ret
     exact Gives.bool (by rw [hS.out,List.drop_eq_nil_of_le (by have:=Hlen.out;omega),shaped]) hE
open Go Go.RowKit Md
theorem okFunc_eq (f:PFunc):okFunc f=(isName f.name && decide (f.params.length≤6) && decide (f.body.length≤500) && f.params.all isName && (decide (nodes f.body≤2000) && f.body.all stOk) && shaped f.body):=by
 rw [okFunc,blocks_some _ _ _ (Nat.le_refl _)]
 generalize isName f.name=a
 generalize decide (f.params.length≤6)=b
 generalize decide (f.body.length≤500)=c
 generalize f.params.all isName=d
 generalize decide (nodes f.body≤2000)=e
 generalize f.body.all stOk=g
 generalize shaped f.body=h
 cases a<;>cases b<;>cases c<;>cases d<;>cases e<;>cases g<;>cases h<;>rfl
theorem nodes_take {b:List PStmt} {k:Nat} {x:PStmt} (h:b[k]? = some x):nodes (b.take (k+1))=nodes (b.take k)+x.e.length+x.f.length:=by
 rw [take_snoc h,nodes,List.map_append,List.sum_append]
 simp [nodes,Nat.add_assoc]
theorem nodes_take_le (b:List PStmt) (k:Nat):nodes (b.take k)≤nodes b:=by
 conv=>rhs;rw [← List.take_append_drop k b,nodes,List.map_append,List.sum_append]
 exact Nat.le_add_right _ _
theorem stOk_nonneg {s:PStmt} (h:stOk s=true):0≤s.thn∧0≤s.els:=by
 simp only [stOk,Bool.and_eq_true,decide_eq_true_eq] at h
 exact ⟨h.1.1.1.1.2,h.1.1.1.2⟩
set_option maxRecDepth 1000000 in
theorem s_l2GoodFunc (K:Foot) (x:PFunc) (vP vB:Value) (w:World) (hP:SlStr K w vP x.params) (hB:SlStmt K w vB x.body) (hs:x.name.size≤maxLen) (hz:∀ s∈x.body,s.e.length≤1048576∧s.f.length≤1048576) :
  Calls Tryz.prog 66 #[.agg #[.string x.name,vP,vB]] w (Gives (.bool (okFunc x)) w):=by
 obtain ⟨name,params,body⟩:=x
 obtain ⟨R,hR⟩:∃ R,R=okFunc ⟨name,params,body⟩:=⟨_,rfl⟩
 rw [← hR]
 rw [okFunc_eq] at hR
 simp only at *
 obtain ⟨aP,nP,zP,rfl,HlP,hlcP,hcmP,helP⟩:=hP.op
 obtain ⟨aB,nB,zB,rfl,HlB,hlcB,hcmB,helB⟩:=hB.op
 rw [HlP.out,HlB.out] at hR
 have HR:=Lib.hid hR
 have HB:=Lib.hid hB
 have HZ:=Lib.hid hz
 clear hP hB hR hz
 have hX:=Blk.alloc w 83 #[.string name,.slice aP nP zP,.slice aB nB zB]
 have hEx:Ext w (w.alloc (.cells #[.string name,.slice aP nP zP,.slice aB nB zB] 83)):=(Ext.refl _).alloc _
 go_enter Tryz.func66,Tryz.ntmps66
 go_wp2_with fail
 refine (s_l2Name name _ hs).mono ?_;rintro _ _ ⟨rfl,rfl⟩
 cases hn:isName name
 ·have HN:=Lib.hid hn
  clear hn
  go_wp2
  go_ret
  exact Gives.bool (by rw [HR.out,HN.out];rfl) hEx
 have HN:=Lib.hid hn
 clear hn
 by_cases h1:6<nP
 ·have d1:=Lib.hid (show decide (nP≤6)=false from decide_eq_false (by omega))
  go_wp2
  go_ret
  exact Gives.bool (by rw [HR.out,HN.out,d1.out];rfl) hEx
 have d1:=Lib.hid (show decide (nP≤6)=true from decide_eq_true (by omega))
 by_cases h2:500<nB
 ·have d2:=Lib.hid (show decide (nB≤500)=false from decide_eq_false (by omega))
  go_wp2
  go_ret
  exact Gives.bool (by rw [HR.out,HN.out,d1.out,d2.out];rfl) hEx
 have d2:=Lib.hid (show decide (nB≤500)=true from decide_eq_true (by omega))
 have HQ:Hid (R=(params.all isName && (decide (nodes body≤2000) && body.all stOk) && shaped body)):=by
  show R=_
  rw [HR.out,HN.out,d1.out,d2.out];rfl
 clear HR HN d1 d2
 go_wp2
 go_loopw [3] (fun i wr=>∃ k:Nat,k≤nP∧i=.int .i64 k∧Hid (∀ n∈params.take k,isName n=true)∧wr=w.alloc (.cells #[.string name,.slice aP nP zP,.slice aB nB zB] 83)) (fun i _=>nP - (intOf i).toNat)
 case atStart=>exact ⟨0,Nat.zero_le _,rfl,by intro n hn;simp at hn,rfl⟩
 case round =>
  obtain ⟨k,hk,rfl,hA,rfl⟩:=hrel
  by_cases hlt:k<nP
  ·obtain ⟨b,o,rfl,_,hel⟩:=helP (by omega)
   obtain ⟨x,cs,hx,_,hC,hcs⟩:=hel k (by omega)
   obtain ⟨rfl,hn2⟩:=hC
   have c0:=hEx.cell (hcs.z rfl)
   rw [Nat.mul_one] at c0
   have Hx:=Lib.hid hx
   clear hel hcs hx
   have g0:(0:Int)≤(k:Int):=by omega
   have g1:(k:Int)<(nP:Int):=by omega
   go_wp2_with fail
   refine (s_l2Name x _ hn2).mono ?_;rintro _ _ ⟨rfl,rfl⟩
   cases ha:isName x
   ·have Ha:=Lib.hid ha
    clear ha
    go_wp2
    go_ret
    exact Gives.bool (by
     rw [HQ.out,show params.all isName=false from List.all_eq_false.2 ⟨x,List.mem_of_getElem? Hx.out,by rw [Ha.out];simp⟩];rfl) hEx
   ·have Ha:=Lib.hid ha
    clear ha
    go_wp2
    go_roundw
    case rel=>exact ⟨k+1,by omega,by go_num,(by
     intro n hn
     rw [take_snoc Hx.out] at hn
     rcases List.mem_append.1 hn with hn | hn
     ·exact hA.out n hn
     ·rw [List.mem_singleton.1 hn];exact Ha.out),trivial⟩
    case measure=>simp [intOf];omega
  ·have HA:Hid (params.all isName=true):=by
    have h3:=hA.out
    rw [take_all (show Hid (params.length=k) from (by rw [HlP.out];exact (show nP=k by omega)))] at h3
    exact List.all_eq_true.2 h3
   have HQ2:Hid (R=(decide (nodes body≤2000) && body.all stOk && shaped body)):=by
    show R=_
    rw [HQ.out,HA.out];rfl
   clear hA HA HQ
   go_wp2
   go_loopw [4,5] (fun n i wr=>∃ k:Nat,k≤nB∧i=.int .i64 k∧n=.int .i64 (nodes (body.take k):Nat)∧Hid (∀ s∈body.take k,stOk s=true)∧nodes (body.take k)≤2000∧Ext (w.alloc (.cells #[.string name,.slice aP nP zP,.slice aB nB zB] 83)) wr) (fun _ i _=>nB - (intOf i).toNat)
   case atStart=>exact ⟨0,Nat.zero_le _,rfl,rfl,by intro n hn;simp at hn,by simp [nodes],Ext.refl _⟩
   case round =>
    obtain ⟨k,hk,rfl,rfl,hA,hN,hE⟩:=hrel
    have cB:wr.cell? ⟨w.heap.size,2,none⟩=some (.slice aB nB zB):=(hX.ext hE).cell 2
    by_cases hlt:k<nB
    ·obtain ⟨b,o,rfl,_,hel⟩:=helB (by omega)
     obtain ⟨x,cs,hx,_,hC,hcs⟩:=hel k (by omega)
     obtain ⟨vE,vF,rfl,sE,sF,q1,q2,q3,q4⟩:=hC
     have hE0:=hEx.trans hE
     have c0:=hE0.cell (hcs.z rfl)
     have c1:=hE0.cell (hcs 1 _ rfl)
     have c2:=hE0.cell (hcs 2 _ rfl)
     have c3:=hE0.cell (hcs 3 _ rfl)
     have c4:=hE0.cell (hcs 4 _ rfl)
     have c5:=hE0.cell (hcs 5 _ rfl)
     have HE:=Lib.hid (sE.ext hE0 (fun _ _ h=>h.any))
     have HF:=Lib.hid (sF.ext hE0 (fun _ _ h=>h.any))
     obtain ⟨aE,nE,zE,rfl,HlE,hlcE,hcmE,_⟩:=sE.op
     obtain ⟨aF,nF,zF,rfl,HlF,hlcF,hcmF,_⟩:=sF.op
     have hzx:=HZ.out x (List.mem_of_getElem? hx)
     rw [HlE.out,HlF.out] at hzx
     obtain ⟨hz1,hz2⟩:=hzx
     have hnt:=nodes_take hx
     rw [HlE.out,HlF.out] at hnt
     obtain ⟨N,eN⟩:∃ N,N=nodes (body.take k):=⟨_,rfl⟩
     rw [← eN] at hnt hN ⊢
     have Hx:=Lib.hid hx
     have HN:=Lib.hid hnt
     have HeN:=Lib.hid eN
     clear hel hcs hx hnt eN sE sF
     have g0:(0:Int)≤(k:Int):=by omega
     have g1:(k:Int)<(nB:Int):=by omega
     have s1:IntKind.i64.wrap ((N:Int)+(nE:Int))=N+nE:=IntWalk.i64_in _ (by omega)
     have s2:IntKind.i64.wrap ((N:Int)+(nE:Int)+(nF:Int))=N+nE+nF:=IntWalk.i64_in _ (by omega)
     go_wp2_with fail
     go_quiet (fail)
     clear s1 s2
     have s3:((N:Int)+(nE:Int)+(nF:Int))=((N+nE+nF:Nat):Int):=by omega
     rw [s3]
     obtain ⟨M,hM⟩:∃ M,M=N+nE+nF:=⟨_,rfl⟩
     rw [← hM]
     clear s3
     by_cases hM2:2000<M
     ·have d1:Hid (decide (nodes body≤2000)=false):=decide_eq_false (by
       have h1:=nodes_take_le body (k+1)
       have h2:=HN.out
       omega)
      go_wp2
      go_ret
      exact Gives.bool (by rw [HQ2.out,d1.out];rfl) (hEx.trans (hE.trans (drewN_ext _ _)))
     ·go_wp2_with fail
      refine (s_l2GoodStmt K x _ _ _ (HE.out.ext (drewN_ext _ _) (fun _ _ h=>h.any)) (HF.out.ext (drewN_ext _ _) (fun _ _ h=>h.any)) q4 (by rw [HlE.out];omega) (by rw [HlF.out];omega)).mono ?_
      rintro _ w3 ⟨rfl,hX3⟩
      have hE3:=(hE.trans (drewN_ext wr _)).trans hX3
      cases hst:stOk x
      ·have Hst:=Lib.hid hst
       clear hst
       go_wp2
       go_ret
       exact Gives.bool (by
        rw [HQ2.out,show body.all stOk=false from List.all_eq_false.2 ⟨x,List.mem_of_getElem? Hx.out,by rw [Hst.out];simp⟩,Bool.and_false];rfl) (hEx.trans hE3)
      ·have Hst:=Lib.hid hst
       clear hst
       go_wp2
       go_roundw
       case rel=>exact ⟨k+1,by omega,by go_num,(by rw [HN.out];go_num),(by
        intro n hn
        rw [take_snoc Hx.out] at hn
        rcases List.mem_append.1 hn with hn | hn
        ·exact hA.out n hn
        ·rw [List.mem_singleton.1 hn];exact Hst.out),(by rw [HN.out];omega),hE3⟩
       case measure=>simp [intOf];omega
    ·have HA:Hid (body.all stOk=true):=by
      have h3:=hA.out
      rw [take_all (show Hid (body.length=k) from (by rw [HlB.out];exact (show nB=k by omega)))] at h3
      exact List.all_eq_true.2 h3
     have HQ3:Hid (R=shaped body):=by
      show R=_
      rw [HQ2.out,HA.out,decide_eq_true (by
       have h3:=hN
       rw [take_all (show Hid (body.length=k) from (by rw [HlB.out];exact (show nB=k by omega)))] at h3
       exact h3)];rfl
     go_wp2_with fail
     refine (s_l2Shaped K body.length body _ _ (HB.out.ext (hEx.trans hE) (fun _ _ h=>h.ext (hEx.trans hE))) rfl (by rw [HlB.out];omega) (fun s hs=>stOk_nonneg (List.all_eq_true.1 HA.out s hs))).mono ?_
     rintro _ w3 ⟨rfl,hX3⟩
     go_wp2
     go_ret
     exact Gives.bool HQ3.out.symm ((hEx.trans hE).trans hX3)
def Small (t:PTree):Prop:=∀ f∈t.funcs,∀ s∈f.body,s.e.length≤1048576∧s.f.length≤1048576
theorem valid_eq (t:PTree):valid t=(decide (t.globals.length≤50) && decide (t.funcs.length≤50) && t.globals.all okGlob && t.funcs.all okFunc):=rfl
set_option maxRecDepth 1000000 in
theorem s_ValidTree (K:Foot) (x:PTree) (vG vF:Value) (w:World) (hG:SlGlob K w vG x.globals) (hF:SlFunc K w vF x.funcs) (hz:Small x) :
  Calls Tryz.prog 33 #[.agg #[vG,vF]] w (Gives (.bool (valid x)) w):=by
 obtain ⟨globals,funcs⟩:=x
 obtain ⟨R,hR⟩:∃ R,R=valid ⟨globals,funcs⟩:=⟨_,rfl⟩
 rw [← hR]
 rw [valid_eq] at hR
 unfold Small at hz
 simp only at *
 obtain ⟨aG,nG,zG,rfl,HlG,hlcG,hcmG,helG⟩:=hG.op
 obtain ⟨aF,nF,zF,rfl,HlF,hlcF,hcmF,helF⟩:=hF.op
 rw [HlG.out,HlF.out] at hR
 have HR:=Lib.hid hR
 have HZ:=Lib.hid hz
 clear hG hF hR hz
 have hX:=Blk.alloc w 32 #[.slice aG nG zG,.slice aF nF zF]
 have hEx:Ext w (w.alloc (.cells #[.slice aG nG zG,.slice aF nF zF] 32)):=(Ext.refl _).alloc _
 go_enter Tryz.func33,Tryz.ntmps33
 by_cases h1:50<nG
 ·have d1:=Lib.hid (show decide (nG≤50)=false from decide_eq_false (by omega))
  go_wp2
  go_ret
  exact Gives.bool (by rw [HR.out,d1.out];rfl) hEx
 have d1:=Lib.hid (show decide (nG≤50)=true from decide_eq_true (by omega))
 by_cases h2:50<nF
 ·have d2:=Lib.hid (show decide (nF≤50)=false from decide_eq_false (by omega))
  go_wp2
  go_ret
  exact Gives.bool (by rw [HR.out,d1.out,d2.out];rfl) hEx
 have d2:=Lib.hid (show decide (nF≤50)=true from decide_eq_true (by omega))
 have HQ:Hid (R=(globals.all okGlob && funcs.all okFunc)):=by
  show R=_
  rw [HR.out,d1.out,d2.out];rfl
 clear HR d1 d2
 go_wp2
 go_loopw [3] (fun i wr=>∃ k:Nat,k≤nG∧i=.int .i64 k∧Hid (∀ n∈globals.take k,okGlob n=true)∧wr=w.alloc (.cells #[.slice aG nG zG,.slice aF nF zF] 32)) (fun i _=>nG - (intOf i).toNat)
 case atStart=>exact ⟨0,Nat.zero_le _,rfl,by intro n hn;simp at hn,rfl⟩
 case round =>
  obtain ⟨k,hk,rfl,hA,rfl⟩:=hrel
  by_cases hlt:k<nG
  ·obtain ⟨b,o,rfl,_,hel⟩:=helG (by omega)
   obtain ⟨x,cs,hx,_,hC,hcs⟩:=hel k (by omega)
   obtain ⟨rfl,hn1,hn2⟩:=hC
   have c0:=hEx.cell (hcs.z rfl)
   have c1:=hEx.cell (hcs 1 _ rfl)
   have Hx:=Lib.hid hx
   clear hel hcs hx
   have g0:(0:Int)≤(k:Int):=by omega
   have g1:(k:Int)<(nG:Int):=by omega
   have hfalse:okGlob x=false→Hid (false=R):=fun h=>by
    show false=R
    rw [HQ.out,show globals.all okGlob=false from List.all_eq_false.2 ⟨x,List.mem_of_getElem? Hx.out,by rw [h];simp⟩];rfl
   have HFa:=Lib.hid hfalse
   clear hfalse
   go_wp2_with fail
   refine (s_l2Name x.name _ hn2).mono ?_;rintro _ _ ⟨rfl,rfl⟩
   cases ha:isName x.name
   ·have Ha:=Lib.hid ha
    clear ha
    go_wp2
    go_ret
    exact Gives.bool (HFa.out (by unfold okGlob;rw [Ha.out];rfl)).out hEx
   ·have Ha:=Lib.hid ha
    clear ha
    go_wp2_with fail
    refine (s_l1In x.size 0 4000 _).mono ?_;rintro _ _ ⟨rfl,rfl⟩
    cases hd:(decide (0≤x.size) && decide (x.size≤4000))
    ·have Hd:=Lib.hid hd
     clear hd
     go_wp2
     go_ret
     exact Gives.bool (HFa.out (by unfold okGlob;rw [Ha.out,Bool.true_and,Hd.out])).out hEx
    ·have Hd:=Lib.hid hd
     clear hd
     go_wp2
     go_roundw
     case rel=>exact ⟨k+1,by omega,by go_num,(by
      intro n hn
      rw [take_snoc Hx.out] at hn
      rcases List.mem_append.1 hn with hn | hn
      ·exact hA.out n hn
      ·rw [List.mem_singleton.1 hn];unfold okGlob;rw [Ha.out,Bool.true_and,Hd.out]),trivial⟩
     case measure=>simp [intOf];omega
  ·have HA:Hid (globals.all okGlob=true):=by
    have h3:=hA.out
    rw [take_all (show Hid (globals.length=k) from (by rw [HlG.out];exact (show nG=k by omega)))] at h3
    exact List.all_eq_true.2 h3
   have HQ2:Hid (R=funcs.all okFunc):=by
    show R=_
    rw [HQ.out,HA.out];rfl
   clear hA HA HQ
   go_wp2
   go_loopw [4] (fun i wr=>∃ k:Nat,k≤nF∧i=.int .i64 k∧Hid (∀ s∈funcs.take k,okFunc s=true)∧Ext (w.alloc (.cells #[.slice aG nG zG,.slice aF nF zF] 32)) wr) (fun i _=>nF - (intOf i).toNat)
   case atStart=>exact ⟨0,Nat.zero_le _,rfl,by intro n hn;simp at hn,Ext.refl _⟩
   case round =>
    obtain ⟨k,hk,rfl,hA,hE⟩:=hrel
    have cB:wr.cell? ⟨w.heap.size,1,none⟩=some (.slice aF nF zF):=(hX.ext hE).cell 1
    have hE0:=hEx.trans hE
    by_cases hlt:k<nF
    ·obtain ⟨b,o,rfl,_,hel⟩:=helF (by omega)
     obtain ⟨x,cs,hx,_,hC,hcs⟩:=hel k (by omega)
     obtain ⟨vP,vB,rfl,sP,sB,q4⟩:=hC
     have c0:=hE0.cell (hcs.z rfl)
     have c1:=hE0.cell (hcs 1 _ rfl)
     have c2:=hE0.cell (hcs 2 _ rfl)
     have HP:=Lib.hid (sP.ext hE0 (fun _ _ h=>h.any))
     have HB:=Lib.hid (sB.ext hE0 (fun _ _ h=>h.ext hE0))
     have Hx:=Lib.hid hx
     clear hel hcs hx sP sB
     have g0:(0:Int)≤(k:Int):=by omega
     have g1:(k:Int)<(nF:Int):=by omega
     go_wp2_with fail
     refine (s_l2GoodFunc K x _ _ _ HP.out HB.out q4 (HZ.out x (List.mem_of_getElem? Hx.out))).mono ?_
     rintro _ w3 ⟨rfl,hX3⟩
     have hE3:=hE.trans hX3
     cases hst:okFunc x
     ·have Hst:=Lib.hid hst
      clear hst
      go_wp2
      go_ret
      exact Gives.bool (by
       rw [HQ2.out,show funcs.all okFunc=false from List.all_eq_false.2 ⟨x,List.mem_of_getElem? Hx.out,by rw [Hst.out];simp⟩]) (hEx.trans hE3)
     ·have Hst:=Lib.hid hst
      clear hst
      go_wp2
      go_roundw
      case rel=>exact ⟨k+1,by omega,by go_num,(by
       intro n hn
       rw [take_snoc Hx.out] at hn
       rcases List.mem_append.1 hn with hn | hn
       ·exact hA.out n hn
       ·rw [List.mem_singleton.1 hn];exact Hst.out),hE3⟩
      case measure=>simp [intOf];omega
    ·have HA:Hid (funcs.all okFunc=true):=by
      have h3:=hA.out
      rw [take_all (show Hid (funcs.length=k) from (by rw [HlF.out];exact (show nF=k by omega)))] at h3
      exact List.all_eq_true.2 h3
     go_wp2
     go_ret
     exact Gives.bool (by rw [HQ2.out,HA.out]) hE0
end Go.Proofs.YtcfggjmdcaoecaaGreatDoor
