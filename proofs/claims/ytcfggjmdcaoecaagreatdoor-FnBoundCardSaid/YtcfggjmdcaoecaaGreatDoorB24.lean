/- A part of the proofs of FnBound and FnCheck: the lemmas and walks FrImpl. -/
import Derived.Lib.MinMax
import Derived.Test.YtcfggjmdcaoecaaGreatDoorB03
import Derived.Test.YtcfggjmdcaoecaaGreatDoorB19
import Derived.Test.YtcfggjmdcaoecaaGreatDoorB22
import Derived.Test.YtcfggjmdcaoecaaGreatDoorB02
set_option linter.unusedVariables false
set_option linter.unusedSimpArgs false
namespace Go.Proofs.YtcfggjmdcaoecaaGreatDoor
open Go Go.RowKit Md
set_option maxRecDepth 1000000 in
set_option maxHeartbeats 0 in
theorem i_needs (x:Ex):x.ok→∀ (K:Foot) (v:Value) (d:Nat) (w:World),ExAt K w v x→x.list.length≤1000000→d+x.list.length≤2000000 →
  Calls Tryz.prog 137 #[v,.int .i64 (d:Int)] w (Gives (.int .i64 ((need x d:Nat):Int)) w):=by
 refine Ex.ind (P:=fun x=>x.ok→∀ (K:Foot) (v:Value) (d:Nat) (w:World),ExAt K w v x→x.list.length≤1000000→d+x.list.length≤2000000 →
  Calls Tryz.prog 137 #[v,.int .i64 (d:Int)] w (Gives (.int .i64 ((need x d:Nat):Int)) w)) (fun n args ih=>?_) x
 intro hx K v d w hv hl hd
 have hok:=(Ex.ok_mk n args).1 hx
 have har:=ar_of_arity hok.1
 have hlen:(Ex.mk n args).list.length=(args.flatMap Ex.list).length+1:=by rw [Ex.list_mk];simp
 obtain ⟨b,va,vs,rfl,hc,_,_,_,hs,hall⟩:=hv.op
 simp only [Ex.node,Ex.args] at hc hall
 obtain ⟨aA,nA,cA,rfl⟩:=hs.shape
 have hnl:=hs.len.1
 have hnc:=hs.len.2
 have hal:=hall.1
 obtain ⟨R,hR⟩:∃ R,R=need (.mk n args) d:=⟨_,rfl⟩
 rw [← hR]
 rw [need_mk] at hR
 have HR:=Lib.hid hR
 have HS:=Lib.hid hs
 have HAll:=Lib.hid hall
 have Hoks:Hid (∀ a∈args,a.ok):=hok.2
 have Hl:=Lib.hid hl
 have Hd:=Lib.hid hd
 have Hlen:=Lib.hid hlen
 have Har:=Lib.hid har
 have Hih:=Lib.hid ih
 have hdb:d≤2000000:=by omega
 have HIH:Hid (∀ (i:Nat) (a:Ex) (u:Value) (d':Nat) (di:Int),di=d'→args[i]? = some a→vs[i]? = some u→d'≤d+i→∀ w',Ext w w' →
   Calls Tryz.prog 137 #[u,.int .i64 di] w' (Gives (.int .i64 ((need a d':Nat):Int)) w')):=fun i a u d' di hdi ha hu hd' w' hX=>by
  subst hdi
  have h1:=idx_le ha
  have hl:=Hl.out
  have hd:=Hd.out
  have hlen:=Hlen.out
  exact Hih.out a (List.mem_of_getElem? ha) (Hoks.out a (List.mem_of_getElem? ha)) K _ d' w' ((HAll.out.2 i u a hu ha).ext hX) (by omega) (by omega)
 obtain ⟨kd,vl,nm⟩:=n
 simp only at HR Har hc
 have c0:=hc 0 _ rfl
 have c3:=hc 3 _ rfl
 simp only [Nat.zero_add] at c0 c3
 have hnl:args.length=nA:=by omega
 have Hnl:=Lib.hid hnl
 clear hx hv hok ih hR hl hd hlen har hc hs hall hal
 go_enter Tryz.func137,Tryz.ntmps137
 by_cases h36:kd=3∨kd=6
 ·have har1:args.length=1:=by
   have:ar ⟨kd,vl,nm⟩=1:=by unfold ar;exact if_pos h36
   have har:=Har.out
   omega
  obtain ⟨x0,hx0⟩:∃ x0,args[0]? = some x0:=⟨args[0]'(by omega),List.getElem?_eq_getElem _⟩
  obtain ⟨v0,hv0,hA0⟩:=HAll.out.get hx0
  have H0:=HIH.out 0 x0 v0 d (d:Int) rfl hx0 hv0 (by omega)
  obtain ⟨g,o,rfl,_,hcel⟩:=HS.out.at_ (by omega)
  have k0:w.cell? ⟨g,o,none⟩=some v0:=hcel 0 v0 hv0
  have HRr:Hid (R=need x0 d):=by
   show _=_
   rw [HR.out]
   unfold comb
   rw [if_pos h36,nth_map hx0]
  obtain ⟨m0,hm0⟩:∃ m0,m0=need x0 d:=⟨_,rfl⟩
  rw [← hm0] at H0 HRr
  have HH0:=Lib.hid (H0 w (Ext.refl w))
  have hn1:nA=1:=by omega
  subst hn1
  clear H0 hm0 hnl har1 hx0 hv0 hA0 hcel
  rcases h36 with rfl | rfl
  all_goals
   go_wp2_with fail
   refine HH0.out.mono ?_
   rintro e w5 ⟨rfl,hX5⟩
   go_wp2
   go_ret
   exact Gives.int (by rw [HRr.out]) hX5
 by_cases h7:kd=7
 ·subst h7
  have har2:args.length=2:=by
   have:ar ⟨7,vl,nm⟩=2:=by unfold ar;simp
   have har:=Har.out
   omega
  obtain ⟨x0,hx0⟩:∃ x0,args[0]? = some x0:=⟨args[0]'(by omega),List.getElem?_eq_getElem _⟩
  obtain ⟨x1,hx1⟩:∃ x1,args[1]? = some x1:=⟨args[1]'(by omega),List.getElem?_eq_getElem _⟩
  obtain ⟨v0,hv0,hA0⟩:=HAll.out.get hx0
  obtain ⟨v1,hv1,hA1⟩:=HAll.out.get hx1
  have H0:=HIH.out 0 x0 v0 d (d:Int) rfl hx0 hv0 (by omega)
  have H1:=HIH.out 1 x1 v1 (d+1) (IntKind.i64.wrap ((d:Int)+1)) (by rw [IntKind.wrap_i64];omega) hx1 hv1 (by omega)
  obtain ⟨g,o,rfl,_,hcel⟩:=HS.out.at_ (by omega)
  have k0:w.cell? ⟨g,o,none⟩=some v0:=hcel 0 v0 hv0
  have k1:w.cell? ⟨g,o+1,none⟩=some v1:=hcel 1 v1 hv1
  have HRr:Hid (R=max (need x0 d) (need x1 (d+1))):=by
   show _=_
   rw [HR.out]
   unfold comb
   rw [if_neg h36,if_pos rfl]
   rw [nth_map hx0,nth_map hx1]
  obtain ⟨m0,hm0⟩:∃ m0,m0=need x0 d:=⟨_,rfl⟩
  obtain ⟨m1,hm1⟩:∃ m1,m1=need x1 (d+1):=⟨_,rfl⟩
  rw [← hm0] at H0 HRr
  rw [← hm1] at H1 HRr
  have HH0:=Lib.hid H0
  have HH1:=Lib.hid H1
  have hn2:nA=2:=by omega
  subst hn2
  clear H0 H1 hm0 hm1 hnl har2 hx0 hx1 hv0 hv1 hA0 hA1 hcel
  go_wp2_with fail
  go_region_held3 (fun w'=>w'.cell? ⟨b,3,none⟩=some (.slice (some ⟨g,o,none⟩) 2 cA)∧w'.cell? ⟨g,o,none⟩=some v0∧w'.cell? ⟨g,o+1,none⟩=some v1)
   (first | go_keep | (refine ⟨hX8.cell ?_,hX8.cell ?_,hX8.cell ?_⟩<;>simp [*]))
   (first
    | (go_at_call 137
       first
        | with_reducible refine (HH0.out _ ?_).mono ?_
        | with_reducible refine (HH1.out _ ?_).mono ?_
       ·first | exact hZ | exact (Ext.refl w).drew
       rintro e8 w8 ⟨rfl,hX8⟩
       first
        | (have hY:=hZ.trans hX8)
        | (have hZ:=((Ext.refl w).drew).trans hX8)))
  all_goals
   have HY:=Lib.hid hY
   clear hZ hY hX8
   go_wp2
   go_ret
   exact Gives.int (by rw [HRr.out];first | omega | simp) HY.out
 by_cases h89:kd=8∨kd=9
 ·have har2:args.length=2:=by
   have:ar ⟨kd,vl,nm⟩=2:=by
    unfold ar
    rcases h89 with rfl | rfl<;>simp
   have har:=Har.out
   omega
  rcases h89 with rfl | rfl
  ·
   obtain ⟨x0,hx0⟩:∃ x0,args[0]? = some x0:=⟨args[0]'(by omega),List.getElem?_eq_getElem _⟩
   obtain ⟨x1,hx1⟩:∃ x1,args[1]? = some x1:=⟨args[1]'(by omega),List.getElem?_eq_getElem _⟩
   obtain ⟨v0,hv0,hA0⟩:=HAll.out.get hx0
   obtain ⟨v1,hv1,hA1⟩:=HAll.out.get hx1
   have H0:=HIH.out 0 x0 v0 d (d:Int) rfl hx0 hv0 (by omega)
   have H1:=HIH.out 1 x1 v1 (d) ((d:Int)) (rfl) hx1 hv1 (by omega)
   obtain ⟨g,o,rfl,_,hcel⟩:=HS.out.at_ (by omega)
   have k0:w.cell? ⟨g,o,none⟩=some v0:=hcel 0 v0 hv0
   have k1:w.cell? ⟨g,o+1,none⟩=some v1:=hcel 1 v1 hv1
   have HRr:Hid (R=max (need x0 d) (need x1 (d))):=by
    show _=_
    rw [HR.out]
    unfold comb
    rw [if_neg h36,if_neg h7,if_pos (by simp)]
    rw [nth_map hx0,nth_map hx1]
   obtain ⟨m0,hm0⟩:∃ m0,m0=need x0 d:=⟨_,rfl⟩
   obtain ⟨m1,hm1⟩:∃ m1,m1=need x1 (d):=⟨_,rfl⟩
   rw [← hm0] at H0 HRr
   rw [← hm1] at H1 HRr
   have HH0:=Lib.hid H0
   have HH1:=Lib.hid H1
   have hn2:nA=2:=by omega
   subst hn2
   clear H0 H1 hm0 hm1 hnl har2 hx0 hx1 hv0 hv1 hA0 hA1 hcel
   go_wp2_with fail
   go_region_held3 (fun w'=>w'.cell? ⟨b,3,none⟩=some (.slice (some ⟨g,o,none⟩) 2 cA)∧w'.cell? ⟨g,o,none⟩=some v0∧w'.cell? ⟨g,o+1,none⟩=some v1)
    (first | go_keep | (refine ⟨hX8.cell ?_,hX8.cell ?_,hX8.cell ?_⟩<;>simp [*]))
    (first
     | (go_at_call 137
        first
         | with_reducible refine (HH0.out _ ?_).mono ?_
         | with_reducible refine (HH1.out _ ?_).mono ?_
        ·first | exact hZ | exact (Ext.refl w).drew
        rintro e8 w8 ⟨rfl,hX8⟩
        first
         | (have hY:=hZ.trans hX8)
         | (have hZ:=((Ext.refl w).drew).trans hX8)))
   all_goals
    have HY:=Lib.hid hY
    clear hZ hY hX8
    go_wp2
    go_ret
    exact Gives.int (by rw [HRr.out];first | omega | simp) HY.out
  ·
   obtain ⟨x0,hx0⟩:∃ x0,args[0]? = some x0:=⟨args[0]'(by omega),List.getElem?_eq_getElem _⟩
   obtain ⟨x1,hx1⟩:∃ x1,args[1]? = some x1:=⟨args[1]'(by omega),List.getElem?_eq_getElem _⟩
   obtain ⟨v0,hv0,hA0⟩:=HAll.out.get hx0
   obtain ⟨v1,hv1,hA1⟩:=HAll.out.get hx1
   have H0:=HIH.out 0 x0 v0 d (d:Int) rfl hx0 hv0 (by omega)
   have H1:=HIH.out 1 x1 v1 (d) ((d:Int)) (rfl) hx1 hv1 (by omega)
   obtain ⟨g,o,rfl,_,hcel⟩:=HS.out.at_ (by omega)
   have k0:w.cell? ⟨g,o,none⟩=some v0:=hcel 0 v0 hv0
   have k1:w.cell? ⟨g,o+1,none⟩=some v1:=hcel 1 v1 hv1
   have HRr:Hid (R=max (need x0 d) (need x1 (d))):=by
    show _=_
    rw [HR.out]
    unfold comb
    rw [if_neg h36,if_neg h7,if_pos (by simp)]
    rw [nth_map hx0,nth_map hx1]
   obtain ⟨m0,hm0⟩:∃ m0,m0=need x0 d:=⟨_,rfl⟩
   obtain ⟨m1,hm1⟩:∃ m1,m1=need x1 (d):=⟨_,rfl⟩
   rw [← hm0] at H0 HRr
   rw [← hm1] at H1 HRr
   have HH0:=Lib.hid H0
   have HH1:=Lib.hid H1
   have hn2:nA=2:=by omega
   subst hn2
   clear H0 H1 hm0 hm1 hnl har2 hx0 hx1 hv0 hv1 hA0 hA1 hcel
   go_wp2_with fail
   go_region_held3 (fun w'=>w'.cell? ⟨b,3,none⟩=some (.slice (some ⟨g,o,none⟩) 2 cA)∧w'.cell? ⟨g,o,none⟩=some v0∧w'.cell? ⟨g,o+1,none⟩=some v1)
    (first | go_keep | (refine ⟨hX8.cell ?_,hX8.cell ?_,hX8.cell ?_⟩<;>simp [*]))
    (first
     | (go_at_call 137
        first
         | with_reducible refine (HH0.out _ ?_).mono ?_
         | with_reducible refine (HH1.out _ ?_).mono ?_
        ·first | exact hZ | exact (Ext.refl w).drew
        rintro e8 w8 ⟨rfl,hX8⟩
        first
         | (have hY:=hZ.trans hX8)
         | (have hZ:=((Ext.refl w).drew).trans hX8)))
   all_goals
    have HY:=Lib.hid hY
    clear hZ hY hX8
    go_wp2
    go_ret
    exact Gives.int (by rw [HRr.out];first | omega | simp) HY.out
 ·have HRr:Hid (R=over (args.map need) d 0 (d+1)):=by
   show _=_
   rw [HR.out]
   unfold comb
   rw [if_neg h36,if_neg h7,if_neg h89]
  have q3:(kd == 3)=false:=by simpa using fun h=>h36 (.inl h)
  have q6:(kd == 6)=false:=by simpa using fun h=>h36 (.inr h)
  have q7:(kd == 7)=false:=by simpa using h7
  have q8:(kd == 8)=false:=by simpa using fun h=>h89 (.inl h)
  have q9:(kd == 9)=false:=by simpa using fun h=>h89 (.inr h)
  by_cases h4:kd=4
  case neg =>
   have q4:(kd == 4)=false:=by simpa using h4
   have hn0:args=[]:=by
    have:ar ⟨kd,vl,nm⟩=0:=by
     unfold ar
     simp only
     repeat' split
     all_goals first | rfl | (exfalso;simp_all;done) | omega
    have har:=Har.out
    exact List.eq_nil_of_length_eq_zero (by omega)
   have HRe:Hid (R=d+1):=by
    show _=_
    rw [HRr.out,hn0]
    rfl
   clear h36 h7 h89 h4 hn0
   go_wp2
   go_ret
   exact Gives.int (by rw [HRe.out];omega) (Ext.refl w)
  subst h4
  have hnA:nA≤1000000:=by
   have h1:∀ (l:List Ex),l.length≤(l.flatMap Ex.list).length:=by
    intro l
    induction l with
    | nil=>simp
    | cons a r ih =>
      have:=a.list_pos
      rw [List.flatMap_cons,List.length_append,List.length_cons]
      omega
   have:=h1 args
   have:=Hl.out
   have:=Hlen.out
   omega
  clear h36 h7 h89 hnl
  go_wp2_with fail
  go_loopw [5,73] (fun v5 v73 wr=>∃ (k m:Nat),k≤nA∧v73=.int .i64 k∧v5=.int .i64 m∧Hid (R=over ((args.map need).drop k) d k m)∧Ext w wr) (fun _ v73 _=>nA - (intOf v73).toNat)
  case atStart=>exact ⟨0,d+1,Nat.zero_le _,rfl,by go_num,HRr.out,Ext.refl _⟩
  case round =>
   obtain ⟨k,m,hk,rfl,rfl,HA,hX⟩:=hrel
   by_cases hlt:k<nA
   ·obtain ⟨x0,hx0⟩:∃ x0,args[k]? = some x0:=⟨args[k]'(by have:=Hnl.out;omega),List.getElem?_eq_getElem _⟩
    obtain ⟨v0,hv0,hA0⟩:=HAll.out.get hx0
    have p1:wrap64 ((d:Int)+(k:Int))=((d+k:Nat):Int):=by unfold wrap64;omega
    have H0:=HIH.out k x0 v0 (d+k) (wrap64 ((d:Int)+(k:Int))) p1 hx0 hv0 (Nat.le_refl _) wr hX
    obtain ⟨g,o,rfl,_,hcel⟩:=HS.out.at_ (by omega)
    have k0:wr.cell? ⟨g,o+k,none⟩=some v0:=hX.cell (hcel k v0 hv0)
    have hst:=over_step (fs:=args.map need) (k:=k) (f:=need x0) (by rw [List.getElem?_map,hx0];rfl) d m
    rw [← HA.out] at hst
    obtain ⟨m0,hm0⟩:∃ m0,m0=need x0 (d+k):=⟨_,rfl⟩
    rw [← hm0] at H0 hst
    have HH0:=Lib.hid H0
    have HA2:=Lib.hid hst
    have z0:(0:Int)≤(k:Int):=by omega
    have z1:(k:Int)<(nA:Int):=by omega
    have e7:wrap64 ((d:Int)+(k:Int))=(d:Int)+(k:Int):=by rw [p1];omega
    rw [e7] at HH0
    clear H0 hm0 hx0 hv0 hA0 hcel hst p1 e7
    go_wp2_with fail
    refine HH0.out.mono ?_
    rintro e w5 ⟨rfl,hX5⟩
    go_wp2
    go_roundw
    case rel=>exact ⟨k+1,max m m0,by omega,by go_num,by (first | (congr 1;omega) | simp),HA2.out,hX.trans hX5⟩
    case measure=>simp [intOf];omega
   ·have HRe:Hid (R=m):=by
     show _=_
     rw [HA.out,List.drop_eq_nil_of_le (by rw [List.length_map];have:=Hnl.out;omega)]
     rfl
    go_wp2
    go_ret
    exact Gives.int (by rw [HRe.out]) hX
open Go Go.RowKit Md Go.Proofs.YtcfggjmdcaoecaaGreatDoorW.PrintLast
def addN (m:MP) (x:ByteArray):MP:=updA m x (.int .i64 m.length)
def addS (m:MP) (s:PStmt):MP:=if s.kind=1 then addN m s.name else m
mutual
def mpSt (m:MP):St→MP
 | .mk s _ _ _ T U=>mpBlk (mpBlk (addS m s) T) U
def mpBlk (m:MP):List St→MP
 | []=>m
 | x :: r=>mpBlk (mpSt m x) r
end
theorem updA_keys {m:MP} {x:ByteArray} (v:Value) (h:¬ x∈m.map Prod.fst):(updA m x v).map Prod.fst=m.map Prod.fst ++ [x]:=by
 induction m with
 | nil=>rfl
 | cons p r ih =>
   rw [List.map_cons,List.mem_cons] at h
   unfold updA
   rw [if_neg (fun e=>h (.inl e)),List.map_cons,ih (fun e=>h (.inr e)),List.map_cons]
   rfl
theorem mp_blocks (n:Nat):∀ (l:List PStmt) (p:Nat) (sts:List St) (m:MP),l.length≤n→blocks l p=some sts→(m.map Prod.fst ++ declsL l).Nodup→(mpBlk m sts).map Prod.fst=m.map Prod.fst ++ declsL l:=by
 induction n with
 | zero =>
   intro l p sts m hl hb hn
   obtain rfl:l=[]:=List.eq_nil_of_length_eq_zero (by omega)
   rw [blocks] at hb
   cases hb
   rw [mpBlk];simp [declsL]
 | succ n ih =>
   intro l p sts m hl hb hn
   cases l with
   | nil =>
     rw [blocks] at hb
     cases hb
     rw [mpBlk];simp [declsL]
   | cons s rest =>
     simp only [List.length_cons] at hl
     obtain ⟨e,T,U,R,hg,hok,_,_,hle,h1,h2,h3,rfl⟩:=blocks_inv hb
     have e1:rest.take s.thn.toNat ++ ((rest.drop s.thn.toNat).take s.els.toNat ++ rest.drop (s.thn.toNat+s.els.toNat))=rest:=by
      rw [show rest.drop (s.thn.toNat+s.els.toNat)=(rest.drop s.thn.toNat).drop s.els.toNat by rw [List.drop_drop],List.take_append_drop,List.take_append_drop]
     have e2:declsL rest=declsL (rest.take s.thn.toNat) ++ (declsL ((rest.drop s.thn.toNat).take s.els.toNat) ++ declsL (rest.drop (s.thn.toNat+s.els.toNat))):=by
      rw [← decls_append,← decls_append,e1]
     have hk:(addS m s).map Prod.fst=m.map Prod.fst ++ (if s.kind=1 then [s.name] else []):=by
      unfold addS
      by_cases h:s.kind=1
      ·rw [if_pos h,if_pos h]
       refine updA_keys _ fun hm=>?_
       rw [decls_cons,if_pos h] at hn
       exact (List.nodup_append.1 hn).2.2 _ hm s.name (by simp) rfl
      ·rw [if_neg h,if_neg h,List.append_nil]
     rw [decls_cons,e2] at hn ⊢
     simp only [← List.append_assoc] at hn ⊢
     rw [← hk] at hn ⊢
     have n2:=(List.nodup_append.1 hn).1
     have n1:=(List.nodup_append.1 n2).1
     have q1:=ih _ _ T (addS m s) (by simp;omega) h1 n1
     rw [← q1] at hn n2 ⊢
     have q2:=ih _ _ U _ (by simp;omega) h2 n2
     rw [← q2] at hn ⊢
     have q3:=ih _ _ R _ (by simp;omega) h3 hn
     rw [mpBlk,mpSt]
     exact q3
theorem mx_cast (a b:Nat):max (a:Int) (b:Int)=((max a b:Nat):Int):=by omega
structure FrS (w:World) (base O Fb M Q:Nat) (m:MP) (q:Nat):Prop where
 ob:Blk w O 169 #[.pointer (some ⟨Fb,0,none⟩)]
 fb:Blk w Fb 168 #[.map (some M),.int .i64 0,.int .i64 0]
 mp:MapAt strKey w M m
 qb:Blk w Q 3 #[.int .i64 (q:Nat)]
 low:base≤O∧base≤Fb∧base≤M∧base≤Q
theorem blk_ne {w:World} {a b s t:Nat} {x y:Array Value} (h:Blk w a s x) (k:Blk w b t y) (hne:s≠t):a≠b:=by
 rintro rfl
 unfold Blk at h k
 rw [h] at k
 injection k with k
 injection k with _ k
 exact hne k
section
variable {w w':World} {base O Fb M Q:Nat} {m m':MP} {q:Nat}
theorem FrS.ext (h:FrS w base O Fb M Q m q) (k:Ext w w'):FrS w' base O Fb M Q m q:=⟨h.ob.ext k,h.fb.ext k,h.mp.ext k,h.qb.ext k,h.low⟩
theorem FrS.turn (h:FrS w base O Fb M Q m q) (hm:MapAt strKey w' M m') (k:Turned w M w'):FrS w' base O Fb M Q m' q :=
 ⟨h.ob.turned k (fun e=>h.mp.ne_blk h.ob e.symm),h.fb.turned k (fun e=>h.mp.ne_blk h.fb e.symm),hm,h.qb.turned k (fun e=>h.mp.ne_blk h.qb e.symm),h.low⟩
theorem FrS.most (h:FrS w base O Fb M Q m q) (q':Nat):FrS (w.setCell ⟨Q,0,none⟩ (.int .i64 (q':Nat))) base O Fb M Q m q' :=
 ⟨h.ob.setOther (blk_ne h.ob h.qb (by decide)) _,h.fb.setOther (blk_ne h.fb h.qb (by decide)) _,h.mp.keep (K:=fun b=>b≠Q) (Keep.setCell (a:=⟨Q,0,none⟩) (Keep.refl _ _) (fun b hb=>hb) _) (h.mp.ne_blk h.qb),(h.qb.set 0 _),h.low⟩
end
def FrOut (base O Fb M Q:Nat) (m:MP) (q:Nat) (w:World) (e:Ending) (w':World):Prop:=e=.returned (.tuple #[])∧FrS w' base O Fb M Q m q∧Below base w w'
set_option maxRecDepth 1000000 in
set_option maxHeartbeats 0 in
theorem i_frame1 (K:Foot) (base:Nat) (hK:∀ b,K b→b<base) (s:PStmt) (p:Nat) (x:Ex) (y:Option Ex) (T U:List St) (vs:Value) (O Fb M Q:Nat) (m:MP) (q:Nat) (w:World)
  (hS:StAt K w vs (.mk s p x y T U)) (h:FrS w base O Fb M Q m q) (hx:x.ok∧x.list.length≤2000) (hy:∀ z,y=some z→z.ok∧z.list.length≤2000) (hb:base≤w.heap.size) :
  Calls Tryz.prog 136 #[vs,.pointer (some ⟨O,0,none⟩),.pointer (some ⟨Q,0,none⟩)] w (FrOut base O Fb M Q (addS m s) (stPlace q x y) w):=by
 have HSt:Hid (∀ w',Below base w w'→StAt K w' vs (.mk s p x y T U)):=fun w' k=>hS.keep (keep_below hK k) (fun _ h=>h)
 obtain ⟨sb,vE,vF,ve,vf,vt,vu,ts,us,rfl,hcs,_,_,_,_,_,_,hex,hfx,_⟩:=hS.op
 simp only [St.s,St.at_,St.e,St.f] at hcs hex hfx
 obtain ⟨kd,nm,xe,xf,thn,els⟩:=s
 simp only at hcs
 have k0:w.cell? ⟨sb,0,none⟩=some (.int .i64 kd):=hcs.z rfl
 have k1:w.cell? ⟨sb,1,none⟩=some (.string nm):=by simpa using hcs 1 _ rfl
 have HCs:Hid (∀ w',Below base w w'→w'.cell? ⟨sb,7,none⟩=some ve∧w'.cell? ⟨sb,8,none⟩=some vf):=fun w' k=>by
  obtain ⟨sb',vE',vF',ve',vf',vt',vu',ts',us',e,hcs',_⟩:=(HSt.out w' k).op
  have hk:=keep_below hK k
  have hKs:K sb:=by
   cases hS with
   | mk=>assumption
  refine ⟨?_,?_⟩
  ·exact hk.cell hKs (by simpa using hcs 7 _ rfl)
  ·exact hk.cell hKs (by simpa using hcs 8 _ rfl)
 have HNx:Hid (∀ w',Below base w w'→∀ w'',Ext w' w''→Calls Tryz.prog 137 #[ve,.int .i64 0] w'' (Gives (.int .i64 ((need x 0:Nat):Int)) w'')):=fun w' k w'' k2=>i_needs x hx.1 K ve 0 w'' ((hex.keep (keep_below hK k) (fun _ h=>h)).ext k2) (by omega) (by omega)
 have HNy:Hid (∀ z,y=some z→∀ w',Below base w w'→∀ w'',Ext w' w''→Calls Tryz.prog 137 #[vf,.int .i64 1] w'' (Gives (.int .i64 ((need z 1:Nat):Int)) w'')):=fun z hz w' k w'' k2=>by
  subst hz
  exact i_needs z (hy z rfl).1 K vf 1 w'' ((ExAt.keep hfx (keep_below hK k) (fun _ h=>h)).ext k2) (by have:=(hy z rfl).2;omega) (by have:=(hy z rfl).2;omega)
 have HYn:Hid (y=none→vf=.pointer none):=fun hy=>by subst hy;exact hfx
 have HYs:Hid (∀ z,y=some z→∃ b,vf=.pointer (some ⟨b,0,none⟩)):=fun z hz=>by
  subst hz
  obtain ⟨b,_,_,e,_⟩:=ExAt.op hfx
  exact ⟨b,e⟩
 have HSs:=Lib.hid h
 have Hb:=Lib.hid hb
 obtain ⟨P1,hP1⟩:∃ P1,P1=addS m ⟨kd,nm,xe,xf,thn,els⟩:=⟨_,rfl⟩
 obtain ⟨Q1,hQ1⟩:∃ Q1,Q1=stPlace q x y:=⟨_,rfl⟩
 rw [← hP1,← hQ1]
 have HP1:=Lib.hid hP1
 have HQ1:=Lib.hid hQ1
 obtain ⟨m0,hm0⟩:∃ m0,m0=need x 0:=⟨_,rfl⟩
 have Hm0:Hid (need x 0=m0):=hm0.symm
 rw [← hm0] at HNx
 clear hcs hex hfx hS h hx hy hb hP1 hQ1 hm0 hK
 go_enter Tryz.func136,Tryz.ntmps136
 by_cases h1:kd=1
 ·subst h1
  have HPm:Hid (P1=addN m nm):=HP1.out
  have o0:w.cell? ⟨O,0,none⟩=some (.pointer (some ⟨Fb,0,none⟩)):=(HSs.out.ob.cell 0).trans rfl
  have f0:w.cell? ⟨Fb,0,none⟩=some (.map (some M)):=(HSs.out.fb.cell 0).trans rfl
  have hlen:(Builtin.len_ #[166] 3 #[.map (some M)]).run Tryz.prog w.drew=.ok (.int .i64 m.length) w.drew:=run_mlen (HSs.out.mp.ext ((Ext.refl w).drew)) Tryz.underlying166 3
  obtain ⟨w6,r6,hM6,hT6⟩:=run_upd (kk:=strKey) (P:=Tryz.prog) (HSs.out.mp.ext ((Ext.refl w).drew)) Tryz.underlying166 Tryz.underlying9 nm (.int .i64 m.length)
  have HR6:=Lib.hid r6
  have HS6:Hid (FrS w6 base O Fb M Q P1 q):=by
   show FrS _ _ _ _ _ _ _ _
   rw [HPm.out]
   exact (HSs.out.ext ((Ext.refl w).drew)).turn hM6 hT6
  have HB6:Hid (Below base w w6):=Below.trans (((Ext.refl w).drew).mono Hb.out) (hT6.below HSs.out.low.2.2.1)
  clear r6 hM6 hT6
  go_wp2_with fail
  refine start_ (n:=15) (S:=fun w'=>w'.cell? ⟨O,0,none⟩=some (.pointer (some ⟨Fb,0,none⟩))∧w'.cell? ⟨Fb,0,none⟩=some (.map (some M))∧w'.cell? ⟨sb,1,none⟩=some (.string nm)∧(Builtin.len_ #[166] 3 #[.map (some M)]).run Tryz.prog w'=.ok (.int .i64 m.length) w') (ds:=[14]) #[false,false,false,false,false,false,false,false,false,false,false,false,false,false,false] (by kernel_rfl) rfl rfl ?hS (fun hHeld=>?_)
  case hS=>exact ⟨by simpa using o0,by simpa using f0,by simpa using k1,hlen⟩
  refine ta_ 0 (some 10) #[true,false,false,false,false,false,false,false,false,false,false,false,false,false,false] rfl rfl (by kernel_rfl) (fun _ _ _ h=>h) hHeld (by rfl) (by rintro w' ⟨s0,s1,s2,s3⟩;go_simp;with_reducible rfl) (by simp only [pt_];rfl) ?_
  refine pu_ 1 (some 11) #[true,true,false,false,false,false,false,false,false,false,false,false,false,false,false] rfl rfl (by kernel_rfl) (fun _ _ _ h=>h) (by rfl) (by intro w';go_simp;with_reducible rfl) (by simp only [pt_];rfl) ?_
  refine pu_ 2 (some 12) #[true,true,true,false,false,false,false,false,false,false,false,false,false,false,false] rfl rfl (by kernel_rfl) (fun _ _ _ h=>h) (by rfl) (by intro w';go_simp;with_reducible rfl) (by simp only [pt_];rfl) ?_
  refine ta_ 3 (some 13) #[true,true,true,true,false,false,false,false,false,false,false,false,false,false,false] rfl rfl (by kernel_rfl) (fun _ _ _ h=>h) hHeld (by rfl) (by rintro w' ⟨s0,s1,s2,s3⟩;go_simp;with_reducible rfl) (by simp only [pt_];rfl) ?_
  refine pu_ 4 (some 14) #[true,true,true,true,true,false,false,false,false,false,false,false,false,false,false] rfl rfl (by kernel_rfl) (fun _ _ _ h=>h) (by rfl) (by intro w';go_simp;with_reducible rfl) (by simp only [pt_];rfl) ?_
  refine pu_ 5 (some 15) #[true,true,true,true,true,true,false,false,false,false,false,false,false,false,false] rfl rfl (by kernel_rfl) (fun _ _ _ h=>h) (by rfl) (by intro w';go_simp;with_reducible rfl) (by simp only [pt_];rfl) ?_
  refine pu_ 6 (some 16) #[true,true,true,true,true,true,true,false,false,false,false,false,false,false,false] rfl rfl (by kernel_rfl) (fun _ _ _ h=>h) (by rfl) (by intro w';go_simp;with_reducible rfl) (by simp only [pt_];rfl) ?_
  refine pu_ 7 (some 17) #[true,true,true,true,true,true,true,true,false,false,false,false,false,false,false] rfl rfl (by kernel_rfl) (fun _ _ _ h=>h) (by rfl) (by intro w';go_simp;with_reducible rfl) (by simp only [pt_];rfl) ?_
  refine ta_ 8 (some 18) #[true,true,true,true,true,true,true,true,true,false,false,false,false,false,false] rfl rfl (by kernel_rfl) (fun _ _ _ h=>h) hHeld (by rfl) (by rintro w' ⟨s0,s1,s2,s3⟩;go_simp;with_reducible rfl) (by simp only [pt_];rfl) ?_
  refine ta_ 9 (some 19) #[true,true,true,true,true,true,true,true,true,true,false,false,false,false,false] rfl rfl (by kernel_rfl) (fun _ _ _ h=>h) hHeld (by rfl) (by rintro w' ⟨s0,s1,s2,s3⟩;go_simp;with_reducible rfl) (by simp only [pt_];rfl) ?_
  refine pu_ 10 (some 20) #[true,true,true,true,true,true,true,true,true,true,true,false,false,false,false] rfl rfl (by kernel_rfl) (fun _ _ _ h=>h) (by rfl) (by intro w';go_simp;with_reducible rfl) (by simp only [pt_];rfl) ?_
  refine pu_ 11 (some 21) #[true,true,true,true,true,true,true,true,true,true,true,true,false,false,false] rfl rfl (by kernel_rfl) (fun _ _ _ h=>h) (by rfl) (by intro w';go_simp;with_reducible rfl) (by simp only [pt_];rfl) ?_
  refine ta_ 12 (some 22) #[true,true,true,true,true,true,true,true,true,true,true,true,true,false,false] rfl rfl (by kernel_rfl) (fun _ _ _ h=>h) hHeld (by rfl) (by rintro w' ⟨s0,s1,s2,s3⟩;go_simp;with_reducible rfl) (by simp only [pt_];rfl) ?_
  refine ta_ 13 (some 23) #[true,true,true,true,true,true,true,true,true,true,true,true,true,true,false] rfl rfl (by kernel_rfl) (fun _ _ _ h=>h) hHeld (by rfl) (by rintro w' ⟨s0,s1,s2,s3⟩;go_simp;with_reducible rfl) (by simp only [pt_];rfl) ?_
  refine last_ (i:=14) (N:=none) #[true,true,true,true,true,true,true,true,true,true,true,true,true,true,true] rfl rfl (by kernel_rfl) (by decide) (fun K hK=>?_)
  refine skip_ (w1:=w6) (by rfl) rfl (exec_upd rfl rfl rfl rfl HR6.out) ?_
  refine hK.out _ _ ?_
  clear hK K
  refine done_ (by kernel_rfl) ?_
  clear hHeld hlen o0 f0
  have kv:w6.cell? ⟨sb,7,none⟩=some ve:=(HCs.out _ HB6.out).1
  have HN:=Lib.hid (HNx.out _ HB6.out)
  have kq:w6.cell? ⟨Q,0,none⟩=some (.int .i64 (q:Nat)):=(HS6.out.qb.cell 0).trans rfl
  go_wp2_with fail
  refine start_ (n:=8) (S:=fun w'=>w'.cell? ⟨Q,0,none⟩=some (.int .i64 (q:Nat))∧w'.cell? ⟨sb,7,none⟩=some ve) (ds:=[7]) #[false,false,false,false,false,false,false,false] (by kernel_rfl) rfl rfl ?hS (fun hHeld=>?_)
  case hS=>exact ⟨by simpa using kq,by simpa using kv⟩
  refine ta_ 0 (some 24) #[true,false,false,false,false,false,false,false] rfl rfl (by kernel_rfl) (fun _ _ _ h=>h) hHeld (by rfl) (by rintro w' ⟨s0,s1⟩;go_simp;with_reducible rfl) (by simp only [pt_];rfl) ?_
  refine pu_ 1 (some 25) #[true,true,false,false,false,false,false,false] rfl rfl (by kernel_rfl) (fun _ _ _ h=>h) (by rfl) (by intro w';go_simp;with_reducible rfl) (by simp only [pt_];rfl) ?_
  refine pu_ 2 (some 26) #[true,true,true,false,false,false,false,false] rfl rfl (by kernel_rfl) (fun _ _ _ h=>h) (by rfl) (by intro w';go_simp;with_reducible rfl) (by simp only [pt_];rfl) ?_
  refine pu_ 3 (some 27) #[true,true,true,true,false,false,false,false] rfl rfl (by kernel_rfl) (fun _ _ _ h=>h) (by rfl) (by intro w';go_simp;with_reducible rfl) (by simp only [pt_];rfl) ?_
  refine ta_ 4 (some 28) #[true,true,true,true,true,false,false,false] rfl rfl (by kernel_rfl) (fun _ _ _ h=>h) hHeld (by rfl) (by rintro w' ⟨s0,s1⟩;go_simp;with_reducible rfl) (by simp only [pt_];rfl) ?_
  refine one_ (i:=5) (N:=some 29) #[true,true,true,true,true,true,false,false] rfl rfl (by kernel_rfl) (by decide) (fun K hK=>?_)
  refine goes_ (N:=some 29) Tryz.func137 (by kernel_rfl) rfl #[ve,.int .i64 0] (by rfl) rfl rfl (by simp [Act.eval]) ?_
  refine (HN.out _ ((Ext.refl _).drew)).mono ?_
  rintro e w5 ⟨rfl,hX5⟩
  refine ⟨_,rfl,?_⟩
  have hX05:Ext w6 w5:=((Ext.refl _).drew).trans hX5
  refine hK.out _ _ ⟨hX05.cell kq,hX05.cell kv⟩ (fun hHeld=>?_)
  clear hK K
  refine norm_ (by show Act.put _ (some 29) _=_;simp only [pt_];rfl) ?_
  refine pu_ 6 (some 30) #[true,true,true,true,true,true,true,false] rfl rfl (by kernel_rfl) (fun _ _ _ h=>h) (by rfl) (by intro w';go_simp;with_reducible rfl) (by simp only [pt_];rfl) ?_
  refine last_ (i:=7) (N:=none) #[true,true,true,true,true,true,true,true] rfl rfl (by kernel_rfl) (by decide) (fun K hK=>?_)
  have f0:w5.frozen? ⟨Q,0,none⟩=false:=((HS6.out.qb).ext hX05).frozen 0
  go_simp
  refine hK.out _ _ ?_
  clear hK K
  refine done_ (by kernel_rfl) ?_
  have HS7:Hid (FrS (w5.setCell ⟨Q,0,none⟩ (.int .i64 (max (q:Int) (m0:Int)))) base O Fb M Q P1 (max q m0)):=by
   show FrS _ _ _ _ _ _ _ _
   rw [mx_cast]
   exact (HS6.out.ext hX05).most _
  have HB7:Hid (Below base w (w5.setCell ⟨Q,0,none⟩ (.int .i64 (max (q:Int) (m0:Int))))):=Below.setCell (Below.trans HB6.out (hX05.mono (Nat.le_trans Hb.out HB6.out.size))) (p:=⟨Q,0,none⟩) HS6.out.low.2.2.2 _
  obtain ⟨w7,hwX⟩:∃ wX,wX=w5.setCell ⟨Q,0,none⟩ (.int .i64 (max (q:Int) (m0:Int))):=⟨_,rfl⟩
  rw [← hwX] at HS7 HB7 ⊢
  clear hwX kq kv hHeld HN hX5 hX05 f0
  cases hy:y with
  | none =>
    obtain rfl:=HYn.out hy
    have kv:w7.cell? ⟨sb,8,none⟩=some (.pointer none):=(HCs.out _ HB7.out).2
    have HQe:Hid (Q1=max q m0):=by
     show _=_
     rw [HQ1.out,hy]
     unfold stPlace
     rw [Hm0.out]
    clear hy
    go_wp2
    go_end0
    exact ⟨rfl,by rw [HQe.out];exact HS7.out,HB7.out⟩
  | some z =>
    obtain ⟨fb,hfb⟩:=HYs.out z hy
    have HN:=Lib.hid (HNy.out z hy _ HB7.out)
    obtain ⟨m1,hm1⟩:∃ m1,m1=need z 1:=⟨_,rfl⟩
    have HQe:Hid (Q1=max (max q m0) m1):=by
     show _=_
     rw [HQ1.out,hy]
     unfold stPlace
     rw [Hm0.out,hm1]
    rw [← hm1] at HN
    have kv:w7.cell? ⟨sb,8,none⟩=some vf:=(HCs.out _ HB7.out).2
    rw [hfb] at kv HN
    obtain ⟨q2,hq2⟩:∃ q2,q2=max q m0:=⟨_,rfl⟩
    rw [← hq2] at HQe HS7
    have HS8:=HS7
    have HB8:=HB7
    clear hy hm1 hfb hq2 HS7 HB7
    have kq:w7.cell? ⟨Q,0,none⟩=some (.int .i64 (q2:Nat)):=(HS8.out.qb.cell 0).trans rfl
    go_wp2_with fail
    refine start_ (n:=8) (S:=fun w'=>w'.cell? ⟨Q,0,none⟩=some (.int .i64 (q2:Nat))∧w'.cell? ⟨sb,8,none⟩=some (.pointer (some ⟨fb,0,none⟩))) (ds:=[7]) #[false,false,false,false,false,false,false,false] (by kernel_rfl) rfl rfl ?hS (fun hHeld=>?_)
    case hS=>exact ⟨by simpa using kq,by simpa using kv⟩
    refine ta_ 0 (some 36) #[true,false,false,false,false,false,false,false] rfl rfl (by kernel_rfl) (fun _ _ _ h=>h) hHeld (by rfl) (by rintro w' ⟨s0,s1⟩;go_simp;with_reducible rfl) (by simp only [pt_];rfl) ?_
    refine pu_ 1 (some 37) #[true,true,false,false,false,false,false,false] rfl rfl (by kernel_rfl) (fun _ _ _ h=>h) (by rfl) (by intro w';go_simp;with_reducible rfl) (by simp only [pt_];rfl) ?_
    refine pu_ 2 (some 38) #[true,true,true,false,false,false,false,false] rfl rfl (by kernel_rfl) (fun _ _ _ h=>h) (by rfl) (by intro w';go_simp;with_reducible rfl) (by simp only [pt_];rfl) ?_
    refine pu_ 3 (some 39) #[true,true,true,true,false,false,false,false] rfl rfl (by kernel_rfl) (fun _ _ _ h=>h) (by rfl) (by intro w';go_simp;with_reducible rfl) (by simp only [pt_];rfl) ?_
    refine ta_ 4 (some 40) #[true,true,true,true,true,false,false,false] rfl rfl (by kernel_rfl) (fun _ _ _ h=>h) hHeld (by rfl) (by rintro w' ⟨s0,s1⟩;go_simp;with_reducible rfl) (by simp only [pt_];rfl) ?_
    refine one_ (i:=5) (N:=some 41) #[true,true,true,true,true,true,false,false] rfl rfl (by kernel_rfl) (by decide) (fun K hK=>?_)
    refine goes_ (N:=some 41) Tryz.func137 (by kernel_rfl) rfl #[(.pointer (some ⟨fb,0,none⟩)),.int .i64 1] (by rfl) rfl rfl (by simp [Act.eval]) ?_
    refine (HN.out _ ((Ext.refl _).drew)).mono ?_
    rintro e w5 ⟨rfl,hX5⟩
    refine ⟨_,rfl,?_⟩
    have hX05:Ext w7 w5:=((Ext.refl _).drew).trans hX5
    refine hK.out _ _ ⟨hX05.cell kq,hX05.cell kv⟩ (fun hHeld=>?_)
    clear hK K
    refine norm_ (by show Act.put _ (some 41) _=_;simp only [pt_];rfl) ?_
    refine pu_ 6 (some 42) #[true,true,true,true,true,true,true,false] rfl rfl (by kernel_rfl) (fun _ _ _ h=>h) (by rfl) (by intro w';go_simp;with_reducible rfl) (by simp only [pt_];rfl) ?_
    refine last_ (i:=7) (N:=none) #[true,true,true,true,true,true,true,true] rfl rfl (by kernel_rfl) (by decide) (fun K hK=>?_)
    have f0:w5.frozen? ⟨Q,0,none⟩=false:=((HS8.out.qb).ext hX05).frozen 0
    go_simp
    refine hK.out _ _ ?_
    clear hK K
    refine done_ (by kernel_rfl) ?_
    have HS7:Hid (FrS (w5.setCell ⟨Q,0,none⟩ (.int .i64 (max (q2:Int) (m1:Int)))) base O Fb M Q P1 (max q2 m1)):=by
     show FrS _ _ _ _ _ _ _ _
     rw [mx_cast]
     exact (HS8.out.ext hX05).most _
    have HB7:Hid (Below base w (w5.setCell ⟨Q,0,none⟩ (.int .i64 (max (q2:Int) (m1:Int))))):=Below.setCell (Below.trans HB8.out (hX05.mono (Nat.le_trans Hb.out HB8.out.size))) (p:=⟨Q,0,none⟩) HS8.out.low.2.2.2 _
    obtain ⟨w9,hwX⟩:∃ wX,wX=w5.setCell ⟨Q,0,none⟩ (.int .i64 (max (q2:Int) (m1:Int))):=⟨_,rfl⟩
    rw [← hwX] at HS7 HB7 ⊢
    clear hwX kq kv hHeld HN hX5 hX05 f0
    go_wp2
    go_end0
    exact ⟨rfl,by rw [HQe.out];exact HS7.out,HB7.out⟩
 ·have HPm:Hid (P1=m):=by
   show _=_
   rw [HP1.out]
   unfold addS
   rw [if_neg h1]
  have HS6:Hid (FrS w base O Fb M Q P1 q):=by
   show FrS _ _ _ _ _ _ _ _
   rw [HPm.out]
   exact HSs.out
  have HB6:Hid (Below base w w):=Below.refl _ _
  have q1:(kd == 1)=false:=by simpa using h1
  clear h1
  have kv:w.cell? ⟨sb,7,none⟩=some ve:=(HCs.out _ HB6.out).1
  have HN:=Lib.hid (HNx.out _ HB6.out)
  have kq:w.cell? ⟨Q,0,none⟩=some (.int .i64 (q:Nat)):=(HS6.out.qb.cell 0).trans rfl
  go_wp2_with fail
  refine start_ (n:=8) (S:=fun w'=>w'.cell? ⟨Q,0,none⟩=some (.int .i64 (q:Nat))∧w'.cell? ⟨sb,7,none⟩=some ve) (ds:=[7]) #[false,false,false,false,false,false,false,false] (by kernel_rfl) rfl rfl ?hS (fun hHeld=>?_)
  case hS=>exact ⟨by simpa using kq,by simpa using kv⟩
  refine ta_ 0 (some 24) #[true,false,false,false,false,false,false,false] rfl rfl (by kernel_rfl) (fun _ _ _ h=>h) hHeld (by rfl) (by rintro w' ⟨s0,s1⟩;go_simp;with_reducible rfl) (by simp only [pt_];rfl) ?_
  refine pu_ 1 (some 25) #[true,true,false,false,false,false,false,false] rfl rfl (by kernel_rfl) (fun _ _ _ h=>h) (by rfl) (by intro w';go_simp;with_reducible rfl) (by simp only [pt_];rfl) ?_
  refine pu_ 2 (some 26) #[true,true,true,false,false,false,false,false] rfl rfl (by kernel_rfl) (fun _ _ _ h=>h) (by rfl) (by intro w';go_simp;with_reducible rfl) (by simp only [pt_];rfl) ?_
  refine pu_ 3 (some 27) #[true,true,true,true,false,false,false,false] rfl rfl (by kernel_rfl) (fun _ _ _ h=>h) (by rfl) (by intro w';go_simp;with_reducible rfl) (by simp only [pt_];rfl) ?_
  refine ta_ 4 (some 28) #[true,true,true,true,true,false,false,false] rfl rfl (by kernel_rfl) (fun _ _ _ h=>h) hHeld (by rfl) (by rintro w' ⟨s0,s1⟩;go_simp;with_reducible rfl) (by simp only [pt_];rfl) ?_
  refine one_ (i:=5) (N:=some 29) #[true,true,true,true,true,true,false,false] rfl rfl (by kernel_rfl) (by decide) (fun K hK=>?_)
  refine goes_ (N:=some 29) Tryz.func137 (by kernel_rfl) rfl #[ve,.int .i64 0] (by rfl) rfl rfl (by simp [Act.eval]) ?_
  refine (HN.out _ ((Ext.refl _).drew)).mono ?_
  rintro e w5 ⟨rfl,hX5⟩
  refine ⟨_,rfl,?_⟩
  have hX05:Ext w w5:=((Ext.refl _).drew).trans hX5
  refine hK.out _ _ ⟨hX05.cell kq,hX05.cell kv⟩ (fun hHeld=>?_)
  clear hK K
  refine norm_ (by show Act.put _ (some 29) _=_;simp only [pt_];rfl) ?_
  refine pu_ 6 (some 30) #[true,true,true,true,true,true,true,false] rfl rfl (by kernel_rfl) (fun _ _ _ h=>h) (by rfl) (by intro w';go_simp;with_reducible rfl) (by simp only [pt_];rfl) ?_
  refine last_ (i:=7) (N:=none) #[true,true,true,true,true,true,true,true] rfl rfl (by kernel_rfl) (by decide) (fun K hK=>?_)
  have f0:w5.frozen? ⟨Q,0,none⟩=false:=((HS6.out.qb).ext hX05).frozen 0
  go_simp
  refine hK.out _ _ ?_
  clear hK K
  refine done_ (by kernel_rfl) ?_
  have HS7:Hid (FrS (w5.setCell ⟨Q,0,none⟩ (.int .i64 (max (q:Int) (m0:Int)))) base O Fb M Q P1 (max q m0)):=by
   show FrS _ _ _ _ _ _ _ _
   rw [mx_cast]
   exact (HS6.out.ext hX05).most _
  have HB7:Hid (Below base w (w5.setCell ⟨Q,0,none⟩ (.int .i64 (max (q:Int) (m0:Int))))):=Below.setCell (Below.trans HB6.out (hX05.mono (Nat.le_trans Hb.out HB6.out.size))) (p:=⟨Q,0,none⟩) HS6.out.low.2.2.2 _
  obtain ⟨w7,hwX⟩:∃ wX,wX=w5.setCell ⟨Q,0,none⟩ (.int .i64 (max (q:Int) (m0:Int))):=⟨_,rfl⟩
  rw [← hwX] at HS7 HB7 ⊢
  clear hwX kq kv hHeld HN hX5 hX05 f0
  cases hy:y with
  | none =>
    obtain rfl:=HYn.out hy
    have kv:w7.cell? ⟨sb,8,none⟩=some (.pointer none):=(HCs.out _ HB7.out).2
    have HQe:Hid (Q1=max q m0):=by
     show _=_
     rw [HQ1.out,hy]
     unfold stPlace
     rw [Hm0.out]
    clear hy
    go_wp2
    go_end0
    exact ⟨rfl,by rw [HQe.out];exact HS7.out,HB7.out⟩
  | some z =>
    obtain ⟨fb,hfb⟩:=HYs.out z hy
    have HN:=Lib.hid (HNy.out z hy _ HB7.out)
    obtain ⟨m1,hm1⟩:∃ m1,m1=need z 1:=⟨_,rfl⟩
    have HQe:Hid (Q1=max (max q m0) m1):=by
     show _=_
     rw [HQ1.out,hy]
     unfold stPlace
     rw [Hm0.out,hm1]
    rw [← hm1] at HN
    have kv:w7.cell? ⟨sb,8,none⟩=some vf:=(HCs.out _ HB7.out).2
    rw [hfb] at kv HN
    obtain ⟨q2,hq2⟩:∃ q2,q2=max q m0:=⟨_,rfl⟩
    rw [← hq2] at HQe HS7
    have HS8:=HS7
    have HB8:=HB7
    clear hy hm1 hfb hq2 HS7 HB7
    have kq:w7.cell? ⟨Q,0,none⟩=some (.int .i64 (q2:Nat)):=(HS8.out.qb.cell 0).trans rfl
    go_wp2_with fail
    refine start_ (n:=8) (S:=fun w'=>w'.cell? ⟨Q,0,none⟩=some (.int .i64 (q2:Nat))∧w'.cell? ⟨sb,8,none⟩=some (.pointer (some ⟨fb,0,none⟩))) (ds:=[7]) #[false,false,false,false,false,false,false,false] (by kernel_rfl) rfl rfl ?hS (fun hHeld=>?_)
    case hS=>exact ⟨by simpa using kq,by simpa using kv⟩
    refine ta_ 0 (some 36) #[true,false,false,false,false,false,false,false] rfl rfl (by kernel_rfl) (fun _ _ _ h=>h) hHeld (by rfl) (by rintro w' ⟨s0,s1⟩;go_simp;with_reducible rfl) (by simp only [pt_];rfl) ?_
    refine pu_ 1 (some 37) #[true,true,false,false,false,false,false,false] rfl rfl (by kernel_rfl) (fun _ _ _ h=>h) (by rfl) (by intro w';go_simp;with_reducible rfl) (by simp only [pt_];rfl) ?_
    refine pu_ 2 (some 38) #[true,true,true,false,false,false,false,false] rfl rfl (by kernel_rfl) (fun _ _ _ h=>h) (by rfl) (by intro w';go_simp;with_reducible rfl) (by simp only [pt_];rfl) ?_
    refine pu_ 3 (some 39) #[true,true,true,true,false,false,false,false] rfl rfl (by kernel_rfl) (fun _ _ _ h=>h) (by rfl) (by intro w';go_simp;with_reducible rfl) (by simp only [pt_];rfl) ?_
    refine ta_ 4 (some 40) #[true,true,true,true,true,false,false,false] rfl rfl (by kernel_rfl) (fun _ _ _ h=>h) hHeld (by rfl) (by rintro w' ⟨s0,s1⟩;go_simp;with_reducible rfl) (by simp only [pt_];rfl) ?_
    refine one_ (i:=5) (N:=some 41) #[true,true,true,true,true,true,false,false] rfl rfl (by kernel_rfl) (by decide) (fun K hK=>?_)
    refine goes_ (N:=some 41) Tryz.func137 (by kernel_rfl) rfl #[(.pointer (some ⟨fb,0,none⟩)),.int .i64 1] (by rfl) rfl rfl (by simp [Act.eval]) ?_
    refine (HN.out _ ((Ext.refl _).drew)).mono ?_
    rintro e w5 ⟨rfl,hX5⟩
    refine ⟨_,rfl,?_⟩
    have hX05:Ext w7 w5:=((Ext.refl _).drew).trans hX5
    refine hK.out _ _ ⟨hX05.cell kq,hX05.cell kv⟩ (fun hHeld=>?_)
    clear hK K
    refine norm_ (by show Act.put _ (some 41) _=_;simp only [pt_];rfl) ?_
    refine pu_ 6 (some 42) #[true,true,true,true,true,true,true,false] rfl rfl (by kernel_rfl) (fun _ _ _ h=>h) (by rfl) (by intro w';go_simp;with_reducible rfl) (by simp only [pt_];rfl) ?_
    refine last_ (i:=7) (N:=none) #[true,true,true,true,true,true,true,true] rfl rfl (by kernel_rfl) (by decide) (fun K hK=>?_)
    have f0:w5.frozen? ⟨Q,0,none⟩=false:=((HS8.out.qb).ext hX05).frozen 0
    go_simp
    refine hK.out _ _ ?_
    clear hK K
    refine done_ (by kernel_rfl) ?_
    have HS7:Hid (FrS (w5.setCell ⟨Q,0,none⟩ (.int .i64 (max (q2:Int) (m1:Int)))) base O Fb M Q P1 (max q2 m1)):=by
     show FrS _ _ _ _ _ _ _ _
     rw [mx_cast]
     exact (HS8.out.ext hX05).most _
    have HB7:Hid (Below base w (w5.setCell ⟨Q,0,none⟩ (.int .i64 (max (q2:Int) (m1:Int))))):=Below.setCell (Below.trans HB8.out (hX05.mono (Nat.le_trans Hb.out HB8.out.size))) (p:=⟨Q,0,none⟩) HS8.out.low.2.2.2 _
    obtain ⟨w9,hwX⟩:∃ wX,wX=w5.setCell ⟨Q,0,none⟩ (.int .i64 (max (q2:Int) (m1:Int))):=⟨_,rfl⟩
    rw [← hwX] at HS7 HB7 ⊢
    clear hwX kq kv hHeld HN hX5 hX05 f0
    go_wp2
    go_end0
    exact ⟨rfl,by rw [HQe.out];exact HS7.out,HB7.out⟩
open Go Go.RowKit Md Go.Proofs.YtcfggjmdcaoecaaGreatDoorW.PrintLast
def EachOk (K:Foot) (base O Fb M Q:Nat) (sts:List St):Prop :=
 ∀ (w:World) (vb:Value) (ts:List Value) (m:MP) (q:Nat),SlV K w vb ts→All2 (StAt K w) ts sts→FrS w base O Fb M Q m q→base≤w.heap.size →
  Calls Tryz.prog 135 #[vb,.func (.func 136) #[] #[.pointer (some ⟨O,0,none⟩),.pointer (some ⟨Q,0,none⟩)]] w (FrOut base O Fb M Q (mpBlk m sts) (plBlk q sts) w)
def AtEach (base O Fb M Q n:Nat) (w wr:World) (mE:MP) (qE:Nat) (rest:List St):Prop :=
 ∃ (m:MP) (q:Nat) (l:List PStmt) (p:Nat),FrS wr base O Fb M Q m q∧Below base w wr∧mE=mpBlk m rest∧qE=plBlk q rest∧blocks l p=some rest∧l.length≤n∧∀ s∈l,s.e.length≤2000∧s.f.length≤2000
set_option maxRecDepth 1000000 in
set_option maxHeartbeats 0 in
theorem i_each (K:Foot) (base O Fb M Q:Nat) (hK:∀ b,K b→b<base) (n:Nat):∀ (l:List PStmt) (p:Nat) (sts:List St),l.length≤n→blocks l p=some sts→(∀ s∈l,s.e.length≤2000∧s.f.length≤2000)→EachOk K base O Fb M Q sts:=by
 induction n using Nat.strongRecOn with
 | ind n ih =>
 intro l p sts hl hbk hsz w vb ts m q hts hall h hbase
 obtain ⟨mE,hmE⟩:∃ mE,mE=mpBlk m sts:=⟨_,rfl⟩
 obtain ⟨qE,hqE⟩:∃ qE,qE=plBlk q sts:=⟨_,rfl⟩
 rw [← hmE,← hqE]
 have HI0:Hid (AtEach base O Fb M Q n w w mE qE sts):=⟨m,q,l,p,h,Below.refl _ _,hmE,hqE,hbk,hl,hsz⟩
 obtain ⟨aT,nT,cT,rfl⟩:=hts.shape
 obtain ⟨hln,hTc,hcTm⟩:=SlV.len hts
 have hlA:=hall.1
 have hlsts:sts.length=nT:=by omega
 have HTs:Hid (∀ w',Below base w w'→SlV K w' (.slice aT nT cT) ts∧All2 (StAt K w') ts sts):=fun w' k=>⟨hts.keep (keep_below hK k) (fun _ h=>h),hall.stKeep (keep_below hK k) (fun _ h=>h)⟩
 have Hls:=Lib.hid hlsts
 have Hih:=Lib.hid ih
 have Hb:=Lib.hid hbase
 have HKb:=Lib.hid hK
 clear hts hall h hbase hmE hqE hl hbk hsz hln hlA hlsts ih hK
 go_enter Tryz.func135,Tryz.ntmps135
 go_wp2_with fail
 go_loopw [8] (fun i wr=>∃ k:Nat,k≤nT∧i=.int .i64 k∧Hid (AtEach base O Fb M Q n w wr mE qE (sts.drop k))) (fun i _=>nT - (intOf i).toNat)
 case atStart=>exact ⟨0,Nat.zero_le _,rfl,HI0.out⟩
 case round =>
  clear HI0
  obtain ⟨k,hk,rfl,HI⟩:=hrel
  obtain ⟨m2,q2,l2,p2,hS2,hB2,hm2,hq2,hb2,hl2,hz2⟩:=HI.out
  have HS2:=Lib.hid hS2
  have HB2:=Lib.hid hB2
  clear HI
  by_cases hlt:k<nT
  ·have hks:k<sts.length:=by have:=Hls.out;omega
   obtain ⟨htsr,hallr⟩:=HTs.out _ HB2.out
   obtain ⟨bT,oT,rfl,_,hcT⟩:=SlV.at_ htsr (by omega)
   obtain ⟨pv,hpv,hSt⟩:=hallr.get (List.getElem?_eq_getElem hks)
   have cpv:=hcT k pv hpv
   have hdrop:sts.drop k=sts[k] :: sts.drop (k+1):=List.drop_eq_getElem_cons hks
   rw [hdrop] at hb2 hm2 hq2
   obtain ⟨s,rest,rfl⟩:∃ s rest,l2=s :: rest:=by
    cases l2 with
    | nil=>rw [blocks] at hb2;cases hb2
    | cons s rest=>exact ⟨s,rest,rfl⟩
   obtain ⟨ex,TT,UU,RR,hg1,hok,_,_,hle,k1,k2,k3,ke⟩:=blocks_inv hb2
   simp only [List.length_cons] at hl2
   injection ke with ke1 ke2
   rw [ke1] at hSt hm2 hq2
   rw [mpBlk,mpSt] at hm2
   rw [plBlk,plSt] at hq2
   have hz3:=hz2 s (List.mem_cons_self ..)
   have hzr:∀ z∈rest,z.e.length≤2000∧z.f.length≤2000:=fun z hz=>hz2 z (List.mem_cons_of_mem _ hz)
   have IT:=Lib.hid (Hih.out (n - 1) (by omega) _ _ TT (by simp;omega) k1 (fun z hz=>hzr z (List.mem_of_mem_take hz)))
   have IU:=Lib.hid (Hih.out (n - 1) (by omega) _ _ UU (by simp;omega) k2 (fun z hz=>hzr z (List.mem_of_mem_drop (List.mem_of_mem_take hz))))
   have HSm:=Lib.hid (i_frame1 K base HKb.out s p2 ex (grow s.f) TT UU pv O Fb M Q m2 q2 wr hSt hS2 ⟨grow_ok hg1,by rw [grow_list hg1];exact hz3.1⟩ (fun z hz=>⟨grow_ok hz,by rw [grow_list hz];exact hz3.2⟩) (Nat.le_trans Hb.out hB2.size))
   obtain ⟨m3,hm3⟩:∃ m3,m3=addS m2 s:=⟨_,rfl⟩
   obtain ⟨q3,hq3⟩:∃ q3,q3=stPlace q2 ex (grow s.f):=⟨_,rfl⟩
   rw [← hm3,← hq3] at HSm
   rw [← hm3] at hm2
   rw [← hq3] at hq2
   have HStk:Hid (∀ w',Below base wr w'→StAt K w' pv (.mk s p2 ex (grow s.f) TT UU)):=fun w' k=>hSt.keep (keep_below HKb.out k) (fun _ h=>h)
   obtain ⟨sb,_,_,_,_,vt,vu,tts,uus,rfl,_⟩:=hSt.op
   have Hm2:=Lib.hid hm2
   have Hq2:=Lib.hid hq2
   have Hk3:Hid (blocks (rest.drop (s.thn.toNat+s.els.toNat)) (p2+1+s.thn.toNat+s.els.toNat)=some (sts.drop (k+1))):=by rw [ke2];exact k3
   have Hl3:Hid ((rest.drop (s.thn.toNat+s.els.toNat)).length≤n):=by show _≤_;simp;omega
   have Hz4:Hid (∀ z∈rest.drop (s.thn.toNat+s.els.toNat),z.e.length≤2000∧z.f.length≤2000):=fun z hz=>hzr z (List.mem_of_mem_drop hz)
   have z0:(0:Int)≤(k:Int):=by omega
   have z1:(k:Int)<(nT:Int):=by omega
   clear hS2 hB2 hm2 hq2 hb2 hl2 hz2 htsr hallr hcT hpv hSt hdrop hg1 hok hle k1 k2 k3 ke1 ke2 hz3 hzr hm3 hq3
   go_wp2_with fail
   refine HSm.out.mono ?_
   rintro e w6 ⟨rfl,hS6,hB6⟩
   have HS6:=Lib.hid hS6
   have HB6:=Lib.hid (Below.trans HB2.out hB6)
   obtain ⟨sb',_,_,_,_,vt',vu',tts',uus',e',hcs',_,_,_,_,_,_,_,_,slT,slU,zT,zU⟩:=(HStk.out _ hB6).op
   cases e'
   obtain ⟨aT',nT',cT',rfl⟩:=slT.shape
   have k9:w6.cell? ⟨sb,9,none⟩=some (.slice aT' nT' cT'):=by simpa using hcs' 9 _ rfl
   have HTc:=Lib.hid (IT.out w6 _ _ m3 q3 slT zT hS6 (Nat.le_trans Hb.out HB6.out.size))
   clear hS6 hcs' slT slU zT zU HSm cpv
   go_wp2_with fail
   refine HTc.out.mono ?_
   rintro e w7 ⟨rfl,hS7,hB7⟩
   have HB67:Hid (Below base wr w7):=Below.trans hB6 hB7
   have HB7:=Lib.hid (Below.trans HB6.out hB7)
   obtain ⟨sb',_,_,_,_,vt',vu',tts',uus',e',hcs',_,_,_,_,_,_,_,_,slT,slU,zT,zU⟩:=(HStk.out _ HB67.out).op
   cases e'
   obtain ⟨aU',nU',cU',rfl⟩:=slU.shape
   have k10:w7.cell? ⟨sb,10,none⟩=some (.slice aU' nU' cU'):=by simpa using hcs' 10 _ rfl
   have HUc:=Lib.hid (IU.out w7 _ _ _ _ slU zU hS7 (Nat.le_trans Hb.out HB7.out.size))
   clear hS7 hB7 hB6 hcs' slT slU zT zU HTc k9
   go_wp2_with fail
   refine HUc.out.mono ?_
   rintro e w8 ⟨rfl,hS8,hB8⟩
   have HI8:Hid (AtEach base O Fb M Q n w w8 mE qE (sts.drop (k+1))) :=
    ⟨_,_,_,_,hS8,Below.trans HB7.out hB8,Hm2.out,Hq2.out,Hk3.out,Hl3.out,Hz4.out⟩
   clear hS8 hB8 HUc k10
   go_wp2
   go_roundw
   case rel=>exact ⟨k+1,by omega,by go_num,HI8.out⟩
   case measure=>simp [intOf];omega
  ·have hnil:sts.drop k=[]:=List.drop_eq_nil_of_le (by rw [Hls.out];omega)
   rw [hnil] at hm2 hq2
   rw [mpBlk] at hm2
   rw [plBlk] at hq2
   have Hm2:=Lib.hid hm2
   have Hq2:=Lib.hid hq2
   clear hS2 hB2 hm2 hq2 hb2 hl2 hz2 hnil
   go_wp2
   go_end0
   exact ⟨rfl,by rw [Hm2.out,Hq2.out];exact HS2.out,HB2.out⟩
open Go Go.RowKit Md Go.Proofs.YtcfggjmdcaoecaaGreatDoorW.PrintLast
def parM (l:List ByteArray):MP:=l.foldl addN []
theorem parM_snoc (l:List ByteArray) (k:Nat) (x:ByteArray) (h:l[k]? = some x):parM (l.take (k+1))=addN (parM (l.take k)) x:=by
 unfold parM
 rw [take_snoc h,List.foldl_append]
 rfl
theorem foldN_keys:∀ (l:List ByteArray) (m:MP),(m.map Prod.fst ++ l).Nodup→(l.foldl addN m).map Prod.fst=m.map Prod.fst ++ l:=by
 intro l
 induction l with
 | nil=>intro m _;simp
 | cons a r ih =>
   intro m hn
   have hk:(addN m a).map Prod.fst=m.map Prod.fst ++ [a]:=updA_keys _ fun hm=>(List.nodup_append.1 hn).2.2 _ hm a (by simp) rfl
   rw [List.foldl_cons,ih _ (by rw [hk,List.append_assoc];exact hn),hk,List.append_assoc]
   rfl
theorem parM_keys {l:List ByteArray} (h:l.Nodup):(parM l).map Prod.fst=l:=by
 unfold parM
 rw [foldN_keys l [] (by simpa using h)]
 rfl
theorem frame_ar (n q:Nat) (hn:n≤600) (hq:q≤3000):wrap64 (wrap64 (Int.tdiv (wrap64 (wrap64 (4*wrap64 (wrap64 ((n:Int)+q)+1))+15)) 16)*16)=(4*((n:Int)+q+1)+15) / 16*16:=by
 have w0:∀ x:Int,0≤x→x≤100000→wrap64 x=x:=fun x _ _=>by unfold Go.RowKit.wrap64;omega
 rw [w0 ((n:Int)+q) (by omega) (by omega),w0 ((n:Int)+q+1) (by omega) (by omega),w0 (4*((n:Int)+q+1)) (by omega) (by omega),w0 (4*((n:Int)+q+1)+15) (by omega) (by omega)]
 rw [Int.tdiv_eq_ediv_of_nonneg (by omega),w0 ((4*((n:Int)+q+1)+15) / 16) (by omega) (by omega),w0 ((4*((n:Int)+q+1)+15) / 16*16) (by omega) (by omega)]
def FrRes (n:Nat) (w:World) (e:Ending) (w':World):Prop:=∃ Fb a b,e=.returned (.pointer (some ⟨Fb,0,none⟩))∧Blk w' Fb 168 #[a,b,.int .i64 (n:Nat)]∧Ext w w'
structure FrP (w wr:World) (O Fb M:Nat) (m:MP):Prop where
 ob:Blk wr O 169 #[.pointer (some ⟨Fb,0,none⟩)]
 fb:Blk wr Fb 168 #[.map (some M),.int .i64 0,.int .i64 0]
 mp:MapAt strKey wr M m
 bel:Ext w wr
set_option maxRecDepth 1000000 in
set_option maxHeartbeats 0 in
theorem i_frame (K:Foot) (x:PFunc) (sts:List St) (v:Value) (w:World) (hK:∀ b,K b→b<w.heap.size) (hF:FnAt K w v (x,sts)) (hbk:blocks x.body 0=some sts) (hfo:FrOk x) (hnd:(x.params ++ declsL x.body).Nodup) :
  Calls Tryz.prog 100 #[v] w (FrRes (frameSz x) w):=by
 obtain ⟨bf,vP,vB,vt,ts,rfl,hbf,hcf,sPar,_,_,sT,aT⟩:=hF
 obtain ⟨aP,nP,cP,rfl,HlP,hlcP,hcmP,helP⟩:=sPar.op
 obtain ⟨aT2,nT2,cT2,rfl⟩:=sT.shape
 have e1:=hcf 1 _ rfl
 have e3:=hcf 3 _ rfl
 simp only [Nat.zero_add] at e1 e3
 have HPl:Hid (∀ k,k<nP→∃ bP oP p,aP=some ⟨bP,oP,none⟩∧x.params[k]? = some p∧∀ w',Ext w w'→w'.cell? ⟨bP,oP+k,none⟩=some (.string p)):=fun k hk=>by
  obtain ⟨bP,oP,e,hKP,hel⟩:=helP (by omega)
  obtain ⟨p,cs,hpk,_,hC,hcs⟩:=hel k hk
  obtain ⟨rfl,_⟩:=hC
  refine ⟨bP,oP,p,e,hpk,fun w' k2=>k2.cell ?_⟩
  have:=hcs.z rfl
  rwa [Nat.mul_one] at this
 have HTs:Hid (∀ w',Ext w w'→SlV K w' (.slice aT2 nT2 cT2) ts∧All2 (StAt K w') ts sts):=fun w' k=>⟨sT.keep (keep_below hK k) (fun _ h=>h),aT.stKeep (keep_below hK k) (fun _ h=>h)⟩
 have hnP:nP≤6:=by have h:x.params.length=nP:=HlP.out;have:=hfo.1;omega
 have HEach:Hid (∀ O Fb M Q,EachOk K w.heap.size O Fb M Q sts):=fun O Fb M Q=>i_each K w.heap.size O Fb M Q hK x.body.length x.body 0 sts (Nat.le_refl _) hbk (fun s hs=>(hfo.2.2 s hs).2)
 have hkm:∀ m:MP,m.map Prod.fst=x.params→(mpBlk m sts).length=x.params.length+(declsL x.body).length:=fun m hm=>by
  have h:=mp_blocks x.body.length x.body 0 sts m (Nat.le_refl _) hbk (by rw [hm];exact hnd)
  have:=congrArg List.length h
  rw [List.length_map,List.length_append,List.length_map] at this
  rw [this,← hm,List.length_map]
 have hpm:(parM x.params).map Prod.fst=x.params:=parM_keys (List.nodup_append.1 hnd).1
 obtain ⟨n,hn⟩:∃ n,n=x.params.length+(declsL x.body).length:=⟨_,rfl⟩
 obtain ⟨q,hq⟩:∃ q,q=placesL x.body:=⟨_,rfl⟩
 have hql:plBlk 0 sts=q:=by rw [hq];exact pl_blocks x.body.length x.body 0 sts 0 (Nat.le_refl _) hbk
 have hml:(mpBlk (parM x.params) sts).length=n:=by rw [hn];exact hkm _ hpm
 have hnb:n≤600:=by
  rw [hn]
  have:=decls_le x.body
  have:=hfo.1
  have:=hfo.2.1
  omega
 have hqb:q≤3000:=by rw [hq];exact Nat.le_trans (places_le (fun s hs=>(hfo.2.2 s hs).2) 0 (by omega)) (by omega)
 have hR:frameSz x=(4*(n+q+1)+15) / 16*16:=by rw [hn,hq];rfl
 obtain ⟨R,hRR⟩:∃ R,R=frameSz x:=⟨_,rfl⟩
 rw [← hRR] at hR ⊢
 have HR:Hid ((R:Int)=(4*((n:Int)+q+1)+15) / 16*16):=by
  show _=_
  rw [hR]
  omega
 obtain ⟨mE,hmE⟩:∃ mE,mE=mpBlk (parM x.params) sts:=⟨_,rfl⟩
 rw [← hmE] at hml
 have HmE:=Lib.hid hmE
 have Hql:=Lib.hid hql
 have Hml:=Lib.hid hml
 have HlP2:Hid (x.params.length=nP):=HlP.out
 have HK:=Lib.hid hK
 clear hbf hcf sPar sT aT helP hbk hfo hnd hkm hpm hn hq hql hml hR hRR hmE hK HlP
 have hmm:=@run_makeMap Tryz.prog
 obtain ⟨w1,hw1⟩:∃ w1,w1=((w.alloc (.map #[] 0)).alloc (.cells #[.map (some w.heap.size),.int .i64 0,.int .i64 0] 168)).alloc (.cells #[.pointer (some ⟨w.heap.size+1,0,none⟩)] 169):=⟨_,rfl⟩
 have X1:Ext w w1:=by rw [hw1];exact (((Ext.refl w).alloc _).alloc _).alloc _
 have hs0:(w.alloc (.map #[] 0)).heap.size=w.heap.size+1:=by simp
 have hs1:((w.alloc (.map #[] 0)).alloc (.cells #[.map (some w.heap.size),.int .i64 0,.int .i64 0] 168)).heap.size=w.heap.size+2:=by simp
 have HI0:Hid (FrP w w1 (w.heap.size+2) (w.heap.size+1) w.heap.size (parM (x.params.take 0))) :=
  ⟨by rw [hw1,← hs1];exact Blk.alloc _ _ _,by rw [hw1,← hs0];exact (Blk.alloc _ _ _).ext ((Ext.refl _).alloc _),by rw [hw1];exact ((MapAt.new strKey w).ext ((Ext.refl _).alloc _)).ext ((Ext.refl _).alloc _),X1⟩
 have HW1:=Lib.hid hw1
 have e1':=X1.cell e1
 rw [hw1] at e1'
 clear hw1 X1 hs0 hs1
 go_enter Tryz.func100,Tryz.ntmps100
 go_wp2_with fail
 rw [← HW1.out]
 clear e1' hmm
 obtain ⟨O,hO⟩:∃ O,O=w.heap.size+2:=⟨_,rfl⟩
 obtain ⟨Fb,hFb⟩:∃ Fb,Fb=w.heap.size+1:=⟨_,rfl⟩
 obtain ⟨M,hM⟩:∃ M,M=w.heap.size:=⟨_,rfl⟩
 have HLow:Hid (w.heap.size≤O∧w.heap.size≤Fb∧w.heap.size≤M):=⟨by omega,by omega,by omega⟩
 have hO1:w.heap.size+1+1=O:=by omega
 rw [← hO,← hFb,← hM] at HI0
 rw [hO1,← hFb,← hM]
 clear hO hFb hM hO1
 go_loopw [16] (fun i wr=>∃ k:Nat,k≤nP∧i=.int .i64 k∧Hid (FrP w wr O Fb M (parM (x.params.take k)))) (fun i _=>nP - (intOf i).toNat)
 case atStart=>exact ⟨0,Nat.zero_le _,rfl,HI0.out⟩
 case round =>
  clear HI0
  obtain ⟨k,hk,rfl,HP⟩:=hrel
  by_cases hlt:k<nP
  ·obtain ⟨bP,oP,pn,rfl,hpk,hcP⟩:=HPl.out k hlt
   have c0:=hcP _ HP.out.bel
   have hpm:=parM_snoc x.params k pn hpk
   obtain ⟨m,hm⟩:∃ m,m=parM (x.params.take k):=⟨_,rfl⟩
   rw [← hm] at HP hpm
   have Hpm:=Lib.hid hpm
   have o0:wr.cell? ⟨O,0,none⟩=some (.pointer (some ⟨Fb,0,none⟩)):=(HP.out.ob.cell 0).trans rfl
   have f0:wr.cell? ⟨Fb,0,none⟩=some (.map (some M)):=(HP.out.fb.cell 0).trans rfl
   have hlen:(Builtin.len_ #[166] 3 #[.map (some M)]).run Tryz.prog wr.drew=.ok (.int .i64 m.length) wr.drew:=run_mlen (HP.out.mp.ext ((Ext.refl wr).drew)) Tryz.underlying166 3
   obtain ⟨w6,r6,hM6,hT6⟩:=run_upd (kk:=strKey) (P:=Tryz.prog) (HP.out.mp.ext ((Ext.refl wr).drew)) Tryz.underlying166 Tryz.underlying9 pn (.int .i64 m.length)
   have HR6:=Lib.hid r6
   have HP6:Hid (FrP w w6 O Fb M (parM (x.params.take (k+1)))):=by
    show FrP _ _ _ _ _ _
    rw [Hpm.out]
    exact ⟨(HP.out.ob.ext ((Ext.refl wr).drew)).turned hT6 (fun e=>HP.out.mp.ne_blk HP.out.ob e.symm),(HP.out.fb.ext ((Ext.refl wr).drew)).turned hT6 (fun e=>HP.out.mp.ne_blk HP.out.fb e.symm),hM6,Below.trans (HP.out.bel.drew) (hT6.below HLow.out.2.2)⟩
   have z0:(0:Int)≤(k:Int):=by omega
   have z1:(k:Int)<(nP:Int):=by omega
   clear r6 hM6 hT6 hpm hm hpk hcP
   go_wp2_with fail
   refine start_ (n:=11) (S:=fun w'=>w'.cell? ⟨O,0,none⟩=some (.pointer (some ⟨Fb,0,none⟩))∧w'.cell? ⟨Fb,0,none⟩=some (.map (some M))∧(Builtin.len_ #[166] 3 #[.map (some M)]).run Tryz.prog w'=.ok (.int .i64 m.length) w') (ds:=[10]) #[false,false,false,false,false,false,false,false,false,false,false] (by kernel_rfl) rfl rfl ?hS (fun hHeld=>?_)
   case hS=>exact ⟨by simpa using o0,by simpa using f0,hlen⟩
   refine ta_ 0 (some 20) #[true,false,false,false,false,false,false,false,false,false,false] rfl rfl (by kernel_rfl) (fun _ _ _ h=>h) hHeld (by rfl) (by rintro w' ⟨s0,s1,s2⟩;go_simp;with_reducible rfl) (by simp only [pt_];rfl) ?_
   refine pu_ 1 (some 21) #[true,true,false,false,false,false,false,false,false,false,false] rfl rfl (by kernel_rfl) (fun _ _ _ h=>h) (by rfl) (by intro w';go_simp;with_reducible rfl) (by simp only [pt_];rfl) ?_
   refine pu_ 2 (some 22) #[true,true,true,false,false,false,false,false,false,false,false] rfl rfl (by kernel_rfl) (fun _ _ _ h=>h) (by rfl) (by intro w';go_simp;with_reducible rfl) (by simp only [pt_];rfl) ?_
   refine ta_ 3 (some 23) #[true,true,true,true,false,false,false,false,false,false,false] rfl rfl (by kernel_rfl) (fun _ _ _ h=>h) hHeld (by rfl) (by rintro w' ⟨s0,s1,s2⟩;go_simp;with_reducible rfl) (by simp only [pt_];rfl) ?_
   refine pu_ 4 (some 24) #[true,true,true,true,true,false,false,false,false,false,false] rfl rfl (by kernel_rfl) (fun _ _ _ h=>h) (by rfl) (by intro w';go_simp;with_reducible rfl) (by simp only [pt_];rfl) ?_
   refine ta_ 5 (some 25) #[true,true,true,true,true,true,false,false,false,false,false] rfl rfl (by kernel_rfl) (fun _ _ _ h=>h) hHeld (by rfl) (by rintro w' ⟨s0,s1,s2⟩;go_simp;with_reducible rfl) (by simp only [pt_];rfl) ?_
   refine pu_ 6 (some 26) #[true,true,true,true,true,true,true,false,false,false,false] rfl rfl (by kernel_rfl) (fun _ _ _ h=>h) (by rfl) (by intro w';go_simp;with_reducible rfl) (by simp only [pt_];rfl) ?_
   refine pu_ 7 (some 27) #[true,true,true,true,true,true,true,true,false,false,false] rfl rfl (by kernel_rfl) (fun _ _ _ h=>h) (by rfl) (by intro w';go_simp;with_reducible rfl) (by simp only [pt_];rfl) ?_
   refine ta_ 8 (some 28) #[true,true,true,true,true,true,true,true,true,false,false] rfl rfl (by kernel_rfl) (fun _ _ _ h=>h) hHeld (by rfl) (by rintro w' ⟨s0,s1,s2⟩;go_simp;with_reducible rfl) (by simp only [pt_];rfl) ?_
   refine ta_ 9 (some 29) #[true,true,true,true,true,true,true,true,true,true,false] rfl rfl (by kernel_rfl) (fun _ _ _ h=>h) hHeld (by rfl) (by rintro w' ⟨s0,s1,s2⟩;go_simp;with_reducible rfl) (by simp only [pt_];rfl) ?_
   refine last_ (i:=10) (N:=none) #[true,true,true,true,true,true,true,true,true,true,true] rfl rfl (by kernel_rfl) (by decide) (fun K hK=>?_)
   refine skip_ (w1:=w6) (by rfl) rfl (exec_upd rfl rfl rfl rfl HR6.out) ?_
   refine hK.out _ _ ?_
   clear hK K
   refine done_ (by kernel_rfl) ?_
   clear hHeld hlen o0 f0 c0
   go_wp2
   go_roundw
   case rel=>exact ⟨k+1,by omega,by go_num,HP6.out⟩
   case measure=>simp [intOf];omega
  ·have hke:x.params.take k=x.params:=List.take_of_length_le (by rw [HlP2.out];omega)
   rw [hke] at HP
   have hwq:Ext wr (wr.alloc (.cells #[.int .i64 0] 3)):=(Ext.refl wr).alloc _
   have hS:FrS (wr.alloc (.cells #[.int .i64 0] 3)) w.heap.size O Fb M wr.heap.size (parM x.params) 0 :=
    ⟨HP.out.ob.ext hwq,HP.out.fb.ext hwq,HP.out.mp.ext hwq,Blk.alloc _ _ _,HLow.out.1,HLow.out.2.1,HLow.out.2.2,HP.out.bel.size⟩
   have e3':(wr.alloc (.cells #[.int .i64 0] 3)).cell? ⟨bf,3,none⟩=some (.slice aT2 nT2 cT2):=hwq.cell (HP.out.bel.cell e3)
   have hX9:=HP.out.bel.trans hwq
   have HE:=Lib.hid (HEach.out O Fb M wr.heap.size _ _ _ _ _ (HTs.out _ hX9).1 (HTs.out _ hX9).2 hS hX9.size)
   have hmf:∀ (fn:Go.Fn) (first cap:Array Value) (w:World),(Instr.makeFunc fn first cap).run Tryz.prog w=.ok (.func fn first cap) w:=fun _ _ _ _=>rfl
   rw [← HmE.out,Hql.out] at HE
   have HX9:=Lib.hid hX9
   obtain ⟨Q,hQ⟩:∃ Q,Q=wr.heap.size:=⟨_,rfl⟩
   have HQ:=Lib.hid hQ
   clear hwq hS hX9 hke hQ
   go_wp2_with fail
   refine HE.out.mono ?_
   rintro e w8 ⟨rfl,hS8,hB8⟩
   rw [← HQ.out] at hS8 ⊢
   have HS8:=Lib.hid hS8
   have HX8:Hid (Ext w w8):=Below.trans HX9.out hB8
   have o0:w8.cell? ⟨O,0,none⟩=some (.pointer (some ⟨Fb,0,none⟩)):=(HS8.out.ob.cell 0).trans rfl
   have f0:w8.cell? ⟨Fb,0,none⟩=some (.map (some M)):=(HS8.out.fb.cell 0).trans rfl
   have f1:w8.cell? ⟨Fb,1,none⟩=some (.int .i64 0):=(HS8.out.fb.cell 1).trans rfl
   have g1:w8.frozen? ⟨Fb,1,none⟩=false:=HS8.out.fb.frozen 1
   have hlen:(Builtin.len_ #[166] 3 #[.map (some M)]).run Tryz.prog w8.drew=.ok (.int .i64 mE.length) w8.drew:=run_mlen (HS8.out.mp.ext ((Ext.refl w8).drew)) Tryz.underlying166 3
   rw [Hml.out] at hlen
   clear hS8 hB8 HE e3' hmf
   go_wp2_with fail
   refine start_ (n:=9) (S:=fun w'=>w'.cell? ⟨O,0,none⟩=some (.pointer (some ⟨Fb,0,none⟩))∧w'.cell? ⟨Fb,0,none⟩=some (.map (some M))∧(Builtin.len_ #[166] 3 #[.map (some M)]).run Tryz.prog w'=.ok (.int .i64 n) w') (ds:=[8]) #[false,false,false,false,false,false,false,false,false] (by kernel_rfl) rfl rfl ?hS (fun hHeld=>?_)
   case hS=>exact ⟨by simpa using o0,by simpa using f0,hlen⟩
   refine ta_ 0 (some 37) #[true,false,false,false,false,false,false,false,false] rfl rfl (by kernel_rfl) (fun _ _ _ h=>h) hHeld (by rfl) (by rintro w' ⟨s0,s1,s2⟩;go_simp;with_reducible rfl) (by simp only [pt_];rfl) ?_
   refine ta_ 1 (some 38) #[true,true,false,false,false,false,false,false,false] rfl rfl (by kernel_rfl) (fun _ _ _ h=>h) hHeld (by rfl) (by rintro w' ⟨s0,s1,s2⟩;go_simp;with_reducible rfl) (by simp only [pt_];rfl) ?_
   refine pu_ 2 (some 39) #[true,true,true,false,false,false,false,false,false] rfl rfl (by kernel_rfl) (fun _ _ _ h=>h) (by rfl) (by intro w';go_simp;with_reducible rfl) (by simp only [pt_];rfl) ?_
   refine pu_ 3 (some 40) #[true,true,true,true,false,false,false,false,false] rfl rfl (by kernel_rfl) (fun _ _ _ h=>h) (by rfl) (by intro w';go_simp;with_reducible rfl) (by simp only [pt_];rfl) ?_
   refine ta_ 4 (some 41) #[true,true,true,true,true,false,false,false,false] rfl rfl (by kernel_rfl) (fun _ _ _ h=>h) hHeld (by rfl) (by rintro w' ⟨s0,s1,s2⟩;go_simp;with_reducible rfl) (by simp only [pt_];rfl) ?_
   refine ta_ 5 (some 42) #[true,true,true,true,true,true,false,false,false] rfl rfl (by kernel_rfl) (fun _ _ _ h=>h) hHeld (by rfl) (by rintro w' ⟨s0,s1,s2⟩;go_simp;with_reducible rfl) (by simp only [pt_];rfl) ?_
   refine pu_ 6 (some 43) #[true,true,true,true,true,true,true,false,false] rfl rfl (by kernel_rfl) (fun _ _ _ h=>h) (by rfl) (by intro w';go_simp;with_reducible rfl) (by simp only [pt_];rfl) ?_
   refine pu_ 7 (some 44) #[true,true,true,true,true,true,true,true,false] rfl rfl (by kernel_rfl) (fun _ _ _ h=>h) (by rfl) (by intro w';go_simp;with_reducible rfl) (by simp only [pt_];rfl) ?_
   refine last_ (i:=8) (N:=none) #[true,true,true,true,true,true,true,true,true] rfl rfl (by kernel_rfl) (by decide) (fun K hK=>?_)
   go_simp
   refine hK.out _ _ ?_
   clear hK K
   refine done_ (by kernel_rfl) ?_
   obtain ⟨w9,hw9⟩:∃ w9,w9=(w8.setCell ⟨Fb,1,none⟩ (.int .i64 n)).drew:=⟨_,rfl⟩
   rw [← hw9]
   have hD:Ext (w8.setCell ⟨Fb,1,none⟩ (.int .i64 n)) w9:=by rw [hw9];exact (Ext.refl _).drew
   have hX9:Ext w w9:=by rw [hw9];exact Below.drew (Below.setCell HX8.out (p:=⟨Fb,1,none⟩) HLow.out.2.1 _)
   have bO:Blk w9 O 169 #[.pointer (some ⟨Fb,0,none⟩)]:=(HS8.out.ob.setOther (a:=⟨Fb,1,none⟩) (blk_ne HS8.out.ob HS8.out.fb (by decide)) _).ext hD
   have bF:Blk w9 Fb 168 #[.map (some M),.int .i64 n,.int .i64 0]:=(HS8.out.fb.set 1 (.int .i64 n)).ext hD
   have bQ:Blk w9 Q 3 #[.int .i64 (q:Nat)]:=(HS8.out.qb.setOther (a:=⟨Fb,1,none⟩) (blk_ne HS8.out.qb HS8.out.fb (by decide)) _).ext hD
   have bM:MapAt strKey w9 M mE:=(HS8.out.mp.keep (K:=fun b=>b≠Fb) (Keep.setCell (a:=⟨Fb,1,none⟩) (Keep.refl _ _) (fun b hb=>hb) (.int .i64 n)) (HS8.out.mp.ne_blk HS8.out.fb)).ext hD
   have o0':w9.cell? ⟨O,0,none⟩=some (.pointer (some ⟨Fb,0,none⟩)):=(bO.cell 0).trans rfl
   have f0':w9.cell? ⟨Fb,0,none⟩=some (.map (some M)):=(bF.cell 0).trans rfl
   have q0':w9.cell? ⟨Q,0,none⟩=some (.int .i64 (q:Nat)):=(bQ.cell 0).trans rfl
   have f2':w9.cell? ⟨Fb,2,none⟩=some (.int .i64 0):=(bF.cell 2).trans rfl
   have g2':w9.frozen? ⟨Fb,2,none⟩=false:=bF.frozen 2
   have hlen':(Builtin.len_ #[166] 3 #[.map (some M)]).run Tryz.prog w9.drew=.ok (.int .i64 mE.length) w9.drew:=run_mlen (bM.ext ((Ext.refl w9).drew)) Tryz.underlying166 3
   rw [Hml.out] at hlen'
   have BF:=Lib.hid bF
   have BO:=Lib.hid bO
   have HX9':=Lib.hid hX9
   clear hw9 hD hX9 bO bF bQ bM o0 f0 f1 g1 hlen hHeld
   go_wp2_with fail
   refine start_ (n:=16) (S:=fun w'=>w'.cell? ⟨O,0,none⟩=some (.pointer (some ⟨Fb,0,none⟩))∧w'.cell? ⟨Fb,0,none⟩=some (.map (some M))∧w'.cell? ⟨Q,0,none⟩=some (.int .i64 (q:Nat))∧(Builtin.len_ #[166] 3 #[.map (some M)]).run Tryz.prog w'=.ok (.int .i64 n) w') (ds:=[15]) #[false,false,false,false,false,false,false,false,false,false,false,false,false,false,false,false] (by kernel_rfl) rfl rfl ?hS (fun hHeld=>?_)
   case hS=>exact ⟨by simpa using o0',by simpa using f0',by simpa using q0',hlen'⟩
   refine ta_ 0 (some 45) #[true,false,false,false,false,false,false,false,false,false,false,false,false,false,false,false] rfl rfl (by kernel_rfl) (fun _ _ _ h=>h) hHeld (by rfl) (by rintro w' ⟨s0,s1,s2,s3⟩;go_simp;with_reducible rfl) (by simp only [pt_];rfl) ?_
   refine ta_ 1 (some 46) #[true,true,false,false,false,false,false,false,false,false,false,false,false,false,false,false] rfl rfl (by kernel_rfl) (fun _ _ _ h=>h) hHeld (by rfl) (by rintro w' ⟨s0,s1,s2,s3⟩;go_simp;with_reducible rfl) (by simp only [pt_];rfl) ?_
   refine pu_ 2 (some 47) #[true,true,true,false,false,false,false,false,false,false,false,false,false,false,false,false] rfl rfl (by kernel_rfl) (fun _ _ _ h=>h) (by rfl) (by intro w';go_simp;with_reducible rfl) (by simp only [pt_];rfl) ?_
   refine pu_ 3 (some 48) #[true,true,true,true,false,false,false,false,false,false,false,false,false,false,false,false] rfl rfl (by kernel_rfl) (fun _ _ _ h=>h) (by rfl) (by intro w';go_simp;with_reducible rfl) (by simp only [pt_];rfl) ?_
   refine ta_ 4 (some 49) #[true,true,true,true,true,false,false,false,false,false,false,false,false,false,false,false] rfl rfl (by kernel_rfl) (fun _ _ _ h=>h) hHeld (by rfl) (by rintro w' ⟨s0,s1,s2,s3⟩;go_simp;with_reducible rfl) (by simp only [pt_];rfl) ?_
   refine ta_ 5 (some 50) #[true,true,true,true,true,true,false,false,false,false,false,false,false,false,false,false] rfl rfl (by kernel_rfl) (fun _ _ _ h=>h) hHeld (by rfl) (by rintro w' ⟨s0,s1,s2,s3⟩;go_simp;with_reducible rfl) (by simp only [pt_];rfl) ?_
   refine ta_ 6 (some 51) #[true,true,true,true,true,true,true,false,false,false,false,false,false,false,false,false] rfl rfl (by kernel_rfl) (fun _ _ _ h=>h) hHeld (by rfl) (by rintro w' ⟨s0,s1,s2,s3⟩;go_simp;with_reducible rfl) (by simp only [pt_];rfl) ?_
   refine pu_ 7 (some 52) #[true,true,true,true,true,true,true,true,false,false,false,false,false,false,false,false] rfl rfl (by kernel_rfl) (fun _ _ _ h=>h) (by rfl) (by intro w';go_simp;with_reducible rfl) (by simp only [pt_];rfl) ?_
   refine pu_ 8 (some 53) #[true,true,true,true,true,true,true,true,true,false,false,false,false,false,false,false] rfl rfl (by kernel_rfl) (fun _ _ _ h=>h) (by rfl) (by intro w';go_simp;with_reducible rfl) (by simp only [pt_];rfl) ?_
   refine pu_ 9 (some 54) #[true,true,true,true,true,true,true,true,true,true,false,false,false,false,false,false] rfl rfl (by kernel_rfl) (fun _ _ _ h=>h) (by rfl) (by intro w';go_simp;with_reducible rfl) (by simp only [pt_];rfl) ?_
   refine pu_ 10 (some 55) #[true,true,true,true,true,true,true,true,true,true,true,false,false,false,false,false] rfl rfl (by kernel_rfl) (fun _ _ _ h=>h) (by rfl) (by intro w';go_simp;with_reducible rfl) (by simp only [pt_];rfl) ?_
   refine pu_ 11 (some 56) #[true,true,true,true,true,true,true,true,true,true,true,true,false,false,false,false] rfl rfl (by kernel_rfl) (fun _ _ _ h=>h) (by rfl) (by intro w';go_simp;with_reducible rfl) (by simp only [pt_];rfl) ?_
   refine pu_ 12 (some 57) #[true,true,true,true,true,true,true,true,true,true,true,true,true,false,false,false] rfl rfl (by kernel_rfl) (fun _ _ _ h=>h) (by rfl) (by intro w';go_simp;with_reducible rfl) (by simp only [pt_];rfl) ?_
   refine pu_ 13 (some 58) #[true,true,true,true,true,true,true,true,true,true,true,true,true,true,false,false] rfl rfl (by kernel_rfl) (fun _ _ _ h=>h) (by rfl) (by intro w';go_simp;with_reducible rfl) (by simp only [pt_];rfl) ?_
   refine pu_ 14 (some 59) #[true,true,true,true,true,true,true,true,true,true,true,true,true,true,true,false] rfl rfl (by kernel_rfl) (fun _ _ _ h=>h) (by rfl) (by intro w';go_simp;with_reducible rfl) (by simp only [pt_];rfl) ?_
   refine last_ (i:=15) (N:=none) #[true,true,true,true,true,true,true,true,true,true,true,true,true,true,true,true] rfl rfl (by kernel_rfl) (by decide) (fun K hK=>?_)
   go_simp
   refine hK.out _ _ ?_
   clear hK K
   refine done_ (by kernel_rfl) ?_
   rw [frame_ar n q hnb hqb,← HR.out]
   obtain ⟨w10,hw10⟩:∃ w10,w10=(w9.setCell ⟨Fb,2,none⟩ (.int .i64 (R:Int))).drew:=⟨_,rfl⟩
   rw [← hw10]
   have hD:Ext (w9.setCell ⟨Fb,2,none⟩ (.int .i64 (R:Int))) w10:=by rw [hw10];exact (Ext.refl _).drew
   have hX10:Ext w w10:=by rw [hw10];exact Below.drew (Below.setCell HX9'.out (p:=⟨Fb,2,none⟩) HLow.out.2.1 _)
   have HX10:=Lib.hid hX10
   have HF10:Hid (Blk w10 Fb 168 #[.map (some M),.int .i64 n,.int .i64 (R:Nat)]):=(BF.out.set 2 (.int .i64 (R:Int))).ext hD
   have bO:w10.cell? ⟨O,0,none⟩=some (.pointer (some ⟨Fb,0,none⟩)):=((((BO.out.setOther (a:=⟨Fb,2,none⟩) (blk_ne BO.out BF.out (by decide)) (.int .i64 (R:Int))).ext hD)).cell 0).trans rfl
   clear hw10 hD hX10 o0' f0' q0' f2' g2' hlen' hHeld
   go_wp2
   go_ret
   exact ⟨Fb,_,_,rfl,HF10.out,HX10.out⟩
open Go Go.RowKit Md
theorem bodiesR_none {t:PTree} : ∀ {l:List (PFunc×List St)} {i:Nat},bodiesR t l i=none→∀ p∈l,∃ j,(bodyR t j p.1 p.2).1=0
 | [],_,_,p,hp=>by cases hp
 | x :: l,i,h,p,hp=>by
   rw [bodiesR] at h
   by_cases hb:(bodyR t i x.1 x.2).1=0
   ·rw [if_pos hb] at h
    rcases List.mem_cons.1 hp with rfl | hp
    ·exact ⟨i,hb⟩
    ·exact bodiesR_none h p hp
   ·rw [if_neg hb] at h
    cases h
theorem parBad_nodup {t:PTree} : ∀ {l seen:List ByteArray},¬ parBad t seen l=true→seen.Nodup→(seen ++ l).Nodup
 | [],seen,_,h=>by simpa using h
 | a :: r,seen,h,hn=>by
   rw [parBad] at h
   by_cases ha:a∈seen∨0≤gsize t a
   ·rw [if_pos ha] at h
    exact absurd rfl h
   ·rw [if_neg ha] at h
    have:=parBad_nodup h (List.nodup_append.2 ⟨hn,by simp,fun x hx y hy=>by
     rw [List.mem_singleton.1 hy]
     rintro rfl
     exact ha (.inl hx)⟩)
    simpa using this
theorem body_nodup {t:PTree} {f:Nat} {x:PFunc} {sts:List St} (hb:blocks x.body 0=some sts) (h:(bodyR t f x sts).1=0):(x.params ++ declsL x.body).Nodup:=by
 unfold bodyR at h
 by_cases hp:parBad t [] x.params=true
 ·rw [if_pos hp] at h
  exact absurd h (by simp)
 ·rw [if_neg hp] at h
  cases hc:ckBlk t x.params x.params sts with
  | bad e a =>
    rw [hc] at h
    exact absurd h (ck_bad t x.body.length x.body 0 sts _ _ e a (Nat.le_refl _) hb hc)
  | ok tk =>
    obtain ⟨h1,h2⟩:=ck_takes t x.body.length x.body 0 sts _ _ tk (Nat.le_refl _) hb hc
    rw [← h1]
    exact h2 (by simpa using parBad_nodup hp List.nodup_nil)
def SoundFn (p:Fn):Prop:=blocks p.1.body 0=some p.2∧FrOk p.1∧(p.1.params ++ declsL p.1.body).Nodup
theorem check_sound {t:PTree} {fs:List Fn} (hv:valid t=true) (hB:Bodies t.funcs fs) (h:(checkR t fs).1=0):∀ p∈fs,SoundFn p:=by
 intro p hp
 have hn:(namesR t).1=0:=by
  by_cases hn:(namesR t).1=0
  ·exact hn
  ·rw [checkR_bad hn] at h
   exact absurd h hn
 rw [checkR_ok hn] at h
 unfold tailR at h
 cases hb:bodiesR t (fs.drop 0) 0 with
 | some r =>
   rw [hb] at h
   exact absurd h (bodiesR_some hb)
 | none =>
   obtain ⟨j,hj⟩:=bodiesR_none hb p (by simpa using hp)
   exact ⟨hB.2 p hp,valid_frOk hv p.1 (by rw [← hB.1];exact List.mem_map_of_mem hp),body_nodup (hB.2 p hp) hj⟩
set_option maxRecDepth 1000000 in
set_option maxHeartbeats 4000000 in
theorem i_frames (K:Foot) (t:PTree) (fs:List Fn) (ub:Value) (w:World) (hK:∀ b,K b→b<w.heap.size) (hU:UnitAt K w ub t fs) (hB:Bodies t.funcs fs) (hS:∀ p∈fs,SoundFn p) (hn:fs.length≤50) :
  Calls Tryz.prog 59 #[ub] w (Listed64 w (t.funcs.map fun x=>((frameSz x:Nat):Int))):=by
 obtain ⟨b,vG,vF,vs,ps,rfl,hbK,hc,_,_,sP,aP⟩:=hU
 obtain ⟨aS,nS,cS,rfl⟩:=sP.shape
 have hlS:=(SlV.len sP).1
 have hlc:=(SlV.len sP).2
 have hlA:=aP.1
 have e1:=hc 2 _ rfl
 simp only [Nat.zero_add] at e1
 have hnS:nS≤50:=by omega
 have hll:fs.length=nS:=by omega
 obtain ⟨R,hR⟩:∃ R,R=fs.map fun x=>((frameSz x.1:Nat):Int):=⟨_,rfl⟩
 have hRR:(t.funcs.map fun x=>((frameSz x:Nat):Int))=R:=by
  rw [hR,← hB.1,List.map_map];rfl
 rw [hRR]
 have HR:=Lib.hid hR
 have Hll:=Lib.hid hll
 have HSS:=Lib.hid hS
 have HP:=Lib.hid sP
 have HA:=Lib.hid aP
 have HK:=Lib.hid hK
 obtain ⟨i1,hi1,hy0,hy1,hy2⟩:=info_parts info_int64
 have HApp:Hid (∀ (wr:World) (v:Value) (n:Nat) (xs:List Int) (y:Int),Ext w wr→wr.ownsRow w.heap.size 2 1 v n (xs.map (Value.int .i64))→n≤2000000 →
   ∃ v' w',(Builtin.append_ #[27,27] 27 #[v,.slice (some ⟨wr.heap.size,0,none⟩) 1 1]).run Tryz.prog (wr.alloc (.cells #[.int .i64 y] 2))=.ok v' w'∧w'.ownsRow w.heap.size 2 1 v' (n+1) ((xs ++ [y]).map (Value.int .i64))∧Ext w w') :=
  fun wr v n xs y hX ho hl=>app_one (P:=Tryz.prog) (Value.int .i64) (fun _=>rfl) Tryz.underlying27 hi1 hy0 hy1 hy2 rfl 27 hX ho y (by omega) (by omega)
 clear hc sP aP hlS hlA hB hS hn hll hR hRR hK
 go_enter Tryz.func59,Tryz.ntmps59
 go_wp2_with fail
 go_loopw [3,11] (fun v3 v11 wr=>∃ (k:Nat) (a:Option Addr) (c:Nat),k≤nS∧v11=.int .i64 k∧v3=.slice a k c∧Hid (wr.ownsRow w.heap.size 2 1 (.slice a k c) k (((fs.take k).map fun x=>((frameSz x.1:Nat):Int)).map (Value.int .i64)))∧Ext w wr) (fun _ v11 _=>nS - (intOf v11).toNat)
 case atStart=>exact ⟨0,none,0,Nat.zero_le _,rfl,rfl,World.ownsRow_nil w _ _ _,Ext.refl _⟩
 case round =>
  obtain ⟨k,a,c,hk,rfl,rfl,HO,hX⟩:=hrel
  by_cases hlt:k<nS
  ·obtain ⟨bS,oS,rfl,_,hcS⟩:=SlV.at_ HP.out (by omega)
   obtain ⟨x,hx⟩:∃ x,fs[k]? = some x:=⟨fs[k]'(by have:=Hll.out;omega),List.getElem?_eq_getElem _⟩
   obtain ⟨fv,hfv,hF⟩:=HA.out.get hx
   have cf:=hX.cell (hcS k fv hfv)
   obtain ⟨hs1,hs2,hs3⟩:=HSS.out x (List.mem_of_getElem? hx)
   obtain ⟨x,sts⟩:=x
   have HFr:=Lib.hid (i_frame K x sts fv wr (fun b hb=>Nat.lt_of_lt_of_le (HK.out b hb) hX.size) (hF.ext hX) hs1 hs2 hs3)
   obtain ⟨fb,_,_,_,_,rfl,_⟩:=hF
   have htk:(fs.take (k+1)).map (fun x=>((frameSz x.1:Nat):Int))=(fs.take k).map (fun x=>((frameSz x.1:Nat):Int)) ++ [((frameSz x:Nat):Int)]:=by
    rw [take_snoc hx,List.map_append];rfl
   have Htk:=Lib.hid htk
   obtain ⟨m,hm⟩:∃ m,m=frameSz x:=⟨_,rfl⟩
   rw [← hm] at HFr Htk
   have HX:=Lib.hid hX
   have z0:(0:Int)≤(k:Int):=by omega
   have z1:(k:Int)<(nS:Int):=by omega
   clear hx hfv hcS hs1 hs2 hs3 htk hm hX
   go_wp2_with fail
   refine HFr.out.mono ?_
   rintro e w5 ⟨Fb,fa,fb',rfl,hB5,hX5⟩
   have f2:w5.cell? ⟨Fb,2,none⟩=some (.int .i64 (m:Int)):=(hB5.cell 2).trans rfl
   obtain ⟨v',w',p1,p2,p3⟩:=HApp.out w5 _ k _ (m:Int) (HX.out.trans hX5) (rw_ext HO.out hX5) (by omega)
   obtain ⟨a5,c5,rfl⟩:=rw_form0 p2
   have HP1:=Lib.hid p1
   have HX6:=Lib.hid p3
   have HO6:Hid (w'.ownsRow w.heap.size 2 1 (.slice a5 (k+1) c5) (k+1) (((fs.take (k+1)).map fun x=>((frameSz x.1:Nat):Int)).map (Value.int .i64))):=by
    rw [Htk.out];exact p2
   clear p1 p2 p3 hX5 HFr hB5 HO
   go_wp2_with (at_builtin;refine Lib.wpList_append_run _ rfl _ _ _ _ rfl _ _ rfl rfl _ _ HP1.out ?_)
   go_roundw
   case rel=>exact ⟨k+1,_,_,by omega,by go_num,rfl,HO6.out,HX6.out⟩
   case measure=>simp [intOf];omega
  ·have hke:fs.take k=fs:=List.take_of_length_le (by rw [Hll.out];omega)
   have hO:=HO.out
   rw [hke] at hO
   have hkn:k=R.length:=by
    rw [HR.out,List.length_map,Hll.out];omega
   have HOe:Hid (wr.ownsRow w.heap.size 2 1 (.slice a k c) R.length (R.map (Value.int .i64))):=by
    rw [← hkn,HR.out];exact hO
   have HXe:=Lib.hid hX
   clear hke hO hkn HO hX
   go_wp2
   go_ret
   exact ⟨_,rfl,HOe.out,HXe.out⟩
def SoundOut (K:Foot) (t:PTree) (w:World) (e:Ending) (w':World):Prop :=
 ((checkAns t).1=0∧∃ fs b,Bodies t.funcs fs∧(∀ p∈fs,SoundFn p)∧e=.returned (.pointer (some ⟨b,0,none⟩))∧UnitAt (KN K w) w' (.pointer (some ⟨b,0,none⟩)) t fs∧Ext w w') ∨
   ((checkAns t).1≠0∧e=.returned (.pointer none)∧Ext w w')
theorem KN.mono {K:Foot} {w w1:World} (h:w.heap.size≤w1.heap.size):∀ b,KN K w1 b→KN K w b:=by
 intro b hb
 unfold KN at *
 first | exact hb.imp id (fun h2=>Nat.le_trans h h2) | (rcases hb with h1 | h2;exact .inl h1;exact .inr (Nat.le_trans h h2))
set_option maxRecDepth 1000000 in
set_option maxHeartbeats 4000000 in
theorem i_sound (K:Foot) (t:PTree) (vG vF:Value) (w:World) (hG:SlGlob K w vG t.globals) (hF:SlFunc K w vF t.funcs) (hz:Small t) (hres:Res w) (hK:∀ b,K b→b<w.heap.size) :
  Calls Tryz.prog 56 #[.agg #[vG,vF]] w (SoundOut K t w):=by
 obtain ⟨w1,hw1⟩:∃ w1,w1=w.alloc (.cells #[vG,vF] 32):=⟨_,rfl⟩
 have X0:Ext w w1:=by rw [hw1];exact (Ext.refl w).alloc _
 have HU:=Lib.hid (i_unit K t vG vF w1 (Sl.ext hG X0 (fun _ _ h=>h.any)) (Sl.ext hF X0 (fun _ _ h=>h.ext X0)) hz (hres.ext X0) (fun b hb=>Nat.lt_of_lt_of_le (hK b hb) X0.size))
 obtain ⟨aG,nG,cG,rfl⟩:=hG.shape
 obtain ⟨aF,nF,cF,rfl⟩:=hF.shape
 have BT:Blk w1 w.heap.size 32 #[.slice aG nG cG,.slice aF nF cF]:=by rw [hw1];exact Blk.alloc _ _ _
 have t0:=(BT.cell 0).trans (show _=some (Value.slice aG nG cG) from rfl)
 have t1:=(BT.cell 1).trans (show _=some (Value.slice aF nF cF) from rfl)
 obtain ⟨R,hR⟩:∃ R,R=(checkAns t).1:=⟨_,rfl⟩
 unfold SoundOut
 rw [← hR]
 have HR:=Lib.hid hR
 have HX0:=Lib.hid X0
 have HW1:=Lib.hid hw1
 rw [hw1] at t0 t1
 clear hG hF hz hres hR X0 BT hw1 hK
 go_enter Tryz.func56,Tryz.ntmps56
 go_wp2_with fail
 rw [← HW1.out]
 refine HU.out.mono ?_
 rintro e w2 (⟨hv,fs,v,hb,rfl,hu,hX2⟩ | ⟨hv,rfl,hX2⟩)
 ·have HRr:Hid (R=(checkR t fs).1):=by
   show _=_
   rw [HR.out]
   unfold checkAns
   rw [if_pos hv,bodiesOf_eq hb.1 hb.2]
  have HCk:=Lib.hid (i_check _ t fs v w2 (fun b hb=>hb.2) hu.bound hb hv)
  have HSd:Hid ((checkR t fs).1=0→∀ p∈fs,SoundFn p):=fun h=>check_sound hv hb h
  have HU2:Hid (UnitAt (KN K w) w2 v t fs):=hu.keep (Keep.refl _ _) (KN.mono HX0.out.size)
  have Hbd:=Lib.hid hb
  obtain ⟨ub,_,_,_,_,rfl,_⟩:=hu
  have HX2:=Lib.hid (HX0.out.trans hX2)
  obtain ⟨rr,hrr⟩:∃ rr,rr=checkR t fs:=⟨_,rfl⟩
  rw [← hrr] at HCk HRr HSd
  obtain ⟨ra,rb,rc⟩:=rr
  simp only at HRr HSd
  clear hv hb hX2 t0 t1 HU hrr
  go_wp2_with fail
  refine HCk.out.mono ?_
  rintro e w4 ⟨he,hX4⟩
  have HX4:=Lib.hid hX4
  clear hX4 HCk
  rcases he with ⟨h0,rfl⟩ | ⟨h0,rfl⟩
  ·simp only at h0
   have H0:Hid (R=0):=HRr.out.trans h0
   have HS:=Lib.hid (HSd.out h0)
   clear h0
   go_wp2
   go_ret
   exact .inl ⟨H0.out,fs,ub,Hbd.out,HS.out,rfl,HU2.out.ext HX4.out,HX2.out.trans HX4.out⟩
  ·simp only at h0
   have H0:Hid (R≠0):=by
    show _≠_
    rw [HRr.out];exact h0
   clear h0
   go_wp2
   go_ret
   exact .inr ⟨H0.out,rfl,HX2.out.trans HX4.out⟩
 ·have H0:Hid (R≠0):=by
   show _≠_
   rw [HR.out]
   unfold checkAns
   rw [if_neg (by rw [hv];decide)]
   decide
  have HX2:=Lib.hid (HX0.out.trans hX2)
  clear hv hX2
  go_wp2
  go_ret
  exact .inr ⟨H0.out,rfl,HX2.out⟩
set_option maxRecDepth 1000000 in
set_option maxHeartbeats 4000000 in
theorem i_Frames (K:Foot) (t:PTree) (vG vF:Value) (w:World) (hG:SlGlob K w vG t.globals) (hF:SlFunc K w vF t.funcs) (hz:Small t) (hres:Res w) :
  Calls Tryz.prog 27 #[.agg #[vG,vF]] w (Listed64 w (framesAns t)):=by
 obtain ⟨w1,hw1⟩:∃ w1,w1=w.alloc (.cells #[vG,vF] 32):=⟨_,rfl⟩
 have X0:Ext w w1:=by rw [hw1];exact (Ext.refl w).alloc _
 have HU:=Lib.hid (i_sound _ t vG vF w1 ((SlGlob.bound hG).ext X0 (fun _ _ h=>h.any)) ((SlFunc.bound hF).ext X0 (fun _ _ h=>h.ext X0)) hz (hres.ext X0) (fun b hb=>Nat.lt_of_lt_of_le hb.2 X0.size))
 obtain ⟨aG,nG,cG,rfl⟩:=hG.shape
 obtain ⟨aF,nF,cF,rfl⟩:=hF.shape
 have BT:Blk w1 w.heap.size 32 #[.slice aG nG cG,.slice aF nF cF]:=by rw [hw1];exact Blk.alloc _ _ _
 have t0:=(BT.cell 0).trans (show _=some (Value.slice aG nG cG) from rfl)
 have t1:=(BT.cell 1).trans (show _=some (Value.slice aF nF cF) from rfl)
 obtain ⟨R,hR⟩:∃ R,R=framesAns t:=⟨_,rfl⟩
 rw [← hR]
 have HR:=Lib.hid hR
 have HX0:=Lib.hid X0
 have HW1:=Lib.hid hw1
 rw [hw1] at t0 t1
 clear hG hF hz hres hR X0 BT hw1
 go_enter Tryz.func27,Tryz.ntmps27
 go_wp2_with fail
 rw [← HW1.out]
 refine HU.out.mono ?_
 rintro e w2 (⟨h0,fs,ub,hb,hs,rfl,hu,hX2⟩ | ⟨h0,rfl,hX2⟩)
 ·have hv:=check_valid h0
  have hln:fs.length≤50:=by
   have:=(valid_bounds hv).2.1
   rw [← hb.1,List.length_map] at this
   exact this
  have HF:=Lib.hid (i_frames _ t fs _ w2 (fun b hb=>hb.2) hu.bound hb hs hln)
  have HRr:Hid (R=t.funcs.map fun x=>((frameSz x:Nat):Int)):=by
   show _=_
   rw [HR.out]
   unfold framesAns
   rw [if_pos h0]
  rw [← HRr.out] at HF
  have HX2:=Lib.hid (HX0.out.trans hX2)
  clear h0 hb hs hu hX2 hv hln t0 t1 HU HRr
  go_wp2_with fail
  refine HF.out.mono ?_
  rintro e w3 ⟨v,rfl,ho,hX3⟩
  have HO:=Lib.hid ho
  go_wp2
  go_ret
  exact ⟨_,rfl,rw_base HO.out HX2.out.size,HX2.out.trans hX3⟩
 ·have HRr:Hid (R=[]):=by
   show _=_
   rw [HR.out]
   unfold framesAns
   rw [if_neg h0]
  have HX2:=Lib.hid (HX0.out.trans hX2)
  clear h0 hX2
  go_wp2
  go_ret
  exact ⟨_,rfl,by rw [HRr.out];exact World.ownsRow_nil w2 _ _ _,HX2.out⟩
end Go.Proofs.YtcfggjmdcaoecaaGreatDoor
