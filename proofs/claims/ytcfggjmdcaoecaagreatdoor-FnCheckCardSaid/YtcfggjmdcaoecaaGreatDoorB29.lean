/- A part of the proofs of FnBound and FnCheck: the lemmas and walks GenD, GenE, GenF, GenG, GenH, GenI. -/
import Derived.Lib.AppendZeros
import Derived.Test.YtcfggjmdcaoecaaGreatDoorB28
import Derived.Test.YtcfggjmdcaoecaaGreatDoorB14
import Derived.Test.YtcfggjmdcaoecaaGreatDoorB02
set_option linter.unusedVariables false
set_option linter.unusedSimpArgs false
namespace Go.Proofs.YtcfggjmdcaoecaaGreatDoor
open Go Go.RowKit Md Go.Proofs.YtcfggjmdcaoecaaGreatDoorW.PrintLast
theorem Roll.grown {c base:Nat} {a w w':World} {row:Option Nat} (h:Roll c a w) (ho:∀ b,row=some b→base≤b) (hb:a.heap.size≤base) (hc:c<a.heap.size) (hg:w.grownBy w' row):Roll c a w' :=
 ⟨h.cur.tf (M:=fun b=>row=some b) ⟨hg.os,hg.tape,hg.output,hg.size,fun k hk hn=>hg.block k hk (fun e=>hn e.symm)⟩ (fun b hb' hm=>by have:=ho b hm;omega),
  grown_tf h.tf hg (fun b hr hlt=>by have:=ho b hr;omega)⟩
theorem OwnE.app1 {base:Nat} {w:World} {v:Value} {l:List PNode} (h:OwnE base w v l) (x:PNode) (hx:NodeOk x) (hl:l.length≤4000000) (hb:base≤w.heap.size) (ty:TypeId) :
  ∃ v' w',(Builtin.append_ #[100,100] ty #[v,.slice (some ⟨w.heap.size,0,none⟩) 1 1]).run Tryz.prog (w.alloc (.cells #[.int .i64 x.kind,.int .i64 x.val,.string x.name] 104))=.ok v' w' ∧
   OwnE base w' v' (l ++ [x])∧(w.alloc (.cells #[.int .i64 x.kind,.int .i64 x.val,.string x.name] 104)).grownBy w' v.ownBlock:=by
 have hX:Ext w (w.alloc (.cells #[.int .i64 x.kind,.int .i64 x.val,.string x.name] 104)):=(Ext.refl w).alloc _
 obtain ⟨v',w',r1,r2,r3,_⟩:=OwnE.app (ty:=ty) (h.ext hX) ((OwnE.one (base:=w.heap.size) x (Nat.le_refl _) hx).sl (K:=AnyB) (fun _ _=>trivial)) (by simp;omega) (Nat.le_trans hb hX.size)
 exact ⟨v',w',r1,r2,r3⟩
theorem MadeE.mono {c n n':Nat} {w:World} {e:Ending} {w':World} (h:MadeE c n w e w') (hn:n≤n'):MadeE c n' w e w':=by
 obtain ⟨v,l,h1,h2,h3,h4⟩:=h
 exact ⟨v,l,h1,h2,by omega,h4⟩
theorem app1_fin {c:Nat} {w wz:World} {v:Value} {l:List PNode} (R:Roll c w wz) (O:OwnE w.heap.size wz v l) (x:PNode) (hx:NodeOk x) (hl:l.length≤4000000) (hcl:c<w.heap.size) (ty:TypeId) :
  ∃ v' w',(Builtin.append_ #[100,100] ty #[v,.slice (some ⟨wz.heap.size,0,none⟩) 1 1]).run Tryz.prog (wz.alloc (.cells #[.int .i64 x.kind,.int .i64 x.val,.string x.name] 104))=.ok v' w'∧OwnE w.heap.size w' v' (l ++ [x])∧Roll c w w':=by
 obtain ⟨v6,w6,r6,O6,g6⟩:=OwnE.app1 O x hx hl R.tf.size ty
 exact ⟨v6,w6,r6,O6,(R.ext ((Ext.refl _).alloc _)).grown (fun b hb=>(own_ge O.own b hb).1) (Nat.le_refl _) hcl g6⟩
theorem noName:(⟨#[]⟩:ByteArray).size≤maxLen:=by simp [ByteArray.size]
theorem d_join_box (c:Nat) (w:World) (v:Value) (l:List PNode) (y x:PNode) (hs:SlNode AnyB w v l) (hy:NodeOk y) (hx:NodeOk x) (hl:l.length≤900000) :
  Calls Tryz.prog 101 #[v,.slice (some ⟨w.heap.size,0,none⟩) 1 1,.agg #[.int .i64 x.kind,.int .i64 x.val,.string x.name]] (w.alloc (.cells #[.int .i64 y.kind,.int .i64 y.val,.string y.name] 104))
   (fun e w'=>∃ v',e=.returned v'∧OwnE w.heap.size w' v' (l ++ [y] ++ [x])∧Ext w w'):=by
 have hX:Ext w (w.alloc (.cells #[.int .i64 y.kind,.int .i64 y.val,.string y.name] 104)):=(Ext.refl w).alloc _
 refine (d_l2Join AnyB v _ l [y] x _ (hs.ext hX (fun _ _ h=>h.any)) ((OwnE.one (base:=w.heap.size) y (Nat.le_refl _) hy).sl (fun _ _=>trivial)) hx (by simp;omega)).mono ?_
 rintro e w' ⟨v',rfl,h1,h2⟩
 exact ⟨v',rfl,h1.base hX.size,hX.trans h2⟩
theorem GV.at {K:Foot} {w:World} {M:Nat} {aC aP:Option Addr} {nC cC nP cP:Nat} {vs vl:Value} {m:Nat} (h:GV K w M (.slice aC nC cC) (.slice aP nP cP) vs vl m) {f:Nat} (hf:f<nC) :
  ∃ bC oC bP oP nm,∃ p:Nat,aC=some ⟨bC,oC,none⟩∧aP=some ⟨bP,oP,none⟩∧K bC∧K bP∧nP=nC∧w.cell? ⟨bC,oC+f,none⟩=some (.string nm)∧nm.size≤maxLen∧w.cell? ⟨bP,oP+f,none⟩=some (.int .i64 (p:Nat))∧p≤6:=by
 obtain ⟨⟨cs,ps,h1,h2,h3,_,h4⟩,_⟩:=h
 obtain ⟨_,_,_,e1,l1,_,_,g1⟩:=Sl.op h1
 obtain ⟨_,_,_,e2,l2,_,_,g2⟩:=Sl.op h2
 cases e1
 cases e2
 have l1:=l1.out
 have l2:=l2.out
 obtain ⟨bC,oC,rfl,k1,el1⟩:=g1 (by omega)
 obtain ⟨bP,oP,rfl,k2,el2⟩:=g2 (by omega)
 obtain ⟨nm,cs1,_,_,hC,hcs1⟩:=el1 f hf
 obtain ⟨p,cs2,hp,_,hP,hcs2⟩:=el2 f (by omega)
 obtain ⟨rfl,hsz⟩:=hC
 obtain ⟨rfl,_⟩:=hP
 have hp6:=h4 p (List.mem_of_getElem? hp)
 obtain ⟨q,rfl⟩:∃ q:Nat,p=q:=⟨p.toNat,by omega⟩
 have k0:=hcs1.z rfl
 have k3:=hcs2.z rfl
 rw [Nat.mul_one] at k0 k3
 exact ⟨bC,oC,bP,oP,nm,q,rfl,rfl,k1,k2,by omega,k0,hsz,k3,by omega⟩
theorem GV.shape {K:Foot} {w:World} {M:Nat} {vc vp vs vl:Value} {m:Nat} (h:GV K w M vc vp vs vl m):∃ aC nC cC aP nP cP aS nS cS aL nL cL,vc=.slice aC nC cC∧vp=.slice aP nP cP∧vs=.slice aS nS cS∧vl=.slice aL nL cL:=by
 obtain ⟨⟨_,_,h1,h2,_⟩,⟨_,h3,_⟩,⟨_,h4,_⟩,_⟩:=h
 obtain ⟨aC,nC,cC,e1⟩:=h1.shape
 obtain ⟨aP,nP,cP,e2⟩:=h2.shape
 obtain ⟨aS,nS,cS,e3⟩:=h3.shape
 obtain ⟨aL,nL,cL,e4⟩:=h4.shape
 exact ⟨aC,nC,cC,aP,nP,cP,aS,nS,cS,aL,nL,cL,e1,e2,e3,e4⟩
set_option maxRecDepth 1000000 in
set_option maxHeartbeats 8000000 in
theorem d_l2GenExpr (c:Nat):∀ (d:Nat) (K:Foot) (vc vp vs vl:Value) (m M:Nat) (w:World),d≤4→CurAt w c→GV K w M vc vp vs vl m→(∀ b,K b→b≠c) →
  Calls Tryz.prog 132 #[.pointer (some ⟨c,0,none⟩),.agg #[vc,vp,vs,vl,.int .i64 (m:Nat)],.int .i64 (d:Nat)] w (MadeE c (8 ^ d) w):=by
 intro d
 induction d with
 | zero =>
   intro K vc vp vs vl m M w _ h hg hK
   have hB0:=Blk.alloc w 153 #[vc,vp,vs,vl,.int .i64 (m:Nat)]
   have hX0:Ext w (w.alloc (.cells #[vc,vp,vs,vl,.int .i64 (m:Nat)] 153)):=(Ext.refl w).alloc _
   generalize hw0:w.alloc (.cells #[vc,vp,vs,vl,.int .i64 (m:Nat)] 153)=w0 at hB0 hX0
   have hcl:=h.lt
   have HBl:Hid (Calls Tryz.prog 53 #[.pointer (some ⟨c,0,none⟩),.int .i64 14] w0 (Rolls c 0 14 w0)):=d_l1Below c 14 w0 (h.ext hX0) (by omega)
   have HLf:Hid (∀ w',Roll c w w'→Calls Tryz.prog 133 #[.pointer (some ⟨c,0,none⟩),.agg #[vc,vp,vs,vl,.int .i64 (m:Nat)]] w' (MadeE c 1 w')):=fun w' hR=>d_l2GenLeaf K c vc vp vs vl m M w' hR.cur (hg.keep (hR.tf.keep hK) (fun _ h=>h)) hK
   have HR0:Hid (Roll c w w0):=(Roll.refl h).ext hX0
   obtain ⟨aC,nC,cC,aP,nP,cP,aS,nS,cS,aL,nL,cL,rfl,rfl,rfl,rfl⟩:=hg.shape
   have Hc:Hid (∀ w',Roll c w0 w'→w'.cell? ⟨w.heap.size,0,none⟩=some (.slice aC nC cC)∧w'.cell? ⟨w.heap.size,1,none⟩=some (.slice aP nP cP)∧w'.cell? ⟨w.heap.size,2,none⟩=some (.slice aS nS cS)∧w'.cell? ⟨w.heap.size,3,none⟩=some (.slice aL nL cL)∧w'.cell? ⟨w.heap.size,4,none⟩=some (.int .i64 (m:Nat))):=fun w' hR =>
    have hne:¬ w.heap.size=c:=by omega
    ⟨hR.tf.cell (a:=⟨w.heap.size,0,none⟩) hne ((hB0.cell 0).trans rfl),hR.tf.cell (a:=⟨w.heap.size,1,none⟩) hne ((hB0.cell 1).trans rfl),hR.tf.cell (a:=⟨w.heap.size,2,none⟩) hne ((hB0.cell 2).trans rfl),
     hR.tf.cell (a:=⟨w.heap.size,3,none⟩) hne ((hB0.cell 3).trans rfl),hR.tf.cell (a:=⟨w.heap.size,4,none⟩) hne ((hB0.cell 4).trans rfl)⟩
   clear h hB0 hX0 hg
   go_enter Tryz.func132,Tryz.ntmps132
   go_wp2_with fail
   refine HBl.out.mono ?_
   rintro e w1 ⟨k,rfl,h1,h2,hR1⟩
   obtain ⟨c0,c1,c2,c3,c4⟩:=Hc.out _ hR1
   have HR1:Hid (Roll c w w1):=HR0.out.trans hR1
   clear hR1
   go_wp2_with fail
   refine (HLf.out w1 HR1.out).mono ?_
   rintro e w2 ⟨v,l,rfl,hO,hl,hR2⟩
   have HO:Hid (OwnE w.heap.size w2 v l):=hO.base HR1.out.tf.size
   have HR2:Hid (Roll c w w2):=HR1.out.trans hR2
   clear hO hR2
   go_wp2
   go_ret
   exact ⟨v,l,rfl,HO.out,hl,HR2.out⟩
 | succ d ih =>
   intro K vc vp vs vl m M w hd h hg hK
   have HG:Hid (∀ w',Roll c w w'→GV K w' M vc vp vs vl m):=fun w' hR=>hg.keep (hR.tf.keep hK) (fun _ h=>h)
   obtain ⟨E,hE⟩:∃ E,E=8 ^ d:=⟨_,rfl⟩
   have hE1:1≤E∧E≤512:=by
    rw [hE]
    have h8:∀ d:Nat,d≤3→1≤8 ^ d∧8 ^ d≤512:=by decide
    exact h8 d (by omega)
   have HE:Hid (∀ w',Roll c w w'→Calls Tryz.prog 132 #[.pointer (some ⟨c,0,none⟩),.agg #[vc,vp,vs,vl,.int .i64 (m:Nat)],.int .i64 (d:Nat)] w' (MadeE c E w')):=fun w' hR=>by
    rw [hE]
    exact ih K vc vp vs vl m M w' (by omega) hR.cur (HG.out w' hR) hK
   rw [Nat.pow_succ,← hE,Nat.mul_comm]
   clear ih hE
   have HOn:Hid (∀ n w',1≤n∧n≤9223372036854775807→Roll c w w'→Calls Tryz.prog 60 #[.pointer (some ⟨c,0,none⟩),.int .i64 n] w' (RollsB c w')):=fun n w' hn hR=>d_l1Once c n w' hR.cur hn
   have HBw:Hid (∀ n w',1≤n∧n≤9223372036854775807→Roll c w w'→Calls Tryz.prog 53 #[.pointer (some ⟨c,0,none⟩),.int .i64 n] w' (Rolls c 0 n w')):=fun n w' hn hR=>d_l1Below c n w' hR.cur hn
   have hB0:=Blk.alloc w 153 #[vc,vp,vs,vl,.int .i64 (m:Nat)]
   have hX0:Ext w (w.alloc (.cells #[vc,vp,vs,vl,.int .i64 (m:Nat)] 153)):=(Ext.refl w).alloc _
   generalize hw0:w.alloc (.cells #[vc,vp,vs,vl,.int .i64 (m:Nat)] 153)=w0 at hB0 hX0
   have hcl:=h.lt
   have HBl:Hid (Calls Tryz.prog 53 #[.pointer (some ⟨c,0,none⟩),.int .i64 14] w0 (Rolls c 0 14 w0)):=d_l1Below c 14 w0 (h.ext hX0) (by omega)
   have HLf:Hid (∀ w',Roll c w w'→Calls Tryz.prog 133 #[.pointer (some ⟨c,0,none⟩),.agg #[vc,vp,vs,vl,.int .i64 (m:Nat)]] w' (MadeE c 1 w')):=fun w' hR=>d_l2GenLeaf K c vc vp vs vl m M w' hR.cur (hg.keep (hR.tf.keep hK) (fun _ h=>h)) hK
   have HR0:Hid (Roll c w w0):=(Roll.refl h).ext hX0
   obtain ⟨aC,nC,cC,aP,nP,cP,aS,nS,cS,aL,nL,cL,rfl,rfl,rfl,rfl⟩:=hg.shape
   have Hc:Hid (∀ w',Roll c w0 w'→w'.cell? ⟨w.heap.size,0,none⟩=some (.slice aC nC cC)∧w'.cell? ⟨w.heap.size,1,none⟩=some (.slice aP nP cP)∧w'.cell? ⟨w.heap.size,2,none⟩=some (.slice aS nS cS)∧w'.cell? ⟨w.heap.size,3,none⟩=some (.slice aL nL cL)∧w'.cell? ⟨w.heap.size,4,none⟩=some (.int .i64 (m:Nat))):=fun w' hR =>
    have hne:¬ w.heap.size=c:=by omega
    ⟨hR.tf.cell (a:=⟨w.heap.size,0,none⟩) hne ((hB0.cell 0).trans rfl),hR.tf.cell (a:=⟨w.heap.size,1,none⟩) hne ((hB0.cell 1).trans rfl),hR.tf.cell (a:=⟨w.heap.size,2,none⟩) hne ((hB0.cell 2).trans rfl),
     hR.tf.cell (a:=⟨w.heap.size,3,none⟩) hne ((hB0.cell 3).trans rfl),hR.tf.cell (a:=⟨w.heap.size,4,none⟩) hne ((hB0.cell 4).trans rfl)⟩
   clear h hB0 hX0 hg
   go_enter Tryz.func132,Tryz.ntmps132
   go_wp2_with fail
   refine HBl.out.mono ?_
   rintro e w1 ⟨k,rfl,h1,h2,hR1⟩
   obtain ⟨c0,c1,c2,c3,c4⟩:=Hc.out _ hR1
   have HR01:=Lib.hid hR1
   have HR1:Hid (Roll c w w1):=HR0.out.trans hR1
   clear hR1 HBl
   have hd0:(((d:Int)+1 == 0)=false):=by
    rw [beq_eq_false_iff_ne]
    omega
   by_cases hk3:k<3
   ·go_wp2_with fail
    refine (HLf.out w1 HR1.out).mono ?_
    rintro e w2 ⟨v,l,rfl,hO,hl,hR2⟩
    have HO:Hid (OwnE w.heap.size w2 v l):=hO.base HR1.out.tf.size
    have HR2:Hid (Roll c w w2):=HR1.out.trans hR2
    clear hO hR2
    go_wp2
    go_ret
    exact ⟨v,l,rfl,HO.out,by omega,HR2.out⟩
   ·by_cases hk5:k<5
    ·go_wp2_with fail
     refine (HE.out w1 HR1.out).mono ?_
     rintro e w2 ⟨v,l,rfl,hO,hl,hR2⟩
     have HO2:Hid (OwnE w.heap.size w2 v l):=hO.base HR1.out.tf.size
     have HR2:Hid (Roll c w w2):=HR1.out.trans hR2
     have Hl:=Lib.hid hl
     clear hO hR2 hl
     go_wp2_with fail
     refine (HOn.out 3 w2 (by omega) HR2.out).mono ?_
     rintro e w3 ⟨b3,rfl,hR3⟩
     have HO3:Hid (OwnE w.heap.size w3 v l):=HO2.out.tf hR3.tf (fun b hb=>by have e:b=c:=hb;omega)
     have HR3:Hid (Roll c w w3):=HR2.out.trans hR3
     clear hR3
     cases b3 with
     | true =>
       go_wp2_with fail
       refine (HOn.out 8 w3 (by omega) HR3.out).mono ?_
       rintro e w4 ⟨b4,rfl,hR4⟩
       have HO4:Hid (OwnE w.heap.size w4 v l):=HO3.out.tf hR4.tf (fun b hb=>by have e:b=c:=hb;omega)
       have HR4:Hid (Roll c w w4):=HR3.out.trans hR4
       have HJ:Hid (∀ (mk:Int),I64 mk→_):=fun mk hmk=>d_join_box c w4 v l ⟨1,mk,⟨#[]⟩⟩ ⟨7,13,⟨#[]⟩⟩ (HO4.out.sl (fun _ _=>trivial)) ⟨by unfold I64;simp,hmk,noName⟩ ⟨by unfold I64;simp,by unfold I64;simp,noName⟩ (by have:=Hl.out;omega)
       clear hR4
       cases b4 with
       | true =>
         go_wp2_with fail
         refine (HJ.out 15 (by unfold I64;simp)).mono ?_
         rintro e w5 ⟨v5,rfl,hO5,hX5⟩
         obtain ⟨v6,w6,r6,O6,R6⟩:=app1_fin (ty:=100) (HR4.out.ext hX5) (hO5.base HR4.out.tf.size) ⟨3,0,⟨#[98]⟩⟩ ⟨by unfold I64;simp,by unfold I64;simp,by simp [ByteArray.size,maxLen]⟩ (by have:=Hl.out;simp;omega) hcl
         have Hr:=Lib.hid r6
         clear r6 hO5 hX5
         go_wp2_with (at_builtin;refine Lib.wpList_append_run _ rfl _ _ _ _ rfl _ _ rfl rfl _ _ Hr.out ?_)
         go_ret
         exact ⟨v6,_,rfl,O6,by have:=Hl.out;simp;omega,R6⟩
       | false =>
         go_wp2_with fail
         refine (HJ.out 1 (by unfold I64;simp)).mono ?_
         rintro e w5 ⟨v5,rfl,hO5,hX5⟩
         obtain ⟨v6,w6,r6,O6,R6⟩:=app1_fin (ty:=100) (HR4.out.ext hX5) (hO5.base HR4.out.tf.size) ⟨3,0,⟨#[98]⟩⟩ ⟨by unfold I64;simp,by unfold I64;simp,by simp [ByteArray.size,maxLen]⟩ (by have:=Hl.out;simp;omega) hcl
         have Hr:=Lib.hid r6
         clear r6 hO5 hX5
         go_wp2_with (at_builtin;refine Lib.wpList_append_run _ rfl _ _ _ _ rfl _ _ rfl rfl _ _ Hr.out ?_)
         go_ret
         exact ⟨v6,_,rfl,O6,by have:=Hl.out;simp;omega,R6⟩
     | false =>
       go_wp2_with fail
       refine (HOn.out 8 w3 (by omega) HR3.out).mono ?_
       rintro e w4 ⟨b4,rfl,hR4⟩
       have HO4:Hid (OwnE w.heap.size w4 v l):=HO3.out.tf hR4.tf (fun b hb=>by have e:b=c:=hb;omega)
       have HR4:Hid (Roll c w w4):=HR3.out.trans hR4
       have HJ:Hid (∀ (mk:Int),I64 mk→_):=fun mk hmk=>d_join_box c w4 v l ⟨1,mk,⟨#[]⟩⟩ ⟨7,13,⟨#[]⟩⟩ (HO4.out.sl (fun _ _=>trivial)) ⟨by unfold I64;simp,hmk,noName⟩ ⟨by unfold I64;simp,by unfold I64;simp,noName⟩ (by have:=Hl.out;omega)
       clear hR4
       cases b4 with
       | true =>
         go_wp2_with fail
         refine (HJ.out 15 (by unfold I64;simp)).mono ?_
         rintro e w5 ⟨v5,rfl,hO5,hX5⟩
         obtain ⟨v6,w6,r6,O6,R6⟩:=app1_fin (ty:=100) (HR4.out.ext hX5) (hO5.base HR4.out.tf.size) ⟨3,0,⟨#[97]⟩⟩ ⟨by unfold I64;simp,by unfold I64;simp,by simp [ByteArray.size,maxLen]⟩ (by have:=Hl.out;simp;omega) hcl
         have Hr:=Lib.hid r6
         clear r6 hO5 hX5
         go_wp2_with (at_builtin;refine Lib.wpList_append_run _ rfl _ _ _ _ rfl _ _ rfl rfl _ _ Hr.out ?_)
         go_ret
         exact ⟨v6,_,rfl,O6,by have:=Hl.out;simp;omega,R6⟩
       | false =>
         go_wp2_with fail
         refine (HJ.out 7 (by unfold I64;simp)).mono ?_
         rintro e w5 ⟨v5,rfl,hO5,hX5⟩
         obtain ⟨v6,w6,r6,O6,R6⟩:=app1_fin (ty:=100) (HR4.out.ext hX5) (hO5.base HR4.out.tf.size) ⟨3,0,⟨#[97]⟩⟩ ⟨by unfold I64;simp,by unfold I64;simp,by simp [ByteArray.size,maxLen]⟩ (by have:=Hl.out;simp;omega) hcl
         have Hr:=Lib.hid r6
         clear r6 hO5 hX5
         go_wp2_with (at_builtin;refine Lib.wpList_append_run _ rfl _ _ _ _ rfl _ _ rfl rfl _ _ Hr.out ?_)
         go_ret
         exact ⟨v6,_,rfl,O6,by have:=Hl.out;simp;omega,R6⟩
    ·by_cases hk5':k=5
     ·subst hk5'
      go_wp2_with fail
      refine (HE.out w1 HR1.out).mono ?_
      rintro e w2 ⟨v,l,rfl,hO,hl,hR2⟩
      have HO2:Hid (OwnE w.heap.size w2 v l):=hO.base HR1.out.tf.size
      have HR2:Hid (Roll c w w2):=HR1.out.trans hR2
      have Hl:=Lib.hid hl
      clear hO hR2 hl
      go_wp2_with fail
      refine (HBw.out 3 w2 (by omega) HR2.out).mono ?_
      rintro e w3 ⟨x,rfl,h3,h4,hR3⟩
      have HO3:Hid (OwnE w.heap.size w3 v l):=HO2.out.tf hR3.tf (fun b hb=>by have e:b=c:=hb;omega)
      have HR3:Hid (Roll c w w3):=HR2.out.trans hR3
      obtain ⟨v6,w6,r6,O6,R6⟩:=app1_fin (ty:=100) HR3.out HO3.out ⟨6,x,⟨#[]⟩⟩ ⟨by unfold I64;simp,by unfold I64;simp;omega,noName⟩ (by have:=Hl.out;omega) hcl
      have Hr:=Lib.hid r6
      clear r6 hR3
      go_wp2_with (at_builtin;refine Lib.wpList_append_run _ rfl _ _ _ _ rfl _ _ rfl rfl _ _ Hr.out ?_)
      go_ret
      exact ⟨v6,_,rfl,O6,by have:=Hl.out;simp;omega,R6⟩
     ·by_cases hk6:k=6∧0<nC
      ·obtain ⟨rfl,hn0⟩:=hk6
       have hnC:nC≤8:=by
        obtain ⟨_,_,h1,_,_,h8,_⟩:=(HG.out w1 HR1.out).calls
        obtain ⟨_,_,_,e1,l1,_⟩:=Sl.op h1
        cases e1
        have:=l1.out
        omega
       go_wp2_with fail
       refine (HBw.out (nC:Nat) w1 (by omega) HR1.out).mono ?_
       rintro e w2 ⟨x,rfl,h3,h4,hR2⟩
       obtain ⟨f,rfl⟩:∃ f:Nat,x=f:=⟨x.toNat,by omega⟩
       have HR2:Hid (Roll c w w2):=HR1.out.trans hR2
       have HR02:Hid (Roll c w0 w2):=HR01.out.trans hR2
       obtain ⟨bC,oC,bP,oP,nm,p,rfl,rfl,kC,kP,rfl,g0,hnm,g1,hp⟩:=(HG.out w2 HR2.out).at (f:=f) (by omega)
       have Hcell:Hid (∀ w',Roll c w2 w'→w'.cell? ⟨bC,oC+f,none⟩=some (.string nm)∧w'.cell? ⟨bP,oP+f,none⟩=some (.int .i64 (p:Nat))):=fun w' hR =>
        ⟨hR.tf.cell (a:=⟨bC,oC+f,none⟩) (hK bC kC) g0,hR.tf.cell (a:=⟨bP,oP+f,none⟩) (hK bP kP) g1⟩
       have hcl2:c<w2.heap.size:=HR2.out.cur.lt
       have O3:=OwnE.new w2 w2.heap.size (Nat.le_refl _)
       have R3:Roll c w2 (w2.alloc (.cells #[] 104)):=(Roll.refl HR2.out.cur).ext ((Ext.refl _).alloc _)
       have HO3:=Lib.hid O3
       have HR3:=Lib.hid R3
       have Hnm:=Lib.hid hnm
       clear hR2 g0 g1 O3 R3 c0 c1 c2 c3 c4 hnm kC kP
       go_wp2_with fail
       go_loopw [12,13] (fun v12 v13 wr=>∃ (q:Nat) (l:List PNode),q≤p∧l.length≤q*E∧v13=.int .i64 q∧Hid (OwnE w2.heap.size wr v12 l)∧Hid (Roll c w2 wr)) (fun _ v13 _=>p - (intOf v13).toNat)
       case atStart=>exact ⟨0,[],Nat.zero_le _,Nat.zero_le _,rfl,HO3.out,HR3.out⟩
       case round =>
        clear HO3 HR3
        obtain ⟨q,l,hq,hl,rfl,HO,HRr⟩:=hrel
        obtain ⟨c0,c1,c2,c3,c4⟩:=Hc.out _ (HR02.out.trans HRr.out)
        obtain ⟨g0,g1⟩:=Hcell.out _ HRr.out
        have z0:(0:Int)≤(f:Int):=by omega
        have hl6:l.length≤6*E:=Nat.le_trans hl (Nat.mul_le_mul_right _ (by omega))
        by_cases hlt:q<p
        ·go_wp2_with fail
         refine (HE.out wr (HR2.out.trans HRr.out)).mono ?_
         rintro e w5 ⟨v,l2,rfl,hO2,hl2,hR5⟩
         have hO5:OwnE w2.heap.size w5 _ l:=HO.out.tf hR5.tf (fun b hb=>by have e:b=c:=hb;omega)
         obtain ⟨v',w',r,O',g,_⟩:=OwnE.app (ty:=100) hO5 (hO2.sl (K:=AnyB) (fun _ _=>trivial)) (by omega) (HRr.out.trans hR5).tf.size
         have HR':Hid (Roll c w2 w'):=(HRr.out.trans hR5).grown (fun b hb=>(own_ge hO5.own b hb).1) (Nat.le_refl _) hcl2 g
         have HO':=Lib.hid O'
         have Hr:=Lib.hid r
         have hlen:(l ++ l2).length≤(q+1)*E:=by rw [List.length_append,Nat.succ_mul];omega
         clear hO2 hR5 hO5 r O' g
         go_wp2_with (at_builtin;refine Lib.wpList_append_run _ rfl _ _ _ _ rfl _ _ rfl rfl _ _ Hr.out ?_)
         go_roundw
         case rel=>exact ⟨q+1,l ++ l2,by omega,hlen,by go_num,HO'.out,HR'.out⟩
         case measure=>simp [intOf];omega
        ·obtain rfl:q=p:=by omega
         go_wp2_with fail
         have X1:Ext wr wr.drew:=(Ext.refl wr).drew
         refine start_ (n:=15) (S:=fun w'=>w'.cell? ⟨w.heap.size,0,none⟩=some (.slice (some ⟨bC,oC,none⟩) nP cC)∧w'.cell? ⟨w.heap.size,1,none⟩=some (.slice (some ⟨bP,oP,none⟩) nP cP)∧w'.cell? ⟨bC,oC+f,none⟩=some (.string nm)∧w'.cell? ⟨bP,oP+f,none⟩=some (.int .i64 (q:Nat))) (ds:=[]) #[false,false,false,false,false,false,false,false,false,false,false,false,false,false,false] (by kernel_rfl) rfl rfl ?hS (fun hHeld=>?_)
         case hS=>exact ⟨X1.cell c0,X1.cell c1,X1.cell g0,X1.cell g1⟩
         refine pu_ 0 (some 93) #[true,false,false,false,false,false,false,false,false,false,false,false,false,false,false] rfl rfl (by kernel_rfl) (fun _ _ _ h=>h) (by rfl) (by intro w';go_simp;with_reducible rfl) (by simp only [pt_];rfl) ?_
         refine pu_ 1 (some 94) #[true,true,false,false,false,false,false,false,false,false,false,false,false,false,false] rfl rfl (by kernel_rfl) (fun _ _ _ h=>h) (by rfl) (by intro w';go_simp;with_reducible rfl) (by simp only [pt_];rfl) ?_
         refine ta_ 2 (some 95) #[true,true,true,false,false,false,false,false,false,false,false,false,false,false,false] rfl rfl (by kernel_rfl) (fun _ _ _ h=>h) hHeld (by rfl) (by rintro w' ⟨s0,s1,s2,s3⟩;go_simp;with_reducible rfl) (by simp only [pt_];rfl) ?_
         refine pu_ 3 (some 96) #[true,true,true,true,false,false,false,false,false,false,false,false,false,false,false] rfl rfl (by kernel_rfl) (fun _ _ _ h=>h) (by rfl) (by intro w';go_simp;with_reducible rfl) (by simp only [pt_];rfl) ?_
         refine pu_ 4 (some 97) #[true,true,true,true,true,false,false,false,false,false,false,false,false,false,false] rfl rfl (by kernel_rfl) (fun _ _ _ h=>h) (by rfl) (by intro w';go_simp;with_reducible rfl) (by simp only [pt_];rfl) ?_
         refine ta_ 5 (some 98) #[true,true,true,true,true,true,false,false,false,false,false,false,false,false,false] rfl rfl (by kernel_rfl) (fun _ _ _ h=>h) hHeld (by rfl) (by rintro w' ⟨s0,s1,s2,s3⟩;go_simp;with_reducible rfl) (by simp only [pt_];rfl) ?_
         refine pu_ 6 (some 99) #[true,true,true,true,true,true,true,false,false,false,false,false,false,false,false] rfl rfl (by kernel_rfl) (fun _ _ _ h=>h) (by rfl) (by intro w';go_simp;with_reducible rfl) (by simp only [pt_];rfl) ?_
         refine ta_ 7 (some 100) #[true,true,true,true,true,true,true,true,false,false,false,false,false,false,false] rfl rfl (by kernel_rfl) (fun _ _ _ h=>h) hHeld (by rfl) (by rintro w' ⟨s0,s1,s2,s3⟩;go_simp;with_reducible rfl) (by simp only [pt_];rfl) ?_
         refine pu_ 8 (some 101) #[true,true,true,true,true,true,true,true,true,false,false,false,false,false,false] rfl rfl (by kernel_rfl) (fun _ _ _ h=>h) (by rfl) (by intro w';go_simp;with_reducible rfl) (by simp only [pt_];rfl) ?_
         refine pu_ 9 (some 102) #[true,true,true,true,true,true,true,true,true,true,false,false,false,false,false] rfl rfl (by kernel_rfl) (fun _ _ _ h=>h) (by rfl) (by intro w';go_simp;with_reducible rfl) (by simp only [pt_];rfl) ?_
         refine ta_ 10 (some 103) #[true,true,true,true,true,true,true,true,true,true,true,false,false,false,false] rfl rfl (by kernel_rfl) (fun _ _ _ h=>h) hHeld (by rfl) (by rintro w' ⟨s0,s1,s2,s3⟩;go_simp;with_reducible rfl) (by simp only [pt_];rfl) ?_
         refine pu_ 11 (some 104) #[true,true,true,true,true,true,true,true,true,true,true,true,false,false,false] rfl rfl (by kernel_rfl) (fun _ _ _ h=>h) (by rfl) (by intro w';go_simp;with_reducible rfl) (by simp only [pt_];rfl) ?_
         generalize wr.drew=wd at X1 hHeld ⊢
         obtain ⟨v6,w6,r6,O6,g6⟩:=OwnE.app1 (ty:=100) (HO.out.ext X1) ⟨4,(q:Nat),nm⟩ ⟨by unfold I64;simp,by unfold I64;simp only;omega,Hnm.out⟩ (by omega) (HRr.out.ext X1).tf.size
         have R6:Roll c w2 w6:=((HRr.out.ext X1).ext ((Ext.refl _).alloc _)).grown (fun b hb=>(own_ge HO.out.own b hb).1) (Nat.le_refl _) hcl2 g6
         obtain ⟨e0,e1,e2,e3⟩:=hHeld
         have X2:Ext wd (wd.alloc (.cells #[.int .i64 4,.int .i64 (q:Nat),.string nm] 104)):=(Ext.refl wd).alloc _
         refine one_ (i:=12) (N:=some 105) #[true,true,true,true,true,true,true,true,true,true,true,true,true,false,false] rfl rfl (by kernel_rfl) (by decide) (fun K hK=>?_)
         refine value_ (by rfl) rfl (by go_simp;constructor<;>rfl) ?_
         refine hK.out _ _ ⟨X2.cell e0,X2.cell e1,X2.cell e2,X2.cell e3⟩ (fun hHeld=>?_)
         clear hK K
         refine norm_ (by show Act.put _ (some 105) _=_;simp only [pt_];rfl) ?_
         have T6:Roll c w0 w6:=HR02.out.trans R6
         obtain ⟨f0,f1,_,_,_⟩:=Hc.out _ T6
         obtain ⟨f2,f3⟩:=Hcell.out _ R6
         refine one_ (i:=13) (N:=some 106) #[true,true,true,true,true,true,true,true,true,true,true,true,true,true,false] rfl rfl (by kernel_rfl) (by decide) (fun K hK=>?_)
         refine value_ (w1:=w6) (v:=v6) (by rfl) rfl (exec_append rfl r6) ?_
         refine hK.out _ _ ⟨f0,f1,f2,f3⟩ (fun hHeld=>?_)
         clear hK K
         refine norm_ (by show Act.put _ (some 106) _=_;simp only [pt_];rfl) ?_
         refine pu_ 14 (some 6) #[true,true,true,true,true,true,true,true,true,true,true,true,true,true,true] rfl rfl (by kernel_rfl) (fun _ _ _ h=>h) (by rfl) (by intro w';go_simp;with_reducible rfl) (by simp only [pt_];rfl) ?_
         refine done_ (by kernel_rfl) ?_
         have HO6:=Lib.hid (O6.base HR2.out.tf.size)
         have HR6:=Lib.hid (HR2.out.trans R6)
         clear O6 R6 T6 r6 g6 hHeld f0 f1 f2 f3 e0 e1 e2 e3
         go_wp2
         go_ret
         exact ⟨v6,_,rfl,HO6.out,by simp;omega,HR6.out⟩
      ·go_wp2_with fail
       all_goals
        refine (HE.out w1 HR1.out).mono ?_
        rintro e w2 ⟨v1,l1,rfl,hO1,hl1,hR2⟩
        have HO1:Hid (OwnE w.heap.size w2 v1 l1):=hO1.base HR1.out.tf.size
        have HR2:Hid (Roll c w w2):=HR1.out.trans hR2
        have Hl1:=Lib.hid hl1
        clear hO1 hl1
        obtain ⟨c0,c1,c2,c3,c4⟩:=Hc.out _ (HR01.out.trans hR2)
        clear hR2
        go_wp2_with fail
        refine (HE.out w2 HR2.out).mono ?_
        rintro e w3 ⟨v2,l2,rfl,hO2,hl2,hR3⟩
        have HO1:Hid (OwnE w.heap.size w3 v1 l1):=HO1.out.tf hR3.tf (fun b hb=>by have e:b=c:=hb;omega)
        have HO2:Hid (OwnE w.heap.size w3 v2 l2):=hO2.base HR2.out.tf.size
        have HR3:Hid (Roll c w w3):=HR2.out.trans hR3
        have Hl2:=Lib.hid hl2
        have HJ:Hid (∀ w' (x:PNode),Tf (Is c) w3 w'→NodeOk x→_):=fun w' x hT hx=>d_l2Join AnyB v1 v2 l1 l2 x w' ((HO1.out.tf hT (fun b hb=>by have e:b=c:=hb;omega)).sl (fun _ _=>trivial)) ((HO2.out.tf hT (fun b hb=>by have e:b=c:=hb;omega)).sl (fun _ _=>trivial)) hx (by have:=Hl1.out;have:=Hl2.out;omega)
        clear hO2 hl2 hR3
        by_cases hk7:k=7
        ·subst hk7
         first
          | contradiction
          | skip
            go_wp2_with fail
            refine (HJ.out w3 ⟨8,0,⟨#[]⟩⟩ (Tf.refl _ _) ⟨by unfold I64;simp,by unfold I64;simp,noName⟩).mono ?_
            rintro e w4 ⟨v4,rfl,hO4,hX4⟩
            have HO4:=Lib.hid (hO4.base HR3.out.tf.size)
            have HR4:=Lib.hid (HR3.out.ext hX4)
            clear hO4 hX4
            go_wp2
            go_ret
            exact ⟨v4,_,rfl,HO4.out,by have:=Hl1.out;have:=Hl2.out;simp;omega,HR4.out⟩
        ·by_cases hk8:k=8
         ·subst hk8
          first
           | contradiction
           | skip
             go_wp2_with fail
             refine (HJ.out w3 ⟨9,0,⟨#[]⟩⟩ (Tf.refl _ _) ⟨by unfold I64;simp,by unfold I64;simp,noName⟩).mono ?_
             rintro e w4 ⟨v4,rfl,hO4,hX4⟩
             have HO4:=Lib.hid (hO4.base HR3.out.tf.size)
             have HR4:=Lib.hid (HR3.out.ext hX4)
             clear hO4 hX4
             go_wp2
             go_ret
             exact ⟨v4,_,rfl,HO4.out,by have:=Hl1.out;have:=Hl2.out;simp;omega,HR4.out⟩
         ·go_wp2_with fail
          all_goals
           refine (HBw.out 16 w3 (by omega) HR3.out).mono ?_
           rintro e w4 ⟨x,rfl,h5,h6,hR4⟩
           have HR4:Hid (Roll c w w4):=HR3.out.trans hR4
           have HT4:=Lib.hid hR4.tf
           clear hR4
           go_wp2_with fail
           refine (HJ.out w4 ⟨7,x,⟨#[]⟩⟩ HT4.out ⟨by unfold I64;simp,by unfold I64;simp only;omega,noName⟩).mono ?_
           rintro e w5 ⟨v5,rfl,hO5,hX5⟩
           have HO5:=Lib.hid (hO5.base HR4.out.tf.size)
           have HR5:=Lib.hid (HR4.out.ext hX5)
           clear hO5 hX5
           go_wp2
           go_ret
           exact ⟨v5,_,rfl,HO5.out,by have:=Hl1.out;have:=Hl2.out;simp;omega,HR5.out⟩
open Go Go.RowKit Md Go.Proofs.YtcfggjmdcaoecaaGreatDoorW.PrintLast
theorem four_at (w:World) (T:TypeId) {i:Nat} (hi:i<4):∃ y:Int,I64 y∧(w.alloc (.cells #[.int .i64 3,.int .i64 4,.int .i64 13,.int .i64 15] T)).cell? ⟨w.heap.size,i,none⟩=some (.int .i64 y):=by
 have hB:=Blk.alloc w T #[.int .i64 3,.int .i64 4,.int .i64 13,.int .i64 15]
 have h4:i=0∨i=1∨i=2∨i=3:=by omega
 rcases h4 with rfl | rfl | rfl | rfl
 ·exact ⟨3,by unfold I64;simp,(hB.cell 0).trans rfl⟩
 ·exact ⟨4,by unfold I64;simp,(hB.cell 1).trans rfl⟩
 ·exact ⟨13,by unfold I64;simp,(hB.cell 2).trans rfl⟩
 ·exact ⟨15,by unfold I64;simp,(hB.cell 3).trans rfl⟩
set_option maxRecDepth 1000000 in
set_option maxHeartbeats 8000000 in
theorem d_l2GenWhole (c:Nat) (K:Foot) (vc vp vs vl:Value) (m M:Nat) (w:World) (h:CurAt w c) (hg:GV K w M vc vp vs vl m) (hK:∀ b,K b→b≠c) :
  Calls Tryz.prog 95 #[.pointer (some ⟨c,0,none⟩),.agg #[vc,vp,vs,vl,.int .i64 (m:Nat)]] w (MadeE c 600 w):=by
 have hB0:=Blk.alloc w 153 #[vc,vp,vs,vl,.int .i64 (m:Nat)]
 have hX0:Ext w (w.alloc (.cells #[vc,vp,vs,vl,.int .i64 (m:Nat)] 153)):=(Ext.refl w).alloc _
 have HG:Hid (∀ w',Roll c w w'→GV K w' M vc vp vs vl m):=fun w' hR=>hg.keep (hR.tf.keep hK) (fun _ h=>h)
 have HOn:Hid (∀ n w',1≤n∧n≤9223372036854775807→Roll c w w'→Calls Tryz.prog 60 #[.pointer (some ⟨c,0,none⟩),.int .i64 n] w' (RollsB c w')):=fun n w' hn hR=>d_l1Once c n w' hR.cur hn
 have HBw:Hid (∀ n w',1≤n∧n≤9223372036854775807→Roll c w w'→Calls Tryz.prog 53 #[.pointer (some ⟨c,0,none⟩),.int .i64 n] w' (Rolls c 0 n w')):=fun n w' hn hR=>d_l1Below c n w' hR.cur hn
 have HE:Hid (∀ (q:Nat) w',q≤2→Roll c w w'→Calls Tryz.prog 132 #[.pointer (some ⟨c,0,none⟩),.agg #[vc,vp,vs,vl,.int .i64 (m:Nat)],.int .i64 (1+(q:Int))] w' (MadeE c 512 w')):=fun q w' hq hR=>by
  have h8:∀ d:Nat,d≤3→8 ^ d≤512:=by decide
  have:=d_l2GenExpr c (1+q) K vc vp vs vl m M w' (by omega) hR.cur (HG.out w' hR) hK
  rw [show (((1+q:Nat)):Int)=1+(q:Int) by omega] at this
  exact this.mono fun e w'' hh=>hh.mono (h8 _ (by omega))
 have HLf:Hid (∀ w',Roll c w w'→Calls Tryz.prog 133 #[.pointer (some ⟨c,0,none⟩),.agg #[vc,vp,vs,vl,.int .i64 (m:Nat)]] w' (MadeE c 1 w')):=fun w' hR=>d_l2GenLeaf K c vc vp vs vl m M w' hR.cur (HG.out w' hR) hK
 generalize hw0:w.alloc (.cells #[vc,vp,vs,vl,.int .i64 (m:Nat)] 153)=w0 at hB0 hX0
 have hcl:=h.lt
 have HR0:Hid (Roll c w w0):=(Roll.refl h).ext hX0
 have HR00:Hid (Roll c w0 w0):=Roll.refl HR0.out.cur
 obtain ⟨aC,nC,cC,aP,nP,cP,aS,nS,cS,aL,nL,cL,rfl,rfl,rfl,rfl⟩:=hg.shape
 have Hc:Hid (∀ w',Roll c w0 w'→w'.cell? ⟨w.heap.size,0,none⟩=some (.slice aC nC cC)∧w'.cell? ⟨w.heap.size,1,none⟩=some (.slice aP nP cP)∧w'.cell? ⟨w.heap.size,2,none⟩=some (.slice aS nS cS)∧w'.cell? ⟨w.heap.size,3,none⟩=some (.slice aL nL cL)∧w'.cell? ⟨w.heap.size,4,none⟩=some (.int .i64 (m:Nat))):=fun w' hR =>
  have hne:¬ w.heap.size=c:=by omega
  ⟨hR.tf.cell (a:=⟨w.heap.size,0,none⟩) hne ((hB0.cell 0).trans rfl),hR.tf.cell (a:=⟨w.heap.size,1,none⟩) hne ((hB0.cell 1).trans rfl),hR.tf.cell (a:=⟨w.heap.size,2,none⟩) hne ((hB0.cell 2).trans rfl),
   hR.tf.cell (a:=⟨w.heap.size,3,none⟩) hne ((hB0.cell 3).trans rfl),hR.tf.cell (a:=⟨w.heap.size,4,none⟩) hne ((hB0.cell 4).trans rfl)⟩
 clear h hB0 hX0 hg
 go_enter Tryz.func95,Tryz.ntmps95
 go_wp2_with fail
 have HRd:Hid (Roll c w0 w0.drew):=HR00.out.ext ((Ext.refl w0).drew)
 refine start_ (n:=7) (S:=fun w'=>w'.cell? ⟨w.heap.size,0,none⟩=some (.slice aC nC cC)∧w'.cell? ⟨w.heap.size,1,none⟩=some (.slice aP nP cP)∧w'.cell? ⟨w.heap.size,2,none⟩=some (.slice aS nS cS)∧w'.cell? ⟨w.heap.size,3,none⟩=some (.slice aL nL cL)∧w'.cell? ⟨w.heap.size,4,none⟩=some (.int .i64 (m:Nat))) (ds:=[]) #[false,false,false,false,false,false,false] (by kernel_rfl) rfl rfl ?hS (fun hHeld=>?_)
 case hS=>exact Hc.out _ (HR00.out.ext ((Ext.refl w0).drew))
 refine pu_ 0 (some 7) #[true,false,false,false,false,false,false] rfl rfl (by kernel_rfl) (fun _ _ _ h=>h) (by rfl) (by intro w';go_simp;with_reducible rfl) (by simp only [pt_];rfl) ?_
 refine ta_ 1 (some 8) #[true,true,false,false,false,false,false] rfl rfl (by kernel_rfl) (fun _ _ _ h=>h) hHeld (by rfl) (by rintro w' ⟨s0,s1,s2,s3,s4⟩;go_simp;with_reducible rfl) (by simp only [pt_];rfl) ?_
 refine pu_ 2 (some 9) #[true,true,true,false,false,false,false] rfl rfl (by kernel_rfl) (fun _ _ _ h=>h) (by rfl) (by intro w';go_simp;with_reducible rfl) (by simp only [pt_];rfl) ?_
 generalize w0.drew=wd at HRd hHeld ⊢
 have HRwd:=Lib.hid (HR0.out.trans HRd.out)
 refine one_ (i:=3) (N:=some 10) #[true,true,true,true,false,false,false] rfl rfl (by kernel_rfl) (by decide) (fun K hK=>?_)
 refine goes_ (N:=some 10) Tryz.func53 (by kernel_rfl) rfl #[.pointer (some ⟨c,0,none⟩),.int .i64 3] (by rfl) rfl rfl (by simp [Act.eval]) ?_
 refine (HBw.out 3 wd (by omega) HRwd.out).mono ?_
 rintro e w1 ⟨x,rfl,h1,h2,hR1⟩
 obtain ⟨q,rfl⟩:∃ q:Nat,x=q:=⟨x.toNat,by omega⟩
 have HR1:Hid (Roll c w w1):=HRwd.out.trans hR1
 have HR01:Hid (Roll c w0 w1):=HRd.out.trans hR1
 clear hR1
 refine ⟨_,rfl,?_⟩
 refine hK.out _ _ (Hc.out _ HR01.out) (fun hHeld=>?_)
 clear hK K
 refine norm_ (by show Act.put _ (some 10) _=_;simp only [pt_];rfl) ?_
 refine pu_ 4 (some 11) #[true,true,true,true,true,false,false] rfl rfl (by kernel_rfl) (fun _ _ _ h=>h) (by rfl) (by intro w';go_simp;with_reducible rfl) (by simp only [pt_];rfl) ?_
 refine one_ (i:=5) (N:=some 12) #[true,true,true,true,true,true,false] rfl rfl (by kernel_rfl) (by decide) (fun K hK=>?_)
 refine goes_ (N:=some 12) Tryz.func132 (by kernel_rfl) rfl #[.pointer (some ⟨c,0,none⟩),.agg #[.slice aC nC cC,.slice aP nP cP,.slice aS nS cS,.slice aL nL cL,.int .i64 (m:Nat)],.int .i64 (1+(q:Int))] (by rfl) rfl rfl (by simp [Act.eval];unfold wrap64;omega) ?_
 refine (HE.out q w1 (by omega) HR1.out).mono ?_
 rintro e w2 ⟨v,l,rfl,hO,hl,hR2⟩
 have HO2:Hid (OwnE w.heap.size w2 v l):=hO.base HR1.out.tf.size
 have HR2:Hid (Roll c w w2):=HR1.out.trans hR2
 have HR02:Hid (Roll c w0 w2):=HR01.out.trans hR2
 have Hl:=Lib.hid hl
 clear hO hR2 hl
 refine ⟨_,rfl,?_⟩
 refine hK.out _ _ (Hc.out _ HR02.out) (fun hHeld=>?_)
 clear hK K
 refine norm_ (by show Act.put _ (some 12) _=_;simp only [pt_];rfl) ?_
 refine pu_ 6 (some 5) #[true,true,true,true,true,true,true] rfl rfl (by kernel_rfl) (fun _ _ _ h=>h) (by rfl) (by intro w';go_simp;with_reducible rfl) (by simp only [pt_];rfl) ?_
 refine done_ (by kernel_rfl) ?_
 clear hHeld HRd HRwd HR1 HR01 HR00
 go_wp2_with fail
 refine (HOn.out 8 w2 (by omega) HR2.out).mono ?_
 rintro e w3 ⟨b3,rfl,hR3⟩
 have HO3:Hid (OwnE w.heap.size w3 v l):=HO2.out.tf hR3.tf (fun b hb=>by have e:b=c:=hb;omega)
 have HR3:Hid (Roll c w0 w3):=HR02.out.trans hR3
 clear hR3
 cases b3 with
 | false =>
   go_wp2
   go_ret
   exact ⟨v,l,rfl,HO3.out,by have:=Hl.out;omega,HR0.out.trans HR3.out⟩
 | true =>
   go_wp2_with fail
   go_loopw [5,6] (fun v5 v6 wr=>∃ (k:Nat) (l:List PNode),k≤7∧l.length≤512+2*k∧v6=.int .i64 k∧Hid (OwnE w.heap.size wr v5 l)∧Hid (Roll c w0 wr)) (fun _ v6 _=>8 - (intOf v6).toNat)
   case atStart=>exact ⟨0,l,Nat.zero_le _,Hl.out,rfl,HO3.out,HR3.out⟩
   case round =>
    clear HO3 HR3 HO2 HR2 HR02 Hl
    obtain ⟨k,l,hk,hl,rfl,HO,HRr⟩:=hrel
    have Hl:=Lib.hid hl
    clear hl
    have HRw:=Lib.hid (HR0.out.trans HRr.out)
    go_wp2_with fail
    refine (HBw.out 4 wr (by omega) HRw.out).mono ?_
    rintro e w4 ⟨x,rfl,h1,h2,hR4⟩
    have HO4:Hid (OwnE w.heap.size w4 _ l):=HO.out.tf hR4.tf (fun b hb=>by have e:b=c:=hb;omega)
    have HR4:Hid (Roll c w0 w4):=HRr.out.trans hR4
    have HRw4:=Lib.hid (HR0.out.trans HR4.out)
    clear hR4
    by_cases hlt:(k:Int)<4+x
    ·obtain ⟨c0,c1,c2,c3,c4⟩:=Hc.out _ HR4.out
     go_wp2_with fail
     refine (HLf.out w4 HRw4.out).mono ?_
     rintro e w5 ⟨v5,l5,rfl,hO5,hl5,hR5⟩
     have HO5:Hid (OwnE w.heap.size w5 _ l):=HO4.out.tf hR5.tf (fun b hb=>by have e:b=c:=hb;omega)
     have HL5:Hid (OwnE w.heap.size w5 v5 l5):=hO5.base HRw4.out.tf.size
     have HR5:Hid (Roll c w0 w5):=HR4.out.trans hR5
     have HRw5:=Lib.hid (HR0.out.trans HR5.out)
     have X6:Ext w5 (w5.alloc (.cells #[.int .i64 3,.int .i64 4,.int .i64 13,.int .i64 15] 2)):=(Ext.refl w5).alloc _
     have HX6:=Lib.hid X6
     have HB6:Hid (Calls Tryz.prog 53 #[.pointer (some ⟨c,0,none⟩),.int .i64 4] (w5.alloc (.cells #[.int .i64 3,.int .i64 4,.int .i64 13,.int .i64 15] 2)) (Rolls c 0 4 (w5.alloc (.cells #[.int .i64 3,.int .i64 4,.int .i64 13,.int .i64 15] 2)))):=HBw.out 4 _ (by omega) (HRw5.out.ext X6)
     have H4:Hid (∀ i,i<4→∃ y:Int,I64 y∧(w5.alloc (.cells #[.int .i64 3,.int .i64 4,.int .i64 13,.int .i64 15] 2)).cell? ⟨w5.heap.size,i,none⟩=some (.int .i64 y)):=fun i hi=>four_at w5 _ hi
     have hcl5:c<w5.heap.size:=HR5.out.cur.lt
     clear hO5 hR5 X6 c0 c1 c2 c3 c4
     go_wp2_with fail
     refine HB6.out.mono ?_
     rintro e w7 ⟨x7,rfl,h5,h6,hR7⟩
     obtain ⟨i,rfl⟩:∃ i:Nat,x7=i:=⟨x7.toNat,by omega⟩
     obtain ⟨y,hy,hc⟩:=H4.out i (by omega)
     have k0:w7.cell? ⟨w5.heap.size,i,none⟩=some (.int .i64 y):=hR7.tf.cell (a:=⟨w5.heap.size,i,none⟩) (show ¬ w5.heap.size=c by omega) hc
     have hT7:Tf (Is c) w5 w7:=Tf.of_ext HX6.out hR7.tf
     have HO7:Hid (OwnE w.heap.size w7 _ l):=HO5.out.tf hT7 (fun b hb=>by have e:b=c:=hb;omega)
     have HL7:Hid (OwnE w.heap.size w7 v5 l5):=HL5.out.tf hT7 (fun b hb=>by have e:b=c:=hb;omega)
     have HR7:Hid (Roll c w0 w7):=(HR5.out.ext HX6.out).trans hR7
     have HJ:=Lib.hid (d_l2Join AnyB v5 _ l5 l ⟨7,y,⟨#[]⟩⟩ w7 (HL7.out.sl (fun _ _=>trivial)) (HO7.out.sl (fun _ _=>trivial)) ⟨by unfold I64;simp,hy,noName⟩ (by have:=Hl.out;omega))
     clear hc hR7 hT7 HB6 H4
     go_wp2_with fail
     refine HJ.out.mono ?_
     rintro e w8 ⟨v8,rfl,hO8,hX8⟩
     have HO8:=Lib.hid (hO8.base (HR0.out.trans HR7.out).tf.size)
     have HR8:=Lib.hid (HR7.out.ext hX8)
     have Hl8:Hid ((l5 ++ l ++ [(⟨7,y,⟨#[]⟩⟩:PNode)]).length≤512+2*(k+1)):=by
      have:=Hl.out
      show _≤_
      simp
      omega
     clear hO8 hX8 k0 HJ
     go_wp2
     go_roundw
     case rel=>exact ⟨k+1,_,by omega,Hl8.out,by go_num,HO8.out,HR8.out⟩
     case measure=>simp [intOf];omega
    ·go_wp2
     go_ret
     exact ⟨_,l,rfl,HO4.out,by have:=Hl.out;omega,HRw4.out⟩
def MadeS (n:Nat) (w:World) (e:Ending) (w':World):Prop:=∃ s:ByteArray,e=.returned (.string s)∧s.size≤n∧Ext w w'
theorem conv_at (w:World) (g:Nat) (y:Int) (h:w.cell? ⟨g,0,none⟩=some (.int .u8 y)):(convert 44 9 (.slice (some ⟨g,0,none⟩) 1 1)).run Tryz.prog w=.ok (.string (strOfNums [y])) w :=
 run_convert_bytes_arg w 44 5 Tryz.underlying44 Tryz.underlying5 g 0 1 1 [y] rfl (fun i hi=>by
  obtain rfl:i=0:=by omega
  exact h) _ Tryz.underlying9
theorem conv_new (w:World) (y:Int):(convert 44 9 (.slice (some ⟨w.heap.size,0,none⟩) 1 1)).run Tryz.prog (w.alloc (.cells #[.int .u8 y] 5))=.ok (.string (strOfNums [y])) (w.alloc (.cells #[.int .u8 y] 5)) :=
 conv_at _ _ y (((Blk.alloc w _ _).cell 0).trans rfl)
set_option maxRecDepth 1000000 in
set_option maxHeartbeats 4000000 in
theorem d_l2Digits:∀ (n:Nat) (x:Int) (w:World),0≤x→x<10 ^ (n+1)→n≤18→x≤9223372036854775807→Calls Tryz.prog 93 #[.int .i64 x] w (MadeS (n+1) w):=by
 intro n
 induction n with
 | zero =>
   intro x w h0 h1 _ _
   have h1:x<10:=by simpa using h1
   have hcv:=conv_new
   go_enter Tryz.func93,Tryz.ntmps93
   go_wp2
   go_ret
   exact ⟨_,rfl,by rw [strOfNums_size];simp,(Ext.refl w).alloc _⟩
 | succ n ih =>
   intro x w h0 h1 hn hxm
   have hcv:=conv_new
   by_cases h10:x<10
   ·go_enter Tryz.func93,Tryz.ntmps93
    go_wp2
    go_ret
    exact ⟨_,rfl,by rw [strOfNums_size];simp,(Ext.refl w).alloc _⟩
   ·have HI:Hid (∀ w',Calls Tryz.prog 93 #[.int .i64 (x / 10)] w' (MadeS (n+1) w')):=fun w'=>ih (x / 10) w' (by omega) (by rw [Int.pow_succ] at h1;omega) (by omega) (by omega)
    clear ih
    clear h1
    go_enter Tryz.func93,Tryz.ntmps93
    go_wp2_with fail
    have Xd:Ext w w.drew:=(Ext.refl w).drew
    have hq:wrap64 (x.tdiv 10)=x / 10:=by
     rw [Int.tdiv_eq_ediv_of_nonneg h0]
     unfold wrap64
     omega
    have hone:∀ y,(strOfNums [y]).size=1:=fun y=>strOfNums_size [y]
    refine start_ (n:=11) (S:=fun _=>True) (ds:=[]) #[false,false,false,false,false,false,false,false,false,false,false] (by kernel_rfl) rfl rfl ?hS (fun hHeld=>?_)
    case hS=>trivial
    refine pu_ 0 (some 16) #[true,false,false,false,false,false,false,false,false,false,false] rfl rfl (by kernel_rfl) (fun _ _ _ h=>h) (by rfl) (by intro w';go_simp;with_reducible rfl) (by simp only [pt_];rfl) ?_
    refine pu_ 1 (some 17) #[true,true,false,false,false,false,false,false,false,false,false] rfl rfl (by kernel_rfl) (fun _ _ _ h=>h) (by rfl) (by intro w';go_simp;with_reducible rfl) (by simp only [pt_];rfl) ?_
    refine pu_ 3 (some 19) #[true,true,false,true,false,false,false,false,false,false,false] rfl rfl (by kernel_rfl) (fun _ _ _ h=>h) (by rfl) (by intro w';go_simp;with_reducible rfl) (by simp only [pt_];rfl) ?_
    refine pu_ 4 (some 20) #[true,true,false,true,true,false,false,false,false,false,false] rfl rfl (by kernel_rfl) (fun _ _ _ h=>h) (by rfl) (by intro w';go_simp;with_reducible rfl) (by simp only [pt_];rfl) ?_
    refine pu_ 5 (some 21) #[true,true,false,true,true,true,false,false,false,false,false] rfl rfl (by kernel_rfl) (fun _ _ _ h=>h) (by rfl) (by intro w';go_simp;with_reducible rfl) (by simp only [pt_];rfl) ?_
    refine pu_ 6 (some 22) #[true,true,false,true,true,true,true,false,false,false,false] rfl rfl (by kernel_rfl) (fun _ _ _ h=>h) (by rfl) (by intro w';go_simp;with_reducible rfl) (by simp only [pt_];rfl) ?_
    generalize w.drew=wd at Xd hHeld ⊢
    refine two_ (i:=2) (j:=7) (Ni:=some 18) (Nj:=some 23) #[true,true,true,true,true,true,true,false,false,false,false] #[true,true,false,true,true,true,true,true,false,false,false] rfl rfl rfl rfl (by kernel_rfl) (by simp) (by simp) (fun K hK=>?_) (fun K hK=>?_)
    ·skip
     refine goes_ (N:=some 18) Tryz.func93 (by kernel_rfl) rfl #[.int .i64 (x / 10)] (by rfl) rfl rfl (by simp [Act.eval,hq]) ?_
     refine (HI.out _).mono ?_
     rintro e w2 ⟨s,rfl,hs,hX2⟩
     refine ⟨_,rfl,?_⟩
     refine hK.out _ _ trivial (fun hHeld=>?_)
     clear hK K
     refine norm_ (by show Act.put _ (some 18) _=_;simp only [pt_];rfl) ?_
     refine one_ (i:=7) (N:=some 23) #[true,true,true,true,true,true,true,true,false,false,false] rfl rfl (by kernel_rfl) (by decide) (fun K hK=>?_)
     refine value_ (by rfl) rfl (by go_simp;constructor<;>rfl) ?_
     refine hK.out _ _ trivial (fun hHeld=>?_)
     clear hK K
     refine norm_ (by show Act.put _ (some 23) _=_;simp only [pt_];rfl) ?_
     refine one_ (i:=8) (N:=some 24) #[true,true,true,true,true,true,true,true,true,false,false] rfl rfl (by kernel_rfl) (by decide) (fun K hK=>?_)
     refine value_ (by rfl) rfl (by go_simp;constructor<;>rfl) ?_
     refine hK.out _ _ trivial (fun hHeld=>?_)
     clear hK K
     refine norm_ (by show Act.put _ (some 24) _=_;simp only [pt_];rfl) ?_
     have hss:¬ 9223372036854775807<s.size+1:=by omega
     refine pu_ 9 (some 25) #[true,true,true,true,true,true,true,true,true,true,false] rfl rfl (by kernel_rfl) (fun _ _ _ h=>h) (by rfl) (by intro w';go_simp;with_reducible rfl) (by simp only [pt_];rfl) ?_
     refine pu_ 10 (some 2) #[true,true,true,true,true,true,true,true,true,true,true] rfl rfl (by kernel_rfl) (fun _ _ _ h=>h) (by rfl) (by intro w';go_simp;with_reducible rfl) (by simp only [pt_];rfl) ?_
     refine done_ (by kernel_rfl) ?_
     clear hHeld
     go_wp2
     go_ret
     exact ⟨_,rfl,by rw [ByteArray.size_append,hone];omega,((Xd.trans hX2).alloc _)⟩
    ·skip
     refine value_ (by rfl) rfl (by go_simp;constructor<;>rfl) ?_
     refine hK.out _ _ trivial (fun hHeld=>?_)
     clear hK K
     refine norm_ (by show Act.put _ (some 23) _=_;simp only [pt_];rfl) ?_
     refine two_ (i:=2) (j:=8) (Ni:=some 18) (Nj:=some 24) #[true,true,true,true,true,true,true,true,false,false,false] #[true,true,false,true,true,true,true,true,true,false,false] rfl rfl rfl rfl (by kernel_rfl) (by simp) (by simp) (fun K hK=>?_) (fun K hK=>?_)
     ·skip
      have hc:=((Blk.alloc wd 5 #[.int .u8 (IntKind.u8.wrap (wrap64 (48+x.tmod 10)))]).cell 0).trans (show _=some (Value.int .u8 (IntKind.u8.wrap (wrap64 (48+x.tmod 10)))) from rfl)
      refine goes_ (N:=some 18) Tryz.func93 (by kernel_rfl) rfl #[.int .i64 (x / 10)] (by rfl) rfl rfl (by simp [Act.eval,hq]) ?_
      refine (HI.out _).mono ?_
      rintro e w2 ⟨s,rfl,hs,hX2⟩
      refine ⟨_,rfl,?_⟩
      refine hK.out _ _ trivial (fun hHeld=>?_)
      clear hK K
      refine norm_ (by show Act.put _ (some 18) _=_;simp only [pt_];rfl) ?_
      have hcv2:=conv_at w2 _ _ (hX2.cell hc)
      refine one_ (i:=8) (N:=some 24) #[true,true,true,true,true,true,true,true,true,false,false] rfl rfl (by kernel_rfl) (by decide) (fun K hK=>?_)
      refine value_ (by rfl) rfl (by go_simp;constructor<;>rfl) ?_
      refine hK.out _ _ trivial (fun hHeld=>?_)
      clear hK K
      refine norm_ (by show Act.put _ (some 24) _=_;simp only [pt_];rfl) ?_
      have hss:¬ 9223372036854775807<s.size+1:=by omega
      refine pu_ 9 (some 25) #[true,true,true,true,true,true,true,true,true,true,false] rfl rfl (by kernel_rfl) (fun _ _ _ h=>h) (by rfl) (by intro w';go_simp;with_reducible rfl) (by simp only [pt_];rfl) ?_
      refine pu_ 10 (some 2) #[true,true,true,true,true,true,true,true,true,true,true] rfl rfl (by kernel_rfl) (fun _ _ _ h=>h) (by rfl) (by intro w';go_simp;with_reducible rfl) (by simp only [pt_];rfl) ?_
      refine done_ (by kernel_rfl) ?_
      clear hHeld
      go_wp2
      go_ret
      exact ⟨_,rfl,by rw [ByteArray.size_append,hone];omega,(Ext.trans (Xd.alloc _) hX2)⟩
     ·skip
      refine value_ (by rfl) rfl (by go_simp;constructor<;>rfl) ?_
      refine hK.out _ _ trivial (fun hHeld=>?_)
      clear hK K
      refine norm_ (by show Act.put _ (some 24) _=_;simp only [pt_];rfl) ?_
      refine one_ (i:=2) (N:=some 18) #[true,true,true,true,true,true,true,true,true,false,false] rfl rfl (by kernel_rfl) (by decide) (fun K hK=>?_)
      refine goes_ (N:=some 18) Tryz.func93 (by kernel_rfl) rfl #[.int .i64 (x / 10)] (by rfl) rfl rfl (by simp [Act.eval,hq]) ?_
      refine (HI.out _).mono ?_
      rintro e w2 ⟨s,rfl,hs,hX2⟩
      refine ⟨_,rfl,?_⟩
      refine hK.out _ _ trivial (fun hHeld=>?_)
      clear hK K
      refine norm_ (by show Act.put _ (some 18) _=_;simp only [pt_];rfl) ?_
      have hss:¬ 9223372036854775807<s.size+1:=by omega
      refine pu_ 9 (some 25) #[true,true,true,true,true,true,true,true,true,true,false] rfl rfl (by kernel_rfl) (fun _ _ _ h=>h) (by rfl) (by intro w';go_simp;with_reducible rfl) (by simp only [pt_];rfl) ?_
      refine pu_ 10 (some 2) #[true,true,true,true,true,true,true,true,true,true,true] rfl rfl (by kernel_rfl) (fun _ _ _ h=>h) (by rfl) (by intro w';go_simp;with_reducible rfl) (by simp only [pt_];rfl) ?_
      refine done_ (by kernel_rfl) ?_
      clear hHeld
      go_wp2
      go_ret
      exact ⟨_,rfl,by rw [ByteArray.size_append,hone];omega,(Ext.trans (Xd.alloc _) hX2)⟩
theorem d_digits (x:Int) (w:World) (h0:0≤x) (h1:x≤1000000000000):Calls Tryz.prog 93 #[.int .i64 x] w (MadeS 20 w) :=
 (d_l2Digits 13 x w h0 (by have:(10:Int) ^ (13+1)=100000000000000:=by decide
                           omega) (by decide) (by omega)).mono fun e w' h=>by
  obtain ⟨s,h1,h2,h3⟩:=h
  exact ⟨s,h1,by omega,h3⟩
open Go Go.RowKit Md Go.Proofs.YtcfggjmdcaoecaaGreatDoorW.PrintLast
def NotS (w:World) (b:Nat):Prop:=∀ arr fr,w.heap[b]?≠some (.cells arr 102 fr)∧w.heap[b]?≠some (.cells arr 83 fr)
theorem GV.bound {K:Foot} {w:World} {M:Nat} {vc vp vs vl:Value} {m:Nat} (h:GV K w M vc vp vs vl m):GV (fun b=>K b∧b<w.heap.size) w M vc vp vs vl m:=by
 obtain ⟨⟨cs,ps,h1,h2,h3⟩,⟨ss,h4,h5⟩,⟨ls,h6,h7⟩,h8⟩:=h
 exact ⟨⟨cs,ps,Sl.bound h1 (by decide),Sl.bound h2 (by decide),h3⟩,⟨ss,Sl.bound h4 (by decide),h5⟩,⟨ls,Sl.bound h6 (by decide),h7⟩,h8⟩
theorem GV.step {K:Foot} {w w':World} {M:Nat} {vc vp vs vl:Value} {m:Nat} (h:GV (fun b=>K b∧NotS w b) w M vc vp vs vl m) (k:Keep (fun b=>K b∧NotS w b) w w'):GV (fun b=>K b∧NotS w' b) w' M vc vp vs vl m :=
 h.bound.keep (k.mono (fun b hb=>hb.1)) (fun b hb=>⟨hb.1.1,fun arr fr=>by rw [k b hb.1 hb.2];exact hb.1.2 arr fr⟩)
theorem str_step {K:Foot} {w w':World} {v:Value} {ss:List ByteArray} (h:SlStr (fun b=>K b∧NotS w b) w v ss) (k:Keep (fun b=>K b∧NotS w b) w w'):SlStr (fun b=>K b∧NotS w' b) w' v ss :=
 (Sl.bound h (by decide)).keep (k.mono (fun b hb=>hb.1)) (fun _ _ _ h=>h.any) (fun b hb=>⟨hb.1.1,fun arr fr=>by rw [k b hb.1 hb.2];exact hb.1.2 arr fr⟩)
def GenAt (c g M:Nat) (w:World):Prop:=∃ vc vp vs vl m,Blk w g 153 #[vc,vp,vs,vl,.int .i64 (m:Nat)]∧GV (fun b=>(b≠c∧b≠g)∧NotS w b) w M vc vp vs vl m
structure Roll2 (c g M:Nat) (w w':World):Prop where
 cur:CurAt w' c
 gen:GenAt c g M w'
 tf:Tf (Is2 c g) w w'
theorem Roll2.refl {c g M:Nat} {w:World} (h:CurAt w c) (hg:GenAt c g M w):Roll2 c g M w w:=⟨h,hg,Tf.refl _ _⟩
theorem GenAt.roll {c g M:Nat} {w w':World} (h:GenAt c g M w) (k:Roll c w w') (hcg:c≠g):GenAt c g M w':=by
 obtain ⟨vc,vp,vs,vl,m,h1,h2⟩:=h
 exact ⟨vc,vp,vs,vl,m,h1.tf k.tf (fun e=>hcg e.symm),h2.step (k.tf.keep (fun b hb e=>hb.1.1 e))⟩
theorem GenAt.ext {c g M:Nat} {w w':World} (h:GenAt c g M w) (k:Ext w w'):GenAt c g M w':=by
 obtain ⟨vc,vp,vs,vl,m,h1,h2⟩:=h
 exact ⟨vc,vp,vs,vl,m,h1.ext k,h2.step (k.keep _)⟩
theorem GenAt.more {c g M N:Nat} {w:World} (h:GenAt c g M w) (hN:M≤N):GenAt c g N w:=by
 obtain ⟨vc,vp,vs,vl,m,h1,h2⟩:=h
 exact ⟨vc,vp,vs,vl,m,h1,h2.more hN⟩
theorem GenAt.lt {c g M:Nat} {w:World} (h:GenAt c g M w):g<w.heap.size:=by
 obtain ⟨vc,vp,vs,vl,m,h1,h2⟩:=h
 exact h1.lt
theorem GenAt.grown {c g M base n:Nat} {w w':World} {v:Value} {xs:List Value} (h:GenAt c g M w) (ho:w.ownsRow base 102 6 v n xs) (hg:g<base) (hr:w.grownBy w' v.ownBlock):GenAt c g M w':=by
 obtain ⟨vc,vp,vs,vl,m,h1,h2⟩:=h
 have hge:=own_ge ho
 have hT:Tf (fun b=>v.ownBlock=some b) w w':=⟨hr.os,hr.tape,hr.output,hr.size,fun k hk hn=>hr.block k hk (fun e=>hn e.symm)⟩
 refine ⟨vc,vp,vs,vl,m,h1.tf hT (fun e=>by have:=(hge g e).1;omega),h2.step (grown_keep hr (fun b hb e=>?_))⟩
 rcases ho.2 with ⟨rfl,_⟩ | ⟨k,cap,cur,rfl,_,hh,_⟩
 ·cases e
 ·simp only [Value.ownBlock,Option.some.injEq] at e
  rw [e] at hb
  exact (hb.2 _ _).1 hh
theorem Roll2.roll {c g M:Nat} {a b d:World} (h:Roll2 c g M a b) (k:Roll c b d) (hcg:c≠g):Roll2 c g M a d:=⟨k.cur,h.gen.roll k hcg,h.tf.trans (k.tf.mono (fun _ e=>.inl e))⟩
theorem Roll2.ext {c g M:Nat} {a b d:World} (h:Roll2 c g M a b) (k:Ext b d):Roll2 c g M a d:=⟨h.cur.ext k,h.gen.ext k,h.tf.then_ext k⟩
theorem Roll2.trans {c g M N:Nat} {a b d:World} (h:Roll2 c g M a b) (k:Roll2 c g N b d):Roll2 c g N a d:=⟨k.cur,k.gen,h.tf.trans k.tf⟩
theorem Roll2.more {c g M N:Nat} {a b:World} (h:Roll2 c g M a b) (hN:M≤N):Roll2 c g N a b:=⟨h.cur,h.gen.more hN,h.tf⟩
theorem Roll2.grown {c g M base n:Nat} {a w w':World} {v:Value} {xs:List Value} (h:Roll2 c g M a w) (ho:w.ownsRow base 102 6 v n xs) (hb:a.heap.size≤base) (hc:c<a.heap.size) (hg:g<a.heap.size) (hr:w.grownBy w' v.ownBlock):Roll2 c g M a w':=by
 have hge:=own_ge ho
 have hT:Tf (fun b=>v.ownBlock=some b) w w':=⟨hr.os,hr.tape,hr.output,hr.size,fun k hk hn=>hr.block k hk (fun e=>hn e.symm)⟩
 exact ⟨h.cur.tf hT (fun b hb' hm=>by have:=(hge b hm).1;omega),h.gen.grown ho (by omega) hr,grown_tf h.tf hr (fun b hr hlt=>by have:=(hge b hr).1;omega)⟩
structure SRow where
 s:PStmt
 ea:Option Addr
 en:Nat
 ec:Nat
 fa:Option Addr
 fn:Nat
 fc:Nat
def encSR (x:SRow):List Value:=[.int .i64 x.s.kind,.string x.s.name,.slice x.ea x.en x.ec,.slice x.fa x.fn x.fc,.int .i64 x.s.thn,.int .i64 x.s.els]
theorem encSR_len (x:SRow):(encSR x).length=6:=rfl
theorem encSR_one (x:SRow):∀ u∈encSR x,u.oneCell'=true:=by
 intro u hu
 simp only [encSR,List.mem_cons,List.not_mem_nil,or_false] at hu
 rcases hu with rfl | rfl | rfl | rfl | rfl | rfl<;>rfl
def CRow (w:World) (cs:List Value) (x:SRow):Prop:=cs=encSR x
structure SOkN (N:Nat) (K:Foot) (w:World) (x:SRow):Prop where
 e:SlNode K w (.slice x.ea x.en x.ec) x.s.e
 f:SlNode K w (.slice x.fa x.fn x.fc) x.s.f
 kind:I64 x.s.kind
 thn:I64 x.s.thn
 els:I64 x.s.els
 name:x.s.name.size≤maxLen
 le:x.s.e.length≤N
 lf:x.s.f.length≤N
abbrev SOk:Foot→World→SRow→Prop:=SOkN 5000
theorem SOkN.keep {N:Nat} {K K':Foot} {w w':World} {x:SRow} (h:SOkN N K w x) (k:Keep K w w') (hK:∀ b,K b→K' b):SOkN N K' w' x :=
 ⟨h.e.keep k (fun _ _ _ h=>h.any) hK,h.f.keep k (fun _ _ _ h=>h.any) hK,h.kind,h.thn,h.els,h.name,h.le,h.lf⟩
theorem SOkN.bound {N:Nat} {K:Foot} {w:World} {x:SRow} (h:SOkN N K w x):SOkN N (fun b=>K b∧b<w.heap.size) w x :=
 ⟨Sl.bound h.e (by decide),Sl.bound h.f (by decide),h.kind,h.thn,h.els,h.name,h.le,h.lf⟩
theorem SOkN.c {N:Nat} {K:Foot} {w:World} {x:SRow} (h:SOkN N K w x):CStmt K w (encSR x) x.s:=⟨_,_,rfl,h.e,h.f,h.kind,h.thn,h.els,h.name⟩
structure OwnSN (N:Nat) (base:Nat) (w:World) (v:Value) (l:List SRow):Prop where
 own:w.ownsRow base 102 6 v l.length (l.flatMap encSR)
 ok:∀ x∈l,SOkN N (fun b=>base≤b∧some b≠v.ownBlock) w x
abbrev OwnS:Nat→World→Value→List SRow→Prop:=OwnSN 5000
theorem OwnSN.rows {N:Nat} {base:Nat} {w:World} {v:Value} {l:List SRow} (h:OwnSN N base w v l) {K:Foot} (hK:∀ b,base≤b→K b):Sl K w 6 CRow v l :=
 sl_ownN encSR_len (by decide) h.own hK (fun x hx=>rfl)
theorem rows_stmt {N:Nat} {K:Foot} {w:World} {v:Value} {l:List SRow} (h:Sl K w 6 CRow v l) (hok:∀ x∈l,SOkN N K w x):SlStmt K w v (l.map SRow.s):=by
 obtain ⟨a,cap,rfl,h1,h2,h3⟩:=h
 refine ⟨a,cap,by rw [List.length_map],by simpa using h1,h2,fun hp=>?_⟩
 rw [List.length_map] at hp
 obtain ⟨b,o,e1,e2,e3⟩:=h3 hp
 refine ⟨b,o,e1,e2,fun i hi=>?_⟩
 rw [List.length_map] at hi
 obtain ⟨cs,c1,c2,c3⟩:=e3 i hi
 refine ⟨cs,c1,?_,c3⟩
 rw [List.getElem_map]
 have:cs=encSR l[i]:=c2
 rw [this]
 exact (hok _ (List.getElem_mem hi)).c
theorem OwnSN.sl {N:Nat} {base:Nat} {w:World} {v:Value} {l:List SRow} (h:OwnSN N base w v l) {K:Foot} (hK:∀ b,base≤b→K b):SlStmt K w v (l.map SRow.s) :=
 rows_stmt (h.rows hK) (fun x hx=>(h.ok x hx).keep (Keep.refl _ w) (fun b hb=>hK b hb.1))
theorem OwnSN.tf {N:Nat} {M:Foot} {base:Nat} {w w':World} {v:Value} {l:List SRow} (h:OwnSN N base w v l) (k:Tf M w w') (hM:∀ b,M b→b<base):OwnSN N base w' v l :=
 ⟨own_tf h.own k (fun b hb hm=>by have:=own_ge h.own b hb;have:=hM b hm;omega),fun x hx=>(h.ok x hx).keep (k.keep (fun b hb hm=>by have:=hM b hm;have:=hb.1;omega)) (fun _ h=>h)⟩
theorem OwnSN.ext {N:Nat} {base:Nat} {w w':World} {v:Value} {l:List SRow} (h:OwnSN N base w v l) (k:Ext w w'):OwnSN N base w' v l:=h.tf (Tf.ext (M:=fun _=>False) k) (fun _ h=>h.elim)
theorem OwnSN.base {N:Nat} {base base':Nat} {w:World} {v:Value} {l:List SRow} (h:OwnSN N base w v l) (hb:base'≤base):OwnSN N base' w v l :=
 ⟨own_base h.own hb,fun x hx=>(h.ok x hx).keep (Keep.refl _ w) (fun b h=>⟨Nat.le_trans hb h.1,h.2⟩)⟩
theorem OwnSN.new {N:Nat} (w:World) (base:Nat) (hb:base≤w.heap.size):OwnSN N base (w.alloc (.cells #[] 102)) (.slice (some ⟨w.heap.size,0,none⟩) 0 0) []:=⟨own_new w base _ 6 hb,fun _ h=>by cases h⟩
theorem OwnSN.one {N:Nat} {base:Nat} {w:World} (x:SRow) (hb:base≤w.heap.size) (hx:SOkN N (fun b=>base≤b) w x) :
  OwnSN N base (w.alloc (.cells #[.int .i64 x.s.kind,.string x.s.name,.slice x.ea x.en x.ec,.slice x.fa x.fn x.fc,.int .i64 x.s.thn,.int .i64 x.s.els] 102)) (.slice (some ⟨w.heap.size,0,none⟩) 1 1) [x] :=
 ⟨⟨rfl,.inr ⟨w.heap.size,1,_,rfl,hb,heap_alloc_new w _,Nat.le_refl _,by simp [maxLen],rfl,rfl⟩⟩,fun y hy=>by
  rw [List.mem_singleton.1 hy]
  exact hx.bound.keep (((Ext.refl w).alloc _).keep _) (fun b hb=>⟨hb.1,fun e=>by
   simp only [Value.ownBlock,Option.some.injEq] at e
   have:=hb.2
   omega⟩)⟩
theorem gi_stmt:(Tryz.prog.info? 102).map (fun i=>(i.zero,i.size,i.bytes))=some (some (.agg #[.int .i64 0,.string ⟨#[]⟩,.slice none 0 0,.slice none 0 0,.int .i64 0,.int .i64 0]),6,88):=by kernel_rfl
theorem OwnSN.app {N:Nat} {base:Nat} {w:World} {v v2:Value} {l l2:List SRow} {K K2:Foot} (h:OwnSN N base w v l) (h2:Sl K w 6 CRow v2 l2) (hok:∀ x∈l2,SOkN N K2 w x) (hK:∀ b,K2 b→b<w.heap.size→base≤b∧some b≠v.ownBlock) (hl:l.length+l2.length≤1000000) (hb:base≤w.heap.size) (ty:TypeId) :
  ∃ v' w',(Builtin.append_ #[81,81] ty #[v,v2]).run Tryz.prog w=.ok v' w'∧OwnSN N base w' v' (l ++ l2)∧w.grownBy w' v.ownBlock∧(v'.ownBlock=v.ownBlock∨v'.ownBlock=some w.heap.size):=by
 obtain ⟨i0,hi,hz0,hz1,hz2⟩:=info_parts gi_stmt
 obtain ⟨v',w',r1,r2,r3,r4⟩:=run_appN (P:=Tryz.prog) CRow (fun _ _ _ h=>h) encSR_len (by decide) encSR_one K w base Tryz.underlying81 hi hz0 hz1 hz2 rfl v l.length l h.own v2 l2 h2 (by omega) (by omega) hb ty
 have hall:∀ x,SOkN N (fun b=>(base≤b∧some b≠v.ownBlock)∧b<w.heap.size) w x→SOkN N (fun b=>base≤b∧some b≠v'.ownBlock) w' x:=fun x hx =>
  hx.keep (grown_keep r3 (fun b hb=>hb.1.2)) (fun b hb=>⟨hb.1.1,fun e=>by
   rcases r4 with t | t
   ·exact hb.1.2 (e.trans t)
   ·rw [t] at e
    have:=hb.2
    cases e
    omega⟩)
 refine ⟨v',w',r1,⟨by rw [List.length_append];exact r2,fun x hx=>?_⟩,r3,r4⟩
 rcases List.mem_append.1 hx with hx | hx
 ·exact hall x (h.ok x hx).bound
 ·exact hall x ((hok x hx).bound.keep (Keep.refl _ w) (fun b hb=>⟨hK b hb.1 hb.2,hb.2⟩))
theorem OwnSN.len {N:Nat} {base:Nat} {w:World} {v:Value} {l:List SRow} (h:OwnSN N base w v l):∃ a c,v=.slice a l.length c∧l.length≤c∧c≤9223372036854775807:=own_form h.own
def MadeT (c g lo n M:Nat) (w:World) (e:Ending) (w':World):Prop:=∃ v l,e=.returned v∧OwnS w.heap.size w' v l∧lo≤l.length∧l.length≤n∧Roll2 c g M w w'
theorem MadeT.mono {c g lo n M lo' n' M':Nat} {w w':World} {e:Ending} (h:MadeT c g lo n M w e w') (h1:lo'≤lo) (h2:n≤n') (h3:M≤M'):MadeT c g lo' n' M' w e w':=by
 obtain ⟨v,l,e,ho,hlo,hl,hR⟩:=h
 exact ⟨v,l,e,ho,by omega,by omega,hR.more h3⟩
theorem own_str {w:World} {base n:Nat} {v:Value} {ss:List ByteArray} (h:w.ownsRow base 9 1 v n (ss.map Value.string)) (hs:∀ s∈ss,s.size≤maxLen) {K:Foot} (hK:∀ b,base≤b→K b):SlStr (fun b=>K b∧NotS w b) w v ss:=by
 have h1:SlStr K w v ss:=sl_own (E:=9) Value.string CStr (fun _ _=>.inr trivial) h hK (fun x hx=>⟨rfl,hs x hx⟩)
 obtain ⟨a,cap,e,g1,g2,g3⟩:=h1
 refine ⟨a,cap,e,g1,g2,fun hp=>?_⟩
 obtain ⟨b,o,e1,e2,e3⟩:=g3 hp
 refine ⟨b,o,e1,⟨e2,fun arr fr=>?_⟩,e3⟩
 rcases h.2 with ⟨rfl,_⟩ | ⟨k,cap',cur,rfl,_,hh2,_⟩
 ·rw [e1] at e
  simp at e
 ·rw [e1] at e
  cases e
  rw [hh2]
  constructor<;>simp
theorem app_name (w:World) (K:Foot) (vs:Value) (ss:List ByteArray) (hs:SlStr K w vs ss) (s:ByteArray) (hsz:s.size≤maxLen) (hl:ss.length≤1000000) :
  ∃ v2 w2 a4 n4 c4 w4,(Builtin.append_ #[80,80] 80 #[.slice (some ⟨w.heap.size,0,none⟩) 0 0,vs]).run Tryz.prog (w.alloc (.cells #[] 9))=.ok v2 w2 ∧
   (Builtin.append_ #[80,80] 80 #[v2,.slice (some ⟨w2.heap.size,0,none⟩) 1 1]).run Tryz.prog (w2.alloc (.cells #[.string s] 9))=.ok (.slice a4 n4 c4) w4 ∧
   Ext w w2∧Ext w w4∧SlStr (fun b=>w.heap.size≤b∧NotS w4 b) w4 (.slice a4 n4 c4) (ss ++ [s]):=by
 obtain ⟨i0,hi,hz0,hz1,hz2⟩:=info_parts gi_str
 have hX1:Ext w (w.alloc (.cells #[] 9)):=(Ext.refl w).alloc _
 obtain ⟨v2,w2,r1,o2,g2,_⟩:=run_app (P:=Tryz.prog) Value.string CStr (fun _ _ _ h=>h.1) (fun _=>rfl) K (w.alloc (.cells #[] 9)) w.heap.size Tryz.underlying80 hi hz0 hz1 hz2 rfl _ [] (own_new w w.heap.size _ 1 (Nat.le_refl _)) vs ss (hs.ext hX1 (fun _ _ h=>h.any)) (by simp;omega) (by simp;omega) hX1.size 80
 have hX2:Ext w w2:=Below.grown hX1 g2 hX1.size (fun k hk=>by cases hk;exact Nat.le_refl _)
 have hX3:Ext w (w2.alloc (.cells #[.string s] 9)):=hX2.alloc _
 have h23:Ext w2 (w2.alloc (.cells #[.string s] 9)):=(Ext.refl w2).alloc _
 simp only [List.nil_append] at o2
 have o3:(w2.alloc (.cells #[.string s] 9)).ownsRow w.heap.size 9 1 v2 (ss.map Value.string).length (ss.map Value.string):=own_tf o2 (Tf.ext (M:=fun _=>False) h23) (fun _ _ h=>h)
 obtain ⟨v4,w4,r4,o4,g4,_⟩:=run_app (P:=Tryz.prog) Value.string CStr (fun _ _ _ h=>h.1) (fun _=>rfl) AnyB (w2.alloc (.cells #[.string s] 9)) w.heap.size Tryz.underlying80 hi hz0 hz1 hz2 rfl v2 _ o3 (.slice (some ⟨w2.heap.size,0,none⟩) 1 1) [s] (⟨_,1,rfl,Nat.le_refl _,by simp [maxLen],fun _=>⟨w2.heap.size,0,rfl,trivial,fun i hi=>by
   obtain rfl:i=0:=by simp at hi;omega
   exact ⟨[.string s],rfl,⟨rfl,hsz⟩,fun q u hu=>by
    obtain rfl:q=0:=by
     have:=(List.getElem?_eq_some_iff.1 hu).1
     simp at this
     omega
    simp at hu
    subst hu
    exact new_cell _ _ _⟩⟩⟩) (by simp;omega) (by simp;omega) hX3.size 80
 have hX4:Ext w w4:=Below.grown hX3 g4 hX3.size (fun k hk=>(own_ge o3 k hk).1)
 obtain ⟨a4,c4,rfl,_,_⟩:=own_form o4
 have hss:∀ x∈ss ++ [s],x.size≤maxLen:=fun x hx=>by
  rcases List.mem_append.1 hx with hx | hx
  ·obtain ⟨cs,hc⟩:=Sl.mem hs x hx
   exact hc.2
  ·rw [List.mem_singleton.1 hx]
   exact hsz
 refine ⟨v2,w2,a4,_,c4,w4,r1,r4,hX2,hX4,?_⟩
 have:=own_str (w:=w4) (ss:=ss ++ [s]) (K:=fun b=>w.heap.size≤b) (base:=w.heap.size) (v:=.slice a4 _ c4) (by simpa using o4) hss (fun b hb=>hb)
 simpa using this
open Go Go.RowKit Md Go.Proofs.YtcfggjmdcaoecaaGreatDoorW.PrintLast
def MadeName2 (c g M:Nat) (w:World) (e:Ending) (w':World):Prop:=∃ s:ByteArray,e=.returned (.string s)∧s.size≤21∧Roll2 c g M w w'∧∀ v,w.cell? ⟨g,2,none⟩=some v→w'.cell? ⟨g,2,none⟩=some v
def MadeName (c g M:Nat) (w:World) (e:Ending) (w':World):Prop:=∃ s:ByteArray,e=.returned (.string s)∧s.size≤21∧Roll2 c g M w w'
set_option maxRecDepth 1000000 in
set_option maxHeartbeats 4000000 in
theorem d_l2New2 (c g M:Nat) (w:World) (h:CurAt w c) (hg:GenAt c g M w) (hcg:c<g) (hM:M≤1000000):Calls Tryz.prog 159 #[.pointer (some ⟨g,0,none⟩)] w (MadeName2 c g (M+1) w):=by
 obtain ⟨vc,vp,vs,vl,m,hB,hV⟩:=hg
 have hmM:=hV.made
 have c4:w.cell? ⟨g,4,none⟩=some (.int .i64 (m:Nat)):=(hB.cell 4).trans rfl
 have f4:w.frozen? ⟨g,4,none⟩=false:=hB.frozen 4
 have hT1:Tf (Is g) w (w.setCell ⟨g,4,none⟩ (.int .i64 ((m:Int)+1))):=(Tf.refl (Is g) w).set (a:=⟨g,4,none⟩) (fun _=>show g=g from rfl) _
 have hR1:Roll2 c g (M+1) w (w.setCell ⟨g,4,none⟩ (.int .i64 ((m:Int)+1))):=by
  refine ⟨h.tf hT1 (fun b hb e=>by have e:b=g:=e;omega),⟨vc,vp,vs,vl,m+1,hB.set 4 (.int .i64 ((m:Int)+1)),?_⟩,hT1.mono (fun b e=>.inr e)⟩
  obtain ⟨h1,h2,h3,h4⟩:=(hV.step (hT1.keep (fun b hb e=>hb.1.2 e))).more (Nat.le_succ M)
  exact ⟨h1,h2,h3,by omega⟩
 have hD:Calls Tryz.prog 93 #[.int .i64 ((m:Int)+1)] (w.setCell ⟨g,4,none⟩ (.int .i64 ((m:Int)+1))) (MadeS 20 (w.setCell ⟨g,4,none⟩ (.int .i64 ((m:Int)+1)))):=d_digits _ _ (by omega) (by omega)
 have d4:(w.setCell ⟨g,4,none⟩ (.int .i64 ((m:Int)+1))).cell? ⟨g,4,none⟩=some (.int .i64 ((m:Int)+1)):=((hB.set 4 _).cell 4).trans rfl
 have HR1:=Lib.hid hR1
 have HD:=Lib.hid hD
 have HC2:Hid (∀ v,w.cell? ⟨g,2,none⟩=some v→(w.setCell ⟨g,4,none⟩ (.int .i64 ((m:Int)+1))).cell? ⟨g,2,none⟩=some v):=fun v hv=>by
  have:=hB.cell 2
  rw [hv] at this
  rw [(hB.set 4 _).cell,this]
  rfl
 clear h hB hV hT1 hR1 hD
 go_enter Tryz.func159,Tryz.ntmps159
 go_wp2_with fail
 refine HD.out.mono ?_
 rintro e w2 ⟨s,rfl,hs,hX⟩
 have hsz:¬ 9223372036854775807<1+s.size:=by omega
 have HX:=Lib.hid (HR1.out.ext hX)
 have HC:Hid (∀ v,w.cell? ⟨g,2,none⟩=some v→w2.cell? ⟨g,2,none⟩=some v):=fun v hv=>hX.cell (HC2.out v hv)
 clear hX HD HR1
 go_wp2
 go_ret
 exact ⟨_,rfl,by rw [ByteArray.size_append];have:(⟨#[118]⟩:ByteArray).size=1:=rfl;omega,HX.out,HC.out⟩
theorem d_l2New (c g M:Nat) (w:World) (h:CurAt w c) (hg:GenAt c g M w) (hcg:c<g) (hM:M≤1000000):Calls Tryz.prog 159 #[.pointer (some ⟨g,0,none⟩)] w (MadeName c g (M+1) w) :=
 (d_l2New2 c g M w h hg hcg hM).mono fun e w' hh=>by
  obtain ⟨s,h1,h2,h3,_⟩:=hh
  exact ⟨s,h1,h2,h3⟩
theorem GenAt.op {c g M:Nat} {w:World} (h:GenAt c g M w):∃ aC nC cC aP nP cP aS nS cS aL nL cL m,w.cell? ⟨g,0,none⟩=some (.slice aC nC cC)∧w.cell? ⟨g,1,none⟩=some (.slice aP nP cP)∧w.cell? ⟨g,2,none⟩=some (.slice aS nS cS)∧w.cell? ⟨g,3,none⟩=some (.slice aL nL cL) ∧
  w.cell? ⟨g,4,none⟩=some (.int .i64 (m:Nat))∧w.frozen? ⟨g,2,none⟩=false∧w.frozen? ⟨g,3,none⟩=false∧Hid (Blk w g 153 #[.slice aC nC cC,.slice aP nP cP,.slice aS nS cS,.slice aL nL cL,.int .i64 (m:Nat)]) ∧
   Hid (GV (fun b=>(b≠c∧b≠g)∧NotS w b) w M (.slice aC nC cC) (.slice aP nP cP) (.slice aS nS cS) (.slice aL nL cL) m):=by
 obtain ⟨vc,vp,vs,vl,m,h1,h2⟩:=h
 obtain ⟨aC,nC,cC,aP,nP,cP,aS,nS,cS,aL,nL,cL,rfl,rfl,rfl,rfl⟩:=h2.shape
 exact ⟨aC,nC,cC,aP,nP,cP,aS,nS,cS,aL,nL,cL,m,(h1.cell 0).trans rfl,(h1.cell 1).trans rfl,(h1.cell 2).trans rfl,(h1.cell 3).trans rfl,(h1.cell 4).trans rfl,h1.frozen 2,h1.frozen 3,h1,h2⟩
theorem MadeT.one {c g M:Nat} {w w':World} (x:SRow) (hR:Roll2 c g M w w') (hx:SOk (fun b=>w.heap.size≤b) w' x) :
  MadeT c g 1 1 M w (.returned (.slice (some ⟨w'.heap.size,0,none⟩) 1 1)) (w'.alloc (.cells #[.int .i64 x.s.kind,.string x.s.name,.slice x.ea x.en x.ec,.slice x.fa x.fn x.fc,.int .i64 x.s.thn,.int .i64 x.s.els] 102)) :=
 ⟨_,[x],rfl,OwnSN.one x hR.tf.size hx,Nat.le_refl _,Nat.le_refl _,hR.ext ((Ext.refl _).alloc _)⟩
theorem SOkN.e1 {N base:Nat} {w:World} {a:Option Addr} {n c:Nat} {l:List PNode} (O:OwnE base w (.slice a n c) l) (hl:l.length≤N) {kind thn els:Int} {name:ByteArray} (h1:I64 kind) (h2:I64 thn) (h3:I64 els) (h4:name.size≤maxLen) :
  SOkN N (fun b=>base≤b) w ⟨⟨kind,name,l,[],thn,els⟩,a,n,c,none,0,0⟩ :=
 ⟨O.sl (fun _ h=>h),Sl.nil _ _ _ _,h1,h2,h3,h4,hl,by simp⟩
theorem OwnE.form {base:Nat} {w:World} {v:Value} {l:List PNode} (h:OwnE base w v l):∃ a n c,v=.slice a n c:=by
 obtain ⟨a,c,e,_⟩:=own_form h.own
 exact ⟨a,_,c,e⟩
theorem i64s (k:Nat) (h:k≤1000000):I64 (k:Int):=by unfold I64;omega
set_option maxRecDepth 1000000 in
set_option maxHeartbeats 8000000 in
theorem d_l2GenSet (c g M:Nat) (w:World) (h:CurAt w c) (hg:GenAt c g M w) (hcg:c<g):Calls Tryz.prog 160 #[.pointer (some ⟨c,0,none⟩),.pointer (some ⟨g,0,none⟩)] w (MadeT c g 1 1 M w):=by
 have HR0:Hid (Roll2 c g M w w):=Roll2.refl h hg
 have HBw:Hid (∀ n w',1≤n∧n≤9223372036854775807→CurAt w' c→Calls Tryz.prog 53 #[.pointer (some ⟨c,0,none⟩),.int .i64 n] w' (Rolls c 0 n w')):=fun n w' hn hR=>d_l1Below c n w' hR hn
 have HPk:Hid (Calls Tryz.prog 92 #[.pointer (some ⟨c,0,none⟩),.slice (some ⟨w.heap.size,0,none⟩) 2 2] (w.alloc (.cells #[.string ⟨#[103]⟩,.string ⟨#[104]⟩] 9)) (Picks c [⟨#[103]⟩,⟨#[104]⟩] w)) :=
  d_pick_lit c w h _ _ 2 _ rfl rfl (by omega) (fun s hs=>by
   simp only [List.mem_cons,List.not_mem_nil,or_false] at hs
   rcases hs with rfl | rfl<;>decide)
 have hcl:=h.lt
 have hgl:=hg.lt
 clear h hg
 go_enter Tryz.func160,Tryz.ntmps160
 go_wp2_with fail
 refine HPk.out.mono ?_
 rintro e w1 ⟨s1,rfl,_,hs1,hR1⟩
 have HR1:Hid (Roll2 c g M w w1):=HR0.out.roll hR1 (by omega)
 clear hR1 HPk
 obtain ⟨aC,nC,cC,aP,nP,cP,aS,nS,cS,aL,nL,cL,m,c0,c1,c2,c3,c4,_,_,_,HV⟩:=HR1.out.gen.op
 by_cases hn0:0<nS
 ·go_wp2_with fail
  refine (HBw.out 3 w1 (by omega) HR1.out.cur).mono ?_
  rintro e w2 ⟨x,rfl,h1,h2,hR2⟩
  have HR2:Hid (Roll2 c g M w w2):=HR1.out.roll hR2 (by omega)
  have hgc:¬ g=c:=by omega
  replace c0:=hR2.tf.cell (a:=⟨g,0,none⟩) hgc c0
  replace c1:=hR2.tf.cell (a:=⟨g,1,none⟩) hgc c1
  replace c2:=hR2.tf.cell (a:=⟨g,2,none⟩) hgc c2
  replace c3:=hR2.tf.cell (a:=⟨g,3,none⟩) hgc c3
  replace c4:=hR2.tf.cell (a:=⟨g,4,none⟩) hgc c4
  replace HV:=Lib.hid (HV.out.step (hR2.tf.keep (fun b hb e=>hb.1.1 e)))
  clear hR2
  by_cases hx:0<x
  ·obtain ⟨ss,hss,_⟩:=HV.out.scope
   have HP:=Lib.hid (d_l2Pick _ c _ ss w2 HR2.out.cur hss (fun b hb=>hb.1.1) (by
    obtain ⟨_,_,_,e1,l1,_⟩:=Sl.op hss
    cases e1
    have:=l1.out
    omega))
   clear hss
   go_wp2_with fail
   refine HP.out.mono ?_
   rintro e w3 ⟨s3,rfl,_,hs3,hR3⟩
   have HR3:Hid (Roll2 c g M w w3):=HR2.out.roll hR3 (by omega)
   replace c0:=hR3.tf.cell (a:=⟨g,0,none⟩) hgc c0
   replace c1:=hR3.tf.cell (a:=⟨g,1,none⟩) hgc c1
   replace c2:=hR3.tf.cell (a:=⟨g,2,none⟩) hgc c2
   replace c3:=hR3.tf.cell (a:=⟨g,3,none⟩) hgc c3
   replace c4:=hR3.tf.cell (a:=⟨g,4,none⟩) hgc c4
   replace HV:=Lib.hid (HV.out.step (hR3.tf.keep (fun b hb e=>hb.1.1 e)))
   clear hR3 HP
   obtain ⟨ls,hls,_⟩:=HV.out.locked
   have HIn:=Lib.hid (s_l3In _ ls _ s3 w3 hls)
   clear hls
   go_wp2_with fail
   refine HIn.out.mono ?_
   rintro e w8 ⟨rfl,rfl⟩
   generalize decide (s3∈ls)=bi
   cases bi with
   | true =>
     go_wp2_with fail
     refine (d_l2GenWhole c _ _ _ _ _ _ M _ HR3.out.cur HV.out (fun b hb=>hb.1.1)).mono ?_
     rintro e w9 ⟨v9,l9,rfl,hO9,hl9,hR9⟩
     obtain ⟨a9,n9,c9,rfl⟩:=hO9.form
     have HR9:Hid (Roll2 c g M w w9):=HR3.out.roll hR9 (by omega)
     have HO9:=Lib.hid (hO9.base HR3.out.tf.size)
     clear hO9 hR9
     go_wp2
     go_ret
     exact MadeT.one ⟨⟨2,⟨#[103]⟩,l9,[],0,0⟩,a9,n9,c9,none,0,0⟩ HR9.out (SOkN.e1 HO9.out (by omega) (i64s 2 (by omega)) (i64s 0 (by omega)) (i64s 0 (by omega)) (by first | assumption | simp [ByteArray.size,maxLen]))
   | false =>
     go_wp2_with fail
     refine (d_l2GenWhole c _ _ _ _ _ _ M _ HR3.out.cur HV.out (fun b hb=>hb.1.1)).mono ?_
     rintro e w9 ⟨v9,l9,rfl,hO9,hl9,hR9⟩
     obtain ⟨a9,n9,c9,rfl⟩:=hO9.form
     have HR9:Hid (Roll2 c g M w w9):=HR3.out.roll hR9 (by omega)
     have HO9:=Lib.hid (hO9.base HR3.out.tf.size)
     clear hO9 hR9
     go_wp2
     go_ret
     exact MadeT.one ⟨⟨2,s3,l9,[],0,0⟩,a9,n9,c9,none,0,0⟩ HR9.out (SOkN.e1 HO9.out (by omega) (i64s 2 (by omega)) (i64s 0 (by omega)) (i64s 0 (by omega)) (by first | assumption | simp [ByteArray.size,maxLen]))
  ·skip
   obtain ⟨ls,hls,_⟩:=HV.out.locked
   have HIn:=Lib.hid (s_l3In _ ls _ s1 w2 hls)
   clear hls
   go_wp2_with fail
   refine HIn.out.mono ?_
   rintro e w8 ⟨rfl,rfl⟩
   generalize decide (s1∈ls)=bi
   cases bi with
   | true =>
     go_wp2_with fail
     refine (d_l2GenWhole c _ _ _ _ _ _ M _ HR2.out.cur HV.out (fun b hb=>hb.1.1)).mono ?_
     rintro e w9 ⟨v9,l9,rfl,hO9,hl9,hR9⟩
     obtain ⟨a9,n9,c9,rfl⟩:=hO9.form
     have HR9:Hid (Roll2 c g M w w9):=HR2.out.roll hR9 (by omega)
     have HO9:=Lib.hid (hO9.base HR2.out.tf.size)
     clear hO9 hR9
     go_wp2
     go_ret
     exact MadeT.one ⟨⟨2,⟨#[103]⟩,l9,[],0,0⟩,a9,n9,c9,none,0,0⟩ HR9.out (SOkN.e1 HO9.out (by omega) (i64s 2 (by omega)) (i64s 0 (by omega)) (i64s 0 (by omega)) (by first | assumption | simp [ByteArray.size,maxLen]))
   | false =>
     go_wp2_with fail
     refine (d_l2GenWhole c _ _ _ _ _ _ M _ HR2.out.cur HV.out (fun b hb=>hb.1.1)).mono ?_
     rintro e w9 ⟨v9,l9,rfl,hO9,hl9,hR9⟩
     obtain ⟨a9,n9,c9,rfl⟩:=hO9.form
     have HR9:Hid (Roll2 c g M w w9):=HR2.out.roll hR9 (by omega)
     have HO9:=Lib.hid (hO9.base HR2.out.tf.size)
     clear hO9 hR9
     go_wp2
     go_ret
     exact MadeT.one ⟨⟨2,s1,l9,[],0,0⟩,a9,n9,c9,none,0,0⟩ HR9.out (SOkN.e1 HO9.out (by omega) (i64s 2 (by omega)) (i64s 0 (by omega)) (i64s 0 (by omega)) (by first | assumption | simp [ByteArray.size,maxLen]))
 ·skip
  obtain ⟨ls,hls,_⟩:=HV.out.locked
  have HIn:=Lib.hid (s_l3In _ ls _ s1 w1 hls)
  clear hls
  go_wp2_with fail
  refine HIn.out.mono ?_
  rintro e w8 ⟨rfl,rfl⟩
  generalize decide (s1∈ls)=bi
  cases bi with
  | true =>
    go_wp2_with fail
    refine (d_l2GenWhole c _ _ _ _ _ _ M _ HR1.out.cur HV.out (fun b hb=>hb.1.1)).mono ?_
    rintro e w9 ⟨v9,l9,rfl,hO9,hl9,hR9⟩
    obtain ⟨a9,n9,c9,rfl⟩:=hO9.form
    have HR9:Hid (Roll2 c g M w w9):=HR1.out.roll hR9 (by omega)
    have HO9:=Lib.hid (hO9.base HR1.out.tf.size)
    clear hO9 hR9
    go_wp2
    go_ret
    exact MadeT.one ⟨⟨2,⟨#[103]⟩,l9,[],0,0⟩,a9,n9,c9,none,0,0⟩ HR9.out (SOkN.e1 HO9.out (by omega) (i64s 2 (by omega)) (i64s 0 (by omega)) (i64s 0 (by omega)) (by first | assumption | simp [ByteArray.size,maxLen]))
  | false =>
    go_wp2_with fail
    refine (d_l2GenWhole c _ _ _ _ _ _ M _ HR1.out.cur HV.out (fun b hb=>hb.1.1)).mono ?_
    rintro e w9 ⟨v9,l9,rfl,hO9,hl9,hR9⟩
    obtain ⟨a9,n9,c9,rfl⟩:=hO9.form
    have HR9:Hid (Roll2 c g M w w9):=HR1.out.roll hR9 (by omega)
    have HO9:=Lib.hid (hO9.base HR1.out.tf.size)
    clear hO9 hR9
    go_wp2
    go_ret
    exact MadeT.one ⟨⟨2,s1,l9,[],0,0⟩,a9,n9,c9,none,0,0⟩ HR9.out (SOkN.e1 HO9.out (by omega) (i64s 2 (by omega)) (i64s 0 (by omega)) (i64s 0 (by omega)) (by first | assumption | simp [ByteArray.size,maxLen]))
open Go Go.RowKit Md Go.Proofs.YtcfggjmdcaoecaaGreatDoorW.PrintLast
theorem set_tf (w:World) (g i:Nat) (v:Value):Tf (Is g) w (w.setCell ⟨g,i,none⟩ v):=(Tf.refl (Is g) w).set (a:=⟨g,i,none⟩) (fun _=>show g=g from rfl) v
theorem GenAt.set2 {c g M:Nat} {w:World} (h:GenAt c g M w) {a:Option Addr} {n k:Nat} {ss:List ByteArray} (hs:SlStr (fun b=>(b≠c∧b≠g)∧NotS w b) w (.slice a n k) ss) (hl:ss.length≤M+8):GenAt c g M (w.setCell ⟨g,2,none⟩ (.slice a n k)):=by
 obtain ⟨vc,vp,vs,vl,m,hB,hV⟩:=h
 have hT:=set_tf w g 2 (.slice a n k)
 obtain ⟨h1,_,h3,h4⟩:=hV.step (hT.keep (fun b hb e=>hb.1.2 e))
 exact ⟨vc,vp,.slice a n k,vl,m,hB.set 2 _,⟨h1,⟨ss,str_step hs (hT.keep (fun b hb e=>hb.1.2 e)),hl⟩,h3,h4⟩⟩
theorem GenAt.set3 {c g M:Nat} {w:World} (h:GenAt c g M w) {a:Option Addr} {n k:Nat} {ss:List ByteArray} (hs:SlStr (fun b=>(b≠c∧b≠g)∧NotS w b) w (.slice a n k) ss) (hl:ss.length≤M):GenAt c g M (w.setCell ⟨g,3,none⟩ (.slice a n k)):=by
 obtain ⟨vc,vp,vs,vl,m,hB,hV⟩:=h
 have hT:=set_tf w g 3 (.slice a n k)
 obtain ⟨h1,h2,_,h4⟩:=hV.step (hT.keep (fun b hb e=>hb.1.2 e))
 exact ⟨vc,vp,vs,.slice a n k,m,hB.set 3 _,⟨h1,h2,⟨ss,str_step hs (hT.keep (fun b hb e=>hb.1.2 e)),hl⟩,h4⟩⟩
theorem Roll2.set {c g M i:Nat} {a w:World} {v:Value} (h:Roll2 c g M a w) (hcg:c<g) (hg:GenAt c g M (w.setCell ⟨g,i,none⟩ v)):Roll2 c g M a (w.setCell ⟨g,i,none⟩ v) :=
 ⟨h.cur.tf (set_tf w g i v) (fun b hb e=>by have e:b=g:=e;omega),hg,h.tf.trans ((set_tf w g i v).mono (fun b e=>.inr e))⟩
def HStmt (c g d:Nat):Prop:=∀ (M:Nat) (w:World),CurAt w c→GenAt c g M w→M+20*8 ^ d≤100000→Calls Tryz.prog 131 #[.pointer (some ⟨c,0,none⟩),.pointer (some ⟨g,0,none⟩),.int .i64 (d:Nat)] w (MadeT c g 1 (8 ^ d) (M+8 ^ d) w)
set_option maxRecDepth 1000000 in
set_option maxHeartbeats 8000000 in
theorem d_l2GenBlock (c g d:Nat) (hcg:c<g) (hS:HStmt c g d) (hd:d≤3) (n M:Nat) (w:World) (h:CurAt w c) (hg:GenAt c g M w) (hn:n≤8) (hM:M+30*8 ^ d≤100000) :
  Calls Tryz.prog 94 #[.pointer (some ⟨c,0,none⟩),.pointer (some ⟨g,0,none⟩),.int .i64 (n:Nat),.int .i64 (d:Nat)] w (MadeT c g n (n*8 ^ d) (M+n*8 ^ d) w):=by
 have hE8:8 ^ d≤512:=by
  have h8:∀ d:Nat,d≤3→8 ^ d≤512:=by decide
  exact h8 d hd
 have HS:=Lib.hid hS
 unfold HStmt at HS
 generalize 8 ^ d=E at hE8 HS hM ⊢
 have hcl:=h.lt
 have hgl:=hg.lt
 have X1:Ext w (w.alloc (.cells #[] 102)):=(Ext.refl w).alloc _
 have HR1:Hid (Roll2 c g M w (w.alloc (.cells #[] 102))):=(Roll2.refl h hg).ext X1
 have HO1:=Lib.hid (OwnSN.new (N:=5000) w w.heap.size (Nat.le_refl _))
 obtain ⟨aC,nC,cC,aP,nP,cP,aS,nS,cS,aL,nL,cL,m,_,_,c2,_,_,_,_,_,HV⟩:=hg.op
 obtain ⟨ss,hss,hsl⟩:=HV.out.scope
 have Hss:Hid (∀ w',Tf (Is2 c g) w w'→SlStr (fun b=>(b≠c∧b≠g)∧NotS w' b) w' (.slice aS nS cS) ss):=fun w' hT=>str_step hss (hT.keep (fun b hb e=>by
  rcases e with e | e
  ·exact hb.1.1 e
  ·exact hb.1.2 e))
 clear hS h hg X1 HV hss
 go_enter Tryz.func94,Tryz.ntmps94
 go_wp2_with fail
 generalize w.alloc (.cells #[] 102)=w1 at HR1 HO1 ⊢
 go_loopw [9,11] (fun v9 v11 wr=>∃ (k:Nat) (l:List SRow),k≤n∧k≤l.length∧l.length≤k*E∧v11=.int .i64 k∧Hid (OwnS w.heap.size wr v9 l)∧Hid (Roll2 c g (M+k*E) w wr)) (fun _ v11 _=>n - (intOf v11).toNat)
 case atStart=>exact ⟨0,[],Nat.zero_le _,Nat.zero_le _,Nat.zero_le _,rfl,HO1.out,by rw [Nat.zero_mul];exact HR1.out⟩
 case round =>
  clear HO1 HR1 c2
  obtain ⟨k,l,hk,hkl,hl,rfl,HO,HR⟩:=hrel
  have hkE:k*E≤8*512:=Nat.mul_le_mul (by omega) hE8
  have hkE2:k*E≤8*E:=Nat.mul_le_mul_right _ (by omega)
  by_cases hlt:k<n
  ·go_wp2_with fail
   refine (HS.out (M+k*E) wr HR.out.cur HR.out.gen (by omega)).mono ?_
   rintro e w5 ⟨v5,l5,rfl,hO5,hlo5,hl5,hR5⟩
   have hO:OwnS w.heap.size w5 _ l:=HO.out.tf hR5.tf (fun b hb=>by
    rcases hb with hb | hb<;>omega)
   have hge:=own_ge HO.out.own
   obtain ⟨v6,w6,r6,O6,g6,_⟩:=OwnSN.app (ty:=81) hO (hO5.rows (K:=AnyB) (fun _ _=>trivial)) hO5.ok (fun b hb _=>⟨by have:=hb.1;have:=HR.out.tf.size;omega,fun e=>by have:=hge b e.symm;have:=hb.1;omega⟩) (by omega) (Nat.le_trans HR.out.tf.size hR5.tf.size)
   have HR6:Hid (Roll2 c g (M+(k+1)*E) w w6):=((HR.out.trans hR5).more (by rw [Nat.succ_mul];omega)).grown hO.own (Nat.le_refl _) hcl hgl g6
   have HO6:=Lib.hid O6
   have Hr:=Lib.hid r6
   have hl6:(l ++ l5).length≤(k+1)*E:=by rw [List.length_append,Nat.succ_mul];omega
   have hlo6:k+1≤(l ++ l5).length:=by rw [List.length_append];omega
   clear hO hR5 r6 O6 g6 hO5 hge
   go_wp2_with (at_builtin;refine Lib.wpList_append_run _ rfl _ _ _ _ rfl _ _ rfl rfl _ _ Hr.out ?_)
   go_roundw
   case rel=>exact ⟨k+1,l ++ l5,by omega,hlo6,hl6,by go_num,HO6.out,HR6.out⟩
   case measure=>simp [intOf];omega
  ·obtain rfl:k=n:=by omega
   obtain ⟨aC',nC',cC',aP',nP',cP',aS',nS',cS',aL',nL',cL',m',c0,c1,c2,c3,c4,f2,f3,_,_⟩:=HR.out.gen.op
   have HR7:Hid (Roll2 c g (M+k*E) w (wr.setCell ⟨g,2,none⟩ (.slice aS nS cS))):=HR.out.set hcg (HR.out.gen.set2 (Hss.out wr HR.out.tf) (by omega))
   have HO7:Hid (OwnS w.heap.size (wr.setCell ⟨g,2,none⟩ (.slice aS nS cS)) _ l):=HO.out.tf (set_tf wr g 2 _) (fun b hb=>by have e:b=g:=hb;omega)
   clear HO HR Hss
   go_wp2
   go_ret
   exact ⟨_,l,rfl,HO7.out,hkl,hl,HR7.out⟩
theorem lit_node (w:World) (base:Nat) (hb:base≤w.heap.size) (l:List PNode) (n:Nat) (arr:Array Value) (ha:arr=(l.flatMap encNode).toArray) (hn:l.length=n) (hm:n≤1000) (hok:∀ x∈l,NodeOk x) :
  OwnE base (w.alloc (.cells arr 104)) (.slice (some ⟨w.heap.size,0,none⟩) n n) l:=by
 subst hn
 subst ha
 refine ⟨⟨flat_len 3 encNode encNode_len l,.inr ⟨w.heap.size,l.length,_,rfl,hb,heap_alloc_new w _,Nat.le_refl _,by unfold maxLen;omega,?_,?_⟩⟩,hok⟩
 ·have:=flat_len 3 encNode encNode_len l
  simpa using this
 ·have:=flat_len 3 encNode encNode_len l
  rw [List.take_of_length_le (by simp at this ⊢;omega)]
theorem OwnSN.app1 {N:Nat} {base:Nat} {w:World} {v:Value} {l:List SRow} (h:OwnSN N base w v l) (x:SRow) (hx:SOkN N (fun b=>base≤b∧some b≠v.ownBlock) w x) (hl:l.length≤900000) (hb:base≤w.heap.size) (ty:TypeId) :
  ∃ v' w',(Builtin.append_ #[81,81] ty #[v,.slice (some ⟨w.heap.size,0,none⟩) 1 1]).run Tryz.prog (w.alloc (.cells #[.int .i64 x.s.kind,.string x.s.name,.slice x.ea x.en x.ec,.slice x.fa x.fn x.fc,.int .i64 x.s.thn,.int .i64 x.s.els] 102))=.ok v' w' ∧
   OwnSN N base w' v' (l ++ [x])∧(w.alloc (.cells #[.int .i64 x.s.kind,.string x.s.name,.slice x.ea x.en x.ec,.slice x.fa x.fn x.fc,.int .i64 x.s.thn,.int .i64 x.s.els] 102)).grownBy w' v.ownBlock:=by
 have hX:Ext w (w.alloc (.cells #[.int .i64 x.s.kind,.string x.s.name,.slice x.ea x.en x.ec,.slice x.fa x.fn x.fc,.int .i64 x.s.thn,.int .i64 x.s.els] 102)):=(Ext.refl w).alloc _
 have h1:=OwnSN.one (base:=0) (w:=w) x (Nat.zero_le _) (hx.keep (Keep.refl _ w) (fun b _=>Nat.zero_le b))
 obtain ⟨v',w',r1,r2,r3,_⟩:=OwnSN.app (ty:=ty) (K:=AnyB) (K2:=fun b=>base≤b∧some b≠v.ownBlock) (h.ext hX) (h1.rows (fun _ _=>trivial)) (fun y hy=>by
  rw [List.mem_singleton.1 hy]
  exact hx.keep (hX.keep _) (fun b hb=>hb)) (fun b hb _=>hb) (by simp;omega) (Nat.le_trans hb hX.size)
 exact ⟨v',w',r1,r2,r3⟩
structure PastN (N:Nat) (A B:Nat) (w:World) (v:Value) (l:List SRow):Prop where
 rows:Sl (fun b=>A≤b∧b<B) w 6 CRow v l
 ok:∀ x∈l,SOkN N (fun b=>A≤b∧b<B) w x
abbrev Past:Nat→Nat→World→Value→List SRow→Prop:=PastN 5000
theorem OwnSN.past {N:Nat} {base:Nat} {w:World} {v:Value} {l:List SRow} (h:OwnSN N base w v l):PastN N base w.heap.size w v l :=
 ⟨(Sl.bound (h.rows (K:=fun b=>base≤b) (fun _ h=>h)) (by decide)).keep (Keep.refl _ w) (fun _ _ _ h=>h) (fun b hb=>hb),fun x hx=>(h.ok x hx).bound.keep (Keep.refl _ w) (fun b hb=>⟨hb.1.1,hb.2⟩)⟩
theorem PastN.tf {N:Nat} {A B:Nat} {M:Foot} {w w':World} {v:Value} {l:List SRow} (h:PastN N A B w v l) (k:Tf M w w') (hM:∀ b,M b→b<A):PastN N A B w' v l:=by
 have hk:Keep (fun b=>A≤b∧b<B) w w':=k.keep (fun b hb hm=>by have:=hM b hm;omega)
 exact ⟨h.rows.keep hk (fun _ _ _ h=>h) (fun _ h=>h),fun x hx=>(h.ok x hx).keep hk (fun _ h=>h)⟩
open Go Go.RowKit Md Go.Proofs.YtcfggjmdcaoecaaGreatDoorW.PrintLast
theorem dst_is (D:Nat) {P:Program} {ops:Array Oper} {rest:List Oper} {o:Oper} {a:Act} {Q:Exit→Act→World→Prop} {w:World} (hd:o.dst=some D) (h:wpList P ops Q (o :: rest) a w):wpList P ops Q (o :: rest) a w:=h
structure NameStep (c g M i:Nat) (a w:World) (vs:Value) (s:ByteArray) (w2:World) (v2:Value) (w4:World) (a4:Option Addr) (n4 c4:Nat):Prop where
 r1:(Builtin.append_ #[80,80] 80 #[.slice (some ⟨w.heap.size,0,none⟩) 0 0,vs]).run Tryz.prog (w.alloc (.cells #[] 9))=.ok v2 w2
 r2:(Builtin.append_ #[80,80] 80 #[v2,.slice (some ⟨w2.heap.size,0,none⟩) 1 1]).run Tryz.prog (w2.alloc (.cells #[.string s] 9))=.ok (.slice a4 n4 c4) w4
 cell:∃ aX nX cX,w4.cell? ⟨g,i,none⟩=some (.slice aX nX cX)
 fro:w4.frozen? ⟨g,i,none⟩=false
 roll:Roll2 c g (M+1) a (w4.setCell ⟨g,i,none⟩ (.slice a4 n4 c4))
 tf:Tf (Is g) w (w4.setCell ⟨g,i,none⟩ (.slice a4 n4 c4))
 e2:Ext w w2
theorem scope_step {c g M:Nat} {a w:World} (R:Roll2 c g M a w) (hcg:c<g) {K:Foot} {vs:Value} {ss:List ByteArray} (hs:SlStr K w vs ss) (hl:ss.length≤M+8) (hM:M≤200000) (s:ByteArray) (hsz:s.size≤maxLen) :
  ∃ w2 v2 w4 a4 n4 c4,NameStep c g M 2 a w vs s w2 v2 w4 a4 n4 c4:=by
 obtain ⟨v2,w2,a4,n4,c4,w4,r1,r2,X2,X4,S4⟩:=app_name w K vs ss hs s hsz (by omega)
 have R4:=(R.ext X4).more (Nat.le_succ M)
 obtain ⟨_,_,_,_,_,_,aX,nX,cX,_,_,_,_,_,_,c2,_,_,f2,_,_,_⟩:=R4.gen.op
 have hc:=R.cur.lt
 have hg:=R.gen.lt
 exact ⟨w2,v2,w4,a4,n4,c4,r1,r2,⟨aX,nX,cX,c2⟩,f2,R4.set hcg (R4.gen.set2 (S4.keep (Keep.refl _ _) (fun _ _ _ h=>h.any) (fun b hb=>⟨⟨by omega,by omega⟩,hb.2⟩)) (by simp;omega)),(Tf.ext X4).trans (set_tf w4 g 2 _),X2⟩
theorem locked_step {c g M:Nat} {a w:World} (R:Roll2 c g M a w) (hcg:c<g) {K:Foot} {vs:Value} {ss:List ByteArray} (hs:SlStr K w vs ss) (hl:ss.length≤M) (hM:M≤200000) (s:ByteArray) (hsz:s.size≤maxLen) :
  ∃ w2 v2 w4 a4 n4 c4,NameStep c g M 3 a w vs s w2 v2 w4 a4 n4 c4:=by
 obtain ⟨v2,w2,a4,n4,c4,w4,r1,r2,X2,X4,S4⟩:=app_name w K vs ss hs s hsz (by omega)
 have R4:=(R.ext X4).more (Nat.le_succ M)
 obtain ⟨_,_,_,_,_,_,_,_,_,aX,nX,cX,_,_,_,_,c3,_,_,f3,_,_⟩:=R4.gen.op
 have hc:=R.cur.lt
 have hg:=R.gen.lt
 exact ⟨w2,v2,w4,a4,n4,c4,r1,r2,⟨aX,nX,cX,c3⟩,f3,R4.set hcg (R4.gen.set3 (S4.keep (Keep.refl _ _) (fun _ _ _ h=>h.any) (fun b hb=>⟨⟨by omega,by omega⟩,hb.2⟩)) (by simp;omega)),(Tf.ext X4).trans (set_tf w4 g 3 _),X2⟩
set_option maxRecDepth 1000000 in
set_option maxHeartbeats 16000000 in
theorem d_l2GenLoop (c g d:Nat) (hcg:c<g) (hS:HStmt c g d) (hd:d≤2) (M:Nat) (w:World) (h:CurAt w c) (hg:GenAt c g M w) (hM:M+40*8 ^ d≤100000) :
  Calls Tryz.prog 161 #[.pointer (some ⟨c,0,none⟩),.pointer (some ⟨g,0,none⟩),.int .i64 ((d+1:Nat):Int)] w (MadeT c g 1 (8 ^ (d+1)) (M+8 ^ (d+1)) w):=by
 have hE8:1≤8 ^ d∧8 ^ d≤64:=by
  have h8:∀ d:Nat,d≤2→1≤8 ^ d∧8 ^ d≤64:=by decide
  exact h8 d hd
 have HGB:Hid (∀ (q N:Nat) (w':World),q≤2→CurAt w' c→GenAt c g N w'→N+30*8 ^ d≤100000→Calls Tryz.prog 94 #[.pointer (some ⟨c,0,none⟩),.pointer (some ⟨g,0,none⟩),.int .i64 (1+(q:Int)),.int .i64 (d:Nat)] w' (MadeT c g 1 (3*8 ^ d) (N+3*8 ^ d) w')):=fun q N w' hq hc hg hN=>by
  have:=d_l2GenBlock c g d hcg hS (by omega) (1+q) N w' hc hg (by omega) hN
  rw [show ((1+q:Nat):Int)=1+(q:Int) by omega] at this
  have hq3:(1+q)*8 ^ d≤3*8 ^ d:=Nat.mul_le_mul_right _ (by omega)
  exact this.mono fun e w'' hh=>hh.mono (by omega) hq3 (by omega)
 rw [Nat.pow_succ,Nat.mul_comm (8 ^ d) 8]
 generalize 8 ^ d=E at hE8 HGB hM ⊢
 have hcl:=h.lt
 have hgl:=hg.lt
 have HN:=Lib.hid (d_l2New c g M w h hg hcg (by omega))
 have HBw:Hid (∀ n w',1≤n∧n≤9223372036854775807→CurAt w' c→Calls Tryz.prog 53 #[.pointer (some ⟨c,0,none⟩),.int .i64 n] w' (Rolls c 0 n w')):=fun n w' hn hR=>d_l1Below c n w' hR hn
 clear hS h hg
 go_enter Tryz.func161,Tryz.ntmps161
 go_wp2_with fail
 refine HN.out.mono ?_
 rintro e w1 ⟨s,rfl,hs,hR1⟩
 have HR1:=Lib.hid hR1
 have hsm:s.size≤maxLen:=by unfold maxLen;omega
 obtain ⟨_,_,_,_,_,_,aS,nS,cS,_,_,_,_,_,_,c2,_,_,_,_,_,HV⟩:=HR1.out.gen.op
 have q2:(w1.alloc (.cells #[] 9)).cell? ⟨g,2,none⟩=some (.slice aS nS cS):=Ext.cell ((Ext.refl w1).alloc _) c2
 obtain ⟨ss,hss,hsl⟩:=HV.out.scope
 have Hss:Hid (∀ w',Tf (Is2 c g) w1 w'→SlStr (fun b=>(b≠c∧b≠g)∧NotS w' b) w' (.slice aS nS cS) ss):=fun w' hT=>str_step hss (hT.keep (fun b hb e=>by
  rcases e with e | e
  ·exact hb.1.1 e
  ·exact hb.1.2 e))
 obtain ⟨w2,v2,w4,a4,n4,c4,st⟩:=scope_step HR1.out hcg hss hsl (by omega) s hsm
 obtain ⟨⟨aX,nX,cX,d2⟩,e2⟩:=And.intro st.cell st.fro
 have HA1:=Lib.hid st.r1
 have HA2:=Lib.hid st.r2
 have HR5:=Lib.hid st.roll
 have HT5:=Lib.hid (st.tf.mono (N:=Is2 c g) (fun b e=>.inr e))
 generalize hw5:w4.setCell ⟨g,2,none⟩ (.slice a4 n4 c4)=w5 at HR5 HT5
 clear hR1 HV hss st HN
 obtain ⟨_,_,_,_,_,_,_,_,_,aL,nL,cL,_,_,_,_,c3,_,_,_,_,HV⟩:=HR5.out.gen.op
 have q3:(w5.alloc (.cells #[] 9)).cell? ⟨g,3,none⟩=some (.slice aL nL cL):=Ext.cell ((Ext.refl w5).alloc _) c3
 obtain ⟨ls,hls,hll⟩:=HV.out.locked
 obtain ⟨w6,v6,w8,a8,n8,c8,st⟩:=locked_step HR5.out hcg hls hll (by omega) s hsm
 obtain ⟨⟨aY,nY,cY,d3⟩,e3⟩:=And.intro st.cell st.fro
 have HA3:=Lib.hid st.r1
 have HA4:=Lib.hid st.r2
 have HR9:=Lib.hid st.roll
 have HT9:=Lib.hid (HT5.out.trans (st.tf.mono (N:=Is2 c g) (fun b e=>.inr e)))
 generalize hw9:w8.setCell ⟨g,3,none⟩ (.slice a8 n8 c8)=w9 at HR9 HT9
 clear HV hls st
 have B10:=Blk.alloc w9 104 #[.int .i64 2,.int .i64 0,.string s]
 have X10:Ext w9 (w9.alloc (.cells #[.int .i64 2,.int .i64 0,.string s] 104)):=(Ext.refl w9).alloc _
 generalize hw10:w9.alloc (.cells #[.int .i64 2,.int .i64 0,.string s] 104)=w10 at B10 X10
 have HR10:Hid (Roll2 c g (M+1+1+1) w w10):=HR9.out.ext X10
 have HT10:Hid (Tf (Is2 c g) w1 w10):=HT9.out.then_ext X10
 have HS10:Hid (Roll2 c g (M+1+1+1) w10 w10):=Roll2.refl HR10.out.cur HR10.out.gen
 have hc10:=HR10.out.cur.lt
 have hg10:=HR10.out.gen.lt
 have Hi:Hid (∀ w',Tf (Is2 c g) w10 w'→w'.cell? ⟨w9.heap.size,0,none⟩=some (.int .i64 2)∧w'.cell? ⟨w9.heap.size,1,none⟩=some (.int .i64 0)∧w'.cell? ⟨w9.heap.size,2,none⟩=some (.string s)):=fun w' hT =>
  have hc9:=HR9.out.cur.lt
  have hg9:=HR9.out.gen.lt
  have hne:¬ (w9.heap.size=c∨w9.heap.size=g):=by omega
  ⟨hT.cell (a:=⟨w9.heap.size,0,none⟩) hne ((B10.cell 0).trans rfl),hT.cell (a:=⟨w9.heap.size,1,none⟩) hne ((B10.cell 1).trans rfl),hT.cell (a:=⟨w9.heap.size,2,none⟩) hne ((B10.cell 2).trans rfl)⟩
 clear B10 X10
 go_wp2_with (at_builtin;first | (refine dst_is 24 rfl ?_;refine Lib.wpList_append_run _ rfl _ _ _ _ rfl _ _ rfl rfl _ _ HA1.out ?_) | (refine dst_is 27 rfl ?_;refine Lib.wpList_append_run _ rfl _ _ _ _ rfl _ _ rfl rfl _ _ HA2.out ?_) | (refine dst_is 36 rfl ?_;refine Lib.wpList_append_run _ rfl _ _ _ _ rfl _ _ rfl rfl _ _ HA3.out ?_) | (refine dst_is 39 rfl ?_;refine Lib.wpList_append_run _ rfl _ _ _ _ rfl _ _ rfl rfl _ _ HA4.out ?_))
 refine (HBw.out 3 w10 (by omega) HR10.out.cur).mono ?_
 rintro e w11 ⟨x,rfl,h1,h2,hR11⟩
 obtain ⟨q,rfl⟩:∃ q:Nat,x=q:=⟨x.toNat,by omega⟩
 have HS11:Hid (Roll2 c g (M+1+1+1) w10 w11):=HS10.out.roll hR11 (by omega)
 clear hR11 HA1 HA2 HA3 HA4 hw5 hw9 hw10 d2 d3 e2 e3 q2 q3 c2 c3
 go_wp2_with fail
 refine (HGB.out q (M+1+1+1) w11 (by omega) HS11.out.cur HS11.out.gen (by omega)).mono ?_
 rintro e w12 ⟨v12,l12,rfl,hO12,hlo12,hl12,hR12⟩
 have HS12:Hid (Roll2 c g (M+1+1+1+3*E) w10 w12):=HS11.out.trans hR12
 have HO12:=Lib.hid (hO12.base HS11.out.tf.size)
 have Hl12:=Lib.hid hl12
 have hl12':l12.length≤192:=by omega
 obtain ⟨i0,i1,i2⟩:=Hi.out w12 HS12.out.tf
 have OA:=lit_node w12 w12.heap.size (Nat.le_refl _) [⟨2,0,s⟩,⟨1,1,⟨#[]⟩⟩,⟨7,4,⟨#[]⟩⟩] 3 #[.int .i64 2,.int .i64 0,.string s,.int .i64 1,.int .i64 1,.string ⟨#[]⟩,.int .i64 7,.int .i64 4,.string ⟨#[]⟩] rfl rfl (by omega) (fun x hx=>by
  simp only [List.mem_cons,List.not_mem_nil,or_false] at hx
  rcases hx with rfl | rfl | rfl
  ·exact ⟨by unfold I64;simp,by unfold I64;simp,hsm⟩
  ·exact ⟨by unfold I64;simp,by unfold I64;simp,noName⟩
  ·exact ⟨by unfold I64;simp,by unfold I64;simp,noName⟩)
 have XA:Ext w12 (w12.alloc (.cells #[.int .i64 2,.int .i64 0,.string s,.int .i64 1,.int .i64 1,.string ⟨#[]⟩,.int .i64 7,.int .i64 4,.string ⟨#[]⟩] 104)):=(Ext.refl w12).alloc _
 generalize hwA:w12.alloc (.cells #[.int .i64 2,.int .i64 0,.string s,.int .i64 1,.int .i64 1,.string ⟨#[]⟩,.int .i64 7,.int .i64 4,.string ⟨#[]⟩] 104)=wA at OA XA
 have hge12:=own_ge HO12.out.own
 have hx7:SOk (fun b=>w10.heap.size≤b∧some b≠v12.ownBlock) wA ⟨⟨2,s,[⟨2,0,s⟩,⟨1,1,⟨#[]⟩⟩,⟨7,4,⟨#[]⟩⟩],[],0,0⟩,some ⟨w12.heap.size,0,none⟩,3,3,none,0,0⟩ :=
  (SOkN.e1 OA (by simp) (i64s 2 (by omega)) (i64s 0 (by omega)) (i64s 0 (by omega)) hsm).keep (Keep.refl _ _) (fun b hb=>⟨Nat.le_trans HS12.out.tf.size hb,fun e=>by have:=(hge12 b e.symm).2;omega⟩)
 obtain ⟨v13,w13,r13,O13,g13⟩:=OwnSN.app1 (ty:=81) (HO12.out.ext XA) _ hx7 (by omega) (Nat.le_trans HS12.out.tf.size XA.size)
 have HA13:=Lib.hid r13
 have HS13:Hid (Roll2 c g (M+1+1+1+3*E) w10 w13):=((HS12.out.ext XA).ext ((Ext.refl wA).alloc _)).grown ((HO12.out.ext XA).ext ((Ext.refl wA).alloc _)).own (Nat.le_refl _) hc10 hg10 g13
 have HO13:=Lib.hid O13
 clear OA XA hge12 hx7 r13 O13 g13 hO12 hR12 hl12 HS10 HS11 HT9
 go_wp2_with (at_builtin;refine dst_is 60 rfl ?_;refine Lib.wpList_append_run _ rfl _ _ _ _ rfl _ _ rfl rfl _ _ HA13.out ?_)
 clear HA13 hwA i0 i1 i2
 refine (HBw.out 4 w13 (by omega) HS13.out.cur).mono ?_
 rintro e w14 ⟨y,rfl,h3,h4,hR14⟩
 have HS14:Hid (Roll2 c g (M+1+1+1+3*E) w10 w14):=HS13.out.roll hR14 (by omega)
 have hO14:=HO13.out.tf hR14.tf (fun b hb=>by have e:b=c:=hb;omega)
 obtain ⟨l13,hl13⟩:∃ l13,l13=l12 ++ [(⟨⟨2,s,[⟨2,0,s⟩,⟨1,1,⟨#[]⟩⟩,⟨7,4,⟨#[]⟩⟩],[],0,0⟩,some ⟨w12.heap.size,0,none⟩,3,3,none,0,0⟩:SRow)]:=⟨_,rfl⟩
 rw [← hl13] at hO14
 have Hl13:Hid (l13.length=l12.length+1):=by
  show _=_
  rw [hl13]
  simp
 obtain ⟨a13,c13,rfl,_,_⟩:=hO14.len
 have HP14:=Lib.hid hO14.past
 clear hO14 hl13 HO13 hR14 HO12
 have OB:=OwnE.one (base:=w14.heap.size) (w:=w14) ⟨1,y,⟨#[]⟩⟩ (Nat.le_refl _) ⟨by unfold I64;simp,by unfold I64;simp only;omega,noName⟩
 have XB:Ext w14 (w14.alloc (.cells #[.int .i64 1,.int .i64 y,.string ⟨#[]⟩] 104)):=(Ext.refl w14).alloc _
 simp only at OB
 generalize hwB:w14.alloc (.cells #[.int .i64 1,.int .i64 y,.string ⟨#[]⟩] 104)=wB at OB XB
 have O15:=OwnSN.one (N:=5000) (base:=w14.heap.size) (w:=wB) ⟨⟨1,s,[⟨1,y,⟨#[]⟩⟩],[],0,0⟩,some ⟨w14.heap.size,0,none⟩,1,1,none,0,0⟩ XB.size (SOkN.e1 OB (by simp) (i64s 1 (by omega)) (i64s 0 (by omega)) (i64s 0 (by omega)) hsm)
 simp only at O15
 have X15:Ext wB (wB.alloc (.cells #[.int .i64 1,.string s,.slice (some ⟨w14.heap.size,0,none⟩) 1 1,.slice none 0 0,.int .i64 0,.int .i64 0] 102)):=(Ext.refl wB).alloc _
 generalize hw15:wB.alloc (.cells #[.int .i64 1,.string s,.slice (some ⟨w14.heap.size,0,none⟩) 1 1,.slice none 0 0,.int .i64 0,.int .i64 0] 102)=w15 at O15 X15
 have T15:Tf (Is2 c g) w14 w15:=Tf.ext (XB.trans X15)
 obtain ⟨i0,i1,i2⟩:=Hi.out w15 (HS14.out.tf.trans T15)
 have OC:=lit_node w15 w15.heap.size (Nat.le_refl _) [⟨2,0,s⟩,⟨1,0,⟨#[]⟩⟩,⟨7,9,⟨#[]⟩⟩] 3 #[.int .i64 2,.int .i64 0,.string s,.int .i64 1,.int .i64 0,.string ⟨#[]⟩,.int .i64 7,.int .i64 9,.string ⟨#[]⟩] rfl rfl (by omega) (fun x hx=>by
  simp only [List.mem_cons,List.not_mem_nil,or_false] at hx
  rcases hx with rfl | rfl | rfl
  ·exact ⟨by unfold I64;simp,by unfold I64;simp,hsm⟩
  ·exact ⟨by unfold I64;simp,by unfold I64;simp,noName⟩
  ·exact ⟨by unfold I64;simp,by unfold I64;simp,noName⟩)
 have XC:Ext w15 (w15.alloc (.cells #[.int .i64 2,.int .i64 0,.string s,.int .i64 1,.int .i64 0,.string ⟨#[]⟩,.int .i64 7,.int .i64 9,.string ⟨#[]⟩] 104)):=(Ext.refl w15).alloc _
 generalize hwC:w15.alloc (.cells #[.int .i64 2,.int .i64 0,.string s,.int .i64 1,.int .i64 0,.string ⟨#[]⟩,.int .i64 7,.int .i64 9,.string ⟨#[]⟩] 104)=wC at OC XC
 have hge15:=own_ge O15.own
 have hx9:SOk (fun b=>w14.heap.size≤b∧some b≠(Value.slice (some ⟨wB.heap.size,0,none⟩) 1 1).ownBlock) wC ⟨⟨5,⟨#[]⟩,[⟨2,0,s⟩,⟨1,0,⟨#[]⟩⟩,⟨7,9,⟨#[]⟩⟩],[],(l13.length:Nat),0⟩,some ⟨w15.heap.size,0,none⟩,3,3,none,0,0⟩ :=
  (SOkN.e1 OC (by simp) (i64s 5 (by omega)) (i64s l13.length (by have:=Hl13.out;omega)) (i64s 0 (by omega)) noName).keep (Keep.refl _ _) (fun b hb=>⟨Nat.le_trans T15.size hb,fun e=>by have:=(hge15 b e.symm).2;omega⟩)
 obtain ⟨v16,w16,r16,O16,g16⟩:=OwnSN.app1 (ty:=81) (O15.ext XC) _ hx9 (by simp) (Nat.le_trans T15.size XC.size)
 have HA16:=Lib.hid r16
 have HS16:Hid (Roll2 c g (M+1+1+1+3*E) w10 w16):=(((HS14.out.ext (XB.trans X15)).ext XC).ext ((Ext.refl wC).alloc _)).grown ((O15.ext XC).ext ((Ext.refl wC).alloc _)).own HS14.out.tf.size hc10 hg10 g16
 have hc14:c<w14.heap.size:=HS14.out.cur.lt
 have hg14:g<w14.heap.size:=HS14.out.gen.lt
 have T16:Tf (Is2 c g) w14 w16:=grown_tf ((T15.then_ext XC).then_ext ((Ext.refl wC).alloc _)) g16 (fun b hb hlt=>by have:=(hge15 b hb).1;omega)
 obtain ⟨w17,v17,w18,a18,n18,c18,st⟩:=scope_step HS16.out hcg (Hss.out w16 (HT10.out.trans HS16.out.tf)) (by omega) (by omega) s hsm
 obtain ⟨⟨aZ,nZ,cZ,d4⟩,e4⟩:=And.intro st.cell st.fro
 have HA17:=Lib.hid st.r1
 have HA18:=Lib.hid st.r2
 have HS19:=Lib.hid st.roll
 have T19:Tf (Is2 c g) w14 (w18.setCell ⟨g,2,none⟩ (.slice a18 n18 c18)):=T16.trans (st.tf.mono (N:=Is2 c g) (fun b e=>.inr e))
 have O19:=O16.tf st.tf (fun b hb=>by have e:b=g:=hb;omega)
 generalize hw19:w18.setCell ⟨g,2,none⟩ (.slice a18 n18 c18)=w19 at HS19 T19 O19
 have hge19:=own_ge O19.own
 have P19:=HP14.out.tf T19 (fun b hb=>by rcases hb with hb | hb<;>omega)
 obtain ⟨v20,w20,r20,O20,g20,_⟩:=OwnSN.app (ty:=81) (O19.base HS14.out.tf.size) P19.rows P19.ok (fun b hb _=>⟨hb.1,fun e=>by have:=(hge19 b e.symm).1;omega⟩) (by have:=Hl13.out;simp;omega) HS19.out.tf.size
 have HA20:=Lib.hid r20
 have HS20:Hid (Roll2 c g (M+1+1+1+3*E+1) w10 w20):=HS19.out.grown (O19.base HS14.out.tf.size).own (Nat.le_refl _) hc10 hg10 g20
 have HO20:=Lib.hid (O20.base HR10.out.tf.size)
 clear OB XB O15 X15 T15 OC XC hge15 hx9 r16 O16 g16 T16 st T19 O19 hge19 P19 r20 O20 g20
 go_wp2_with (at_builtin;first
  | (refine dst_is 77 rfl ?_;refine Lib.wpList_append_run _ rfl _ _ _ _ rfl _ _ rfl rfl _ _ HA16.out ?_)
  | (refine dst_is 81 rfl ?_;refine Lib.wpList_append_run _ rfl _ _ _ _ rfl _ _ rfl rfl _ _ HA17.out ?_)
  | (refine dst_is 84 rfl ?_;refine Lib.wpList_append_run _ rfl _ _ _ _ rfl _ _ rfl rfl _ _ HA18.out ?_)
  | (refine dst_is 89 rfl ?_;refine Lib.wpList_append_run _ rfl _ _ _ _ rfl _ _ rfl rfl _ _ HA20.out ?_))
 go_ret
 exact ⟨v20,_,rfl,HO20.out,by simp,by have:=Hl13.out;have:=Hl12.out;simp;omega,HR10.out.trans (HS20.out.more (by omega))⟩
end Go.Proofs.YtcfggjmdcaoecaaGreatDoor
