/- A part of the proofs of FnBound and FnCheck: the lemmas and walks GenJ, GenK. -/
import Derived.Test.YtcfggjmdcaoecaaGreatDoorB29
import Derived.Test.YtcfggjmdcaoecaaGreatDoorB02
set_option linter.unusedVariables false
set_option linter.unusedSimpArgs false
namespace Go.Proofs.YtcfggjmdcaoecaaGreatDoor
open Go Go.RowKit Md Go.Proofs.YtcfggjmdcaoecaaGreatDoorW.PrintLast
theorem scope_step2 {c g M:Nat} {a w:World} (R:Roll2 c g (M+1) a w) (hcg:c<g) {K:Foot} {vs:Value} {ss:List ByteArray} (hs:SlStr K w vs ss) (hl:ss.length≤M+8) (hM:M≤200000) (s:ByteArray) (hsz:s.size≤maxLen) :
  ∃ w2 v2 w4 a4 n4 c4,NameStep c g M 2 a w vs s w2 v2 w4 a4 n4 c4:=by
 obtain ⟨v2,w2,a4,n4,c4,w4,r1,r2,X2,X4,S4⟩:=app_name w K vs ss hs s hsz (by omega)
 have R4:=R.ext X4
 obtain ⟨_,_,_,_,_,_,aX,nX,cX,_,_,_,_,_,_,c2,_,_,f2,_,_,_⟩:=R4.gen.op
 have hc:=R.cur.lt
 have hg:=R.gen.lt
 exact ⟨w2,v2,w4,a4,n4,c4,r1,r2,⟨aX,nX,cX,c2⟩,f2,R4.set hcg (R4.gen.set2 (S4.keep (Keep.refl _ _) (fun _ _ _ h=>h.any) (fun b hb=>⟨⟨by omega,by omega⟩,hb.2⟩)) (by simp;omega)),(Tf.ext X4).trans (set_tf w4 g 2 _),X2⟩
theorem app_ge {w:World} {v v':Value} {B:Nat} (t:v'.ownBlock=v.ownBlock∨v'.ownBlock=some w.heap.size) (h:∀ k,v.ownBlock=some k→B≤k) (hB:B≤w.heap.size):∀ k,v'.ownBlock=some k→B≤k:=by
 intro k hk
 rcases t with t | t
 ·exact h k (t ▸ hk)
 ·rw [t] at hk
  cases hk
  exact hB
set_option maxRecDepth 1000000 in
set_option maxHeartbeats 16000000 in
theorem d_stmt_body (c g d E F:Nat) (hcg:c<g) (hE:1≤E) (hF:0<d→8*F=E∧1≤F) (hF2:F≤600) (hd4:d≤4)
  (HL:0<d→∀ (M:Nat) (w:World),CurAt w c→GenAt c g M w→M+20*E≤100000→Calls Tryz.prog 161 #[.pointer (some ⟨c,0,none⟩),.pointer (some ⟨g,0,none⟩),.int .i64 (d:Nat)] w (MadeT c g 1 E (M+E) w))
  (HB:0<d→∀ (n M:Nat) (w:World),CurAt w c→GenAt c g M w→n≤2→M+30*F≤100000→Calls Tryz.prog 94 #[.pointer (some ⟨c,0,none⟩),.pointer (some ⟨g,0,none⟩),.int .i64 (n:Nat),.int .i64 ((d:Int) - 1)] w (MadeT c g 0 (2*F) (M+2*F) w))
  (M:Nat) (w:World) (h:CurAt w c) (hg:GenAt c g M w) (hM:M+20*E≤100000) :
  Calls Tryz.prog 131 #[.pointer (some ⟨c,0,none⟩),.pointer (some ⟨g,0,none⟩),.int .i64 (d:Nat)] w (MadeT c g 1 E (M+E) w):=by
 have HR0:Hid (Roll2 c g M w w):=Roll2.refl h hg
 have HBw:Hid (∀ n w',1≤n∧n≤9223372036854775807→CurAt w' c→Calls Tryz.prog 53 #[.pointer (some ⟨c,0,none⟩),.int .i64 n] w' (Rolls c 0 n w')):=fun n w' hn hR=>d_l1Below c n w' hR hn
 have HOn:Hid (∀ n w',1≤n∧n≤9223372036854775807→CurAt w' c→Calls Tryz.prog 60 #[.pointer (some ⟨c,0,none⟩),.int .i64 n] w' (RollsB c w')):=fun n w' hn hR=>d_l1Once c n w' hR hn
 have HL:=Lib.hid HL
 have HB:=Lib.hid HB
 have hcl:=h.lt
 have hgl:=hg.lt
 have hcg':c≠g:=by omega
 clear h hg
 go_enter Tryz.func131,Tryz.ntmps131
 go_wp2_with fail
 refine (HBw.out 14 w (by omega) HR0.out.cur).mono ?_
 rintro e w1 ⟨k,rfl,h1,h2,hR1⟩
 have HR1:Hid (Roll2 c g M w w1):=HR0.out.roll hR1 hcg'
 clear hR1 HR0
 obtain ⟨aC,nC,cC,aP,nP,cP,aS,nS,cS,aL,nL,cL,m,c0,c1,c2,c3,c4,_,_,_,HV⟩:=HR1.out.gen.op
 by_cases hk0:k=0
 ·subst hk0
  go_wp2_with fail
  refine (d_l2GenWhole c _ _ _ _ _ m M _ HR1.out.cur HV.out (fun b hb=>hb.1.1)).mono ?_
  rintro e w2 ⟨v2,l2,rfl,hO2,hl2,hR2⟩
  obtain ⟨a2,n2,e2,rfl⟩:=hO2.form
  have hgc:¬ g=c:=by omega
  have d2:=hR2.tf.cell (a:=⟨g,2,none⟩) hgc c2
  replace HV:=Lib.hid (HV.out.step (hR2.tf.keep (fun b hb e=>hb.1.1 e)))
  have HR2:Hid (Roll2 c g M w w2):=HR1.out.roll hR2 hcg'
  have HO2:=Lib.hid (hO2.base HR1.out.tf.size)
  clear hO2 hR2 HR1 c0 c1 c2 c3 c4
  go_wp2_with fail
  refine (d_l2New2 c g M w2 HR2.out.cur HR2.out.gen hcg (by omega)).mono ?_
  rintro e w3 ⟨s,rfl,hs,hR3,hc3⟩
  have hsm:s.size≤maxLen:=by unfold maxLen;omega
  replace d2:=hc3 _ d2
  have q2:(w3.alloc (.cells #[] 9)).cell? ⟨g,2,none⟩=some (.slice aS nS cS):=Ext.cell ((Ext.refl w3).alloc _) d2
  obtain ⟨ss,hss,hsl⟩:=HV.out.scope
  have hss3:=str_step hss (hR3.tf.keep (fun b hb e=>by
   rcases e with e | e
   ·exact hb.1.1 e
   ·exact hb.1.2 e))
  have HO3:=Lib.hid (HO2.out.tf hR3.tf (fun b hb=>by rcases hb with hb | hb<;>omega))
  obtain ⟨w4,v4,w5,a5,n5,c5,st⟩:=scope_step2 (HR2.out.trans hR3) hcg hss3 hsl (by omega) s hsm
  obtain ⟨⟨aX,nX,cX,f2⟩,g2⟩:=And.intro st.cell st.fro
  have HA1:=Lib.hid st.r1
  have HA2:=Lib.hid st.r2
  have HR6:=Lib.hid st.roll
  have HO6:=Lib.hid (HO3.out.tf st.tf (fun b hb=>by have e:b=g:=hb;omega))
  generalize hw6:w5.setCell ⟨g,2,none⟩ (.slice a5 n5 c5)=w6 at HR6 HO6
  clear HV hss hss3 hR3 hc3 st HO2 HR2 HO3
  go_wp2_with (at_builtin;first
   | (refine dst_is 37 rfl ?_;refine Lib.wpList_append_run _ rfl _ _ _ _ rfl _ _ rfl rfl _ _ HA1.out ?_)
   | (refine dst_is 40 rfl ?_;refine Lib.wpList_append_run _ rfl _ _ _ _ rfl _ _ rfl rfl _ _ HA2.out ?_))
  go_ret
  exact (MadeT.one ⟨⟨1,s,l2,[],0,0⟩,a2,n2,e2,none,0,0⟩ HR6.out (SOkN.e1 HO6.out (by omega) (i64s 1 (by omega)) (i64s 0 (by omega)) (i64s 0 (by omega)) hsm)).mono (Nat.le_refl _) hE (Nat.add_le_add_left hE _)
 by_cases hk1:k=1
 ·subst hk1
  go_wp2_with fail
  refine (d_l2GenWhole c _ _ _ _ _ m M _ HR1.out.cur HV.out (fun b hb=>hb.1.1)).mono ?_
  rintro e w2 ⟨v2,l2,rfl,hO2,hl2,hR2⟩
  obtain ⟨a2,n2,e2,rfl⟩:=hO2.form
  have hgc:¬ g=c:=by omega
  have d2:=hR2.tf.cell (a:=⟨g,2,none⟩) hgc c2
  replace HV:=Lib.hid (HV.out.step (hR2.tf.keep (fun b hb e=>hb.1.1 e)))
  have HR2:Hid (Roll2 c g M w w2):=HR1.out.roll hR2 hcg'
  have HO2:=Lib.hid (hO2.base HR1.out.tf.size)
  clear hO2 hR2 HR1 c0 c1 c2 c3 c4
  go_wp2_with fail
  refine (d_l2New2 c g M w2 HR2.out.cur HR2.out.gen hcg (by omega)).mono ?_
  rintro e w3 ⟨s,rfl,hs,hR3,hc3⟩
  have hsm:s.size≤maxLen:=by unfold maxLen;omega
  replace d2:=hc3 _ d2
  have q2:(w3.alloc (.cells #[] 9)).cell? ⟨g,2,none⟩=some (.slice aS nS cS):=Ext.cell ((Ext.refl w3).alloc _) d2
  obtain ⟨ss,hss,hsl⟩:=HV.out.scope
  have hss3:=str_step hss (hR3.tf.keep (fun b hb e=>by
   rcases e with e | e
   ·exact hb.1.1 e
   ·exact hb.1.2 e))
  have HO3:=Lib.hid (HO2.out.tf hR3.tf (fun b hb=>by rcases hb with hb | hb<;>omega))
  obtain ⟨w4,v4,w5,a5,n5,c5,st⟩:=scope_step2 (HR2.out.trans hR3) hcg hss3 hsl (by omega) s hsm
  obtain ⟨⟨aX,nX,cX,f2⟩,g2⟩:=And.intro st.cell st.fro
  have HA1:=Lib.hid st.r1
  have HA2:=Lib.hid st.r2
  have HR6:=Lib.hid st.roll
  have HO6:=Lib.hid (HO3.out.tf st.tf (fun b hb=>by have e:b=g:=hb;omega))
  generalize hw6:w5.setCell ⟨g,2,none⟩ (.slice a5 n5 c5)=w6 at HR6 HO6
  clear HV hss hss3 hR3 hc3 st HO2 HR2 HO3
  go_wp2_with (at_builtin;first
   | (refine dst_is 37 rfl ?_;refine Lib.wpList_append_run _ rfl _ _ _ _ rfl _ _ rfl rfl _ _ HA1.out ?_)
   | (refine dst_is 40 rfl ?_;refine Lib.wpList_append_run _ rfl _ _ _ _ rfl _ _ rfl rfl _ _ HA2.out ?_))
  go_ret
  exact (MadeT.one ⟨⟨1,s,l2,[],0,0⟩,a2,n2,e2,none,0,0⟩ HR6.out (SOkN.e1 HO6.out (by omega) (i64s 1 (by omega)) (i64s 0 (by omega)) (i64s 0 (by omega)) hsm)).mono (Nat.le_refl _) hE (Nat.add_le_add_left hE _)
 by_cases hk2:k=2
 ·subst hk2
  go_wp2_with fail
  refine (d_l2GenSet c g M _ HR1.out.cur HR1.out.gen hcg).mono ?_
  rintro e w2 ⟨v2,l2,rfl,hO2,hlo,hhi,hR2⟩
  have HR2:Hid (Roll2 c g M w w2):=HR1.out.trans hR2
  have HO2:=Lib.hid (hO2.base HR1.out.tf.size)
  clear hO2 hR2
  go_wp2
  go_ret
  exact ⟨v2,l2,rfl,HO2.out,hlo,by omega,HR2.out.more (Nat.le_add_right _ _)⟩
 by_cases hk3:k=3
 ·subst hk3
  go_wp2_with fail
  refine (d_l2GenSet c g M _ HR1.out.cur HR1.out.gen hcg).mono ?_
  rintro e w2 ⟨v2,l2,rfl,hO2,hlo,hhi,hR2⟩
  have HR2:Hid (Roll2 c g M w w2):=HR1.out.trans hR2
  have HO2:=Lib.hid (hO2.base HR1.out.tf.size)
  clear hO2 hR2
  go_wp2
  go_ret
  exact ⟨v2,l2,rfl,HO2.out,hlo,by omega,HR2.out.more (Nat.le_add_right _ _)⟩
 by_cases hk4:k=4
 ·subst hk4
  have HE2:Hid (Calls Tryz.prog 132 #[.pointer (some ⟨c,0,none⟩),.agg #[.slice aC nC cC,.slice aP nP cP,.slice aS nS cS,.slice aL nL cL,.int .i64 (m:Nat)],.int .i64 2] w1 (MadeE c 64 w1)):=d_l2GenExpr c 2 _ _ _ _ _ m M w1 (by omega) HR1.out.cur HV.out (fun b hb=>hb.1.1)
  go_wp2_with fail
  refine HE2.out.mono ?_
  rintro e w2 ⟨v2,l2,rfl,hO2,hl2,hR2⟩
  have hgc:¬ g=c:=by omega
  replace c0:=hR2.tf.cell (a:=⟨g,0,none⟩) hgc c0
  replace c1:=hR2.tf.cell (a:=⟨g,1,none⟩) hgc c1
  replace c2:=hR2.tf.cell (a:=⟨g,2,none⟩) hgc c2
  replace c3:=hR2.tf.cell (a:=⟨g,3,none⟩) hgc c3
  replace c4:=hR2.tf.cell (a:=⟨g,4,none⟩) hgc c4
  replace HV:=Lib.hid (HV.out.step (hR2.tf.keep (fun b hb e=>hb.1.1 e)))
  have HR2:Hid (Roll2 c g M w w2):=HR1.out.roll hR2 hcg'
  have HJ:=Lib.hid (d_join_box c w2 v2 l2 ⟨1,7,⟨#[]⟩⟩ ⟨7,13,⟨#[]⟩⟩ (hO2.sl (fun _ _=>trivial)) ⟨by unfold I64;simp,by unfold I64;simp,noName⟩ ⟨by unfold I64;simp,by unfold I64;simp,noName⟩ (by omega))
  clear hR2 hO2 HR1 HE2
  go_wp2_with fail
  refine HJ.out.mono ?_
  rintro e w3 ⟨v3,rfl,hO3,hX3⟩
  replace c0:=hX3.cell c0
  replace c1:=hX3.cell c1
  replace c2:=hX3.cell c2
  replace c3:=hX3.cell c3
  replace c4:=hX3.cell c4
  replace HV:=Lib.hid (HV.out.step (hX3.keep _))
  have HR3:Hid (Roll2 c g M w w3):=HR2.out.ext hX3
  have HO3:=Lib.hid (hO3.base HR2.out.tf.size)
  obtain ⟨l3,hl3⟩:∃ l3,l3=l2 ++ [(⟨1,7,⟨#[]⟩⟩:PNode)] ++ [(⟨7,13,⟨#[]⟩⟩:PNode)]:=⟨_,rfl⟩
  have hl3':l3.length≤66:=by rw [hl3];simp;omega
  rw [← hl3] at HO3
  clear hO3 hX3 HJ hl3
  go_wp2_with fail
  refine (d_l2GenWhole c _ _ _ _ _ m M _ HR3.out.cur HV.out (fun b hb=>hb.1.1)).mono ?_
  rintro e w4 ⟨v4,l4,rfl,hO4,hl4,hR4⟩
  obtain ⟨a4,n4,e4,rfl⟩:=hO4.form
  obtain ⟨a3,n3,e3,rfl⟩:=HO3.out.form
  have HR4:Hid (Roll2 c g M w w4):=HR3.out.roll hR4 hcg'
  have HO4:=Lib.hid (hO4.base HR3.out.tf.size)
  have HO3':=Lib.hid (HO3.out.tf hR4.tf (fun b hb=>by have e:b=c:=hb;omega))
  clear hO4 hR4 HO3
  go_wp2
  go_ret
  exact (MadeT.one ⟨⟨3,⟨#[97]⟩,l3,l4,0,0⟩,a3,n3,e3,a4,n4,e4⟩ HR4.out ⟨HO3'.out.sl (fun _ h=>h),HO4.out.sl (fun _ h=>h),i64s 3 (by omega),i64s 0 (by omega),i64s 0 (by omega),by simp [ByteArray.size,maxLen],(show l3.length≤5000 by omega),(show l4.length≤5000 by omega)⟩).mono (Nat.le_refl _) hE (Nat.le_add_right _ _)
 by_cases hk5:k=5
 ·subst hk5
  have HE2:Hid (Calls Tryz.prog 132 #[.pointer (some ⟨c,0,none⟩),.agg #[.slice aC nC cC,.slice aP nP cP,.slice aS nS cS,.slice aL nL cL,.int .i64 (m:Nat)],.int .i64 2] w1 (MadeE c 64 w1)):=d_l2GenExpr c 2 _ _ _ _ _ m M w1 (by omega) HR1.out.cur HV.out (fun b hb=>hb.1.1)
  go_wp2_with fail
  refine HE2.out.mono ?_
  rintro e w2 ⟨v2,l2,rfl,hO2,hl2,hR2⟩
  have hgc:¬ g=c:=by omega
  replace c0:=hR2.tf.cell (a:=⟨g,0,none⟩) hgc c0
  replace c1:=hR2.tf.cell (a:=⟨g,1,none⟩) hgc c1
  replace c2:=hR2.tf.cell (a:=⟨g,2,none⟩) hgc c2
  replace c3:=hR2.tf.cell (a:=⟨g,3,none⟩) hgc c3
  replace c4:=hR2.tf.cell (a:=⟨g,4,none⟩) hgc c4
  replace HV:=Lib.hid (HV.out.step (hR2.tf.keep (fun b hb e=>hb.1.1 e)))
  have HR2:Hid (Roll2 c g M w w2):=HR1.out.roll hR2 hcg'
  have HJ:=Lib.hid (d_join_box c w2 v2 l2 ⟨1,7,⟨#[]⟩⟩ ⟨7,13,⟨#[]⟩⟩ (hO2.sl (fun _ _=>trivial)) ⟨by unfold I64;simp,by unfold I64;simp,noName⟩ ⟨by unfold I64;simp,by unfold I64;simp,noName⟩ (by omega))
  clear hR2 hO2 HR1 HE2
  go_wp2_with fail
  refine HJ.out.mono ?_
  rintro e w3 ⟨v3,rfl,hO3,hX3⟩
  replace c0:=hX3.cell c0
  replace c1:=hX3.cell c1
  replace c2:=hX3.cell c2
  replace c3:=hX3.cell c3
  replace c4:=hX3.cell c4
  replace HV:=Lib.hid (HV.out.step (hX3.keep _))
  have HR3:Hid (Roll2 c g M w w3):=HR2.out.ext hX3
  have HO3:=Lib.hid (hO3.base HR2.out.tf.size)
  obtain ⟨l3,hl3⟩:∃ l3,l3=l2 ++ [(⟨1,7,⟨#[]⟩⟩:PNode)] ++ [(⟨7,13,⟨#[]⟩⟩:PNode)]:=⟨_,rfl⟩
  have hl3':l3.length≤66:=by rw [hl3];simp;omega
  rw [← hl3] at HO3
  clear hO3 hX3 HJ hl3
  go_wp2_with fail
  refine (d_l2GenWhole c _ _ _ _ _ m M _ HR3.out.cur HV.out (fun b hb=>hb.1.1)).mono ?_
  rintro e w4 ⟨v4,l4,rfl,hO4,hl4,hR4⟩
  obtain ⟨a4,n4,e4,rfl⟩:=hO4.form
  obtain ⟨a3,n3,e3,rfl⟩:=HO3.out.form
  have HR4:Hid (Roll2 c g M w w4):=HR3.out.roll hR4 hcg'
  have HO4:=Lib.hid (hO4.base HR3.out.tf.size)
  have HO3':=Lib.hid (HO3.out.tf hR4.tf (fun b hb=>by have e:b=c:=hb;omega))
  clear hO4 hR4 HO3
  go_wp2
  go_ret
  exact (MadeT.one ⟨⟨3,⟨#[97]⟩,l3,l4,0,0⟩,a3,n3,e3,a4,n4,e4⟩ HR4.out ⟨HO3'.out.sl (fun _ h=>h),HO4.out.sl (fun _ h=>h),i64s 3 (by omega),i64s 0 (by omega),i64s 0 (by omega),by simp [ByteArray.size,maxLen],(show l3.length≤5000 by omega),(show l4.length≤5000 by omega)⟩).mono (Nat.le_refl _) hE (Nat.le_add_right _ _)
 by_cases hk6:k=6
 ·subst hk6
  go_wp2_with fail
  refine (d_l2GenWhole c _ _ _ _ _ m M _ HR1.out.cur HV.out (fun b hb=>hb.1.1)).mono ?_
  rintro e w9 ⟨v9,l9,rfl,hO9,hl9,hR9⟩
  obtain ⟨a9,n9,c9,rfl⟩:=hO9.form
  have HR9:Hid (Roll2 c g M w w9):=HR1.out.roll hR9 hcg'
  have HO9:=Lib.hid (hO9.base HR1.out.tf.size)
  clear hO9 hR9
  go_wp2
  go_ret
  exact (MadeT.one ⟨⟨7,⟨#[]⟩,l9,[],0,0⟩,a9,n9,c9,none,0,0⟩ HR9.out (SOkN.e1 HO9.out (by omega) (i64s 7 (by omega)) (i64s 0 (by omega)) (i64s 0 (by omega)) noName)).mono (Nat.le_refl _) hE (Nat.le_add_right _ _)
 by_cases hk7:k=7
 ·subst hk7
  go_wp2_with fail
  refine (d_l2GenWhole c _ _ _ _ _ m M _ HR1.out.cur HV.out (fun b hb=>hb.1.1)).mono ?_
  rintro e w9 ⟨v9,l9,rfl,hO9,hl9,hR9⟩
  obtain ⟨a9,n9,c9,rfl⟩:=hO9.form
  have HR9:Hid (Roll2 c g M w w9):=HR1.out.roll hR9 hcg'
  have HO9:=Lib.hid (hO9.base HR1.out.tf.size)
  clear hO9 hR9
  go_wp2
  go_ret
  exact (MadeT.one ⟨⟨7,⟨#[]⟩,l9,[],0,0⟩,a9,n9,c9,none,0,0⟩ HR9.out (SOkN.e1 HO9.out (by omega) (i64s 7 (by omega)) (i64s 0 (by omega)) (i64s 0 (by omega)) noName)).mono (Nat.le_refl _) hE (Nat.le_add_right _ _)
 by_cases hk8:k=8
 ·subst hk8
  go_wp2_with fail
  refine (HOn.out 3 w1 (by omega) HR1.out.cur).mono ?_
  rintro e w2 ⟨b2,rfl,hR2⟩
  replace HV:=Lib.hid (HV.out.step (hR2.tf.keep (fun b hb e=>hb.1.1 e)))
  have hgc:¬ g=c:=by omega
  replace c0:=hR2.tf.cell (a:=⟨g,0,none⟩) hgc c0
  replace c1:=hR2.tf.cell (a:=⟨g,1,none⟩) hgc c1
  replace c2:=hR2.tf.cell (a:=⟨g,2,none⟩) hgc c2
  replace c3:=hR2.tf.cell (a:=⟨g,3,none⟩) hgc c3
  replace c4:=hR2.tf.cell (a:=⟨g,4,none⟩) hgc c4
  have HR2:Hid (Roll2 c g M w w2):=HR1.out.roll hR2 hcg'
  clear hR2 HR1
  have HR1:=HR2
  cases b2 with
  | true =>
    go_wp2_with fail
    refine (d_l2GenWhole c _ _ _ _ _ m M _ HR2.out.cur HV.out (fun b hb=>hb.1.1)).mono ?_
    rintro e w9 ⟨v9,l9,rfl,hO9,hl9,hR9⟩
    obtain ⟨a9,n9,c9,rfl⟩:=hO9.form
    have HR9:Hid (Roll2 c g M w w9):=HR2.out.roll hR9 hcg'
    have HO9:=Lib.hid (hO9.base HR2.out.tf.size)
    clear hO9 hR9
    go_wp2
    go_ret
    exact (MadeT.one ⟨⟨6,⟨#[]⟩,l9,[],0,0⟩,a9,n9,c9,none,0,0⟩ HR9.out (SOkN.e1 HO9.out (by omega) (i64s 6 (by omega)) (i64s 0 (by omega)) (i64s 0 (by omega)) noName)).mono (Nat.le_refl _) hE (Nat.le_add_right _ _)
  | false =>
    go_wp2_with fail
    refine (d_l2GenLeaf _ c _ _ _ _ m M _ HR1.out.cur HV.out (fun b hb=>hb.1.1)).mono ?_
    rintro e w9 ⟨v9,l9,rfl,hO9,hl9,hR9⟩
    obtain ⟨a9,n9,c9,rfl⟩:=hO9.form
    have HR9:Hid (Roll2 c g M w w9):=HR1.out.roll hR9 hcg'
    have HO9:=Lib.hid (hO9.base HR1.out.tf.size)
    clear hO9 hR9
    go_wp2
    go_ret
    exact (MadeT.one ⟨⟨7,⟨#[]⟩,l9,[],0,0⟩,a9,n9,c9,none,0,0⟩ HR9.out (SOkN.e1 HO9.out (by omega) (i64s 7 (by omega)) (i64s 0 (by omega)) (i64s 0 (by omega)) noName)).mono (Nat.le_refl _) hE (Nat.le_add_right _ _)
 by_cases hk9:k=9
 ·subst hk9
  by_cases hn0:0<nC
  ·have hnC:nC≤8:=by
    obtain ⟨_,_,h1,_,_,h8,_⟩:=HV.out.calls
    obtain ⟨_,_,_,e1,l1,_⟩:=Sl.op h1
    cases e1
    have:=l1.out
    omega
   go_wp2_with fail
   refine (HBw.out (nC:Nat) w1 (by omega) HR1.out.cur).mono ?_
   rintro e w2 ⟨x,rfl,h3,h4,hR2⟩
   obtain ⟨f,rfl⟩:∃ f:Nat,x=f:=⟨x.toNat,by omega⟩
   have hgc:¬ g=c:=by omega
   replace c0:=hR2.tf.cell (a:=⟨g,0,none⟩) hgc c0
   replace c1:=hR2.tf.cell (a:=⟨g,1,none⟩) hgc c1
   replace c2:=hR2.tf.cell (a:=⟨g,2,none⟩) hgc c2
   replace c3:=hR2.tf.cell (a:=⟨g,3,none⟩) hgc c3
   replace c4:=hR2.tf.cell (a:=⟨g,4,none⟩) hgc c4
   replace HV:=Lib.hid (HV.out.step (hR2.tf.keep (fun b hb e=>hb.1.1 e)))
   have HR2:Hid (Roll2 c g M w w2):=HR1.out.roll hR2 hcg'
   clear hR2
   obtain ⟨bC,oC,bP,oP,nm,p,rfl,rfl,kC,kP,rfl,g0,hnm,g1,hp⟩:=HV.out.at (f:=f) (by omega)
   have Hcell:Hid (∀ w',Roll c w2 w'→w'.cell? ⟨g,0,none⟩=some (.slice (some ⟨bC,oC,none⟩) nP cC)∧w'.cell? ⟨g,1,none⟩=some (.slice (some ⟨bP,oP,none⟩) nP cP)∧w'.cell? ⟨g,2,none⟩=some (.slice aS nS cS)∧w'.cell? ⟨g,3,none⟩=some (.slice aL nL cL)∧w'.cell? ⟨g,4,none⟩=some (.int .i64 (m:Nat)) ∧
     w'.cell? ⟨bC,oC+f,none⟩=some (.string nm)∧w'.cell? ⟨bP,oP+f,none⟩=some (.int .i64 (p:Nat))):=fun w' hR =>
    ⟨hR.tf.cell (a:=⟨g,0,none⟩) hgc c0,hR.tf.cell (a:=⟨g,1,none⟩) hgc c1,hR.tf.cell (a:=⟨g,2,none⟩) hgc c2,hR.tf.cell (a:=⟨g,3,none⟩) hgc c3,hR.tf.cell (a:=⟨g,4,none⟩) hgc c4,
     hR.tf.cell (a:=⟨bC,oC+f,none⟩) kC.1.1 g0,hR.tf.cell (a:=⟨bP,oP+f,none⟩) kP.1.1 g1⟩
   have HE1:Hid (∀ w',Roll c w2 w'→Calls Tryz.prog 132 #[.pointer (some ⟨c,0,none⟩),.agg #[.slice (some ⟨bC,oC,none⟩) nP cC,.slice (some ⟨bP,oP,none⟩) nP cP,.slice aS nS cS,.slice aL nL cL,.int .i64 (m:Nat)],.int .i64 1] w' (MadeE c 8 w')):=fun w' hR =>
    d_l2GenExpr c 1 _ _ _ _ _ m M w' (by omega) hR.cur (HV.out.step (hR.tf.keep (fun b hb e=>hb.1.1 e))) (fun b hb=>hb.1.1)
   have hcl2:c<w2.heap.size:=HR2.out.cur.lt
   have O3:=OwnE.new w2 w2.heap.size (Nat.le_refl _)
   have R3:Roll c w2 (w2.alloc (.cells #[] 104)):=(Roll.refl HR2.out.cur).ext ((Ext.refl _).alloc _)
   have HO3:=Lib.hid O3
   have HR3:=Lib.hid R3
   have Hnm:=Lib.hid hnm
   clear g0 g1 O3 R3 c0 c1 c2 c3 c4 hnm kC kP HV HR1
   go_wp2_with fail
   go_loopw [12,13] (fun v12 v13 wr=>∃ (q:Nat) (l:List PNode),q≤p∧l.length≤q*8∧v13=.int .i64 q∧Hid (OwnE w2.heap.size wr v12 l)∧Hid (Roll c w2 wr)) (fun _ v13 _=>p - (intOf v13).toNat)
   case atStart=>exact ⟨0,[],Nat.zero_le _,Nat.zero_le _,rfl,HO3.out,HR3.out⟩
   case round =>
    clear HO3 HR3
    obtain ⟨q,l,hq,hl,rfl,HO,HRr⟩:=hrel
    obtain ⟨c0,c1,c2,c3,c4,g0,g1⟩:=Hcell.out _ HRr.out
    have z0:(0:Int)≤(f:Int):=by omega
    by_cases hlt:q<p
    ·go_wp2_with fail
     refine (HE1.out wr HRr.out).mono ?_
     rintro e w5 ⟨v,l2,rfl,hO2,hl2,hR5⟩
     have hO5:OwnE w2.heap.size w5 _ l:=HO.out.tf hR5.tf (fun b hb=>by have e:b=c:=hb;omega)
     obtain ⟨v',w',r,O',g5,_⟩:=OwnE.app (ty:=100) hO5 (hO2.sl (K:=AnyB) (fun _ _=>trivial)) (by omega) (HRr.out.trans hR5).tf.size
     have HR':Hid (Roll c w2 w'):=(HRr.out.trans hR5).grown (fun b hb=>(own_ge hO5.own b hb).1) (Nat.le_refl _) hcl2 g5
     have HO':=Lib.hid O'
     have Hr:=Lib.hid r
     have hlen:(l ++ l2).length≤(q+1)*8:=by rw [List.length_append];omega
     clear hO2 hR5 hO5 r O' g5
     go_wp2_with (at_builtin;refine Lib.wpList_append_run _ rfl _ _ _ _ rfl _ _ rfl rfl _ _ Hr.out ?_)
     go_roundw
     case rel=>exact ⟨q+1,l ++ l2,by omega,hlen,by go_num,HO'.out,HR'.out⟩
     case measure=>simp [intOf];omega
    ·obtain rfl:q=p:=by omega
     go_wp2_with fail
     have X1:Ext wr wr.drew:=(Ext.refl wr).drew
     refine start_ (n:=21) (S:=fun w'=>w'.cell? ⟨g,0,none⟩=some (.slice (some ⟨bC,oC,none⟩) nP cC)∧w'.cell? ⟨g,1,none⟩=some (.slice (some ⟨bP,oP,none⟩) nP cP)∧w'.cell? ⟨bC,oC+f,none⟩=some (.string nm)∧w'.cell? ⟨bP,oP+f,none⟩=some (.int .i64 (q:Nat))) (ds:=[]) #[false,false,false,false,false,false,false,false,false,false,false,false,false,false,false,false,false,false,false,false,false] (by kernel_rfl) rfl rfl ?hS (fun hHeld=>?_)
     case hS=>exact ⟨X1.cell c0,X1.cell c1,X1.cell g0,X1.cell g1⟩
     refine pu_ 0 (some 137) #[true,false,false,false,false,false,false,false,false,false,false,false,false,false,false,false,false,false,false,false,false] rfl rfl (by kernel_rfl) (fun _ _ _ h=>h) (by rfl) (by intro w';go_simp;with_reducible rfl) (by simp only [pt_];rfl) ?_
     refine pu_ 1 (some 138) #[true,true,false,false,false,false,false,false,false,false,false,false,false,false,false,false,false,false,false,false,false] rfl rfl (by kernel_rfl) (fun _ _ _ h=>h) (by rfl) (by intro w';go_simp;with_reducible rfl) (by simp only [pt_];rfl) ?_
     refine pu_ 2 (some 139) #[true,true,true,false,false,false,false,false,false,false,false,false,false,false,false,false,false,false,false,false,false] rfl rfl (by kernel_rfl) (fun _ _ _ h=>h) (by rfl) (by intro w';go_simp;with_reducible rfl) (by simp only [pt_];rfl) ?_
     refine pu_ 3 (some 140) #[true,true,true,true,false,false,false,false,false,false,false,false,false,false,false,false,false,false,false,false,false] rfl rfl (by kernel_rfl) (fun _ _ _ h=>h) (by rfl) (by intro w';go_simp;with_reducible rfl) (by simp only [pt_];rfl) ?_
     refine ta_ 4 (some 141) #[true,true,true,true,true,false,false,false,false,false,false,false,false,false,false,false,false,false,false,false,false] rfl rfl (by kernel_rfl) (fun _ _ _ h=>h) hHeld (by rfl) (by rintro w' ⟨s0,s1,s2,s3⟩;go_simp;with_reducible rfl) (by simp only [pt_];rfl) ?_
     refine pu_ 5 (some 142) #[true,true,true,true,true,true,false,false,false,false,false,false,false,false,false,false,false,false,false,false,false] rfl rfl (by kernel_rfl) (fun _ _ _ h=>h) (by rfl) (by intro w';go_simp;with_reducible rfl) (by simp only [pt_];rfl) ?_
     refine pu_ 6 (some 143) #[true,true,true,true,true,true,true,false,false,false,false,false,false,false,false,false,false,false,false,false,false] rfl rfl (by kernel_rfl) (fun _ _ _ h=>h) (by rfl) (by intro w';go_simp;with_reducible rfl) (by simp only [pt_];rfl) ?_
     refine ta_ 7 (some 144) #[true,true,true,true,true,true,true,true,false,false,false,false,false,false,false,false,false,false,false,false,false] rfl rfl (by kernel_rfl) (fun _ _ _ h=>h) hHeld (by rfl) (by rintro w' ⟨s0,s1,s2,s3⟩;go_simp;with_reducible rfl) (by simp only [pt_];rfl) ?_
     refine pu_ 8 (some 145) #[true,true,true,true,true,true,true,true,true,false,false,false,false,false,false,false,false,false,false,false,false] rfl rfl (by kernel_rfl) (fun _ _ _ h=>h) (by rfl) (by intro w';go_simp;with_reducible rfl) (by simp only [pt_];rfl) ?_
     refine pu_ 9 (some 146) #[true,true,true,true,true,true,true,true,true,true,false,false,false,false,false,false,false,false,false,false,false] rfl rfl (by kernel_rfl) (fun _ _ _ h=>h) (by rfl) (by intro w';go_simp;with_reducible rfl) (by simp only [pt_];rfl) ?_
     refine pu_ 10 (some 147) #[true,true,true,true,true,true,true,true,true,true,true,false,false,false,false,false,false,false,false,false,false] rfl rfl (by kernel_rfl) (fun _ _ _ h=>h) (by rfl) (by intro w';go_simp;with_reducible rfl) (by simp only [pt_];rfl) ?_
     refine ta_ 11 (some 148) #[true,true,true,true,true,true,true,true,true,true,true,true,false,false,false,false,false,false,false,false,false] rfl rfl (by kernel_rfl) (fun _ _ _ h=>h) hHeld (by rfl) (by rintro w' ⟨s0,s1,s2,s3⟩;go_simp;with_reducible rfl) (by simp only [pt_];rfl) ?_
     refine pu_ 12 (some 149) #[true,true,true,true,true,true,true,true,true,true,true,true,true,false,false,false,false,false,false,false,false] rfl rfl (by kernel_rfl) (fun _ _ _ h=>h) (by rfl) (by intro w';go_simp;with_reducible rfl) (by simp only [pt_];rfl) ?_
     refine pu_ 13 (some 150) #[true,true,true,true,true,true,true,true,true,true,true,true,true,true,false,false,false,false,false,false,false] rfl rfl (by kernel_rfl) (fun _ _ _ h=>h) (by rfl) (by intro w';go_simp;with_reducible rfl) (by simp only [pt_];rfl) ?_
     refine ta_ 14 (some 151) #[true,true,true,true,true,true,true,true,true,true,true,true,true,true,true,false,false,false,false,false,false] rfl rfl (by kernel_rfl) (fun _ _ _ h=>h) hHeld (by rfl) (by rintro w' ⟨s0,s1,s2,s3⟩;go_simp;with_reducible rfl) (by simp only [pt_];rfl) ?_
     refine pu_ 15 (some 152) #[true,true,true,true,true,true,true,true,true,true,true,true,true,true,true,true,false,false,false,false,false] rfl rfl (by kernel_rfl) (fun _ _ _ h=>h) (by rfl) (by intro w';go_simp;with_reducible rfl) (by simp only [pt_];rfl) ?_
     generalize wr.drew=wd at X1 hHeld ⊢
     obtain ⟨v6,w6,r6,O6,g6⟩:=OwnE.app1 (ty:=100) (HO.out.ext X1) ⟨4,(q:Nat),nm⟩ ⟨by unfold I64;simp,by unfold I64;simp only;omega,Hnm.out⟩ (by omega) (HRr.out.ext X1).tf.size
     have R6:Roll c w2 w6:=((HRr.out.ext X1).ext ((Ext.refl _).alloc _)).grown (fun b hb=>(own_ge HO.out.own b hb).1) (Nat.le_refl _) hcl2 g6
     obtain ⟨e0,e1,e2,e3⟩:=hHeld
     have X2:Ext wd (wd.alloc (.cells #[.int .i64 4,.int .i64 (q:Nat),.string nm] 104)):=(Ext.refl wd).alloc _
     refine one_ (i:=16) (N:=some 153) #[true,true,true,true,true,true,true,true,true,true,true,true,true,true,true,true,true,false,false,false,false] rfl rfl (by kernel_rfl) (by decide) (fun K hK=>?_)
     refine value_ (by rfl) rfl (by go_simp;constructor<;>rfl) ?_
     refine hK.out _ _ ⟨X2.cell e0,X2.cell e1,X2.cell e2,X2.cell e3⟩ (fun hHeld=>?_)
     clear hK K
     refine norm_ (by show Act.put _ (some 153) _=_;simp only [pt_];rfl) ?_
     obtain ⟨f0,f1,_,_,_,f2,f3⟩:=Hcell.out _ R6
     obtain ⟨a6,n6,e6,rfl⟩:=O6.form
     have HR7:Hid (Roll2 c g M w w6):=HR2.out.roll R6 hcg'
     have hx6:=SOkN.e1 (N:=5000) (kind:=8) (thn:=0) (els:=0) (name:=⟨#[]⟩) (O6.base HR2.out.tf.size) (by simp;omega) (i64s 8 (by omega)) (i64s 0 (by omega)) (i64s 0 (by omega)) noName
     have hfin:=(MadeT.one _ HR7.out hx6).mono (Nat.le_refl _) hE (Nat.le_add_right M E)
     have X7:Ext w6 (w6.alloc (.cells #[.int .i64 8,.string ⟨#[]⟩,.slice a6 n6 e6,.slice none 0 0,.int .i64 0,.int .i64 0] 102)):=(Ext.refl w6).alloc _
     refine one_ (i:=17) (N:=some 154) #[true,true,true,true,true,true,true,true,true,true,true,true,true,true,true,true,true,true,false,false,false] rfl rfl (by kernel_rfl) (by decide) (fun K hK=>?_)
     refine value_ (w1:=w6) (v:=.slice a6 n6 e6) (by rfl) rfl (exec_append rfl r6) ?_
     refine hK.out _ _ ⟨f0,f1,f2,f3⟩ (fun hHeld=>?_)
     clear hK K
     refine norm_ (by show Act.put _ (some 154) _=_;simp only [pt_];rfl) ?_
     refine pu_ 18 (some 155) #[true,true,true,true,true,true,true,true,true,true,true,true,true,true,true,true,true,true,true,false,false] rfl rfl (by kernel_rfl) (fun _ _ _ h=>h) (by rfl) (by intro w';go_simp;with_reducible rfl) (by simp only [pt_];rfl) ?_
     refine one_ (i:=19) (N:=some 156) #[true,true,true,true,true,true,true,true,true,true,true,true,true,true,true,true,true,true,true,true,false] rfl rfl (by kernel_rfl) (by decide) (fun K hK=>?_)
     refine value_ (by rfl) rfl (by go_simp;constructor<;>rfl) ?_
     refine hK.out _ _ ⟨X7.cell f0,X7.cell f1,X7.cell f2,X7.cell f3⟩ (fun hHeld=>?_)
     clear hK K
     refine norm_ (by show Act.put _ (some 156) _=_;simp only [pt_];rfl) ?_
     refine pu_ 20 (some 6) #[true,true,true,true,true,true,true,true,true,true,true,true,true,true,true,true,true,true,true,true,true] rfl rfl (by kernel_rfl) (fun _ _ _ h=>h) (by rfl) (by intro w';go_simp;with_reducible rfl) (by simp only [pt_];rfl) ?_
     refine done_ (by kernel_rfl) ?_
     have Hfin:=Lib.hid hfin
     clear O6 R6 r6 g6 hHeld f0 f1 f2 f3 e0 e1 e2 e3 hfin hx6 X7 X2 X1
     go_wp2
     go_ret
     exact Hfin.out
  ·skip
   go_wp2_with fail
   refine (d_l2GenLeaf _ c _ _ _ _ m M _ HR1.out.cur HV.out (fun b hb=>hb.1.1)).mono ?_
   rintro e w9 ⟨v9,l9,rfl,hO9,hl9,hR9⟩
   obtain ⟨a9,n9,c9,rfl⟩:=hO9.form
   have HR9:Hid (Roll2 c g M w w9):=HR1.out.roll hR9 hcg'
   have HO9:=Lib.hid (hO9.base HR1.out.tf.size)
   clear hO9 hR9
   go_wp2
   go_ret
   exact (MadeT.one ⟨⟨7,⟨#[]⟩,l9,[],0,0⟩,a9,n9,c9,none,0,0⟩ HR9.out (SOkN.e1 HO9.out (by omega) (i64s 7 (by omega)) (i64s 0 (by omega)) (i64s 0 (by omega)) noName)).mono (Nat.le_refl _) hE (Nat.le_add_right _ _)
 by_cases hk10:k=10
 ·subst hk10
  by_cases hd0:0<d
  ·go_wp2_with fail
   refine (HL.out hd0 M w1 HR1.out.cur HR1.out.gen hM).mono ?_
   rintro e w2 ⟨v2,l2,rfl,hO2,hlo,hhi,hR2⟩
   have HR2:Hid (Roll2 c g (M+E) w w2):=HR1.out.trans hR2
   have HO2:=Lib.hid (hO2.base HR1.out.tf.size)
   clear hO2 hR2
   go_wp2
   go_ret
   exact ⟨v2,l2,rfl,HO2.out,hlo,hhi,HR2.out⟩
  ·obtain rfl:d=0:=by omega
   go_wp2_with fail
   refine (d_l2GenLeaf _ c _ _ _ _ m M _ HR1.out.cur HV.out (fun b hb=>hb.1.1)).mono ?_
   rintro e w9 ⟨v9,l9,rfl,hO9,hl9,hR9⟩
   obtain ⟨a9,n9,c9,rfl⟩:=hO9.form
   have HR9:Hid (Roll2 c g M w w9):=HR1.out.roll hR9 hcg'
   have HO9:=Lib.hid (hO9.base HR1.out.tf.size)
   clear hO9 hR9
   go_wp2
   go_ret
   exact (MadeT.one ⟨⟨7,⟨#[]⟩,l9,[],0,0⟩,a9,n9,c9,none,0,0⟩ HR9.out (SOkN.e1 HO9.out (by omega) (i64s 7 (by omega)) (i64s 0 (by omega)) (i64s 0 (by omega)) noName)).mono (Nat.le_refl _) hE (Nat.le_add_right _ _)
 by_cases hk11:k=11
 ·subst hk11
  by_cases hd0:0<d
  ·obtain ⟨hFE,hF1⟩:=hF hd0
   go_wp2_with fail
   refine (d_l2GenWhole c _ _ _ _ _ m M _ HR1.out.cur HV.out (fun b hb=>hb.1.1)).mono ?_
   rintro e w2 ⟨v2,l2,rfl,hO2,hl2,hR2⟩
   obtain ⟨a2,n2,e2,rfl⟩:=hO2.form
   have HR2:Hid (Roll2 c g M w w2):=HR1.out.roll hR2 hcg'
   have HO2:=Lib.hid (hO2.base HR1.out.tf.size)
   clear hO2 hR2 HR1 c0 c1 c2 c3 c4 HV
   go_wp2_with fail
   refine (HBw.out 3 w2 (by omega) HR2.out.cur).mono ?_
   rintro e w3 ⟨x,rfl,h3,h4,hR3⟩
   obtain ⟨q,rfl⟩:∃ q:Nat,x=q:=⟨x.toNat,by omega⟩
   have HR3:Hid (Roll2 c g M w w3):=HR2.out.roll hR3 hcg'
   have HO3:=Lib.hid (HO2.out.tf hR3.tf (fun b hb=>by have e:b=c:=hb;omega))
   clear hR3 HR2 HO2
   go_wp2_with fail
   refine (HB.out hd0 q M w3 HR3.out.cur HR3.out.gen (by omega) (by omega)).mono ?_
   rintro e w4 ⟨v4,l4,rfl,hO4,_,hl4,hR4⟩
   have HR4:Hid (Roll2 c g (M+2*F) w w4):=HR3.out.trans hR4
   have HO4:=Lib.hid (HO3.out.tf hR4.tf (fun b hb=>by rcases hb with hb | hb<;>omega))
   have HA4:=Lib.hid (hO4.base HR3.out.tf.size)
   clear hO4 hR4 HO3 HR3
   go_wp2_with fail
   refine (HBw.out 3 w4 (by omega) HR4.out.cur).mono ?_
   rintro e w5 ⟨x,rfl,h5,h6,hR5⟩
   obtain ⟨r,rfl⟩:∃ r:Nat,x=r:=⟨x.toNat,by omega⟩
   have HR5:Hid (Roll2 c g (M+2*F) w w5):=HR4.out.roll hR5 hcg'
   have HO5:=Lib.hid (HO4.out.tf hR5.tf (fun b hb=>by have e:b=c:=hb;omega))
   have HA5:=Lib.hid (HA4.out.tf hR5.tf (fun b hb=>by have e:b=c:=hb;omega))
   clear hR5 HR4 HO4 HA4
   go_wp2_with fail
   refine (HBw.out 2 w5 (by omega) HR5.out.cur).mono ?_
   rintro e w6 ⟨x,rfl,h7,h8,hR6⟩
   have HR6:Hid (Roll2 c g (M+2*F) w w6):=HR5.out.roll hR6 hcg'
   have HO6:=Lib.hid (HO5.out.tf hR6.tf (fun b hb=>by have e:b=c:=hb;omega))
   have HA6:=Lib.hid (HA5.out.tf hR6.tf (fun b hb=>by have e:b=c:=hb;omega))
   clear hR6 HR5 HO5 HA5
   have hx01:x=0∨x=1:=by omega
   rcases hx01 with rfl | rfl
   ·skip
    have HB6:=Lib.hid (HB.out hd0 0 (M+2*F) w6 HR6.out.cur HR6.out.gen (by omega) (by omega))
    rw [Int.natCast_zero] at HB6
    go_wp2_with fail
    refine HB6.out.mono ?_
    rintro e w7 ⟨v7,l7,rfl,hO7,_,hl7,hR7⟩
    have HR7:Hid (Roll2 c g (M+2*F+2*F) w w7):=HR6.out.trans hR7
    have HO7:=Lib.hid (HO6.out.tf hR7.tf (fun b hb=>by rcases hb with hb | hb<;>omega))
    have HA7:=Lib.hid (HA6.out.tf hR7.tf (fun b hb=>by rcases hb with hb | hb<;>omega))
    have HB7:=Lib.hid (hO7.base HR6.out.tf.size)
    clear hO7 hR7 HR6 HO6 HA6 HB6
    obtain ⟨aA,cA,rfl,_,_⟩:=HA7.out.len
    obtain ⟨aB,cB,rfl,_,_⟩:=HB7.out.len
    have O8:=OwnSN.one (N:=5000) (base:=w.heap.size) (w:=w7) ⟨⟨4,⟨#[]⟩,l2,[],(l4.length:Nat),(l7.length:Nat)⟩,a2,n2,e2,none,0,0⟩ HR7.out.tf.size (SOkN.e1 HO7.out (by omega) (i64s 4 (by omega)) (i64s _ (by omega)) (i64s _ (by omega)) noName)
    simp only at O8
    have X8:Ext w7 (w7.alloc (.cells #[.int .i64 4,.string ⟨#[]⟩,.slice a2 n2 e2,.slice none 0 0,.int .i64 (l4.length:Nat),.int .i64 (l7.length:Nat)] 102)):=(Ext.refl w7).alloc _
    have hs8:w7.heap.size<(w7.alloc (.cells #[.int .i64 4,.string ⟨#[]⟩,.slice a2 n2 e2,.slice none 0 0,.int .i64 (l4.length:Nat),.int .i64 (l7.length:Nat)] 102)).heap.size:=by simp
    generalize hw8:w7.alloc (.cells #[.int .i64 4,.string ⟨#[]⟩,.slice a2 n2 e2,.slice none 0 0,.int .i64 (l4.length:Nat),.int .i64 (l7.length:Nat)] 102)=w8 at O8 X8 hs8
    have PA8:=HA7.out.past.tf (Tf.ext (M:=fun _=>False) X8) (fun _ h=>h.elim)
    have PB8:=HB7.out.past.tf (Tf.ext (M:=fun _=>False) X8) (fun _ h=>h.elim)
    have hge8:∀ k,(Value.slice (some ⟨w7.heap.size,0,none⟩) 1 1).ownBlock=some k→w7.heap.size≤k:=fun k hk=>by cases hk;exact Nat.le_refl _
    obtain ⟨v9,w9,r9,O9,g9,t9⟩:=OwnSN.app (ty:=81) O8 PA8.rows PA8.ok (fun b hb _=>⟨hb.1,fun e=>by have:=hge8 b e.symm;omega⟩) (by simp;omega) (Nat.le_trans HR7.out.tf.size X8.size)
    have hge9:=app_ge t9 hge8 X8.size
    have T9:Tf (fun b=>w7.heap.size≤b) w8 w9:=⟨g9.os,g9.tape,g9.output,g9.size,fun k hk hn=>g9.block k hk (fun e=>hn (hge8 k e.symm))⟩
    have hkB:Keep (fun b=>w.heap.size≤b∧b<w7.heap.size) w8 w9:=T9.keep (fun b hb hm=>by have h2:=hb.2;omega)
    have PB9:Past w.heap.size w7.heap.size w9 (.slice aB l7.length cB) l7:=⟨PB8.rows.keep hkB (fun _ _ _ h=>h) (fun _ h=>h),fun x hx=>(PB8.ok x hx).keep hkB (fun _ h=>h)⟩
    obtain ⟨v10,w10,r10,O10,g10,_⟩:=OwnSN.app (ty:=81) O9 PB9.rows PB9.ok (fun b hb _=>⟨hb.1,fun e=>by have:=hge9 b e.symm;omega⟩) (by simp;omega) (Nat.le_trans (Nat.le_trans HR7.out.tf.size X8.size) g9.size)
    have HR9:Roll2 c g (M+2*F+2*F) w w9:=(HR7.out.ext X8).grown O8.own (Nat.le_refl _) hcl hgl g9
    have HR10:Hid (Roll2 c g (M+2*F+2*F) w w10):=HR9.grown O9.own (Nat.le_refl _) hcl hgl g10
    have HO10:=Lib.hid O10
    have HA9:=Lib.hid r9
    have HA10:=Lib.hid r10
    clear O8 X8 hs8 PA8 PB8 hge8 r9 O9 g9 t9 hge9 T9 hkB PB9 r10 O10 g10 HR9
    go_wp2_with (at_builtin;first
     | (refine dst_is 200 rfl ?_;refine Lib.wpList_append_run _ rfl _ _ _ _ rfl _ _ rfl rfl _ _ HA9.out ?_)
     | (refine dst_is 202 rfl ?_;refine Lib.wpList_append_run _ rfl _ _ _ _ rfl _ _ rfl rfl _ _ HA10.out ?_))
    go_ret
    exact ⟨v10,_,rfl,HO10.out,by simp,by simp;omega,HR10.out.more (by omega)⟩
   ·skip
    have HB6:=Lib.hid (HB.out hd0 r (M+2*F) w6 HR6.out.cur HR6.out.gen (by omega) (by omega))
    skip
    go_wp2_with fail
    refine HB6.out.mono ?_
    rintro e w7 ⟨v7,l7,rfl,hO7,_,hl7,hR7⟩
    have HR7:Hid (Roll2 c g (M+2*F+2*F) w w7):=HR6.out.trans hR7
    have HO7:=Lib.hid (HO6.out.tf hR7.tf (fun b hb=>by rcases hb with hb | hb<;>omega))
    have HA7:=Lib.hid (HA6.out.tf hR7.tf (fun b hb=>by rcases hb with hb | hb<;>omega))
    have HB7:=Lib.hid (hO7.base HR6.out.tf.size)
    clear hO7 hR7 HR6 HO6 HA6 HB6
    obtain ⟨aA,cA,rfl,_,_⟩:=HA7.out.len
    obtain ⟨aB,cB,rfl,_,_⟩:=HB7.out.len
    have O8:=OwnSN.one (N:=5000) (base:=w.heap.size) (w:=w7) ⟨⟨4,⟨#[]⟩,l2,[],(l4.length:Nat),(l7.length:Nat)⟩,a2,n2,e2,none,0,0⟩ HR7.out.tf.size (SOkN.e1 HO7.out (by omega) (i64s 4 (by omega)) (i64s _ (by omega)) (i64s _ (by omega)) noName)
    simp only at O8
    have X8:Ext w7 (w7.alloc (.cells #[.int .i64 4,.string ⟨#[]⟩,.slice a2 n2 e2,.slice none 0 0,.int .i64 (l4.length:Nat),.int .i64 (l7.length:Nat)] 102)):=(Ext.refl w7).alloc _
    have hs8:w7.heap.size<(w7.alloc (.cells #[.int .i64 4,.string ⟨#[]⟩,.slice a2 n2 e2,.slice none 0 0,.int .i64 (l4.length:Nat),.int .i64 (l7.length:Nat)] 102)).heap.size:=by simp
    generalize hw8:w7.alloc (.cells #[.int .i64 4,.string ⟨#[]⟩,.slice a2 n2 e2,.slice none 0 0,.int .i64 (l4.length:Nat),.int .i64 (l7.length:Nat)] 102)=w8 at O8 X8 hs8
    have PA8:=HA7.out.past.tf (Tf.ext (M:=fun _=>False) X8) (fun _ h=>h.elim)
    have PB8:=HB7.out.past.tf (Tf.ext (M:=fun _=>False) X8) (fun _ h=>h.elim)
    have hge8:∀ k,(Value.slice (some ⟨w7.heap.size,0,none⟩) 1 1).ownBlock=some k→w7.heap.size≤k:=fun k hk=>by cases hk;exact Nat.le_refl _
    obtain ⟨v9,w9,r9,O9,g9,t9⟩:=OwnSN.app (ty:=81) O8 PA8.rows PA8.ok (fun b hb _=>⟨hb.1,fun e=>by have:=hge8 b e.symm;omega⟩) (by simp;omega) (Nat.le_trans HR7.out.tf.size X8.size)
    have hge9:=app_ge t9 hge8 X8.size
    have T9:Tf (fun b=>w7.heap.size≤b) w8 w9:=⟨g9.os,g9.tape,g9.output,g9.size,fun k hk hn=>g9.block k hk (fun e=>hn (hge8 k e.symm))⟩
    have hkB:Keep (fun b=>w.heap.size≤b∧b<w7.heap.size) w8 w9:=T9.keep (fun b hb hm=>by have h2:=hb.2;omega)
    have PB9:Past w.heap.size w7.heap.size w9 (.slice aB l7.length cB) l7:=⟨PB8.rows.keep hkB (fun _ _ _ h=>h) (fun _ h=>h),fun x hx=>(PB8.ok x hx).keep hkB (fun _ h=>h)⟩
    obtain ⟨v10,w10,r10,O10,g10,_⟩:=OwnSN.app (ty:=81) O9 PB9.rows PB9.ok (fun b hb _=>⟨hb.1,fun e=>by have:=hge9 b e.symm;omega⟩) (by simp;omega) (Nat.le_trans (Nat.le_trans HR7.out.tf.size X8.size) g9.size)
    have HR9:Roll2 c g (M+2*F+2*F) w w9:=(HR7.out.ext X8).grown O8.own (Nat.le_refl _) hcl hgl g9
    have HR10:Hid (Roll2 c g (M+2*F+2*F) w w10):=HR9.grown O9.own (Nat.le_refl _) hcl hgl g10
    have HO10:=Lib.hid O10
    have HA9:=Lib.hid r9
    have HA10:=Lib.hid r10
    clear O8 X8 hs8 PA8 PB8 hge8 r9 O9 g9 t9 hge9 T9 hkB PB9 r10 O10 g10 HR9
    go_wp2_with (at_builtin;first
     | (refine dst_is 200 rfl ?_;refine Lib.wpList_append_run _ rfl _ _ _ _ rfl _ _ rfl rfl _ _ HA9.out ?_)
     | (refine dst_is 202 rfl ?_;refine Lib.wpList_append_run _ rfl _ _ _ _ rfl _ _ rfl rfl _ _ HA10.out ?_))
    go_ret
    exact ⟨v10,_,rfl,HO10.out,by simp,by simp;omega,HR10.out.more (by omega)⟩
  ·obtain rfl:d=0:=by omega
   go_wp2_with fail
   refine (d_l2GenLeaf _ c _ _ _ _ m M _ HR1.out.cur HV.out (fun b hb=>hb.1.1)).mono ?_
   rintro e w9 ⟨v9,l9,rfl,hO9,hl9,hR9⟩
   obtain ⟨a9,n9,c9,rfl⟩:=hO9.form
   have HR9:Hid (Roll2 c g M w w9):=HR1.out.roll hR9 hcg'
   have HO9:=Lib.hid (hO9.base HR1.out.tf.size)
   clear hO9 hR9
   go_wp2
   go_ret
   exact (MadeT.one ⟨⟨7,⟨#[]⟩,l9,[],0,0⟩,a9,n9,c9,none,0,0⟩ HR9.out (SOkN.e1 HO9.out (by omega) (i64s 7 (by omega)) (i64s 0 (by omega)) (i64s 0 (by omega)) noName)).mono (Nat.le_refl _) hE (Nat.le_add_right _ _)
 by_cases hk12:k=12
 ·subst hk12
  by_cases hd0:0<d
  ·obtain ⟨hFE,hF1⟩:=hF hd0
   go_wp2_with fail
   refine (d_l2GenWhole c _ _ _ _ _ m M _ HR1.out.cur HV.out (fun b hb=>hb.1.1)).mono ?_
   rintro e w2 ⟨v2,l2,rfl,hO2,hl2,hR2⟩
   obtain ⟨a2,n2,e2,rfl⟩:=hO2.form
   have HR2:Hid (Roll2 c g M w w2):=HR1.out.roll hR2 hcg'
   have HO2:=Lib.hid (hO2.base HR1.out.tf.size)
   clear hO2 hR2 HR1 c0 c1 c2 c3 c4 HV
   go_wp2_with fail
   refine (HBw.out 3 w2 (by omega) HR2.out.cur).mono ?_
   rintro e w3 ⟨x,rfl,h3,h4,hR3⟩
   obtain ⟨q,rfl⟩:∃ q:Nat,x=q:=⟨x.toNat,by omega⟩
   have HR3:Hid (Roll2 c g M w w3):=HR2.out.roll hR3 hcg'
   have HO3:=Lib.hid (HO2.out.tf hR3.tf (fun b hb=>by have e:b=c:=hb;omega))
   clear hR3 HR2 HO2
   go_wp2_with fail
   refine (HB.out hd0 q M w3 HR3.out.cur HR3.out.gen (by omega) (by omega)).mono ?_
   rintro e w4 ⟨v4,l4,rfl,hO4,_,hl4,hR4⟩
   have HR4:Hid (Roll2 c g (M+2*F) w w4):=HR3.out.trans hR4
   have HO4:=Lib.hid (HO3.out.tf hR4.tf (fun b hb=>by rcases hb with hb | hb<;>omega))
   have HA4:=Lib.hid (hO4.base HR3.out.tf.size)
   clear hO4 hR4 HO3 HR3
   go_wp2_with fail
   refine (HBw.out 3 w4 (by omega) HR4.out.cur).mono ?_
   rintro e w5 ⟨x,rfl,h5,h6,hR5⟩
   obtain ⟨r,rfl⟩:∃ r:Nat,x=r:=⟨x.toNat,by omega⟩
   have HR5:Hid (Roll2 c g (M+2*F) w w5):=HR4.out.roll hR5 hcg'
   have HO5:=Lib.hid (HO4.out.tf hR5.tf (fun b hb=>by have e:b=c:=hb;omega))
   have HA5:=Lib.hid (HA4.out.tf hR5.tf (fun b hb=>by have e:b=c:=hb;omega))
   clear hR5 HR4 HO4 HA4
   go_wp2_with fail
   refine (HBw.out 2 w5 (by omega) HR5.out.cur).mono ?_
   rintro e w6 ⟨x,rfl,h7,h8,hR6⟩
   have HR6:Hid (Roll2 c g (M+2*F) w w6):=HR5.out.roll hR6 hcg'
   have HO6:=Lib.hid (HO5.out.tf hR6.tf (fun b hb=>by have e:b=c:=hb;omega))
   have HA6:=Lib.hid (HA5.out.tf hR6.tf (fun b hb=>by have e:b=c:=hb;omega))
   clear hR6 HR5 HO5 HA5
   have hx01:x=0∨x=1:=by omega
   rcases hx01 with rfl | rfl
   ·skip
    have HB6:=Lib.hid (HB.out hd0 0 (M+2*F) w6 HR6.out.cur HR6.out.gen (by omega) (by omega))
    rw [Int.natCast_zero] at HB6
    go_wp2_with fail
    refine HB6.out.mono ?_
    rintro e w7 ⟨v7,l7,rfl,hO7,_,hl7,hR7⟩
    have HR7:Hid (Roll2 c g (M+2*F+2*F) w w7):=HR6.out.trans hR7
    have HO7:=Lib.hid (HO6.out.tf hR7.tf (fun b hb=>by rcases hb with hb | hb<;>omega))
    have HA7:=Lib.hid (HA6.out.tf hR7.tf (fun b hb=>by rcases hb with hb | hb<;>omega))
    have HB7:=Lib.hid (hO7.base HR6.out.tf.size)
    clear hO7 hR7 HR6 HO6 HA6 HB6
    obtain ⟨aA,cA,rfl,_,_⟩:=HA7.out.len
    obtain ⟨aB,cB,rfl,_,_⟩:=HB7.out.len
    have O8:=OwnSN.one (N:=5000) (base:=w.heap.size) (w:=w7) ⟨⟨4,⟨#[]⟩,l2,[],(l4.length:Nat),(l7.length:Nat)⟩,a2,n2,e2,none,0,0⟩ HR7.out.tf.size (SOkN.e1 HO7.out (by omega) (i64s 4 (by omega)) (i64s _ (by omega)) (i64s _ (by omega)) noName)
    simp only at O8
    have X8:Ext w7 (w7.alloc (.cells #[.int .i64 4,.string ⟨#[]⟩,.slice a2 n2 e2,.slice none 0 0,.int .i64 (l4.length:Nat),.int .i64 (l7.length:Nat)] 102)):=(Ext.refl w7).alloc _
    have hs8:w7.heap.size<(w7.alloc (.cells #[.int .i64 4,.string ⟨#[]⟩,.slice a2 n2 e2,.slice none 0 0,.int .i64 (l4.length:Nat),.int .i64 (l7.length:Nat)] 102)).heap.size:=by simp
    generalize hw8:w7.alloc (.cells #[.int .i64 4,.string ⟨#[]⟩,.slice a2 n2 e2,.slice none 0 0,.int .i64 (l4.length:Nat),.int .i64 (l7.length:Nat)] 102)=w8 at O8 X8 hs8
    have PA8:=HA7.out.past.tf (Tf.ext (M:=fun _=>False) X8) (fun _ h=>h.elim)
    have PB8:=HB7.out.past.tf (Tf.ext (M:=fun _=>False) X8) (fun _ h=>h.elim)
    have hge8:∀ k,(Value.slice (some ⟨w7.heap.size,0,none⟩) 1 1).ownBlock=some k→w7.heap.size≤k:=fun k hk=>by cases hk;exact Nat.le_refl _
    obtain ⟨v9,w9,r9,O9,g9,t9⟩:=OwnSN.app (ty:=81) O8 PA8.rows PA8.ok (fun b hb _=>⟨hb.1,fun e=>by have:=hge8 b e.symm;omega⟩) (by simp;omega) (Nat.le_trans HR7.out.tf.size X8.size)
    have hge9:=app_ge t9 hge8 X8.size
    have T9:Tf (fun b=>w7.heap.size≤b) w8 w9:=⟨g9.os,g9.tape,g9.output,g9.size,fun k hk hn=>g9.block k hk (fun e=>hn (hge8 k e.symm))⟩
    have hkB:Keep (fun b=>w.heap.size≤b∧b<w7.heap.size) w8 w9:=T9.keep (fun b hb hm=>by have h2:=hb.2;omega)
    have PB9:Past w.heap.size w7.heap.size w9 (.slice aB l7.length cB) l7:=⟨PB8.rows.keep hkB (fun _ _ _ h=>h) (fun _ h=>h),fun x hx=>(PB8.ok x hx).keep hkB (fun _ h=>h)⟩
    obtain ⟨v10,w10,r10,O10,g10,_⟩:=OwnSN.app (ty:=81) O9 PB9.rows PB9.ok (fun b hb _=>⟨hb.1,fun e=>by have:=hge9 b e.symm;omega⟩) (by simp;omega) (Nat.le_trans (Nat.le_trans HR7.out.tf.size X8.size) g9.size)
    have HR9:Roll2 c g (M+2*F+2*F) w w9:=(HR7.out.ext X8).grown O8.own (Nat.le_refl _) hcl hgl g9
    have HR10:Hid (Roll2 c g (M+2*F+2*F) w w10):=HR9.grown O9.own (Nat.le_refl _) hcl hgl g10
    have HO10:=Lib.hid O10
    have HA9:=Lib.hid r9
    have HA10:=Lib.hid r10
    clear O8 X8 hs8 PA8 PB8 hge8 r9 O9 g9 t9 hge9 T9 hkB PB9 r10 O10 g10 HR9
    go_wp2_with (at_builtin;first
     | (refine dst_is 200 rfl ?_;refine Lib.wpList_append_run _ rfl _ _ _ _ rfl _ _ rfl rfl _ _ HA9.out ?_)
     | (refine dst_is 202 rfl ?_;refine Lib.wpList_append_run _ rfl _ _ _ _ rfl _ _ rfl rfl _ _ HA10.out ?_))
    go_ret
    exact ⟨v10,_,rfl,HO10.out,by simp,by simp;omega,HR10.out.more (by omega)⟩
   ·skip
    have HB6:=Lib.hid (HB.out hd0 r (M+2*F) w6 HR6.out.cur HR6.out.gen (by omega) (by omega))
    skip
    go_wp2_with fail
    refine HB6.out.mono ?_
    rintro e w7 ⟨v7,l7,rfl,hO7,_,hl7,hR7⟩
    have HR7:Hid (Roll2 c g (M+2*F+2*F) w w7):=HR6.out.trans hR7
    have HO7:=Lib.hid (HO6.out.tf hR7.tf (fun b hb=>by rcases hb with hb | hb<;>omega))
    have HA7:=Lib.hid (HA6.out.tf hR7.tf (fun b hb=>by rcases hb with hb | hb<;>omega))
    have HB7:=Lib.hid (hO7.base HR6.out.tf.size)
    clear hO7 hR7 HR6 HO6 HA6 HB6
    obtain ⟨aA,cA,rfl,_,_⟩:=HA7.out.len
    obtain ⟨aB,cB,rfl,_,_⟩:=HB7.out.len
    have O8:=OwnSN.one (N:=5000) (base:=w.heap.size) (w:=w7) ⟨⟨4,⟨#[]⟩,l2,[],(l4.length:Nat),(l7.length:Nat)⟩,a2,n2,e2,none,0,0⟩ HR7.out.tf.size (SOkN.e1 HO7.out (by omega) (i64s 4 (by omega)) (i64s _ (by omega)) (i64s _ (by omega)) noName)
    simp only at O8
    have X8:Ext w7 (w7.alloc (.cells #[.int .i64 4,.string ⟨#[]⟩,.slice a2 n2 e2,.slice none 0 0,.int .i64 (l4.length:Nat),.int .i64 (l7.length:Nat)] 102)):=(Ext.refl w7).alloc _
    have hs8:w7.heap.size<(w7.alloc (.cells #[.int .i64 4,.string ⟨#[]⟩,.slice a2 n2 e2,.slice none 0 0,.int .i64 (l4.length:Nat),.int .i64 (l7.length:Nat)] 102)).heap.size:=by simp
    generalize hw8:w7.alloc (.cells #[.int .i64 4,.string ⟨#[]⟩,.slice a2 n2 e2,.slice none 0 0,.int .i64 (l4.length:Nat),.int .i64 (l7.length:Nat)] 102)=w8 at O8 X8 hs8
    have PA8:=HA7.out.past.tf (Tf.ext (M:=fun _=>False) X8) (fun _ h=>h.elim)
    have PB8:=HB7.out.past.tf (Tf.ext (M:=fun _=>False) X8) (fun _ h=>h.elim)
    have hge8:∀ k,(Value.slice (some ⟨w7.heap.size,0,none⟩) 1 1).ownBlock=some k→w7.heap.size≤k:=fun k hk=>by cases hk;exact Nat.le_refl _
    obtain ⟨v9,w9,r9,O9,g9,t9⟩:=OwnSN.app (ty:=81) O8 PA8.rows PA8.ok (fun b hb _=>⟨hb.1,fun e=>by have:=hge8 b e.symm;omega⟩) (by simp;omega) (Nat.le_trans HR7.out.tf.size X8.size)
    have hge9:=app_ge t9 hge8 X8.size
    have T9:Tf (fun b=>w7.heap.size≤b) w8 w9:=⟨g9.os,g9.tape,g9.output,g9.size,fun k hk hn=>g9.block k hk (fun e=>hn (hge8 k e.symm))⟩
    have hkB:Keep (fun b=>w.heap.size≤b∧b<w7.heap.size) w8 w9:=T9.keep (fun b hb hm=>by have h2:=hb.2;omega)
    have PB9:Past w.heap.size w7.heap.size w9 (.slice aB l7.length cB) l7:=⟨PB8.rows.keep hkB (fun _ _ _ h=>h) (fun _ h=>h),fun x hx=>(PB8.ok x hx).keep hkB (fun _ h=>h)⟩
    obtain ⟨v10,w10,r10,O10,g10,_⟩:=OwnSN.app (ty:=81) O9 PB9.rows PB9.ok (fun b hb _=>⟨hb.1,fun e=>by have:=hge9 b e.symm;omega⟩) (by simp;omega) (Nat.le_trans (Nat.le_trans HR7.out.tf.size X8.size) g9.size)
    have HR9:Roll2 c g (M+2*F+2*F) w w9:=(HR7.out.ext X8).grown O8.own (Nat.le_refl _) hcl hgl g9
    have HR10:Hid (Roll2 c g (M+2*F+2*F) w w10):=HR9.grown O9.own (Nat.le_refl _) hcl hgl g10
    have HO10:=Lib.hid O10
    have HA9:=Lib.hid r9
    have HA10:=Lib.hid r10
    clear O8 X8 hs8 PA8 PB8 hge8 r9 O9 g9 t9 hge9 T9 hkB PB9 r10 O10 g10 HR9
    go_wp2_with (at_builtin;first
     | (refine dst_is 200 rfl ?_;refine Lib.wpList_append_run _ rfl _ _ _ _ rfl _ _ rfl rfl _ _ HA9.out ?_)
     | (refine dst_is 202 rfl ?_;refine Lib.wpList_append_run _ rfl _ _ _ _ rfl _ _ rfl rfl _ _ HA10.out ?_))
    go_ret
    exact ⟨v10,_,rfl,HO10.out,by simp,by simp;omega,HR10.out.more (by omega)⟩
  ·obtain rfl:d=0:=by omega
   go_wp2_with fail
   refine (d_l2GenLeaf _ c _ _ _ _ m M _ HR1.out.cur HV.out (fun b hb=>hb.1.1)).mono ?_
   rintro e w9 ⟨v9,l9,rfl,hO9,hl9,hR9⟩
   obtain ⟨a9,n9,c9,rfl⟩:=hO9.form
   have HR9:Hid (Roll2 c g M w w9):=HR1.out.roll hR9 hcg'
   have HO9:=Lib.hid (hO9.base HR1.out.tf.size)
   clear hO9 hR9
   go_wp2
   go_ret
   exact (MadeT.one ⟨⟨7,⟨#[]⟩,l9,[],0,0⟩,a9,n9,c9,none,0,0⟩ HR9.out (SOkN.e1 HO9.out (by omega) (i64s 7 (by omega)) (i64s 0 (by omega)) (i64s 0 (by omega)) noName)).mono (Nat.le_refl _) hE (Nat.le_add_right _ _)
 ·obtain rfl:k=13:=by omega
  go_wp2_with fail
  refine (d_l2GenLeaf _ c _ _ _ _ m M _ HR1.out.cur HV.out (fun b hb=>hb.1.1)).mono ?_
  rintro e w9 ⟨v9,l9,rfl,hO9,hl9,hR9⟩
  obtain ⟨a9,n9,c9,rfl⟩:=hO9.form
  have HR9:Hid (Roll2 c g M w w9):=HR1.out.roll hR9 hcg'
  have HO9:=Lib.hid (hO9.base HR1.out.tf.size)
  clear hO9 hR9
  go_wp2
  go_ret
  exact (MadeT.one ⟨⟨7,⟨#[]⟩,l9,[],0,0⟩,a9,n9,c9,none,0,0⟩ HR9.out (SOkN.e1 HO9.out (by omega) (i64s 7 (by omega)) (i64s 0 (by omega)) (i64s 0 (by omega)) noName)).mono (Nat.le_refl _) hE (Nat.le_add_right _ _)
theorem d_l2GenStmt (c g:Nat) (hcg:c<g):∀ d:Nat,d≤3→HStmt c g d
 | 0,_=>fun M w h hg hM=>d_stmt_body c g 0 1 1 hcg (Nat.le_refl _) (fun h=>absurd h (Nat.lt_irrefl _)) (by omega) (by omega) (fun h=>absurd h (Nat.lt_irrefl _)) (fun h=>absurd h (Nat.lt_irrefl _)) M w h hg (by simpa using hM)
 | d+1,hd=>by
   have ih:=d_l2GenStmt c g hcg d (by omega)
   have h8:∀ d:Nat,d≤2→1≤8 ^ d∧8 ^ d≤64:=by decide
   have hE:=h8 d (by omega)
   have e8:8 ^ (d+1)=8*8 ^ d:=by rw [Nat.pow_succ,Nat.mul_comm]
   intro M w h hg hM
   refine d_stmt_body c g (d+1) (8 ^ (d+1)) (8 ^ d) hcg (by omega) (fun _=>⟨e8.symm,hE.1⟩) (by omega) (by omega) (fun _ M w h hg hM=>d_l2GenLoop c g d hcg ih (by omega) M w h hg (by omega)) (fun _ n M w h hg hn hM=>?_) M w h hg hM
   have:=d_l2GenBlock c g d hcg ih (by omega) n M w h hg (by omega) hM
   rw [show (((d+1:Nat):Int) - 1)=(d:Nat) by omega]
   have hq:n*8 ^ d≤2*8 ^ d:=Nat.mul_le_mul_right _ hn
   exact this.mono fun e w'' hh=>hh.mono (Nat.zero_le _) hq (by omega)
open Go Go.RowKit Md Go.Proofs.YtcfggjmdcaoecaaGreatDoorW.PrintLast
structure FRow where
 f:PFunc
 pa:Option Addr
 pn:Nat
 pc:Nat
 ba:Option Addr
 bn:Nat
 bc:Nat
def encF (x:FRow):List Value:=[.string x.f.name,.slice x.pa x.pn x.pc,.slice x.ba x.bn x.bc]
theorem encF_len (x:FRow):(encF x).length=3:=rfl
theorem encF_one (x:FRow):∀ u∈encF x,u.oneCell'=true:=by
 intro u hu
 simp only [encF,List.mem_cons,List.not_mem_nil,or_false] at hu
 rcases hu with rfl | rfl | rfl<;>rfl
def CFRow (w:World) (cs:List Value) (x:FRow):Prop:=cs=encF x
structure FOkN (N:Nat) (K:Foot) (w:World) (x:FRow):Prop where
 p:SlStr K w (.slice x.pa x.pn x.pc) x.f.params
 b:SlStmt K w (.slice x.ba x.bn x.bc) x.f.body
 name:x.f.name.size≤maxLen
 small:∀ s∈x.f.body,s.e.length≤N∧s.f.length≤N
 lb:1≤x.f.body.length∧x.f.body.length≤10*N
 lp:50*x.f.params.length≤N
abbrev FOk:Foot→World→FRow→Prop:=FOkN 5000
theorem CStmt.bound2 {K:Foot} {w:World} {cs:List Value} {s:PStmt} (h:CStmt K w cs s):CStmt (fun b=>K b∧b<w.heap.size) w cs s:=by
 obtain ⟨vE,vF,e,h1,h2,h3⟩:=h
 exact ⟨vE,vF,e,Sl.bound h1 (by decide),Sl.bound h2 (by decide),h3⟩
theorem SlStmt.bound2 {K:Foot} {w:World} {v:Value} {l:List PStmt} (h:SlStmt K w v l):SlStmt (fun b=>K b∧b<w.heap.size) w v l :=
 Sl.keep (Sl.bound h (by decide)) (Keep.refl _ w) (fun _ _ _ h=>h.bound2) (fun _ h=>h)
theorem FOkN.keep {N:Nat} {K K':Foot} {w w':World} {x:FRow} (h:FOkN N K w x) (k:Keep K w w') (hK:∀ b,K b→K' b):FOkN N K' w' x :=
 ⟨Sl.keep h.p k (fun _ _ _ h=>h.any) hK,Sl.keep h.b k (fun _ _ _ h=>h.keep k hK) hK,h.name,h.small,h.lb,h.lp⟩
theorem FOkN.bound {N:Nat} {K:Foot} {w:World} {x:FRow} (h:FOkN N K w x):FOkN N (fun b=>K b∧b<w.heap.size) w x :=
 ⟨Sl.bound h.p (by decide),h.b.bound2,h.name,h.small,h.lb,h.lp⟩
theorem FOkN.c {N:Nat} {K:Foot} {w:World} {x:FRow} (h:FOkN N K w x):CFunc K w (encF x) x.f:=⟨_,_,rfl,h.p,h.b,h.name⟩
structure OwnFN (N:Nat) (base:Nat) (w:World) (v:Value) (l:List FRow):Prop where
 own:w.ownsRow base 83 3 v l.length (l.flatMap encF)
 ok:∀ x∈l,FOkN N (fun b=>base≤b∧some b≠v.ownBlock) w x
abbrev OwnF:Nat→World→Value→List FRow→Prop:=OwnFN 5000
theorem OwnFN.rows {N:Nat} {base:Nat} {w:World} {v:Value} {l:List FRow} (h:OwnFN N base w v l) {K:Foot} (hK:∀ b,base≤b→K b):Sl K w 3 CFRow v l :=
 sl_ownN encF_len (by decide) h.own hK (fun x hx=>rfl)
theorem rows_func {N:Nat} {K:Foot} {w:World} {v:Value} {l:List FRow} (h:Sl K w 3 CFRow v l) (hok:∀ x∈l,FOkN N K w x):SlFunc K w v (l.map FRow.f):=by
 obtain ⟨a,cap,rfl,h1,h2,h3⟩:=h
 refine ⟨a,cap,by rw [List.length_map],by simpa using h1,h2,fun hp=>?_⟩
 rw [List.length_map] at hp
 obtain ⟨b,o,e1,e2,e3⟩:=h3 hp
 refine ⟨b,o,e1,e2,fun i hi=>?_⟩
 rw [List.length_map] at hi
 obtain ⟨cs,c1,c2,c3⟩:=e3 i hi
 refine ⟨cs,c1,?_,c3⟩
 rw [List.getElem_map]
 have:cs=encF l[i]:=c2
 rw [this]
 exact (hok _ (List.getElem_mem hi)).c
theorem OwnFN.sl {N:Nat} {base:Nat} {w:World} {v:Value} {l:List FRow} (h:OwnFN N base w v l) {K:Foot} (hK:∀ b,base≤b→K b):SlFunc K w v (l.map FRow.f) :=
 rows_func (h.rows hK) (fun x hx=>(h.ok x hx).keep (Keep.refl _ w) (fun b hb=>hK b hb.1))
theorem OwnFN.tf {N:Nat} {M:Foot} {base:Nat} {w w':World} {v:Value} {l:List FRow} (h:OwnFN N base w v l) (k:Tf M w w') (hM:∀ b,b<w.heap.size→M b→b<base):OwnFN N base w' v l :=
 ⟨own_tf h.own k (fun b hb hm=>by have:=own_ge h.own b hb;have:=hM b this.2 hm;omega),fun x hx=>(h.ok x hx).bound.keep (k.keep (fun b hb hm=>by have:=hM b hb.2 hm;have:=hb.1.1;omega)) (fun _ h=>h.1)⟩
theorem OwnFN.base {N:Nat} {base base':Nat} {w:World} {v:Value} {l:List FRow} (h:OwnFN N base w v l) (hb:base'≤base):OwnFN N base' w v l :=
 ⟨own_base h.own hb,fun x hx=>(h.ok x hx).keep (Keep.refl _ w) (fun b h=>⟨Nat.le_trans hb h.1,h.2⟩)⟩
theorem OwnFN.nil {N:Nat} (w:World) (base:Nat):OwnFN N base w (.slice none 0 0) []:=⟨World.ownsRow_nil w base _ 3,fun _ h=>by cases h⟩
theorem OwnFN.len {N:Nat} {base:Nat} {w:World} {v:Value} {l:List FRow} (h:OwnFN N base w v l):∃ a c,v=.slice a l.length c∧l.length≤c∧c≤9223372036854775807:=own_form h.own
theorem OwnFN.one {N:Nat} {base:Nat} {w:World} (x:FRow) (hb:base≤w.heap.size) (hx:FOkN N (fun b=>base≤b) w x) :
  OwnFN N base (w.alloc (.cells #[.string x.f.name,.slice x.pa x.pn x.pc,.slice x.ba x.bn x.bc] 83)) (.slice (some ⟨w.heap.size,0,none⟩) 1 1) [x] :=
 ⟨⟨rfl,.inr ⟨w.heap.size,1,_,rfl,hb,heap_alloc_new w _,Nat.le_refl _,by simp [maxLen],rfl,rfl⟩⟩,fun y hy=>by
  rw [List.mem_singleton.1 hy]
  exact hx.bound.keep (((Ext.refl w).alloc _).keep _) (fun b hb=>⟨hb.1,fun e=>by
   simp only [Value.ownBlock,Option.some.injEq] at e
   have:=hb.2
   omega⟩)⟩
theorem gi_func:(Tryz.prog.info? 83).map (fun i=>(i.zero,i.size,i.bytes))=some (some (.agg #[.string ⟨#[]⟩,.slice none 0 0,.slice none 0 0]),3,64):=by kernel_rfl
theorem OwnFN.app {N:Nat} {base:Nat} {w:World} {v v2:Value} {l l2:List FRow} {K K2:Foot} (h:OwnFN N base w v l) (h2:Sl K w 3 CFRow v2 l2) (hok:∀ x∈l2,FOkN N K2 w x) (hK:∀ b,K2 b→b<w.heap.size→base≤b∧some b≠v.ownBlock) (hl:l.length+l2.length≤1000000) (hb:base≤w.heap.size) (ty:TypeId) :
  ∃ v' w',(Builtin.append_ #[30,30] ty #[v,v2]).run Tryz.prog w=.ok v' w'∧OwnFN N base w' v' (l ++ l2)∧w.grownBy w' v.ownBlock∧(v'.ownBlock=v.ownBlock∨v'.ownBlock=some w.heap.size):=by
 obtain ⟨i0,hi,hz0,hz1,hz2⟩:=info_parts gi_func
 obtain ⟨v',w',r1,r2,r3,r4⟩:=run_appN (P:=Tryz.prog) CFRow (fun _ _ _ h=>h) encF_len (by decide) encF_one K w base Tryz.underlying30 hi hz0 hz1 hz2 rfl v l.length l h.own v2 l2 h2 (by omega) (by omega) hb ty
 have hall:∀ x,FOkN N (fun b=>(base≤b∧some b≠v.ownBlock)∧b<w.heap.size) w x→FOkN N (fun b=>base≤b∧some b≠v'.ownBlock) w' x:=fun x hx =>
  hx.keep (grown_keep r3 (fun b hb=>hb.1.2)) (fun b hb=>⟨hb.1.1,fun e=>by
   rcases r4 with t | t
   ·exact hb.1.2 (e.trans t)
   ·rw [t] at e
    have:=hb.2
    cases e
    omega⟩)
 refine ⟨v',w',r1,⟨by rw [List.length_append];exact r2,fun x hx=>?_⟩,r3,r4⟩
 rcases List.mem_append.1 hx with hx | hx
 ·exact hall x (h.ok x hx).bound
 ·exact hall x ((hok x hx).bound.keep (Keep.refl _ w) (fun b hb=>⟨hK b hb.1 hb.2,hb.2⟩))
theorem OwnFN.app1 {N:Nat} {base:Nat} {w:World} {v:Value} {l:List FRow} (h:OwnFN N base w v l) (x:FRow) (hx:FOkN N (fun b=>base≤b∧some b≠v.ownBlock) w x) (hl:l.length≤900000) (hb:base≤w.heap.size) (ty:TypeId) :
  ∃ v' w',(Builtin.append_ #[30,30] ty #[v,.slice (some ⟨w.heap.size,0,none⟩) 1 1]).run Tryz.prog (w.alloc (.cells #[.string x.f.name,.slice x.pa x.pn x.pc,.slice x.ba x.bn x.bc] 83))=.ok v' w' ∧
   OwnFN N base w' v' (l ++ [x])∧(w.alloc (.cells #[.string x.f.name,.slice x.pa x.pn x.pc,.slice x.ba x.bn x.bc] 83)).grownBy w' v.ownBlock:=by
 have hX:Ext w (w.alloc (.cells #[.string x.f.name,.slice x.pa x.pn x.pc,.slice x.ba x.bn x.bc] 83)):=(Ext.refl w).alloc _
 have h1:=OwnFN.one (base:=0) (w:=w) x (Nat.zero_le _) (hx.keep (Keep.refl _ w) (fun b _=>Nat.zero_le b))
 obtain ⟨v',w',r1,r2,r3,_⟩:=OwnFN.app (ty:=ty) (K:=AnyB) (K2:=fun b=>base≤b∧some b≠v.ownBlock) (h.tf (Tf.ext (M:=fun _=>False) hX) (fun _ _ h=>h.elim)) (h1.rows (fun _ _=>trivial)) (fun y hy=>by
  rw [List.mem_singleton.1 hy]
  exact hx.keep (hX.keep _) (fun b hb=>hb)) (fun b hb _=>hb) (by simp;omega) (Nat.le_trans hb hX.size)
 exact ⟨v',w',r1,r2,r3⟩
structure OwnStr (base:Nat) (w:World) (v:Value) (l:List ByteArray):Prop where
 own:w.ownsRow base 9 1 v l.length (l.map Value.string)
 ok:∀ s∈l,s.size≤maxLen
theorem OwnStr.tf {M:Foot} {base:Nat} {w w':World} {v:Value} {l:List ByteArray} (h:OwnStr base w v l) (k:Tf M w w') (hM:∀ b,b<w.heap.size→M b→b<base):OwnStr base w' v l :=
 ⟨own_tf h.own k (fun b hb hm=>by have:=own_ge h.own b hb;have:=hM b this.2 hm;omega),h.ok⟩
theorem OwnStr.sl {base:Nat} {w:World} {v:Value} {l:List ByteArray} (h:OwnStr base w v l) {K:Foot} (hK:∀ b,base≤b→K b):SlStr (fun b=>K b∧NotS w b) w v l:=own_str h.own h.ok hK
theorem OwnStr.slne {base:Nat} {w:World} {v:Value} {l:List ByteArray} (h:OwnStr base w v l) {K:Foot} (hK:∀ b,base≤b→v.ownBlock=some b→K b):SlStr (fun b=>K b∧NotS w b) w v l:=by
 obtain ⟨a,cap,e,g1,g2,g3⟩:=h.sl (K:=fun b=>base≤b) (fun _ h=>h)
 refine ⟨a,cap,e,g1,g2,fun hp=>?_⟩
 obtain ⟨b,o,e1,e2,e3⟩:=g3 hp
 exact ⟨b,o,e1,⟨hK b e2.1 (by rw [e,e1];rfl),e2.2⟩,e3⟩
theorem GenAt.setF {c g M F i:Nat} {w:World} {arr:Array Value} {v:Value} (h:GenAt c g M w) (hF:Blk w F 83 arr) (hne:F≠g):GenAt c g M (w.setCell ⟨F,i,none⟩ v):=by
 obtain ⟨vc,vp,vs,vl,m,h1,h2⟩:=h
 have hT:=set_tf w F i v
 exact ⟨vc,vp,vs,vl,m,h1.tf hT (fun e=>hne e.symm),h2.step (hT.keep (fun b hb e=>by
  have e:b=F:=e
  rw [e] at hb
  exact (hb.2 _ _).2 hF))⟩
theorem OwnStr.nil (w:World) (base:Nat):OwnStr base w (.slice none 0 0) []:=⟨World.ownsRow_nil w base _ 1,fun _ h=>by cases h⟩
theorem OwnStr.app1 {base:Nat} {w:World} {v:Value} {l:List ByteArray} (h:OwnStr base w v l) (s:ByteArray) (hs:s.size≤maxLen) (hl:l.length≤900000) (hb:base≤w.heap.size) (ty:TypeId) :
  ∃ v' w',(Builtin.append_ #[80,80] ty #[v,.slice (some ⟨w.heap.size,0,none⟩) 1 1]).run Tryz.prog (w.alloc (.cells #[.string s] 9))=.ok v' w' ∧
   OwnStr base w' v' (l ++ [s])∧(w.alloc (.cells #[.string s] 9)).grownBy w' v.ownBlock:=by
 obtain ⟨i0,hi,hz0,hz1,hz2⟩:=info_parts gi_str
 have hX:Ext w (w.alloc (.cells #[.string s] 9)):=(Ext.refl w).alloc _
 have h2:=h.tf (Tf.ext (M:=fun _=>False) hX) (fun _ _ h=>h.elim)
 have hl':(l.map Value.string).length=l.length:=by simp
 obtain ⟨v',w',r1,r2,r3,_⟩:=run_app (P:=Tryz.prog) Value.string CStr (fun _ _ _ h=>h.1) (fun _=>rfl) AnyB (w.alloc (.cells #[.string s] 9)) base Tryz.underlying80 hi hz0 hz1 hz2 rfl v (l.map Value.string) (by rw [hl'];exact h2.own) (.slice (some ⟨w.heap.size,0,none⟩) 1 1) [s] (⟨_,1,rfl,Nat.le_refl _,by simp [maxLen],fun _=>⟨w.heap.size,0,rfl,trivial,fun i hi=>by
   obtain rfl:i=0:=by simp at hi;omega
   exact ⟨[.string s],rfl,⟨rfl,hs⟩,fun q u hu=>by
    obtain rfl:q=0:=by
     have:=(List.getElem?_eq_some_iff.1 hu).1
     simp at this
     omega
    simp at hu
    subst hu
    exact new_cell _ _ _⟩⟩⟩) (by simp;omega) (by simp;omega) (Nat.le_trans hb hX.size) ty
 refine ⟨v',w',r1,⟨by simpa using r2,fun x hx=>?_⟩,r3⟩
 rcases List.mem_append.1 hx with hx | hx
 ·exact h.ok x hx
 ·rw [List.mem_singleton.1 hx];exact hs
end Go.Proofs.YtcfggjmdcaoecaaGreatDoor
