/- A part of the proofs of FnBound and FnCheck: the lemmas and walks GenA, GenB, GenC. -/
import Derived.Test.YtcfggjmdcaoecaaGreatDoorB03
import Derived.Test.YtcfggjmdcaoecaaGreatDoorB05
import Derived.Test.YtcfggjmdcaoecaaGreatDoorB14
import Derived.Test.YtcfggjmdcaoecaaGreatDoorB02
set_option linter.unusedVariables false
set_option linter.unusedSimpArgs false
namespace Go.Proofs.YtcfggjmdcaoecaaGreatDoor
open Go Go.RowKit Md
structure Tf (M:Foot) (w w':World):Prop where
 os:w'.os=w.os
 tape:w'.tape=w.tape
 output:w'.output=w.output
 size:w.heap.size≤w'.heap.size
 block:∀ k,k<w.heap.size→¬ M k→w'.heap[k]? = w.heap[k]?
theorem Tf.refl (M:Foot) (w:World):Tf M w w:=⟨rfl,rfl,rfl,Nat.le_refl _,fun _ _ _=>rfl⟩
theorem Tf.trans {M:Foot} {a b c:World} (h:Tf M a b) (k:Tf M b c):Tf M a c :=
 ⟨k.os.trans h.os,k.tape.trans h.tape,k.output.trans h.output,Nat.le_trans h.size k.size,fun i hi hn=>(k.block i (Nat.lt_of_lt_of_le hi h.size) hn).trans (h.block i hi hn)⟩
theorem Tf.trans2 {M N:Foot} {a b c:World} (h:Tf M a b) (k:Tf N b c) (hN:∀ i,i<a.heap.size→N i→M i):Tf M a c :=
 ⟨k.os.trans h.os,k.tape.trans h.tape,k.output.trans h.output,Nat.le_trans h.size k.size,fun i hi hn=>(k.block i (Nat.lt_of_lt_of_le hi h.size) (fun e=>hn (hN i hi e))).trans (h.block i hi hn)⟩
theorem Tf.mono {M N:Foot} {a b:World} (h:Tf M a b) (hM:∀ i,M i→N i):Tf N a b:=⟨h.os,h.tape,h.output,h.size,fun i hi hn=>h.block i hi (fun e=>hn (hM i e))⟩
theorem Tf.ext {M:Foot} {w w':World} (k:Ext w w'):Tf M w w':=⟨k.os,k.tape,k.output,k.size,fun i hi _=>k.block i hi⟩
theorem Tf.of_ext {M:Foot} {a b c:World} (k:Ext a b) (h:Tf M b c):Tf M a c:=(Tf.ext k).trans h
theorem Tf.then_ext {M:Foot} {a b c:World} (h:Tf M a b) (k:Ext b c):Tf M a c:=h.trans (Tf.ext k)
theorem Tf.cell {M:Foot} {w w':World} (h:Tf M w w') {a:Addr} {v:Value} (ha:¬ M a.block) (hc:w.cell? a=some v):w'.cell? a=some v :=
 (World.cell?_of_block (w:=w) (h.block a.block (World.block_lt_of_cell? w a hc) ha)).trans hc
theorem Tf.keep {M:Foot} {w w':World} (h:Tf M w w') {K:Foot} (hK:∀ b,K b→¬ M b):Keep K w w':=fun b hb hl=>h.block b hl (hK b hb)
theorem Tf.below {M:Foot} {base:Nat} {w w':World} (h:Tf M w w') (hb:∀ b,M b→base≤b) (hs:base≤w.heap.size):Below base w w':=⟨h.os,h.tape,h.output,h.size,fun k hk=>h.block k (by omega) (fun e=>by have:=hb k e;omega)⟩
theorem Tf.set {M:Foot} {w w':World} (h:Tf M w w') {a:Addr} (ha:a.block<w.heap.size→M a.block) (v:Value):Tf M w (w'.setCell a v):=by
 have hB:Below 0 w' (w'.setCell a v):=Below.setCell (Below.refl 0 _) (Nat.zero_le _) v
 refine ⟨hB.os.trans h.os,hB.tape.trans h.tape,hB.output.trans h.output,Nat.le_trans h.size hB.size,fun k hk hn=>?_⟩
 rw [Below.heap_setCell _ _ _ _ (fun e=>hn (by rw [e];exact ha (by omega)))]
 exact h.block k hk hn
theorem Blk.tf {M:Foot} {w w':World} {g t:Nat} {arr:Array Value} (h:Blk w g t arr) (k:Tf M w w') (hg:¬ M g):Blk w' g t arr:=by
 have hl:=h.lt
 unfold Blk at *
 rw [k.block g hl hg];exact h
theorem own_tf {M:Foot} {w w':World} {base E sz n:Nat} {v:Value} {xs:List Value} (h:w.ownsRow base E sz v n xs) (k:Tf M w w') (hv:∀ b,v.ownBlock=some b→¬ M b):w'.ownsRow base E sz v n xs:=by
 refine ⟨h.1,?_⟩
 rcases h.2 with e | ⟨g,cap,cur,rfl,hg,hh,r⟩
 ·exact .inl e
 ·refine .inr ⟨g,cap,cur,rfl,hg,?_,r⟩
  rw [k.block g (Array.getElem?_eq_some_iff.1 hh).1 (hv g rfl)]
  exact hh
theorem own_base {w:World} {base base' E sz n:Nat} {v:Value} {xs:List Value} (h:w.ownsRow base E sz v n xs) (hb:base'≤base):w.ownsRow base' E sz v n xs:=by
 refine ⟨h.1,?_⟩
 rcases h.2 with e | ⟨g,cap,cur,e,hg,r⟩
 ·exact .inl e
 ·exact .inr ⟨g,cap,cur,e,Nat.le_trans hb hg,r⟩
theorem own_ge {w:World} {base E sz n:Nat} {v:Value} {xs:List Value} (h:w.ownsRow base E sz v n xs):∀ b,v.ownBlock=some b→base≤b∧b<w.heap.size:=by
 rcases h.2 with ⟨rfl,_⟩ | ⟨g,cap,cur,rfl,hg,hh,r⟩
 ·intro b hb;cases hb
 ·intro b hb
  cases hb
  exact ⟨hg,(Array.getElem?_eq_some_iff.1 hh).1⟩
theorem own_form {w:World} {base E sz n:Nat} {v:Value} {xs:List Value} (h:w.ownsRow base E sz v n xs):∃ a c,v=.slice a n c∧n≤c∧c≤9223372036854775807:=by
 rcases h.2 with ⟨rfl,rfl⟩ | ⟨g,cap,cur,rfl,hg,hh,h1,h2,r⟩
 ·exact ⟨none,0,rfl,Nat.le_refl _,by omega⟩
 ·exact ⟨_,_,rfl,h1,by unfold maxLen at h2;omega⟩
theorem grown_tf {M:Foot} {a w w':World} {row:Option Nat} (h:Tf M a w) (hg:w.grownBy w' row) (hr:∀ b,row=some b→b<a.heap.size→M b):Tf M a w' :=
 ⟨hg.os.trans h.os,hg.tape.trans h.tape,hg.output.trans h.output,Nat.le_trans h.size hg.size,fun k hk hn=>(hg.block k (Nat.lt_of_lt_of_le hk h.size) (fun e=>hn (hr k e.symm hk))).trans (h.block k hk hn)⟩
theorem grown_keep {w w':World} {row:Option Nat} (hg:w.grownBy w' row) {K:Foot} (hK:∀ b,K b→some b≠row):Keep K w w':=fun b hb hl=>hg.block b hl (hK b hb)
def Is (c:Nat):Foot:=fun b=>b=c
def Is2 (c g:Nat):Foot:=fun b=>b=c∨b=g
def CurAt (w:World) (c:Nat):Prop :=
 ∃ vb i h,∃ bs:List Int,Blk w c 151 #[vb,.int .i64 (i:Nat),.int .i64 h]∧SlInt .u8 (fun b=>b<c) w vb bs∧bs.length≤1099511627776∧i≤bs.length
theorem CurAt.tf {M:Foot} {w w':World} {c:Nat} (h:CurAt w c) (k:Tf M w w') (hM:∀ b,b≤c→¬ M b):CurAt w' c:=by
 obtain ⟨vb,i,x,bs,h1,h2,h3⟩:=h
 exact ⟨vb,i,x,bs,h1.tf k (hM c (Nat.le_refl _)),h2.keep (k.keep (fun b hb=>hM b (Nat.le_of_lt hb))) (fun _ _ _ h=>h.any) (fun _ h=>h),h3⟩
theorem CurAt.ext {w w':World} {c:Nat} (h:CurAt w c) (k:Ext w w'):CurAt w' c:=h.tf (Tf.ext (M:=fun _=>False) k) (fun _ _ h=>h)
theorem CurAt.lt {w:World} {c:Nat} (h:CurAt w c):c<w.heap.size:=by
 obtain ⟨_,_,_,_,h1,_⟩:=h
 exact h1.lt
structure Roll (c:Nat) (w w':World):Prop where
 cur:CurAt w' c
 tf:Tf (Is c) w w'
theorem Roll.refl {c:Nat} {w:World} (h:CurAt w c):Roll c w w:=⟨h,Tf.refl _ _⟩
theorem Roll.trans {c:Nat} {a b d:World} (h:Roll c a b) (k:Roll c b d):Roll c a d:=⟨k.cur,h.tf.trans k.tf⟩
theorem Roll.ext {c:Nat} {a b d:World} (h:Roll c a b) (k:Ext b d):Roll c a d:=⟨h.cur.ext k,h.tf.then_ext k⟩
theorem Roll.of_ext {c:Nat} {a b d:World} (k:Ext a b) (h:Roll c b d):Roll c a d:=⟨h.cur,Tf.of_ext k h.tf⟩
def Rolls (c:Nat) (lo hi:Int) (w:World) (e:Ending) (w':World):Prop:=∃ x:Int,e=.returned (.int .i64 x)∧lo≤x∧x<hi∧Roll c w w'
def RollsB (c:Nat) (w:World) (e:Ending) (w':World):Prop:=∃ x:Bool,e=.returned (.bool x)∧Roll c w w'
def NodeOk (x:PNode):Prop:=I64 x.kind∧I64 x.val∧x.name.size≤maxLen
structure OwnE (base:Nat) (w:World) (v:Value) (l:List PNode):Prop where
 own:w.ownsRow base 104 3 v l.length (l.flatMap encNode)
 ok:∀ x∈l,NodeOk x
theorem OwnE.sl {base:Nat} {w:World} {v:Value} {l:List PNode} (h:OwnE base w v l) {K:Foot} (hK:∀ b,base≤b→K b):SlNode K w v l :=
 sl_ownN encNode_len (by decide) h.own hK (fun x hx=>⟨rfl,h.ok x hx⟩)
theorem OwnE.tf {M:Foot} {base:Nat} {w w':World} {v:Value} {l:List PNode} (h:OwnE base w v l) (k:Tf M w w') (hM:∀ b,M b→b<base):OwnE base w' v l :=
 ⟨own_tf h.own k (fun b hb hm=>by have:=own_ge h.own b hb;have:=hM b hm;omega),h.ok⟩
theorem OwnE.ext {base:Nat} {w w':World} {v:Value} {l:List PNode} (h:OwnE base w v l) (k:Ext w w'):OwnE base w' v l:=h.tf (Tf.ext (M:=fun _=>False) k) (fun _ h=>h.elim)
theorem OwnE.base {base base':Nat} {w:World} {v:Value} {l:List PNode} (h:OwnE base w v l) (hb:base'≤base):OwnE base' w v l:=⟨own_base h.own hb,h.ok⟩
def MadeE (c:Nat) (n:Nat) (w:World) (e:Ending) (w':World):Prop:=∃ v l,e=.returned v∧OwnE w.heap.size w' v l∧l.length≤n∧Roll c w w'
structure GV (K:Foot) (w:World) (M:Nat) (vc vp vs vl:Value) (m:Nat):Prop where
 calls:∃ cs ps,SlStr K w vc cs∧SlInt .i64 K w vp ps∧cs.length=ps.length∧cs.length≤8∧∀ x∈ps,(0:Int)≤x∧x≤6
 scope:∃ ss,SlStr K w vs ss∧ss.length≤M+8
 locked:∃ ls,SlStr K w vl ls∧ls.length≤M
 made:m≤M
theorem GV.keep {K K':Foot} {w w':World} {M:Nat} {vc vp vs vl:Value} {m:Nat} (h:GV K w M vc vp vs vl m) (k:Keep K w w') (hK:∀ b,K b→K' b):GV K' w' M vc vp vs vl m:=by
 obtain ⟨⟨cs,ps,h1,h2,h3⟩,⟨ss,h4,h5⟩,⟨ls,h6,h7⟩,h8⟩:=h
 exact ⟨⟨cs,ps,Sl.keep h1 k (fun _ _ _ h=>h.any) hK,Sl.keep h2 k (fun _ _ _ h=>h.any) hK,h3⟩,⟨ss,Sl.keep h4 k (fun _ _ _ h=>h.any) hK,h5⟩,⟨ls,Sl.keep h6 k (fun _ _ _ h=>h.any) hK,h7⟩,h8⟩
theorem GV.more {K:Foot} {w:World} {M N:Nat} {vc vp vs vl:Value} {m:Nat} (h:GV K w M vc vp vs vl m) (hN:M≤N):GV K w N vc vp vs vl m:=by
 obtain ⟨h0,⟨ss,h4,h5⟩,⟨ls,h6,h7⟩,h8⟩:=h
 exact ⟨h0,⟨ss,h4,by omega⟩,⟨ls,h6,by omega⟩,by omega⟩
open Go Go.RowKit Md
theorem wrap64_rng (z:Int) : -9223372036854775808≤wrap64 z∧wrap64 z<9223372036854775808:=by unfold wrap64;omega
theorem and255 (y:Int):0≤bits .and .i64 y 255∧bits .and .i64 y 255<256:=by
 have h:bits .and .i64 y 255=IntKind.i64.wrap (((BitVec.ofInt 64 y &&& BitVec.ofInt 64 255).toNat:Nat):Int):=rfl
 have h2:(BitVec.ofInt 64 y &&& BitVec.ofInt 64 255).toNat≤255:=by
  rw [BitVec.toNat_and]
  exact Nat.and_le_right
 rw [h,IntKind.wrap_i64]
 omega
set_option maxHeartbeats 2000000 in
theorem d_l1Byte (c:Nat) (w:World) (h:CurAt w c):Calls Tryz.prog 96 #[.pointer (some ⟨c,0,none⟩)] w (Rolls c 0 256 w):=by
 obtain ⟨vb,i,x,bs,hB,hS,hl,hi⟩:=h
 have c2:w.cell? ⟨c,2,none⟩=some (.int .i64 x):=(hB.cell 2).trans rfl
 have f2:w.frozen? ⟨c,2,none⟩=false:=hB.frozen 2
 have HB:=Lib.hid hB
 have HS:=Lib.hid hS
 have Hl:=Lib.hid hl
 have Hi:=Lib.hid hi
 clear hB hS hl hi
 go_enter Tryz.func96,Tryz.ntmps96
 go_wp2_with fail
 obtain ⟨h',hh⟩:∃ h',h'=wrap64 (wrap64 (x*6364136223846793005)+1442695040888963407):=⟨_,rfl⟩
 rw [← hh]
 have hB1:=HB.out.set 2 (.int .i64 h')
 have hS1:SlInt .u8 (fun b=>b<c) (w.setCell ⟨c,2,none⟩ (.int .i64 h')) vb bs:=HS.out.keep ((Keep.refl _ w).setCell (fun b hb=>by show b≠c;omega) _) (fun _ _ _ h=>h.any) (fun _ h=>h)
 have hT1:Tf (Is c) w (w.setCell ⟨c,2,none⟩ (.int .i64 h')):=(Tf.refl (Is c) w).set (a:=⟨c,2,none⟩) (fun _=>show c=c from rfl) _
 obtain ⟨w1,hw1⟩:∃ w1,w1=w.setCell ⟨c,2,none⟩ (.int .i64 h'):=⟨_,rfl⟩
 rw [← hw1] at hB1 hS1 hT1 ⊢
 replace hB1:Blk w1 c 151 #[vb,.int .i64 (i:Nat),.int .i64 h']:=hB1
 obtain ⟨a,n,cap,rfl,hlen,hnc,hcm,hat⟩:=Sl.op hS1
 have d0:w1.cell? ⟨c,0,none⟩=some (.slice a n cap):=(hB1.cell 0).trans rfl
 have d1:w1.cell? ⟨c,1,none⟩=some (.int .i64 (i:Nat)):=(hB1.cell 1).trans rfl
 have d2:w1.cell? ⟨c,2,none⟩=some (.int .i64 h'):=(hB1.cell 2).trans rfl
 have e1:w1.frozen? ⟨c,1,none⟩=false:=hB1.frozen 1
 have Hcur:Hid (∀ w2,Ext w1 w2→∀ j:Nat,j≤bs.length→Roll c w (w2.setCell ⟨c,1,none⟩ (.int .i64 (j:Nat)))):=fun w2 hX j hj =>
  ⟨⟨_,j,h',bs,(hB1.ext hX).set 1 _,(hS1.ext hX (fun _ _ h=>h.any)).keep ((Keep.refl _ w2).setCell (fun b hb=>by show b≠c;omega) _) (fun _ _ _ h=>h.any) (fun _ h=>h),Hl.out,hj⟩,(hT1.then_ext hX).set (a:=⟨c,1,none⟩) (fun _=>show c=c from rfl) _⟩
 have Hcur0:Hid (Roll c w w1):=⟨⟨_,i,h',bs,hB1,hS1,Hl.out,Hi.out⟩,hT1⟩
 have Hat:=Lib.hid hat
 clear c2 f2 HB HS hh hw1 hB1 hS1 hT1 hat
 go_quiet (fail)
 go_wp2_with fail
 go_quiet (fail)
 by_cases hlt:i<n
 ·obtain ⟨b,o,rfl,_,hel⟩:=Hat.out (by omega)
  obtain ⟨y,cs,_,_,hC,hcs⟩:=hel i hlt
  obtain ⟨rfl,_⟩:=hC
  have k0:=hcs.z rfl
  rw [Nat.mul_one] at k0
  have hin:Hid (i+1≤bs.length):=by
   have:=hlen.out
   show _≤_
   omega
  clear hel hcs Hat
  go_wp2_with fail
  go_quiet (fail)
  have z1:wrap64 ((i:Int)+1)=((i+1:Nat):Int):=by
   have:=hin.out
   have:=Hl.out
   unfold wrap64
   omega
  go_wp2
  go_ret
  exact ⟨_,rfl,(and255 _).1,(and255 _).2,Hcur.out _ (drewN_ext _ _) (i+1) hin.out⟩
 ·go_wp2
  go_ret
  exact ⟨_,rfl,(and255 _).1,(and255 _).2,Hcur0.out.ext ((drewN_ext _ _).trans (drewN_ext _ _))⟩
set_option maxHeartbeats 2000000 in
theorem d_l1Below (c:Nat) (n:Int) (w:World) (h:CurAt w c) (hn:1≤n∧n≤9223372036854775807):Calls Tryz.prog 53 #[.pointer (some ⟨c,0,none⟩),.int .i64 n] w (Rolls c 0 n w):=by
 have HB:Hid (∀ w',Roll c w w'→Calls Tryz.prog 96 #[.pointer (some ⟨c,0,none⟩)] w' (Rolls c 0 256 w')):=fun w' hR=>d_l1Byte c w' hR.cur
 have HR:=Lib.hid (Roll.refl h)
 clear h
 have h0:¬ n=0:=by omega
 go_enter Tryz.func53,Tryz.ntmps53
 by_cases hb:n≤256
 ·go_wp2_with fail
  refine (HB.out w HR.out).mono ?_
  rintro e w1 ⟨x,rfl,h1,h2,hR1⟩
  go_wp2
  go_ret
  exact ⟨x % n,rfl,Int.emod_nonneg _ (by omega),Int.emod_lt_of_pos _ (by omega),hR1⟩
 ·go_wp2_with fail
  refine (HB.out w HR.out).mono ?_
  rintro e w1 ⟨x,rfl,h1,h2,hR1⟩
  have HR1:=Lib.hid hR1
  clear hR1
  go_wp2_with fail
  refine (HB.out w1 HR1.out).mono ?_
  rintro e w2 ⟨y,rfl,h3,h4,hR2⟩
  have HR2:=Lib.hid (HR1.out.trans hR2)
  clear hR2
  go_wp2_with fail
  refine (HB.out w2 HR2.out).mono ?_
  rintro e w3 ⟨z,rfl,h5,h6,hR3⟩
  go_wp2
  go_ret
  exact ⟨_,rfl,Int.emod_nonneg _ (by omega),Int.emod_lt_of_pos _ (by omega),HR2.out.trans hR3⟩
set_option maxHeartbeats 2000000 in
theorem d_l1Once (c:Nat) (n:Int) (w:World) (h:CurAt w c) (hn:1≤n∧n≤9223372036854775807):Calls Tryz.prog 60 #[.pointer (some ⟨c,0,none⟩),.int .i64 n] w (RollsB c w):=by
 have HB:=Lib.hid (d_l1Below c n w h hn)
 go_enter Tryz.func60,Tryz.ntmps60
 go_wp2_with fail
 refine HB.out.mono ?_
 rintro e w1 ⟨x,rfl,h1,h2,hR1⟩
 go_wp2
 go_ret
 exact ⟨_,rfl,hR1⟩
set_option maxHeartbeats 2000000 in
theorem d_l1DrawWord (c:Nat) (w:World) (h:CurAt w c):Calls Tryz.prog 162 #[.pointer (some ⟨c,0,none⟩)] w (Rolls c (-9223372036854775808) 9223372036854775808 w):=by
 have HB:Hid (∀ n w',1≤n∧n≤9223372036854775807→Roll c w w'→Calls Tryz.prog 53 #[.pointer (some ⟨c,0,none⟩),.int .i64 n] w' (Rolls c 0 n w')):=fun n w' hn hR=>d_l1Below c n w' hR.cur hn
 have HR:=Lib.hid (Roll.refl h)
 clear h
 go_enter Tryz.func162,Tryz.ntmps162
 go_wp2_with fail
 refine (HB.out 6 w (by omega) HR.out).mono ?_
 rintro e w1 ⟨k,rfl,h1,h2,hR1⟩
 have HR1:=Lib.hid hR1
 clear hR1
 go_wp2_with fail
 refine (HB.out 20 w1 (by omega) HR1.out).mono ?_
 rintro e w2 ⟨x,rfl,h3,h4,hR2⟩
 have HR2:=Lib.hid (HR1.out.trans hR2)
 clear hR2 HB HR HR1
 go_wp2
 all_goals
  go_ret
  refine ⟨_,rfl,?_,?_,HR2.out⟩
  all_goals first | omega | exact (wrap64_rng _).1 | exact (wrap64_rng _).2
def MadeCur (w:World) (e:Ending) (w':World):Prop:=∃ c,e=.returned (.pointer (some ⟨c,0,none⟩))∧CurAt w' c∧Ext w w'∧w.heap.size≤c
set_option maxHeartbeats 2000000 in
theorem d_l1New (v:Value) (bs:List Int) (w:World) (hS:SlInt .u8 AnyB w v bs) (hl:bs.length≤1099511627776):Calls Tryz.prog 51 #[v] w (MadeCur w):=by
 have HS:Hid (SlInt .u8 (fun b=>b<w.heap.size) w v bs):=(Sl.bound hS (by decide)).keep (Keep.refl _ w) (fun _ _ _ h=>h) (fun _ h=>h.2)
 have Hl:=Lib.hid hl
 obtain ⟨a,n,cap,rfl,hlen,hnc,hcm,hat⟩:=Sl.op hS
 have Hat:=Lib.hid hat
 clear hS hl hat
 have hn:n≤1099511627776:=by have:=hlen.out;have:=Hl.out;omega
 go_enter Tryz.func51,Tryz.ntmps51
 go_wp2
 go_loop [3,4] (fun v3 v4=>∃ (k:Nat) (h:Int),k≤n∧v4=.int .i64 k∧v3=.int .i64 h) (fun _ v4=>n - (intOf v4).toNat)
 case atStart=>exact ⟨0,_,Nat.zero_le _,rfl,rfl⟩
 case round =>
  obtain ⟨k,h,hk,rfl,rfl⟩:=hrel
  by_cases hlt:k<n
  ·obtain ⟨b,o,rfl,_,hel⟩:=Hat.out (by omega)
   obtain ⟨y,cs,_,_,hC,hcs⟩:=hel k hlt
   obtain ⟨rfl,_⟩:=hC
   have k0:=hcs.z rfl
   rw [Nat.mul_one] at k0
   clear hel hcs Hat
   go_wp2
   go_round
   case rel=>exact ⟨k+1,_,by omega,by go_num,rfl⟩
   case measure=>simp [intOf];omega
  ·go_wp2
   go_ret
   have hB:=Blk.alloc w 151 #[.slice a n cap,.int .i64 0,.int .i64 h]
   have hX:Ext w (w.alloc (.cells #[.slice a n cap,.int .i64 0,.int .i64 h] 151)):=(Ext.refl w).alloc _
   exact ⟨w.heap.size,rfl,⟨_,0,h,bs,hB,HS.out.ext hX (fun _ _ h=>h.any),Hl.out,Nat.zero_le _⟩,hX,Nat.le_refl _⟩
open Go Go.RowKit Md Go.Proofs.YtcfggjmdcaoecaaGreatDoorW.PrintLast
theorem I64_wrap (z:Int):I64 (wrap64 z):=by have:=wrap64_rng z;unfold I64;omega
def Picks (c:Nat) (ss:List ByteArray) (w:World) (e:Ending) (w':World):Prop:=∃ s,e=.returned (.string s)∧s∈ss∧s.size≤maxLen∧Roll c w w'
set_option maxHeartbeats 2000000 in
theorem d_l2Pick (K:Foot) (c:Nat) (v:Value) (ss:List ByteArray) (w:World) (h:CurAt w c) (hs:SlStr K w v ss) (hK:∀ b,K b→b≠c) (h1:1≤ss.length) :
  Calls Tryz.prog 92 #[.pointer (some ⟨c,0,none⟩),v] w (Picks c ss w):=by
 have HS:Hid (∀ w',Roll c w w'→SlStr K w' v ss):=fun w' hR=>hs.keep (hR.tf.keep hK) (fun _ _ _ h=>h.any) (fun _ h=>h)
 obtain ⟨a,n,cap,rfl,hlen,hnc,hcm,_⟩:=Sl.op hs
 have hn1:1≤n:=by have:=hlen.out;omega
 have HB:=Lib.hid (d_l1Below c n w h (by omega))
 clear hs h
 go_enter Tryz.func92,Tryz.ntmps92
 go_wp2_with fail
 refine HB.out.mono ?_
 rintro e w1 ⟨x,rfl,hx0,hx1,hR⟩
 obtain ⟨i,rfl⟩:∃ i:Nat,x=i:=⟨x.toNat,by omega⟩
 have hi:i<n:=by omega
 obtain ⟨a',n',cap',e,hlen',_,_,hat⟩:=Sl.op (HS.out w1 hR)
 cases e
 obtain ⟨b,o,rfl,_,hel⟩:=hat (by omega)
 obtain ⟨s,cs,hs,_,hC,hcs⟩:=hel i hi
 obtain ⟨rfl,hsz⟩:=hC
 have k0:=hcs.z rfl
 rw [Nat.mul_one] at k0
 have Hs:Hid (s∈ss∧s.size≤maxLen∧Roll c w w1):=⟨List.mem_of_getElem? hs,hsz,hR⟩
 clear hel hcs hat hs hsz hR HB HS
 go_wp2
 go_ret
 exact ⟨s,rfl,Hs.out⟩
theorem lit_str (w:World) (T:TypeId) (ss:List ByteArray) (n:Nat) (arr:Array Value) (ha:arr=(ss.map Value.string).toArray) (hn:ss.length=n) (hm:n≤1000) (hsz:∀ s∈ss,s.size≤1000) :
  SlStr (fun b=>b=w.heap.size) (w.alloc (.cells arr T)) (.slice (some ⟨w.heap.size,0,none⟩) n n) ss:=by
 subst hn
 refine ⟨_,_,rfl,Nat.le_refl _,by unfold maxLen;omega,fun hp=>⟨w.heap.size,0,rfl,rfl,fun i hi=>⟨[.string ss[i]],rfl,⟨rfl,by have:=hsz _ (List.getElem_mem hi);unfold maxLen;omega⟩,fun q u hu=>?_⟩⟩⟩
 have hq:q=0:=by
  have:=(List.getElem?_eq_some_iff.1 hu).1
  simp at this
  omega
 subst hq
 simp at hu
 subst hu
 rw [(Blk.alloc w T arr).cell,ha]
 simp [hi]
theorem d_pick_lit (c:Nat) (w:World) (h:CurAt w c) (T:TypeId) (ss:List ByteArray) (n:Nat) (arr:Array Value) (ha:arr=(ss.map Value.string).toArray) (hn:ss.length=n) (hm:1≤n∧n≤1000) (hsz:∀ s∈ss,s.size≤1000) :
  Calls Tryz.prog 92 #[.pointer (some ⟨c,0,none⟩),.slice (some ⟨w.heap.size,0,none⟩) n n] (w.alloc (.cells arr T)) (Picks c ss w):=by
 have hX:Ext w (w.alloc (.cells arr T)):=(Ext.refl w).alloc _
 refine (d_l2Pick _ c _ ss _ (h.ext hX) (lit_str w T ss n arr ha hn hm.2 hsz) (fun b hb=>by have:=h.lt;omega) (by omega)).mono ?_
 rintro e w' ⟨s,rfl,h1,h2,hR⟩
 exact ⟨s,rfl,h1,h2,Roll.of_ext hX hR⟩
theorem gi_node:(Tryz.prog.info? 104).map (fun i=>(i.zero,i.size,i.bytes))=some (some (.agg #[.int .i64 0,.int .i64 0,.string ⟨#[]⟩]),3,32):=by kernel_rfl
theorem gi_str:(Tryz.prog.info? 9).map (fun i=>(i.zero,i.size,i.bytes))=some (some (.string ⟨#[]⟩),1,16):=by kernel_rfl
theorem gi_i64:(Tryz.prog.info? 2).map (fun i=>(i.zero,i.size,i.bytes))=some (some (.int .i64 0),1,8):=by kernel_rfl
theorem OwnE.one {base:Nat} {w:World} (x:PNode) (hb:base≤w.heap.size) (hx:NodeOk x):OwnE base (w.alloc (.cells #[.int .i64 x.kind,.int .i64 x.val,.string x.name] 104)) (.slice (some ⟨w.heap.size,0,none⟩) 1 1) [x] :=
 ⟨⟨rfl,.inr ⟨w.heap.size,1,_,rfl,hb,heap_alloc_new w _,Nat.le_refl _,by simp [maxLen],rfl,rfl⟩⟩,fun y hy=>by rw [List.mem_singleton.1 hy];exact hx⟩
theorem MadeE.one {c:Nat} {w w':World} (x:PNode) (hx:NodeOk x) (hR:Roll c w w'):MadeE c 1 w (.returned (.slice (some ⟨w'.heap.size,0,none⟩) 1 1)) (w'.alloc (.cells #[.int .i64 x.kind,.int .i64 x.val,.string x.name] 104)) :=
 ⟨_,[x],rfl,OwnE.one x hR.tf.size hx,Nat.le_refl _,hR.ext ((Ext.refl _).alloc _)⟩
theorem own_new (w:World) (base E sz:Nat) (hb:base≤w.heap.size):(w.alloc (.cells #[] E)).ownsRow base E sz (.slice (some ⟨w.heap.size,0,none⟩) 0 0) 0 [] :=
 ⟨by simp,.inr ⟨w.heap.size,0,#[],rfl,hb,heap_alloc_new w _,Nat.le_refl _,by simp [maxLen],by simp,by simp⟩⟩
theorem OwnE.new (w:World) (base:Nat) (hb:base≤w.heap.size):OwnE base (w.alloc (.cells #[] 104)) (.slice (some ⟨w.heap.size,0,none⟩) 0 0) []:=⟨own_new w base _ 3 hb,fun _ h=>by cases h⟩
theorem OwnE.app {base:Nat} {w:World} {v v2:Value} {l l2:List PNode} {K:Foot} (h:OwnE base w v l) (h2:SlNode K w v2 l2) (hl:l.length+l2.length≤5000000) (hb:base≤w.heap.size) (ty:TypeId) :
  ∃ v' w',(Builtin.append_ #[100,100] ty #[v,v2]).run Tryz.prog w=.ok v' w'∧OwnE base w' v' (l ++ l2)∧w.grownBy w' v.ownBlock∧(v'.ownBlock=v.ownBlock∨v'.ownBlock=some w.heap.size):=by
 obtain ⟨i0,hi,hz0,hz1,hz2⟩:=info_parts gi_node
 obtain ⟨v',w',r1,r2,r3,r4⟩:=run_appN (P:=Tryz.prog) CNode (fun _ _ _ h=>h.1) encNode_len (by decide) encNode_one K w base Tryz.underlying100 hi hz0 hz1 hz2 rfl v l.length l h.own v2 l2 h2 (by omega) (by omega) hb ty
 refine ⟨v',w',r1,⟨by rw [List.length_append];exact r2,fun x hx=>?_⟩,r3,r4⟩
 rcases List.mem_append.1 hx with hx | hx
 ·exact h.ok x hx
 ·obtain ⟨cs,hc⟩:=Sl.mem h2 x hx
  exact hc.2
theorem app_other {w w':World} {v vx:Value} {gx:Nat} {l:List PNode} (hs:SlNode (fun b=>b=gx) w vx l) (hg:w.grownBy w' v.ownBlock) (hne:∀ k,v.ownBlock=some k→k≠gx):SlNode (fun b=>b=gx) w' vx l :=
 Sl.keep hs (grown_keep hg (fun b hb e=>hne b e.symm hb)) (fun _ _ _ h=>h.any) (fun _ h=>h)
theorem app_ne {w:World} {v v':Value} {gx:Nat} (t:v'.ownBlock=v.ownBlock∨v'.ownBlock=some w.heap.size) (hne:∀ k,v.ownBlock=some k→k≠gx) (hlt:gx<w.heap.size):∀ k,v'.ownBlock=some k→k≠gx:=by
 intro k hk
 rcases t with t | t
 ·exact hne k (t ▸ hk)
 ·rw [t] at hk
  cases hk
  omega
theorem OwnE.slx {w:World} {g c n:Nat} {base:Nat} {l:List PNode} (h:OwnE base w (.slice (some ⟨g,0,none⟩) n c) l):SlNode (fun b=>b=g) w (.slice (some ⟨g,0,none⟩) n c) l:=by
 obtain ⟨a,cap,e,h1,h2,h3⟩:=h.sl (K:=AnyB) (fun _ _=>trivial)
 refine ⟨a,cap,e,h1,h2,fun hp=>?_⟩
 obtain ⟨b,o,e1,_,e3⟩:=h3 hp
 refine ⟨b,o,e1,?_,e3⟩
 rw [e1] at e
 cases e
 rfl
def MadeX (l:List PNode) (w:World) (e:Ending) (w':World):Prop:=∃ v,e=.returned v∧OwnE w.heap.size w' v l∧Ext w w'
set_option maxRecDepth 1000000 in
set_option maxHeartbeats 4000000 in
theorem d_l2Join (K:Foot) (va vb:Value) (la lb:List PNode) (x:PNode) (w:World) (ha:SlNode K w va la) (hb:SlNode K w vb lb) (hx:NodeOk x) (hl:la.length+lb.length≤1000000) :
  Calls Tryz.prog 101 #[va,vb,.agg #[.int .i64 x.kind,.int .i64 x.val,.string x.name]] w (MadeX (la ++ lb ++ [x]) w):=by
 obtain ⟨aA,nA,cA,rfl⟩:=ha.shape
 obtain ⟨aB,nB,cB,rfl⟩:=hb.shape
 have HA:=Lib.hid ha
 have HB:=Lib.hid hb
 have hB0:=Blk.alloc w 104 #[.int .i64 x.kind,.int .i64 x.val,.string x.name]
 have hX0:Ext w (w.alloc (.cells #[.int .i64 x.kind,.int .i64 x.val,.string x.name] 104)):=(Ext.refl w).alloc _
 obtain ⟨xk,xv,xn⟩:=x
 simp only at hB0 hX0 ⊢
 have c0:=(hB0.cell 0).trans (show _=some (Value.int .i64 xk) from rfl)
 have c1:=(hB0.cell 1).trans (show _=some (Value.int .i64 xv) from rfl)
 have c2:=(hB0.cell 2).trans (show _=some (Value.string xn) from rfl)
 have HX0:=Lib.hid hX0
 have Hx:=Lib.hid hx
 clear ha hb hB0 hX0 hx
 go_enter Tryz.func101,Tryz.ntmps101
 go_wp2_with fail
 have hHS:∀ w',Ext (w.alloc (.cells #[.int .i64 xk,.int .i64 xv,.string xn] 104)) w'→w'.cell? ⟨w.heap.size,0,none⟩=some (.int .i64 xk)∧w'.cell? ⟨w.heap.size,1,none⟩=some (.int .i64 xv)∧w'.cell? ⟨w.heap.size,2,none⟩=some (.string xn):=fun w' hX=>⟨hX.cell c0,hX.cell c1,hX.cell c2⟩
 have hlt:w.heap.size≤(w.alloc (.cells #[.int .i64 xk,.int .i64 xv,.string xn] 104)).heap.size:=HX0.out.size
 have HA1:Hid (∀ w',Ext (w.alloc (.cells #[.int .i64 xk,.int .i64 xv,.string xn] 104)) w'→SlNode K w' (.slice aA nA cA) la):=fun w' hX=>HA.out.ext (HX0.out.trans hX) (fun _ _ h=>h.any)
 have HB1:Hid (∀ w',Ext (w.alloc (.cells #[.int .i64 xk,.int .i64 xv,.string xn] 104)) w'→SlNode K w' (.slice aB nB cB) lb):=fun w' hX=>HB.out.ext (HX0.out.trans hX) (fun _ _ h=>h.any)
 have HF:Hid (∀ w',Ext (w.alloc (.cells #[.int .i64 xk,.int .i64 xv,.string xn] 104)) w'→Ext w w'):=fun w' hX=>HX0.out.trans hX
 generalize hw1:w.alloc (.cells #[.int .i64 xk,.int .i64 xv,.string xn] 104)=w1 at hHS hlt HA1 HB1 HF ⊢
 have HHS:=Lib.hid hHS
 have X1:Ext w1 w1.drew:=(Ext.refl w1).drew
 clear c0 c1 c2 HX0 hw1 HA HB hHS
 refine start_ (n:=9) (S:=fun w'=>w'.cell? ⟨w.heap.size,0,none⟩=some (.int .i64 xk)∧w'.cell? ⟨w.heap.size,1,none⟩=some (.int .i64 xv)∧w'.cell? ⟨w.heap.size,2,none⟩=some (.string xn)) (ds:=[]) #[false,false,false,false,false,false,false,false,false] (by kernel_rfl) rfl rfl ?hS (fun hHeld=>?_)
 case hS=>exact HHS.out _ X1
 refine pu_ 1 (some 8) #[false,true,false,false,false,false,false,false,false] rfl rfl (by kernel_rfl) (fun _ _ _ h=>h) (by rfl) (by intro w';go_simp;with_reducible rfl) (by simp only [pt_];rfl) ?_
 refine pu_ 3 (some 10) #[false,true,false,true,false,false,false,false,false] rfl rfl (by kernel_rfl) (fun _ _ _ h=>h) (by rfl) (by intro w';go_simp;with_reducible rfl) (by simp only [pt_];rfl) ?_
 refine ta_ 5 (some 12) #[false,true,false,true,false,true,false,false,false] rfl rfl (by kernel_rfl) (fun _ _ _ h=>h) hHeld (by rfl) (by rintro w' ⟨s0,s1,s2⟩;go_simp;with_reducible rfl) (by simp only [pt_];rfl) ?_
 generalize w1.drew=wd at X1 hHeld ⊢
 refine two_ (i:=0) (j:=6) (Ni:=some 7) (Nj:=some 13) #[true,true,false,true,false,true,false,false,false] #[false,true,false,true,false,true,true,false,false] rfl rfl rfl rfl (by kernel_rfl) (by simp) (by simp) (fun K hK=>?_) (fun K hK=>?_)
 ·skip
  refine value_ (by rfl) rfl (by go_simp;constructor<;>rfl) ?_
  have Y0:Ext w1 (wd.alloc (.cells #[] 104)):=X1.alloc _
  have O0:=OwnE.new wd w1.heap.size X1.size
  have e7:Ext wd (wd.alloc (.cells #[] 104)):=(Ext.refl _).alloc _
  have z7:wd.heap.size<(wd.alloc (.cells #[] 104)).heap.size:=by simp
  refine hK.out _ _ (HHS.out _ Y0) (fun hHeld=>?_)
  clear hK K
  refine norm_ (by show Act.put _ (some 7) _=_;simp only [pt_];rfl) ?_
  generalize wd.alloc (.cells #[] 104)=wa at Y0 O0 z7 e7 hHeld ⊢
  refine two_ (i:=2) (j:=6) (Ni:=some 9) (Nj:=some 13) #[true,true,true,true,false,true,false,false,false] #[true,true,false,true,false,true,true,false,false] rfl rfl rfl rfl (by kernel_rfl) (by simp) (by simp) (fun K hK=>?_) (fun K hK=>?_)
  ·skip
   obtain ⟨v2,w2,r1,O2,g2,t2⟩:=OwnE.app (ty:=100) O0 (HA1.out _ Y0) (by simp;omega) Y0.size
   have X2:Ext w1 w2:=Below.grown Y0 g2 Y0.size (fun k hk=>(own_ge O0.own k hk).1)
   refine value_ (w1:=w2) (v:=v2) (by rfl) rfl (exec_append rfl r1) ?_
   refine hK.out _ _ (HHS.out _ X2) (fun hHeld=>?_)
   clear hK K
   refine norm_ (by show Act.put _ (some 9) _=_;simp only [pt_];rfl) ?_
   refine two_ (i:=4) (j:=6) (Ni:=some 11) (Nj:=some 13) #[true,true,true,true,true,true,false,false,false] #[true,true,true,true,false,true,true,false,false] rfl rfl rfl rfl (by kernel_rfl) (by simp) (by simp) (fun K hK=>?_) (fun K hK=>?_)
   ·skip
    obtain ⟨v3,w3,r3,O3,g3,t3⟩:=OwnE.app (ty:=100) O2 (HB1.out _ X2) (by simp;omega) X2.size
    have X3:Ext w1 w3:=Below.grown X2 g3 X2.size (fun k hk=>(own_ge O2.own k hk).1)
    refine value_ (w1:=w3) (v:=v3) (by rfl) rfl (exec_append rfl r3) ?_
    refine hK.out _ _ (HHS.out _ X3) (fun hHeld=>?_)
    clear hK K
    refine norm_ (by show Act.put _ (some 11) _=_;simp only [pt_];rfl) ?_
    refine one_ (i:=6) (N:=some 13) #[true,true,true,true,true,true,true,false,false] rfl rfl (by kernel_rfl) (by decide) (fun K hK=>?_)
    refine value_ (by rfl) rfl (by go_simp;constructor<;>rfl) ?_
    have Y6:Ext w1 (w3.alloc (.cells #[.int .i64 xk,.int .i64 xv,.string xn] 104)):=X3.alloc _
    have hN:=OwnE.one (base:=w3.heap.size) (w:=w3) ⟨xk,xv,xn⟩ (Nat.le_refl _) Hx.out
    have z13:w3.heap.size<(w3.alloc (.cells #[.int .i64 xk,.int .i64 xv,.string xn] 104)).heap.size:=by simp
    have e13:Ext w3 (w3.alloc (.cells #[.int .i64 xk,.int .i64 xv,.string xn] 104)):=(Ext.refl _).alloc _
    refine hK.out _ _ (HHS.out _ Y6) (fun hHeld=>?_)
    clear hK K
    refine norm_ (by show Act.put _ (some 13) _=_;simp only [pt_];rfl) ?_
    generalize w3.alloc (.cells #[.int .i64 xk,.int .i64 xv,.string xn] 104)=wb at Y6 hN z13 e13 hHeld ⊢
    have O3':=O3.ext e13
    obtain ⟨v4,w4,r4,O4,g4,t4⟩:=OwnE.app (ty:=100) O3' hN.slx (by simp;omega) Y6.size
    have X4:Ext w1 w4:=Below.grown Y6 g4 Y6.size (fun k hk=>(own_ge O3'.own k hk).1)
    refine one_ (i:=7) (N:=some 14) #[true,true,true,true,true,true,true,true,false] rfl rfl (by kernel_rfl) (by decide) (fun K hK=>?_)
    refine value_ (w1:=w4) (v:=v4) (by rfl) rfl (exec_append rfl r4) ?_
    refine hK.out _ _ (HHS.out _ X4) (fun hHeld=>?_)
    clear hK K
    refine norm_ (by show Act.put _ (some 14) _=_;simp only [pt_];rfl) ?_
    refine pu_ 8 (some 6) #[true,true,true,true,true,true,true,true,true] rfl rfl (by kernel_rfl) (fun _ _ _ h=>h) (by rfl) (by intro w';go_simp;with_reducible rfl) (by simp only [pt_];rfl) ?_
    refine done_ (by kernel_rfl) ?_
    have HO4:=Lib.hid (O4.base hlt)
    have HX4:=Lib.hid (HF.out _ X4)
    clear O4 g4 t4 r4 X4 hN hHeld HHS HA1 HB1 HF
    go_wp2
    go_ret
    exact ⟨v4,rfl,HO4.out,HX4.out⟩
   ·skip
    refine value_ (by rfl) rfl (by go_simp;constructor<;>rfl) ?_
    have Y6:Ext w1 (w2.alloc (.cells #[.int .i64 xk,.int .i64 xv,.string xn] 104)):=X2.alloc _
    have hN:=OwnE.one (base:=w2.heap.size) (w:=w2) ⟨xk,xv,xn⟩ (Nat.le_refl _) Hx.out
    have z13:w2.heap.size<(w2.alloc (.cells #[.int .i64 xk,.int .i64 xv,.string xn] 104)).heap.size:=by simp
    have e13:Ext w2 (w2.alloc (.cells #[.int .i64 xk,.int .i64 xv,.string xn] 104)):=(Ext.refl _).alloc _
    refine hK.out _ _ (HHS.out _ Y6) (fun hHeld=>?_)
    clear hK K
    refine norm_ (by show Act.put _ (some 13) _=_;simp only [pt_];rfl) ?_
    generalize w2.alloc (.cells #[.int .i64 xk,.int .i64 xv,.string xn] 104)=wb at Y6 hN z13 e13 hHeld ⊢
    have O2':=O2.ext e13
    have n2:∀ k,v2.ownBlock=some k→k≠w2.heap.size:=fun k hk=>by have:=(own_ge O2.own k hk).2;omega
    refine one_ (i:=4) (N:=some 11) #[true,true,true,true,true,true,true,false,false] rfl rfl (by kernel_rfl) (by decide) (fun K hK=>?_)
    obtain ⟨v3,w3,r3,O3,g3,t3⟩:=OwnE.app (ty:=100) O2' (HB1.out _ Y6) (by simp;omega) Y6.size
    have X3:Ext w1 w3:=Below.grown Y6 g3 Y6.size (fun k hk=>(own_ge O2'.own k hk).1)
    refine value_ (w1:=w3) (v:=v3) (by rfl) rfl (exec_append rfl r3) ?_
    refine hK.out _ _ (HHS.out _ X3) (fun hHeld=>?_)
    clear hK K
    refine norm_ (by show Act.put _ (some 11) _=_;simp only [pt_];rfl) ?_
    obtain ⟨v4,w4,r4,O4,g4,t4⟩:=OwnE.app (ty:=100) O3 (app_other hN.slx g3 n2) (by simp;omega) X3.size
    have X4:Ext w1 w4:=Below.grown X3 g4 X3.size (fun k hk=>(own_ge O3.own k hk).1)
    refine one_ (i:=7) (N:=some 14) #[true,true,true,true,true,true,true,true,false] rfl rfl (by kernel_rfl) (by decide) (fun K hK=>?_)
    refine value_ (w1:=w4) (v:=v4) (by rfl) rfl (exec_append rfl r4) ?_
    refine hK.out _ _ (HHS.out _ X4) (fun hHeld=>?_)
    clear hK K
    refine norm_ (by show Act.put _ (some 14) _=_;simp only [pt_];rfl) ?_
    refine pu_ 8 (some 6) #[true,true,true,true,true,true,true,true,true] rfl rfl (by kernel_rfl) (fun _ _ _ h=>h) (by rfl) (by intro w';go_simp;with_reducible rfl) (by simp only [pt_];rfl) ?_
    refine done_ (by kernel_rfl) ?_
    have HO4:=Lib.hid (O4.base hlt)
    have HX4:=Lib.hid (HF.out _ X4)
    clear O4 g4 t4 r4 X4 hN hHeld HHS HA1 HB1 HF
    go_wp2
    go_ret
    exact ⟨v4,rfl,HO4.out,HX4.out⟩
  ·skip
   refine value_ (by rfl) rfl (by go_simp;constructor<;>rfl) ?_
   have Y6:Ext w1 (wa.alloc (.cells #[.int .i64 xk,.int .i64 xv,.string xn] 104)):=Y0.alloc _
   have hN:=OwnE.one (base:=wa.heap.size) (w:=wa) ⟨xk,xv,xn⟩ (Nat.le_refl _) Hx.out
   have z13:wa.heap.size<(wa.alloc (.cells #[.int .i64 xk,.int .i64 xv,.string xn] 104)).heap.size:=by simp
   have e13:Ext wa (wa.alloc (.cells #[.int .i64 xk,.int .i64 xv,.string xn] 104)):=(Ext.refl _).alloc _
   refine hK.out _ _ (HHS.out _ Y6) (fun hHeld=>?_)
   clear hK K
   refine norm_ (by show Act.put _ (some 13) _=_;simp only [pt_];rfl) ?_
   generalize wa.alloc (.cells #[.int .i64 xk,.int .i64 xv,.string xn] 104)=wb at Y6 hN z13 e13 hHeld ⊢
   have O0':=O0.ext e13
   have n0:∀ k,(Value.slice (some ⟨wd.heap.size,0,none⟩) 0 0).ownBlock=some k→k≠wa.heap.size:=fun k hk=>by have:=(own_ge O0.own k hk).2;omega
   refine one_ (i:=2) (N:=some 9) #[true,true,true,true,false,true,true,false,false] rfl rfl (by kernel_rfl) (by decide) (fun K hK=>?_)
   obtain ⟨v2,w2,r1,O2,g2,t2⟩:=OwnE.app (ty:=100) O0' (HA1.out _ Y6) (by simp;omega) Y6.size
   have X2:Ext w1 w2:=Below.grown Y6 g2 Y6.size (fun k hk=>(own_ge O0'.own k hk).1)
   refine value_ (w1:=w2) (v:=v2) (by rfl) rfl (exec_append rfl r1) ?_
   refine hK.out _ _ (HHS.out _ X2) (fun hHeld=>?_)
   clear hK K
   refine norm_ (by show Act.put _ (some 9) _=_;simp only [pt_];rfl) ?_
   have hN2:=app_other hN.slx g2 n0
   have n2:=app_ne t2 n0 z13
   refine one_ (i:=4) (N:=some 11) #[true,true,true,true,true,true,true,false,false] rfl rfl (by kernel_rfl) (by decide) (fun K hK=>?_)
   obtain ⟨v3,w3,r3,O3,g3,t3⟩:=OwnE.app (ty:=100) O2 (HB1.out _ X2) (by simp;omega) X2.size
   have X3:Ext w1 w3:=Below.grown X2 g3 X2.size (fun k hk=>(own_ge O2.own k hk).1)
   refine value_ (w1:=w3) (v:=v3) (by rfl) rfl (exec_append rfl r3) ?_
   refine hK.out _ _ (HHS.out _ X3) (fun hHeld=>?_)
   clear hK K
   refine norm_ (by show Act.put _ (some 11) _=_;simp only [pt_];rfl) ?_
   obtain ⟨v4,w4,r4,O4,g4,t4⟩:=OwnE.app (ty:=100) O3 (app_other hN2 g3 n2) (by simp;omega) X3.size
   have X4:Ext w1 w4:=Below.grown X3 g4 X3.size (fun k hk=>(own_ge O3.own k hk).1)
   refine one_ (i:=7) (N:=some 14) #[true,true,true,true,true,true,true,true,false] rfl rfl (by kernel_rfl) (by decide) (fun K hK=>?_)
   refine value_ (w1:=w4) (v:=v4) (by rfl) rfl (exec_append rfl r4) ?_
   refine hK.out _ _ (HHS.out _ X4) (fun hHeld=>?_)
   clear hK K
   refine norm_ (by show Act.put _ (some 14) _=_;simp only [pt_];rfl) ?_
   refine pu_ 8 (some 6) #[true,true,true,true,true,true,true,true,true] rfl rfl (by kernel_rfl) (fun _ _ _ h=>h) (by rfl) (by intro w';go_simp;with_reducible rfl) (by simp only [pt_];rfl) ?_
   refine done_ (by kernel_rfl) ?_
   have HO4:=Lib.hid (O4.base hlt)
   have HX4:=Lib.hid (HF.out _ X4)
   clear O4 g4 t4 r4 X4 hN hHeld HHS HA1 HB1 HF
   go_wp2
   go_ret
   exact ⟨v4,rfl,HO4.out,HX4.out⟩
 ·skip
  refine value_ (by rfl) rfl (by go_simp;constructor<;>rfl) ?_
  have Y6:Ext w1 (wd.alloc (.cells #[.int .i64 xk,.int .i64 xv,.string xn] 104)):=X1.alloc _
  have hN:=OwnE.one (base:=wd.heap.size) (w:=wd) ⟨xk,xv,xn⟩ (Nat.le_refl _) Hx.out
  have z13:wd.heap.size<(wd.alloc (.cells #[.int .i64 xk,.int .i64 xv,.string xn] 104)).heap.size:=by simp
  have e13:Ext wd (wd.alloc (.cells #[.int .i64 xk,.int .i64 xv,.string xn] 104)):=(Ext.refl _).alloc _
  refine hK.out _ _ (HHS.out _ Y6) (fun hHeld=>?_)
  clear hK K
  refine norm_ (by show Act.put _ (some 13) _=_;simp only [pt_];rfl) ?_
  generalize wd.alloc (.cells #[.int .i64 xk,.int .i64 xv,.string xn] 104)=wb at Y6 hN z13 e13 hHeld ⊢
  refine one_ (i:=0) (N:=some 7) #[true,true,false,true,false,true,true,false,false] rfl rfl (by kernel_rfl) (by decide) (fun K hK=>?_)
  refine value_ (by rfl) rfl (by go_simp;constructor<;>rfl) ?_
  have Y0:Ext w1 (wb.alloc (.cells #[] 104)):=Y6.alloc _
  have O0:=OwnE.new wb w1.heap.size Y6.size
  have e7:Ext wb (wb.alloc (.cells #[] 104)):=(Ext.refl _).alloc _
  have z7:wb.heap.size<(wb.alloc (.cells #[] 104)).heap.size:=by simp
  refine hK.out _ _ (HHS.out _ Y0) (fun hHeld=>?_)
  clear hK K
  refine norm_ (by show Act.put _ (some 7) _=_;simp only [pt_];rfl) ?_
  generalize wb.alloc (.cells #[] 104)=wa at Y0 O0 z7 e7 hHeld ⊢
  have n0:∀ k,(Value.slice (some ⟨wb.heap.size,0,none⟩) 0 0).ownBlock=some k→k≠wd.heap.size:=fun k hk=>by cases hk;show wb.heap.size≠wd.heap.size;omega
  have hN0:=hN.slx.ext e7 (fun _ _ h=>h.any)
  refine one_ (i:=2) (N:=some 9) #[true,true,true,true,false,true,true,false,false] rfl rfl (by kernel_rfl) (by decide) (fun K hK=>?_)
  obtain ⟨v2,w2,r1,O2,g2,t2⟩:=OwnE.app (ty:=100) O0 (HA1.out _ Y0) (by simp;omega) Y0.size
  have X2:Ext w1 w2:=Below.grown Y0 g2 Y0.size (fun k hk=>(own_ge O0.own k hk).1)
  refine value_ (w1:=w2) (v:=v2) (by rfl) rfl (exec_append rfl r1) ?_
  refine hK.out _ _ (HHS.out _ X2) (fun hHeld=>?_)
  clear hK K
  refine norm_ (by show Act.put _ (some 9) _=_;simp only [pt_];rfl) ?_
  have hN2:=app_other hN0 g2 n0
  have n2:=app_ne t2 n0 (Nat.lt_trans z13 z7)
  refine one_ (i:=4) (N:=some 11) #[true,true,true,true,true,true,true,false,false] rfl rfl (by kernel_rfl) (by decide) (fun K hK=>?_)
  obtain ⟨v3,w3,r3,O3,g3,t3⟩:=OwnE.app (ty:=100) O2 (HB1.out _ X2) (by simp;omega) X2.size
  have X3:Ext w1 w3:=Below.grown X2 g3 X2.size (fun k hk=>(own_ge O2.own k hk).1)
  refine value_ (w1:=w3) (v:=v3) (by rfl) rfl (exec_append rfl r3) ?_
  refine hK.out _ _ (HHS.out _ X3) (fun hHeld=>?_)
  clear hK K
  refine norm_ (by show Act.put _ (some 11) _=_;simp only [pt_];rfl) ?_
  obtain ⟨v4,w4,r4,O4,g4,t4⟩:=OwnE.app (ty:=100) O3 (app_other hN2 g3 n2) (by simp;omega) X3.size
  have X4:Ext w1 w4:=Below.grown X3 g4 X3.size (fun k hk=>(own_ge O3.own k hk).1)
  refine one_ (i:=7) (N:=some 14) #[true,true,true,true,true,true,true,true,false] rfl rfl (by kernel_rfl) (by decide) (fun K hK=>?_)
  refine value_ (w1:=w4) (v:=v4) (by rfl) rfl (exec_append rfl r4) ?_
  refine hK.out _ _ (HHS.out _ X4) (fun hHeld=>?_)
  clear hK K
  refine norm_ (by show Act.put _ (some 14) _=_;simp only [pt_];rfl) ?_
  refine pu_ 8 (some 6) #[true,true,true,true,true,true,true,true,true] rfl rfl (by kernel_rfl) (fun _ _ _ h=>h) (by rfl) (by intro w';go_simp;with_reducible rfl) (by simp only [pt_];rfl) ?_
  refine done_ (by kernel_rfl) ?_
  have HO4:=Lib.hid (O4.base hlt)
  have HX4:=Lib.hid (HF.out _ X4)
  clear O4 g4 t4 r4 X4 hN hHeld HHS HA1 HB1 HF
  go_wp2
  go_ret
  exact ⟨v4,rfl,HO4.out,HX4.out⟩
set_option maxRecDepth 1000000 in
set_option maxHeartbeats 8000000 in
theorem d_l2GenLeaf (K:Foot) (c:Nat) (vc vp vs vl:Value) (m M:Nat) (w:World) (h:CurAt w c) (hg:GV K w M vc vp vs vl m) (hK:∀ b,K b→b≠c) :
  Calls Tryz.prog 133 #[.pointer (some ⟨c,0,none⟩),.agg #[vc,vp,vs,vl,.int .i64 (m:Nat)]] w (MadeE c 1 w):=by
 obtain ⟨_,⟨ss,hs,_⟩,_,_⟩:=hg
 have hB0:=Blk.alloc w 153 #[vc,vp,vs,vl,.int .i64 (m:Nat)]
 have hX0:Ext w (w.alloc (.cells #[vc,vp,vs,vl,.int .i64 (m:Nat)] 153)):=(Ext.refl w).alloc _
 generalize hw0:w.alloc (.cells #[vc,vp,vs,vl,.int .i64 (m:Nat)] 153)=w0 at hB0 hX0
 have HBl:Hid (∀ n w',1≤n∧n≤9223372036854775807→Roll c w w'→Calls Tryz.prog 53 #[.pointer (some ⟨c,0,none⟩),.int .i64 n] w' (Rolls c 0 n w')):=fun n w' hn hR=>d_l1Below c n w' hR.cur hn
 have HOn:Hid (∀ n w',1≤n∧n≤9223372036854775807→Roll c w w'→Calls Tryz.prog 60 #[.pointer (some ⟨c,0,none⟩),.int .i64 n] w' (RollsB c w')):=fun n w' hn hR=>d_l1Once c n w' hR.cur hn
 have HWd:Hid (∀ w',Roll c w w'→Calls Tryz.prog 162 #[.pointer (some ⟨c,0,none⟩)] w' (Rolls c (-9223372036854775808) 9223372036854775808 w')):=fun w' hR=>d_l1DrawWord c w' hR.cur
 have HPs:Hid (∀ w',Roll c w w'→1≤ss.length→Calls Tryz.prog 92 #[.pointer (some ⟨c,0,none⟩),vs] w' (Picks c ss w')):=fun w' hR h1=>d_l2Pick K c vs ss w' hR.cur (hs.keep (hR.tf.keep hK) (fun _ _ _ h=>h.any) (fun _ h=>h)) hK h1
 have HPk:Hid (∀ w',Roll c w w'→Calls Tryz.prog 92 #[.pointer (some ⟨c,0,none⟩),.slice (some ⟨w'.heap.size,0,none⟩) 2 2] (w'.alloc (.cells #[.string ⟨#[103]⟩,.string ⟨#[104]⟩] 9)) (Picks c [⟨#[103]⟩,⟨#[104]⟩] w')):=fun w' hR =>
  d_pick_lit c w' hR.cur _ _ 2 _ rfl rfl (by omega) (fun s hs=>by
   simp only [List.mem_cons,List.not_mem_nil,or_false] at hs
   rcases hs with rfl | rfl<;>decide)
 obtain ⟨aS,nS,cS,rfl,hlS,_,_,_⟩:=Sl.op hs
 have hcl:=h.lt
 have Hc:Hid (∀ w',Roll c w0 w'→w'.cell? ⟨w.heap.size,2,none⟩=some (.slice aS nS cS)):=fun w' hR=>hR.tf.cell (a:=⟨w.heap.size,2,none⟩) (show ¬ w.heap.size=c by omega) ((hB0.cell 2).trans rfl)
 have HR0:Hid (Roll c w w0):=(Roll.refl h).ext hX0
 have hR00:Roll c w0 w0:=Roll.refl HR0.out.cur
 have HR00:=Lib.hid hR00
 clear h hs hB0 hX0 hR00
 go_enter Tryz.func133,Tryz.ntmps133
 go_wp2_with fail
 refine (HBl.out 8 w0 (by omega) HR0.out).mono ?_
 rintro e w1 ⟨k,rfl,h1,h2,hR1⟩
 have HR1:Hid (Roll c w w1):=HR0.out.trans hR1
 have HR01:Hid (Roll c w0 w1):=HR00.out.trans hR1
 have k1:=Hc.out _ HR01.out
 clear hR1
 by_cases hk3:k<3∧0<nS
 ·obtain ⟨hk3,hn0⟩:=hk3
  go_wp2_with fail
  refine (HPs.out w1 HR1.out (by have:=hlS.out;omega)).mono ?_
  rintro e w2 ⟨s,rfl,_,hsz,hR2⟩
  have HR2:Hid (Roll c w w2):=HR1.out.trans hR2
  go_wp2
  go_ret
  exact MadeE.one ⟨2,0,s⟩ ⟨by unfold I64;simp,by unfold I64;simp,hsz⟩ HR2.out
 ·by_cases hk:k=3
  ·subst hk
   go_wp2_with fail
   refine (HPk.out w1 HR1.out).mono ?_
   rintro e w2 ⟨s,rfl,_,hsz,hR2⟩
   have HR2:Hid (Roll c w w2):=HR1.out.trans hR2
   go_wp2
   go_ret
   exact MadeE.one ⟨2,0,s⟩ ⟨by unfold I64;simp,by unfold I64;simp,hsz⟩ HR2.out
  ·by_cases hk4:k=4
   ·subst hk4
    go_wp2
    go_ret
    exact MadeE.one ⟨5,0,⟨#[]⟩⟩ ⟨by unfold I64;simp,by unfold I64;simp,by simp [ByteArray.size]⟩ HR1.out
   ·go_wp2_with fail
    all_goals
     refine (HBl.out 10 w1 (by omega) HR1.out).mono ?_
     rintro e w2 ⟨x,rfl,h3,h4,hR2⟩
     have HR2:Hid (Roll c w w2):=HR1.out.trans hR2
     clear hR2
     go_wp2_with fail
     refine (HOn.out 6 w2 (by omega) HR2.out).mono ?_
     rintro e w3 ⟨bo,rfl,hR3⟩
     have HR3:Hid (Roll c w w3):=HR2.out.trans hR3
     clear hR3
     cases bo with
     | false =>
       go_wp2
       go_ret
       exact MadeE.one ⟨1,x,⟨#[]⟩⟩ ⟨by unfold I64;simp,by unfold I64;simp;omega,by simp [ByteArray.size]⟩ HR3.out
     | true =>
       go_wp2_with fail
       refine (HWd.out w3 HR3.out).mono ?_
       rintro e w4 ⟨y,rfl,h5,h6,hR4⟩
       have HR4:Hid (Roll c w w4):=HR3.out.trans hR4
       clear hR4
       go_wp2
       all_goals
        go_ret
        refine MadeE.one ⟨1,_,⟨#[]⟩⟩ ⟨by unfold I64;simp,?_,by simp [ByteArray.size]⟩ HR4.out
        first | exact I64_wrap _ | (unfold I64;simp only;omega)
end Go.Proofs.YtcfggjmdcaoecaaGreatDoor
