/- A part of the proofs of FnBound and FnCheck: the lemmas and walks MdLaw, LwCheck. -/
import Derived.Test.YtcfggjmdcaoecaaGreatDoorB23
import Derived.Test.YtcfggjmdcaoecaaGreatDoorB26
import Derived.Test.YtcfggjmdcaoecaaGreatDoorB02
import Derived.Test.YtcfggjmdcaoecaaGreatDoorB22
set_option linter.unusedVariables false
set_option linter.unusedSimpArgs false
namespace Go.Proofs.YtcfggjmdcaoecaaGreatDoor.Md
open Go
theorem useE_ne (t:PTree) (sc:List ByteArray) (s:ByteArray) (arr:Bool):useE t sc s arr≠1:=by
 unfold useE
 simp only
 generalize (if s∈sc then (0:Int) else gsize t s)=z
 split
 ·decide
 ·split<;>decide
theorem nodeE_ne (t:PTree) (sc:List ByteArray) (n:PNode):nodeE t sc n≠1:=by
 unfold nodeE
 split
 ·exact useE_ne _ _ _ _
 ·split
  ·exact useE_ne _ _ _ _
  ·split
   ·split
    ·decide
    ·split<;>decide
   ·decide
theorem exprE_ne (t:PTree) (sc:List ByteArray) (l:List PNode):exprE t sc l≠1:=by
 induction l with
 | nil=>rw [exprE];decide
 | cons n r ih =>
   rw [exprE]
   split
   ·exact ih
   ·exact nodeE_ne _ _ _
theorem stE_ne (t:PTree) (sc tk:List ByteArray) (s:PStmt):stE t sc tk s≠1:=by
 unfold stE
 split
 ·split
  ·split
   ·split<;>decide
   ·split
    ·exact useE_ne _ _ _ _
    ·split
     ·exact useE_ne _ _ _ _
     ·decide
  ·exact exprE_ne _ _ _
 ·exact exprE_ne _ _ _
def Ck.NotTree:Ck→Prop
 | .bad e _=>e≠1
 | .ok _=>True
mutual
theorem ckSt_ne (t:PTree):∀ (x:St) (sc tk:List ByteArray),(ckSt t sc tk x).NotTree
 | .mk s p a b thn els,sc,tk=>by
   rw [ckSt]
   split
   ·simp only
    have h1:=ckBlk_ne t thn (if s.kind=1 then sc ++ [s.name] else sc) (if s.kind=1 then tk ++ [s.name] else tk)
    revert h1
    cases hc:ckBlk t (if s.kind=1 then sc ++ [s.name] else sc) (if s.kind=1 then tk ++ [s.name] else tk) thn with
    | bad e q=>exact fun h=>h
    | ok tk2=>exact fun _=>ckBlk_ne t els _ tk2
   ·exact stE_ne _ _ _ _
theorem ckBlk_ne (t:PTree):∀ (l:List St) (sc tk:List ByteArray),(ckBlk t sc tk l).NotTree
 | [],sc,tk=>by rw [ckBlk];trivial
 | x :: r,sc,tk=>by
   rw [ckBlk]
   have h1:=ckSt_ne t x sc tk
   revert h1
   cases hc:ckSt t sc tk x with
   | bad e q=>exact fun h=>h
   | ok tk1=>exact fun _=>ckBlk_ne t r _ tk1
end
theorem bodyR_ne (t:PTree) (f:Nat) (x:PFunc) (sts:List St):(bodyR t f x sts).1≠1:=by
 unfold bodyR
 split
 ·exact show (2:Int)≠1 by decide
 ·have h:=ckBlk_ne t sts x.params x.params
  revert h
  cases ckBlk t x.params x.params sts with
  | bad e a=>exact fun h=>h
  | ok tk=>exact fun _=>show (0:Int)≠1 by decide
theorem bodiesR_ne (t:PTree):∀ (l:List (PFunc×List St)) (i:Nat) (r:Int×Int×Int),bodiesR t l i=some r→r.1≠1
 | [],_,_,h=>by rw [bodiesR] at h;cases h
 | x :: l,i,r,h=>by
   rw [bodiesR] at h
   split at h
   ·exact bodiesR_ne t l (i+1) r h
   ·cases h
    exact bodyR_ne _ _ _ _
theorem namesR_ne (t:PTree):(namesR t).1≠1:=by
 unfold namesR
 split
 ·exact show (2:Int)≠1 by decide
 ·split
  ·exact show (2:Int)≠1 by decide
  ·unfold mainR
   split
   ·exact show (3:Int)≠1 by decide
   ·exact show (0:Int)≠1 by decide
theorem checkR_ne (t:PTree) (fs:List (PFunc×List St)):(checkR t fs).1≠1:=by
 unfold checkR
 split
 ·cases hb:bodiesR t fs 0 with
  | some r=>exact bodiesR_ne t fs 0 r hb
  | none =>
    simp only
    cases recFrom t (findF t mainB) t.funcs.length 0 with
    | some f=>exact show (7:Int)≠1 by decide
    | none=>exact show (0:Int)≠1 by decide
 ·exact namesR_ne t
theorem tree_calls {t:PTree} (h:(checkAns t).1=1) (f:Int):callsAns t f=[]:=by
 unfold checkAns at h
 by_cases hv:valid t=true
 ·rw [if_pos hv] at h
  exact absurd h (checkR_ne t _)
 ·unfold callsAns
  rw [if_neg (fun e=>hv e.1)]
theorem good_met {t:PTree} (h:(checkAns t).1=0):(0≤findF t mainB∧findF t mainB<t.funcs.length)∧∀ x,MetF t (findF t mainB) x→¬ Rch t [x] x:=by
 have hv:=check_valid h
 unfold checkAns at h
 rw [if_pos hv] at h
 obtain ⟨h1,h2⟩:=check_met h
 refine ⟨⟨h1,?_⟩,h2⟩
 rcases findF_range t mainB with e | ⟨_,e,_⟩
 ·omega
 ·exact e
theorem in_range_le {t:PTree} {l:List Int} (hn:l.Nodup) (hl:∀ x∈l,0≤x∧x<t.funcs.length):l.length≤t.funcs.length:=by
 have h:=nodup_le hn (l':=(List.range t.funcs.length).map Int.ofNat) (fun x hx=>by
  obtain ⟨h1,h2⟩:=hl x hx
  exact List.mem_map.2 ⟨x.toNat,List.mem_range.2 (by omega),by show ((x.toNat:Nat):Int)=x;omega⟩)
 simpa using h
theorem nodup_snoc {l:List Int} {x:Int} (h:l.Nodup) (hx:x∉l):(l ++ [x]).Nodup:=by
 rw [List.nodup_append]
 exact ⟨h,by simp,fun a ha b hb=>by rw [List.mem_singleton.1 hb];rintro rfl;exact hx ha⟩
structure Live (t:PTree) (m:Int) (l:List Int):Prop where
 met:∀ x∈l,MetF t m x
 nodup:l.Nodup
theorem Live.start (t:PTree) (m:Int):Live t m [m]:=⟨fun x hx=>.inl (List.mem_singleton.1 hx),by simp⟩
theorem Live.add {t:PTree} {m f x:Int} {l:List Int} (h:Live t m l) (hf:f∈l) (hx:x∈succ t f) (hn:x∉l):Live t m (l ++ [x]) :=
 ⟨fun y hy=>by
  rcases List.mem_append.1 hy with hy | hy
  ·exact h.met y hy
  ·rw [List.mem_singleton.1 hy]
   exact (h.met f hf).succ hx,nodup_snoc h.nodup hn⟩
theorem Live.range {t:PTree} {m:Int} {l:List Int} (hm:0≤m∧m<t.funcs.length) (h:Live t m l):∀ x∈l,0≤x∧x<t.funcs.length:=fun x hx=>met_all hm (h.met x hx)
theorem Live.le {t:PTree} {m:Int} {l:List Int} (hm:0≤m∧m<t.funcs.length) (h:Live t m l):l.length≤t.funcs.length:=in_range_le h.nodup (h.range hm)
structure From (t:PTree) (a:Int) (l:List Int):Prop where
 met:∀ x∈l,Rch t [a] x
 nodup:l.Nodup
theorem From.start (t:PTree) (a:Int):From t a (succ t a):=⟨fun x hx=>.base (List.mem_singleton.2 rfl) hx,(succ_asc t a).imp (fun h=>by omega)⟩
theorem From.add {t:PTree} {a f x:Int} {l:List Int} (h:From t a l) (hf:f∈l) (hx:x∈succ t f) (hn:x∉l):From t a (l ++ [x]) :=
 ⟨fun y hy=>by
  rcases List.mem_append.1 hy with hy | hy
  ·exact h.met y hy
  ·rw [List.mem_singleton.1 hy]
   exact .step (h.met f hf) hx,nodup_snoc h.nodup hn⟩
theorem From.range {t:PTree} {a:Int} {l:List Int} (h:From t a l):∀ x∈l,0≤x∧x<t.funcs.length:=fun x hx=>(h.met x hx).range
theorem From.le {t:PTree} {a:Int} {l:List Int} (h:From t a l):l.length≤t.funcs.length:=in_range_le h.nodup h.range
theorem From.ne {t:PTree} {m a x:Int} {l:List Int} (hm:∀ x,MetF t m x→¬ Rch t [x] x) (ha:MetF t m a) (h:From t a l) (hx:x∈l):x≠a:=by
 rintro rfl
 exact hm x ha (h.met x hx)
end Go.Proofs.YtcfggjmdcaoecaaGreatDoor.Md
namespace Go.Proofs.YtcfggjmdcaoecaaGreatDoor
open Go Go.RowKit Md Go.Proofs.YtcfggjmdcaoecaaGreatDoorW.PrintLast
def DrawsC (w:World) (e:Ending) (w':World):Prop:=∃ vG vF t,e=.returned (.agg #[vG,vF])∧SlGlob AnyB w' vG t.globals∧SlFunc AnyB w' vF t.funcs∧Small t∧Ext w w'
theorem list_slC {w:World} {base:Nat} {v:Value} {l:List Int} (h:w.ownsRow base 2 1 v l.length (l.map (Value.int .i64))) (hl:∀ x∈l,I64 x):SlInt .i64 AnyB w v l :=
 sl_own (E:=2) (Value.int .i64) (CInt .i64) (fun _ _=>.inr trivial) h (fun _ _=>trivial) (fun y hy=>⟨rfl,by
  have:=hl y hy
  simp [Lit.wf]
  exact this⟩)
theorem calls_succC {t:PTree} (hv:valid t=true) {f:Nat} (hf:f<t.funcs.length):callsAns t (f:Int)=succ t (f:Int):=by
 unfold callsAns
 rw [if_pos ⟨hv,by omega,by omega⟩]
 unfold succ
 congr 1
theorem app_pair {w0 wr:World} {b5 b7 n m:Nat} {v5 v7:Value} {l l7:List Int} (hX:Ext w0 wr) (h5:wr.ownsRow b5 2 1 v5 n (l.map (Value.int .i64))) (h7:wr.ownsRow b7 2 1 v7 m (l7.map (Value.int .i64))) (hb:w0.heap.size≤b5) (hb5:b5≤wr.heap.size) (hne:∀ g,v5.ownBlock=some g→v7.ownBlock≠some g) (x:Int) (hn:n≤2000) :
  ∃ a c w',(Builtin.append_ #[27,27] 27 #[v5,.slice (some ⟨wr.heap.size,0,none⟩) 1 1]).run Tryz.prog (wr.alloc (.cells #[.int .i64 x] 2))=.ok (.slice a (n+1) c) w' ∧
   w'.ownsRow b5 2 1 (.slice a (n+1) c) (n+1) ((l ++ [x]).map (Value.int .i64))∧w'.ownsRow b7 2 1 v7 m (l7.map (Value.int .i64))∧(∀ g,(Value.slice a (n+1) c).ownBlock=some g→v7.ownBlock≠some g)∧Ext w0 w'∧wr.heap.size≤w'.heap.size:=by
 obtain ⟨i1,hi1,hy0,hy1,hy2⟩:=info_parts info_int64
 obtain ⟨v',w',r1,r2,r3,r4⟩:=app_one2 w0 wr hX b5 hb5 hi1 hy0 hy1 hy2 v5 n l h5 x (by omega)
 obtain ⟨a,c,rfl⟩:=rw_form0 r2
 have X1:Ext wr (wr.alloc (.cells #[.int .i64 x] 2)):=(Ext.refl wr).alloc _
 have h7':=rw_ext h7 X1
 have hsz:=r3.size
 have hs1:=X1.size
 refine ⟨a,c,w',r1,r2,rw_grown h7' r3 (fun g hg e=>hne g e hg),fun g hg e=>?_,Below.grown (hX.trans X1) r3 (Nat.le_trans hX.size hs1) (fun k hk=>Nat.le_trans hb (rw_ge h5 k hk)),Nat.le_trans hs1 hsz⟩
 rcases r4 with q | q
 ·exact hne g (q.symm.trans hg) e
 ·have hl:=rw_lt h7 g e
  rw [q] at hg
  cases hg
  omega
theorem rows_sl {w:World} {base n:Nat} {v:Value} {l:List Int} (h:w.ownsRow base 2 1 v n (l.map (Value.int .i64))) (hl:∀ x∈l,I64 x):SlInt .i64 AnyB w v l:=by
 obtain rfl:=rowI_len h
 exact list_slC h hl
theorem rng64 {t:PTree} (hn:t.funcs.length≤50) {l:List Int} (h:∀ x∈l,0≤x∧x<t.funcs.length):∀ x∈l,I64 x:=fun x hx=>by
 have:=h x hx
 unfold I64
 omega
set_option maxRecDepth 1000000 in
set_option maxHeartbeats 16000000 in
theorem w_FnCheck (a:Option Addr) (n cap:Nat) (w:World) (hcap:n≤9223372036854775807) (hD:n≤1048576→Calls Tryz.prog 21 #[.slice a n cap] w (DrawsC w)) (hres:Res w)
  (hg:w.cell? ⟨0,0,none⟩=some (.iface 196 (.agg #[.pointer (some ⟨2,72,none⟩)]))) :
  Calls Tryz.prog 5 #[.slice a n cap] w (Gives (.bool true) w):=by
 have HRes:=Lib.hid hres
 have Hg:=Lib.hid hg
 by_cases hn:n≤1048576
 ·have HD:=Lib.hid (hD hn)
  have hn2:¬ (1048576:Int)<(n:Int):=by omega
  clear hD hres hg
  go_enter Tryz.func5,Tryz.ntmps5
  go_wp2_with fail
  refine HD.out.mono ?_
  rintro e w1 ⟨vG,vF,t,rfl,hG,hF,hz,hX1⟩
  obtain ⟨aG,nG,cG,rfl⟩:=hG.shape
  obtain ⟨aF,nF,cF,rfl,HlF,_,_,_⟩:=Sl.op hF
  have BT:=Blk.alloc w1 32 #[.slice aG nG cG,.slice aF nF cF]
  have X2:Ext w1 (w1.alloc (.cells #[.slice aG nG cG,.slice aF nF cF] 32)):=(Ext.refl w1).alloc _
  generalize hw2:w1.alloc (.cells #[.slice aG nG cG,.slice aF nF cF] 32)=w2 at BT X2
  have HX2:=Lib.hid (hX1.trans X2)
  have HG:Hid (∀ w',Ext w2 w'→SlGlob AnyB w' (.slice aG nG cG) t.globals):=fun w' h=>hG.ext (X2.trans h) (fun _ _ h=>h.any)
  have HF:Hid (∀ w',Ext w2 w'→SlFunc AnyB w' (.slice aF nF cF) t.funcs):=fun w' h=>Sl.ext hF (X2.trans h) (fun _ _ k=>k.ext (X2.trans h))
  have HR2:Hid (∀ w',Ext w2 w'→Res w'):=fun w' h=>HRes.out.ext (HX2.out.trans h)
  have HZ:Hid (Small t):=hz
  have HBT:=Lib.hid BT
  have Ht:Hid (∀ w',Ext w2 w'→w'.cell? ⟨w1.heap.size,0,none⟩=some (.slice aG nG cG)∧w'.cell? ⟨w1.heap.size,1,none⟩=some (.slice aF nF cF)):=fun w' h=>⟨h.cell ((BT.cell 0).trans rfl),h.cell ((BT.cell 1).trans rfl)⟩
  obtain ⟨ra,rb,rc,hr⟩:∃ ra rb rc,checkAns t=(ra,rb,rc):=⟨_,_,_,rfl⟩
  have Hr:=Lib.hid hr
  have HSC:Hid (∀ w',Ext w2 w'→Calls Tryz.prog 18 #[.agg #[.slice aG nG cG,.slice aF nF cF]] w' (fun e w''=>e=.returned (.agg #[.int .i64 ra,.int .i64 rb,.int .i64 rc])∧Ext w' w'')):=fun w' h=>by
   have:=s_CheckC AnyB t (.slice aG nG cG) (.slice aF nF cF) w' (HG.out _ h) (HF.out _ h) HZ.out
   rw [Hr.out] at this
   exact this
  have HIC:Hid (∀ w',Ext w2 w'→Calls Tryz.prog 19 #[.agg #[.slice aG nG cG,.slice aF nF cF]] w' (fun e w''=>e=.returned (.agg #[.int .i64 ra,.int .i64 rb,.int .i64 rc])∧Ext w' w'')):=fun w' h=>by
   have:=i_CheckC AnyB t (.slice aG nG cG) (.slice aF nF cF) w' (HG.out _ h) (HF.out _ h) HZ.out (HR2.out _ h) ((HX2.out.trans h).cell Hg.out)
   rw [Hr.out] at this
   exact this
  have HCa:Hid (∀ (f:Int) w',Ext w2 w'→-9223372036854775808≤f∧f≤9223372036854775807→Calls Tryz.prog 12 #[.agg #[.slice aG nG cG,.slice aF nF cF],.int .i64 f] w' (Listed64 w' (callsAns t f))):=fun f w' h hf =>
   i_Calls AnyB t (.slice aG nG cG) (.slice aF nF cF) f w' (HG.out _ h) (HF.out _ h) HZ.out (HR2.out _ h) hf
  have HMa:Hid (∀ w',Ext w2 w'→Calls Tryz.prog 22 #[.agg #[.slice aG nG cG,.slice aF nF cF]] w' (Gives (.int .i64 (findF t mainB)) w')):=fun w' h =>
   c_lwMain AnyB t (.slice aG nG cG) (.slice aF nF cF) w' (HG.out _ h) (HF.out _ h)
  obtain ⟨t0,t1⟩:=Ht.out w2 (Ext.refl _)
  clear hG hF hz hX1 BT X2 HD hr
  go_wp2_with fail
  refine (HSC.out w2 (Ext.refl _)).mono ?_
  rintro e w3 ⟨rfl,hX3⟩
  clear hw2 t0 t1
  have B4:=Blk.alloc w3 40 #[.int .i64 ra,.int .i64 rb,.int .i64 rc]
  have X4:Ext w3 (w3.alloc (.cells #[.int .i64 ra,.int .i64 rb,.int .i64 rc] 40)):=(Ext.refl w3).alloc _
  generalize hw4:w3.alloc (.cells #[.int .i64 ra,.int .i64 rb,.int .i64 rc] 40)=w4 at B4 X4
  have HX4:=Lib.hid (hX3.trans X4)
  have HB4:=Lib.hid B4
  have Hb:Hid (∀ w',Ext w4 w'→w'.cell? ⟨w3.heap.size,0,none⟩=some (.int .i64 ra)∧w'.cell? ⟨w3.heap.size,1,none⟩=some (.int .i64 rb)∧w'.cell? ⟨w3.heap.size,2,none⟩=some (.int .i64 rc)):=fun w' h=>⟨h.cell ((B4.cell 0).trans rfl),h.cell ((B4.cell 1).trans rfl),h.cell ((B4.cell 2).trans rfl)⟩
  have Xd:Ext w4 w4.drew:=(Ext.refl w4).drew
  clear hX3 B4 X4
  go_wp2_with fail
  clear hw4
  refine start_ (n:=4) (S:=fun w'=>w'.cell? ⟨w1.heap.size,0,none⟩=some (.slice aG nG cG)∧w'.cell? ⟨w1.heap.size,1,none⟩=some (.slice aF nF cF)∧w'.cell? ⟨w3.heap.size,0,none⟩=some (.int .i64 ra)∧w'.cell? ⟨w3.heap.size,1,none⟩=some (.int .i64 rb)∧w'.cell? ⟨w3.heap.size,2,none⟩=some (.int .i64 rc)) (ds:=[]) #[false,false,false,false] (by kernel_rfl) rfl rfl ?hS (fun hHeld=>?_)
  case hS=>exact ⟨(Ht.out _ (HX4.out.trans Xd)).1,(Ht.out _ (HX4.out.trans Xd)).2,Hb.out _ Xd⟩
  refine ta_ 0 (some 21) #[true,false,false,false] rfl rfl (by kernel_rfl) (fun _ _ _ h=>h) hHeld (by rfl) (by rintro w' ⟨s0,s1,s2⟩;go_simp;with_reducible rfl) (by simp only [pt_];rfl) ?_
  refine ta_ 2 (some 23) #[true,false,true,false] rfl rfl (by kernel_rfl) (fun _ _ _ h=>h) hHeld (by rfl) (by rintro w' ⟨s0,s1,s2,s3,s4⟩;go_simp;with_reducible rfl) (by simp only [pt_];rfl) ?_
  generalize w4.drew=wd at Xd hHeld ⊢
  refine one_ (i:=1) (N:=some 22) #[true,true,true,false] rfl rfl (by kernel_rfl) (by decide) (fun K hK=>?_)
  refine goes_ (N:=some 22) Tryz.func19 (by kernel_rfl) rfl #[.agg #[.slice aG nG cG,.slice aF nF cF]] (by rfl) rfl rfl (by simp [Act.eval]) ?_
  refine (HIC.out wd (HX4.out.trans Xd)).mono ?_
  rintro e w5 ⟨rfl,hX5⟩
  refine ⟨_,rfl,?_⟩
  have X45:Ext w4 w5:=Xd.trans hX5
  refine hK.out _ _ ⟨(Ht.out _ (HX4.out.trans X45)).1,(Ht.out _ (HX4.out.trans X45)).2,Hb.out _ X45⟩ (fun hHeld=>?_)
  clear hK K
  refine norm_ (by show Act.put _ (some 22) _=_;simp only [pt_];rfl) ?_
  refine pu_ 3 (some 24) #[true,true,true,true] rfl rfl (by kernel_rfl) (fun _ _ _ h=>h) (by rfl) (by intro w';go_simp;with_reducible rfl) (by simp only [pt_];rfl) ?_
  refine done_ (by kernel_rfl) ?_
  clear hHeld
  have HX5:Hid (Ext w2 w5):=HX4.out.trans X45
  obtain ⟨t0,t1⟩:=Ht.out w5 HX5.out
  obtain ⟨b0,b1,b2⟩:=Hb.out w5 X45
  clear X45 hX5 Xd HSC HIC
  by_cases h0:ra=0
  ·subst h0
   have Hck:Hid ((checkAns t).1=0):=by show _=_;rw [Hr.out]
   obtain ⟨m0,hm0⟩:∃ m0,m0=findF t mainB:=⟨_,rfl⟩
   obtain ⟨hm,hrec⟩:=good_met Hck.out
   have hv:=check_valid Hck.out
   have HN:Hid (t.funcs.length≤50):=(valid_bounds hv).2.1
   have HCs:Hid (∀ (f:Int) w',Ext w2 w'→0≤f∧f<t.funcs.length→Calls Tryz.prog 12 #[.agg #[.slice aG nG cG,.slice aF nF cF],.int .i64 f] w' (Listed64 w' (succ t f))):=fun f w' h hf=>by
    have h50:=HN.out
    have:=HCa.out f w' h (by omega)
    obtain ⟨k,rfl⟩:∃ k:Nat,f=k:=⟨f.toNat,by omega⟩
    rw [calls_succC hv (by omega)] at this
    exact this
   rw [← hm0] at HMa hm hrec
   have Hrec:=Lib.hid hrec
   have Hm:=Lib.hid hm
   clear hv hrec hm hm0 HCa Hr
   go_wp2_with fail
   refine (HMa.out w5 HX5.out).mono ?_
   rintro e w6 ⟨rfl,hX6⟩
   have hO6:=one_row w6 m0
   have X7:Ext w6 (w6.alloc (.cells #[.int .i64 m0] 2)):=(Ext.refl w6).alloc _
   have HX6:Hid (Ext w2 w6):=HX5.out.trans hX6
   generalize hw7:w6.alloc (.cells #[.int .i64 m0] 2)=w7 at hO6 X7
   have HO6:Hid (w7.ownsRow w6.heap.size 2 1 (.slice (some ⟨w6.heap.size,0,none⟩) 1 1) 1 ([m0].map (Value.int .i64))):=hO6
   have HX7:=Lib.hid X7
   clear hO6 X7 hX6 b0 b1 b2 t0 t1 Hb HB4 HX4
   go_wp2_with fail
   clear hw7
   go_loopw [5,6] (fun v5 v6 w8=>∃ (l:List Int) (i nl cl:Nat) (al:Option Addr),v5=.slice al nl cl∧v6=.int .i64 i∧i≤nl∧nl≤50∧Hid (w8.ownsRow w6.heap.size 2 1 (.slice al nl cl) nl (l.map (Value.int .i64)))∧Hid (Live t m0 l)∧Hid (Ext w6 w8)) (fun _ v6 _=>50 - (intOf v6).toNat)
   case atStart=>exact ⟨[m0],0,1,1,_,rfl,rfl,by omega,by omega,HO6.out,Live.start t m0,HX7.out⟩
   case round =>
    clear HO6 HX7
    obtain ⟨l,i,nl,cl,al,rfl,rfl,hi,hn50,HO,HL,HX⟩:=hrel
    by_cases hlt:i<nl
    ·obtain ⟨f,hf⟩:∃ f,l[i]? = some f:=⟨l[i]'(by have:=rowI_len HO.out;omega),List.getElem?_eq_getElem _⟩
     have Hfr:Hid (0≤f∧f<t.funcs.length):=HL.out.range Hm.out f (List.mem_of_getElem? hf)
     have Hf:=Lib.hid hf
     clear hf
     obtain ⟨g5,d5,e5,_,_,_,_⟩:=rw_form HO.out (by omega)
     obtain ⟨rfl,rfl⟩:al=some ⟨g5,0,none⟩∧d5=cl:=by cases e5;exact ⟨rfl,rfl⟩
     clear e5
     have k0:=(rw_at HO.out (i:=i) (u:=.int .i64 f) (by rw [List.getElem?_map,Hf.out];rfl)).1
     have Xd:Ext wr wr.drew:=(Ext.refl wr).drew
     have HXr:Hid (Ext w2 wr):=HX6.out.trans HX.out
     obtain ⟨t0,t1⟩:=Ht.out wr HXr.out
     have z0:(0:Int)≤(i:Int):=by omega
     have z1:(i:Int)<(nl:Int):=by omega
     go_wp2_with fail
     refine start_ (n:=7) (S:=fun w'=>w'.cell? ⟨w1.heap.size,0,none⟩=some (.slice aG nG cG)∧w'.cell? ⟨w1.heap.size,1,none⟩=some (.slice aF nF cF)∧w'.cell? ⟨g5,i,none⟩=some (.int .i64 f)) (ds:=[]) #[false,false,false,false,false,false,false] (by kernel_rfl) rfl rfl ?hS (fun hHeld=>?_)
     case hS=>exact ⟨Xd.cell t0,Xd.cell t1,Xd.cell (by simpa using k0)⟩
     refine ta_ 0 (some 46) #[true,false,false,false,false,false,false] rfl rfl (by kernel_rfl) (fun _ _ _ h=>h) hHeld (by rfl) (by rintro w' ⟨s0,s1,s2⟩;go_simp;with_reducible rfl) (by simp only [pt_];rfl) ?_
     refine pu_ 1 (some 47) #[true,true,false,false,false,false,false] rfl rfl (by kernel_rfl) (fun _ _ _ h=>h) (by rfl) (by intro w';go_simp;with_reducible rfl) (by simp only [pt_];rfl) ?_
     refine pu_ 2 (some 48) #[true,true,true,false,false,false,false] rfl rfl (by kernel_rfl) (fun _ _ _ h=>h) (by rfl) (by intro w';go_simp;with_reducible rfl) (by simp only [pt_];rfl) ?_
     refine pu_ 3 (some 49) #[true,true,true,true,false,false,false] rfl rfl (by kernel_rfl) (fun _ _ _ h=>h) (by rfl) (by intro w';go_simp;with_reducible rfl) (by simp only [pt_];rfl) ?_
     refine ta_ 4 (some 50) #[true,true,true,true,true,false,false] rfl rfl (by kernel_rfl) (fun _ _ _ h=>h) hHeld (by rfl) (by rintro w' ⟨s0,s1,s2⟩;go_simp;with_reducible rfl) (by simp only [pt_];rfl) ?_
     generalize wr.drew=wd at Xd hHeld ⊢
     obtain ⟨e0,e1,e2⟩:=hHeld
     refine one_ (i:=5) (N:=some 51) #[true,true,true,true,true,true,false] rfl rfl (by kernel_rfl) (by decide) (fun K hK=>?_)
     refine goes_ (N:=some 51) Tryz.func12 (by kernel_rfl) rfl #[.agg #[.slice aG nG cG,.slice aF nF cF],.int .i64 f] (by rfl) rfl rfl (by simp [Act.eval]) ?_
     refine (HCs.out f wd (HXr.out.trans Xd) Hfr.out).mono ?_
     rintro e w8 ⟨v7,rfl,ho7,hX8⟩
     refine ⟨_,rfl,?_⟩
     refine hK.out _ _ ⟨hX8.cell e0,hX8.cell e1,hX8.cell e2⟩ (fun hHeld=>?_)
     clear hK K
     refine norm_ (by show Act.put _ (some 51) _=_;simp only [pt_];rfl) ?_
     refine pu_ 6 (some 7) #[true,true,true,true,true,true,true] rfl rfl (by kernel_rfl) (fun _ _ _ h=>h) (by rfl) (by intro w';go_simp;with_reducible rfl) (by simp only [pt_];rfl) ?_
     refine done_ (by kernel_rfl) ?_
     obtain ⟨m,hm⟩:∃ m,m=(succ t f).length:=⟨_,rfl⟩
     rw [← hm] at ho7
     obtain ⟨a7,c7,rfl⟩:=rw_form0 ho7
     have H7:=Lib.hid (rw_base ho7 Xd.size)
     have HX8:Hid (Ext wr w8):=Xd.trans hX8
     have HO8:=Lib.hid (rw_ext HO.out HX8.out)
     have hm50:m≤50:=by
      have h1:(succ t f).length≤t.funcs.length:=callsL_len t _
      have h2:=HN.out
      omega
     have Hml:=Lib.hid hm
     clear hm ho7 hX8 Xd hHeld e0 e1 e2 t0 t1 k0
     have HD8:Hid (∀ g,(Value.slice (some ⟨g5,0,none⟩) nl d5).ownBlock=some g→(Value.slice a7 m c7).ownBlock≠some g):=fun g h1 h2=>by
      have h3:=rw_lt HO.out g h1
      have h4:=rw_ge H7.out g h2
      omega
     have Hfl:Hid (f∈l):=List.mem_of_getElem? Hf.out
     obtain ⟨S0,hS0⟩:∃ S0,S0=wr.heap.size:=⟨_,rfl⟩
     rw [← hS0] at H7
     have HXi:Hid (Ext w6 w8):=HX.out.trans HX8.out
     clear hS0
     go_wp2_with fail
     go_loopw [5,8] (fun vS vT wi=>∃ (l':List Int) (k n' c':Nat) (a':Option Addr),vS=.slice a' n' c'∧vT=.int .i64 k∧k≤m∧i<n'∧n'≤50∧Hid (wi.ownsRow w6.heap.size 2 1 (.slice a' n' c') n' (l'.map (Value.int .i64)))∧Hid (wi.ownsRow S0 2 1 (.slice a7 m c7) m ((succ t f).map (Value.int .i64))) ∧
       Hid (∀ g,(Value.slice a' n' c').ownBlock=some g→(Value.slice a7 m c7).ownBlock≠some g)∧Hid (Live t m0 l')∧Hid (f∈l')∧Hid (Ext w6 wi)) (fun _ vT _=>m - (intOf vT).toNat)
     case atStart=>exact ⟨l,0,_,_,_,rfl,rfl,Nat.zero_le _,by omega,by omega,HO8.out,H7.out,HD8.out,HL.out,Hfl.out,HXi.out⟩
     case round =>
      clear HO8 H7 HD8 Hfl HXi HX8
      obtain ⟨l',k,n',c',a',rfl,rfl,hk,hin,hn',HO',H7,HD',HP',Hfl,HX'⟩:=hrel
      by_cases hlk:k<m
      ·obtain ⟨x,hx⟩:∃ x,(succ t f)[k]? = some x:=⟨(succ t f)[k]'(by have:=Hml.out;omega),List.getElem?_eq_getElem _⟩
       obtain ⟨g7,d7,e7,_,_,_,_⟩:=rw_form H7.out (by omega)
       obtain ⟨rfl,rfl⟩:a7=some ⟨g7,0,none⟩∧d7=c7:=by cases e7;exact ⟨rfl,rfl⟩
       have k7:=(rw_at H7.out (i:=k) (u:=.int .i64 x) (by rw [List.getElem?_map,hx];rfl)).1
       obtain ⟨bx,hbx⟩:∃ bx,bx=decide (x∈l'):=⟨_,rfl⟩
       have HLh:=Lib.hid (c_lwHas AnyB l' (.slice a' n' c') x wr (rows_sl HO'.out (rng64 HN.out (HP'.out.range Hm.out))))
       rw [← hbx] at HLh
       have Hbx:=Lib.hid hbx
       have Hx:=Lib.hid hx
       have z2:(0:Int)≤(k:Int):=by omega
       have z3:(k:Int)<(m:Int):=by omega
       clear e7 hbx hx
       go_wp2_with fail
       refine HLh.out.mono ?_
       rintro e w9 ⟨rfl,rfl⟩
       cases bx with
       | true =>
         go_wp2
         go_roundw
         case rel=>exact ⟨l',k+1,n',c',a',rfl,by go_num,by omega,hin,hn',HO'.out,H7.out,HD'.out,HP'.out,Hfl.out,HX'.out⟩
         case measure=>simp [intOf];omega
       | false =>
         have hnx:x∉l':=fun h=>by have:=Hbx.out;rw [decide_eq_true h] at this;cases this
         obtain ⟨a9,c9,w9,r9,o9,p9,d9,x9,s9⟩:=app_pair HX'.out HO'.out H7.out (Nat.le_refl _) HX'.out.size HD'.out x (by omega)
         have hP9:=HP'.out.add Hfl.out (List.mem_of_getElem? Hx.out) hnx
         have h50:n'+1≤50:=by
          have h1:=rowI_len o9
          have h2:=hP9.le Hm.out
          have h3:=HN.out
          omega
         have Hr9:=Lib.hid r9
         have HO9:=Lib.hid o9
         have H79:=Lib.hid p9
         have HD9:=Lib.hid d9
         have HX9:=Lib.hid x9
         have HP9:=Lib.hid hP9
         have Hf9:Hid (f∈l' ++ [x]):=List.mem_append_left _ Hfl.out
         clear r9 o9 p9 d9 x9 s9 hP9 HLh
         go_wp2_with (at_builtin;refine Lib.wpList_append_run _ rfl _ _ _ _ rfl _ _ rfl rfl _ _ Hr9.out ?_)
         go_roundw
         case rel=>exact ⟨l' ++ [x],k+1,n'+1,c9,a9,rfl,by go_num,by omega,by omega,h50,HO9.out,H79.out,HD9.out,HP9.out,Hf9.out,HX9.out⟩
         case measure=>simp [intOf];omega
      ·clear HD' H7
       go_wp2
       go_roundw
       case rel=>exact ⟨l',i+1,n',c',a',rfl,by go_num,by omega,hn',HO'.out,HP'.out,HX'.out⟩
       case measure=>simp [intOf];omega
    ·have HXl:Hid (Ext w2 wr):=HX6.out.trans HX.out
     obtain ⟨wA,rfl⟩:∃ wA,wA=wr:=⟨_,rfl⟩
     go_wp2_with fail
     go_loopw [9] (fun v9 w8=>∃ j:Nat,v9=.int .i64 j∧j≤nl∧Hid (Ext wA w8)) (fun v9 _=>50 - (intOf v9).toNat)
     case atStart=>exact ⟨0,rfl,by omega,Ext.refl _⟩
     case round =>
      obtain ⟨j,rfl,hj,HXa⟩:=hrel
      by_cases hlj:j<nl
      ·obtain ⟨f,hf⟩:∃ f,l[j]? = some f:=⟨l[j]'(by have:=rowI_len HO.out;omega),List.getElem?_eq_getElem _⟩
       have Hfr:Hid (0≤f∧f<t.funcs.length):=HL.out.range Hm.out f (List.mem_of_getElem? hf)
       have Hmet:Hid (MetF t m0 f):=HL.out.met f (List.mem_of_getElem? hf)
       have Hf:=Lib.hid hf
       have HOr:=Lib.hid (rw_ext HO.out HXa.out)
       have HXar:Hid (Ext w2 wr):=HXl.out.trans HXa.out
       clear hf
       obtain ⟨g5,d5,e5,_,_,_,_⟩:=rw_form HOr.out (by omega)
       obtain ⟨rfl,rfl⟩:al=some ⟨g5,0,none⟩∧d5=cl:=by cases e5;exact ⟨rfl,rfl⟩
       clear e5
       have k0:=(rw_at HOr.out (i:=j) (u:=.int .i64 f) (by rw [List.getElem?_map,Hf.out];rfl)).1
       have Xd:Ext wr wr.drew:=(Ext.refl wr).drew
       have HXr:Hid (Ext w2 wr):=HXar.out
       obtain ⟨t0,t1⟩:=Ht.out wr HXr.out
       have z0:(0:Int)≤(j:Int):=by omega
       have z1:(j:Int)<(nl:Int):=by omega
       go_wp2_with fail
       refine start_ (n:=7) (S:=fun w'=>w'.cell? ⟨w1.heap.size,0,none⟩=some (.slice aG nG cG)∧w'.cell? ⟨w1.heap.size,1,none⟩=some (.slice aF nF cF)∧w'.cell? ⟨g5,j,none⟩=some (.int .i64 f)) (ds:=[]) #[false,false,false,false,false,false,false] (by kernel_rfl) rfl rfl ?hS (fun hHeld=>?_)
       case hS=>exact ⟨Xd.cell t0,Xd.cell t1,Xd.cell (by simpa using k0)⟩
       refine ta_ 0 (some 78) #[true,false,false,false,false,false,false] rfl rfl (by kernel_rfl) (fun _ _ _ h=>h) hHeld (by rfl) (by rintro w' ⟨s0,s1,s2⟩;go_simp;with_reducible rfl) (by simp only [pt_];rfl) ?_
       refine pu_ 1 (some 79) #[true,true,false,false,false,false,false] rfl rfl (by kernel_rfl) (fun _ _ _ h=>h) (by rfl) (by intro w';go_simp;with_reducible rfl) (by simp only [pt_];rfl) ?_
       refine pu_ 2 (some 80) #[true,true,true,false,false,false,false] rfl rfl (by kernel_rfl) (fun _ _ _ h=>h) (by rfl) (by intro w';go_simp;with_reducible rfl) (by simp only [pt_];rfl) ?_
       refine pu_ 3 (some 81) #[true,true,true,true,false,false,false] rfl rfl (by kernel_rfl) (fun _ _ _ h=>h) (by rfl) (by intro w';go_simp;with_reducible rfl) (by simp only [pt_];rfl) ?_
       refine ta_ 4 (some 82) #[true,true,true,true,true,false,false] rfl rfl (by kernel_rfl) (fun _ _ _ h=>h) hHeld (by rfl) (by rintro w' ⟨s0,s1,s2⟩;go_simp;with_reducible rfl) (by simp only [pt_];rfl) ?_
       generalize wr.drew=wd at Xd hHeld ⊢
       obtain ⟨e0,e1,e2⟩:=hHeld
       refine one_ (i:=5) (N:=some 83) #[true,true,true,true,true,true,false] rfl rfl (by kernel_rfl) (by decide) (fun K hK=>?_)
       refine goes_ (N:=some 83) Tryz.func12 (by kernel_rfl) rfl #[.agg #[.slice aG nG cG,.slice aF nF cF],.int .i64 f] (by rfl) rfl rfl (by simp [Act.eval]) ?_
       refine (HCs.out f wd (HXr.out.trans Xd) Hfr.out).mono ?_
       rintro e w8 ⟨v7,rfl,ho7,hX8⟩
       refine ⟨_,rfl,?_⟩
       refine hK.out _ _ ⟨hX8.cell e0,hX8.cell e1,hX8.cell e2⟩ (fun hHeld=>?_)
       clear hK K
       refine norm_ (by show Act.put _ (some 83) _=_;simp only [pt_];rfl) ?_
       refine pu_ 6 (some 10) #[true,true,true,true,true,true,true] rfl rfl (by kernel_rfl) (fun _ _ _ h=>h) (by rfl) (by intro w';go_simp;with_reducible rfl) (by simp only [pt_];rfl) ?_
       refine done_ (by kernel_rfl) ?_
       obtain ⟨m,hm⟩:∃ m,m=(succ t f).length:=⟨_,rfl⟩
       rw [← hm] at ho7
       obtain ⟨a7,c7,rfl⟩:=rw_form0 ho7
       have H7:=Lib.hid (rw_base ho7 Xd.size)
       have HX8:Hid (Ext wr w8):=Xd.trans hX8
       have HO8:=Lib.hid (rw_ext HOr.out HX8.out)
       have hm50:m≤50:=by
        have h1:(succ t f).length≤t.funcs.length:=callsL_len t _
        have h2:=HN.out
        omega
       have Hml:=Lib.hid hm
       clear hm ho7 hX8 Xd hHeld e0 e1 e2 t0 t1 k0
       have HF0:Hid (From t f (succ t f)):=From.start t f
       obtain ⟨wB,rfl⟩:∃ wB,wB=wr:=⟨_,rfl⟩
       clear HO8
       go_wp2_with fail
       go_loopw [10,11] (fun v10 v11 w9=>∃ (lf:List Int) (q nf cf:Nat) (af:Option Addr),v10=.slice af nf cf∧v11=.int .i64 q∧q≤nf∧nf≤50∧Hid (w9.ownsRow wB.heap.size 2 1 (.slice af nf cf) nf (lf.map (Value.int .i64)))∧Hid (From t f lf)∧Hid (Ext wB w9)) (fun _ v11 _=>50 - (intOf v11).toNat)
       case atStart=>exact ⟨succ t f,0,_,_,_,rfl,rfl,Nat.zero_le _,by omega,H7.out,HF0.out,HX8.out⟩
       case round =>
        clear H7 HX8 HF0
        obtain ⟨lf,q,nf,cf,af,rfl,rfl,hq,hnf50,HOf,HFm,HXb⟩:=hrel
        by_cases hlq:q<nf
        ·obtain ⟨y,hy⟩:∃ y,lf[q]? = some y:=⟨lf[q]'(by have:=rowI_len HOf.out;omega),List.getElem?_eq_getElem _⟩
         have Hyr:Hid (0≤y∧y<t.funcs.length):=HFm.out.range y (List.mem_of_getElem? hy)
         have hyb:(y == f)=false:=by
          have hyf:¬ y=f:=HFm.out.ne Hrec.out Hmet.out (List.mem_of_getElem? hy)
          simpa using hyf
         obtain ⟨g6,d6,e6,_,_,_,_⟩:=rw_form HOf.out (by omega)
         obtain ⟨rfl,rfl⟩:af=some ⟨g6,0,none⟩∧d6=cf:=by cases e6;exact ⟨rfl,rfl⟩
         have k0:=(rw_at HOf.out (i:=q) (u:=.int .i64 y) (by rw [List.getElem?_map,hy];rfl)).1
         have k1:=HXb.out.cell (rw_at HOr.out (i:=j) (u:=.int .i64 f) (by rw [List.getElem?_map,Hf.out];rfl)).1
         have Hy:=Lib.hid hy
         have y0:(0:Int)≤(q:Int):=by omega
         have y1:(q:Int)<(nf:Int):=by omega
         clear hy e6
         go_wp2_with fail
         go_quiet (fail)
         have XQ:Ext wr (wr.drewN nq):=drewN_ext wr nq
         generalize wr.drewN nq=wq at XQ ⊢
         have HOq:=Lib.hid (rw_ext HOf.out XQ)
         have HXq:Hid (Ext wB wq):=HXb.out.trans XQ
         have HXqq:Hid (Ext w2 wq):=HXar.out.trans HXq.out
         clear k0 k1 XQ
         have k0:=(rw_at HOq.out (i:=q) (u:=.int .i64 y) (by rw [List.getElem?_map,Hy.out];rfl)).1
         have Xd:Ext wq wq.drew:=(Ext.refl wq).drew
         have HXr:Hid (Ext w2 wq):=HXqq.out
         obtain ⟨t0,t1⟩:=Ht.out wq HXr.out
         have z0:(0:Int)≤(q:Int):=by omega
         have z1:(q:Int)<(nf:Int):=by omega
         go_wp2_with fail
         refine start_ (n:=7) (S:=fun w'=>w'.cell? ⟨w1.heap.size,0,none⟩=some (.slice aG nG cG)∧w'.cell? ⟨w1.heap.size,1,none⟩=some (.slice aF nF cF)∧w'.cell? ⟨g6,q,none⟩=some (.int .i64 y)) (ds:=[]) #[false,false,false,false,false,false,false] (by kernel_rfl) rfl rfl ?hS (fun hHeld=>?_)
         case hS=>exact ⟨Xd.cell t0,Xd.cell t1,Xd.cell (by simpa using k0)⟩
         refine ta_ 0 (some 99) #[true,false,false,false,false,false,false] rfl rfl (by kernel_rfl) (fun _ _ _ h=>h) hHeld (by rfl) (by rintro w' ⟨s0,s1,s2⟩;go_simp;with_reducible rfl) (by simp only [pt_];rfl) ?_
         refine pu_ 1 (some 100) #[true,true,false,false,false,false,false] rfl rfl (by kernel_rfl) (fun _ _ _ h=>h) (by rfl) (by intro w';go_simp;with_reducible rfl) (by simp only [pt_];rfl) ?_
         refine pu_ 2 (some 101) #[true,true,true,false,false,false,false] rfl rfl (by kernel_rfl) (fun _ _ _ h=>h) (by rfl) (by intro w';go_simp;with_reducible rfl) (by simp only [pt_];rfl) ?_
         refine pu_ 3 (some 102) #[true,true,true,true,false,false,false] rfl rfl (by kernel_rfl) (fun _ _ _ h=>h) (by rfl) (by intro w';go_simp;with_reducible rfl) (by simp only [pt_];rfl) ?_
         refine ta_ 4 (some 103) #[true,true,true,true,true,false,false] rfl rfl (by kernel_rfl) (fun _ _ _ h=>h) hHeld (by rfl) (by rintro w' ⟨s0,s1,s2⟩;go_simp;with_reducible rfl) (by simp only [pt_];rfl) ?_
         generalize wq.drew=wd at Xd hHeld ⊢
         obtain ⟨e0,e1,e2⟩:=hHeld
         refine one_ (i:=5) (N:=some 104) #[true,true,true,true,true,true,false] rfl rfl (by kernel_rfl) (by decide) (fun K hK=>?_)
         refine goes_ (N:=some 104) Tryz.func12 (by kernel_rfl) rfl #[.agg #[.slice aG nG cG,.slice aF nF cF],.int .i64 y] (by rfl) rfl rfl (by simp [Act.eval]) ?_
         refine (HCs.out y wd (HXr.out.trans Xd) Hyr.out).mono ?_
         rintro e w8 ⟨v7,rfl,ho7,hX8⟩
         refine ⟨_,rfl,?_⟩
         refine hK.out _ _ ⟨hX8.cell e0,hX8.cell e1,hX8.cell e2⟩ (fun hHeld=>?_)
         clear hK K
         refine norm_ (by show Act.put _ (some 104) _=_;simp only [pt_];rfl) ?_
         refine pu_ 6 (some 12) #[true,true,true,true,true,true,true] rfl rfl (by kernel_rfl) (fun _ _ _ h=>h) (by rfl) (by intro w';go_simp;with_reducible rfl) (by simp only [pt_];rfl) ?_
         refine done_ (by kernel_rfl) ?_
         obtain ⟨m,hm⟩:∃ m,m=(succ t y).length:=⟨_,rfl⟩
         rw [← hm] at ho7
         obtain ⟨a7,c7,rfl⟩:=rw_form0 ho7
         have H7:=Lib.hid (rw_base ho7 Xd.size)
         have HX8:Hid (Ext wq w8):=Xd.trans hX8
         have HO8:=Lib.hid (rw_ext HOq.out HX8.out)
         have hm50:m≤50:=by
          have h1:(succ t y).length≤t.funcs.length:=callsL_len t _
          have h2:=HN.out
          omega
         have Hml:=Lib.hid hm
         clear hm ho7 hX8 Xd hHeld e0 e1 e2 t0 t1 k0
         clear hyb
         have HD8:Hid (∀ g,(Value.slice (some ⟨g6,0,none⟩) nf d6).ownBlock=some g→(Value.slice a7 m c7).ownBlock≠some g):=fun g h1 h2=>by
          have h3:=rw_lt HOq.out g h1
          have h4:=rw_ge H7.out g h2
          omega
         have Hfl:Hid (y∈lf):=List.mem_of_getElem? Hy.out
         obtain ⟨S0,hS0⟩:∃ S0,S0=wq.heap.size:=⟨_,rfl⟩
         rw [← hS0] at H7
         have HXi:Hid (Ext wB w8):=HXq.out.trans HX8.out
         clear hS0
         go_wp2_with fail
         go_loopw [10,13] (fun vS vT wi=>∃ (l':List Int) (k n' c':Nat) (a':Option Addr),vS=.slice a' n' c'∧vT=.int .i64 k∧k≤m∧q<n'∧n'≤50∧Hid (wi.ownsRow wB.heap.size 2 1 (.slice a' n' c') n' (l'.map (Value.int .i64)))∧Hid (wi.ownsRow S0 2 1 (.slice a7 m c7) m ((succ t y).map (Value.int .i64))) ∧
           Hid (∀ g,(Value.slice a' n' c').ownBlock=some g→(Value.slice a7 m c7).ownBlock≠some g)∧Hid (From t f l')∧Hid (y∈l')∧Hid (Ext wB wi)) (fun _ vT _=>m - (intOf vT).toNat)
         case atStart=>exact ⟨lf,0,_,_,_,rfl,rfl,Nat.zero_le _,by omega,by omega,HO8.out,H7.out,HD8.out,HFm.out,Hfl.out,HXi.out⟩
         case round =>
          clear HO8 H7 HD8 Hfl HXi HX8
          obtain ⟨l',k,n',c',a',rfl,rfl,hk,hin,hn',HO',H7,HD',HP',Hfl,HX'⟩:=hrel
          by_cases hlk:k<m
          ·obtain ⟨x,hx⟩:∃ x,(succ t y)[k]? = some x:=⟨(succ t y)[k]'(by have:=Hml.out;omega),List.getElem?_eq_getElem _⟩
           obtain ⟨g7,d7,e7,_,_,_,_⟩:=rw_form H7.out (by omega)
           obtain ⟨rfl,rfl⟩:a7=some ⟨g7,0,none⟩∧d7=c7:=by cases e7;exact ⟨rfl,rfl⟩
           have k7:=(rw_at H7.out (i:=k) (u:=.int .i64 x) (by rw [List.getElem?_map,hx];rfl)).1
           obtain ⟨bx,hbx⟩:∃ bx,bx=decide (x∈l'):=⟨_,rfl⟩
           have HLh:=Lib.hid (c_lwHas AnyB l' (.slice a' n' c') x wr (rows_sl HO'.out (rng64 HN.out HP'.out.range)))
           rw [← hbx] at HLh
           have Hbx:=Lib.hid hbx
           have Hx:=Lib.hid hx
           have z2:(0:Int)≤(k:Int):=by omega
           have z3:(k:Int)<(m:Int):=by omega
           clear e7 hbx hx
           go_wp2_with fail
           refine HLh.out.mono ?_
           rintro e w9 ⟨rfl,rfl⟩
           cases bx with
           | true =>
             go_wp2
             go_roundw
             case rel=>exact ⟨l',k+1,n',c',a',rfl,by go_num,by omega,hin,hn',HO'.out,H7.out,HD'.out,HP'.out,Hfl.out,HX'.out⟩
             case measure=>simp [intOf];omega
           | false =>
             have hnx:x∉l':=fun h=>by have:=Hbx.out;rw [decide_eq_true h] at this;cases this
             obtain ⟨a9,c9,w9,r9,o9,p9,d9,x9,s9⟩:=app_pair HX'.out HO'.out H7.out (Nat.le_refl _) HX'.out.size HD'.out x (by omega)
             have hP9:=HP'.out.add Hfl.out (List.mem_of_getElem? Hx.out) hnx
             have h50:n'+1≤50:=by
              have h1:=rowI_len o9
              have h2:=hP9.le
              have h3:=HN.out
              omega
             have Hr9:=Lib.hid r9
             have HO9:=Lib.hid o9
             have H79:=Lib.hid p9
             have HD9:=Lib.hid d9
             have HX9:=Lib.hid x9
             have HP9:=Lib.hid hP9
             have Hf9:Hid (y∈l' ++ [x]):=List.mem_append_left _ Hfl.out
             clear r9 o9 p9 d9 x9 s9 hP9 HLh
             go_wp2_with (at_builtin;refine Lib.wpList_append_run _ rfl _ _ _ _ rfl _ _ rfl rfl _ _ Hr9.out ?_)
             go_roundw
             case rel=>exact ⟨l' ++ [x],k+1,n'+1,c9,a9,rfl,by go_num,by omega,by omega,h50,HO9.out,H79.out,HD9.out,HP9.out,Hf9.out,HX9.out⟩
             case measure=>simp [intOf];omega
          ·clear HD' H7
           go_wp2
           go_roundw
           case rel=>exact ⟨l',q+1,n',c',a',rfl,by go_num,by omega,hn',HO'.out,HP'.out,HX'.out⟩
           case measure=>simp [intOf];omega
        ·have HXe:Hid (Ext wA wr):=HXa.out.trans HXb.out
         go_wp2
         go_roundw
         case rel=>exact ⟨j+1,by go_num,by omega,HXe.out⟩
         case measure=>simp [intOf];omega
      ·have HXe:Hid (Ext w wr):=HX2.out.trans (HXl.out.trans HXa.out)
       go_wp2
       go_ret
       exact Gives.bool rfl HXe.out
  ·by_cases h1:ra=1
   ·subst h1
    have h1c:=tree_calls (t:=t) (by rw [Hr.out]) 0
    have HC0:=HCa.out 0 w5 HX5.out (by omega)
    rw [h1c] at HC0
    have HC0:=Lib.hid HC0
    clear h1c
    go_wp2_with fail
    refine HC0.out.mono ?_
    rintro e w6 ⟨v6,rfl,ho6,hX6⟩
    simp only [List.length_nil,List.map_nil] at ho6
    obtain ⟨a6,c6,rfl⟩:=rw_form0 ho6
    have HXe:Hid (Ext w w6):=HX2.out.trans (HX5.out.trans hX6)
    clear ho6 hX6
    go_wp2
    go_ret
    exact Gives.bool rfl HXe.out
   ·have HXe:Hid (Ext w w5):=HX2.out.trans HX5.out
    go_wp2
    go_ret
    exact Gives.bool rfl HXe.out
 ·have hn2:(1048576:Int)<(n:Int):=by omega
  clear hD hres hg
  go_enter Tryz.func5,Tryz.ntmps5
  go_wp2
  go_ret
  exact Gives.bool rfl (Ext.refl w)
end Go.Proofs.YtcfggjmdcaoecaaGreatDoor
