/- A part of the proofs of FnBound and FnCheck: the lemmas and walks FrSpec. -/
import Derived.Test.YtcfggjmdcaoecaaGreatDoorB06
import Derived.Test.YtcfggjmdcaoecaaGreatDoorB18
set_option linter.unusedVariables false
set_option linter.unusedSimpArgs false
namespace Go.Proofs.YtcfggjmdcaoecaaGreatDoor.Md
open Go
def over:List (Nat→Nat)→Nat→Nat→Nat→Nat
 | [],_,_,m=>m
 | f :: r,d,i,m=>over r d (i+1) (max m (f (d+i)))
def nth (fs:List (Nat→Nat)) (i d:Nat):Nat:=(fs[i]?.map fun f=>f d).getD 0
def comb (k:Int) (fs:List (Nat→Nat)) (d:Nat):Nat :=
 if k=3∨k=6 then nth fs 0 d
 else if k=7 then max (nth fs 0 d) (nth fs 1 (d+1))
 else if k=8∨k=9 then max (nth fs 0 d) (nth fs 1 d)
 else over fs d 0 (d+1)
def need:Ex→Nat→Nat
 | .mk n args=>comb n.kind (args.map need)
theorem need_mk (n:PNode) (args:List Ex):need (.mk n args)=comb n.kind (args.map need):=by rw [need]
theorem over_le {fs:List (Nat→Nat)} {ls:List Nat} (h:fs.length=ls.length) (hb:∀ (i:Nat) f l,fs[i]? = some f→ls[i]? = some l→1≤l∧∀ d,f d≤d+l):∀ (d i m B:Nat),m≤B→d+i+ls.sum≤B→over fs d i m≤B:=by
 induction fs generalizing ls with
 | nil=>intro d i m B h1 _;exact h1
 | cons f r ih =>
   intro d i m B h1 h2
   cases ls with
   | nil=>simp at h
   | cons a s =>
     have h0:=hb 0 f a rfl rfl
     rw [over]
     simp only [List.sum_cons] at h2
     refine ih (by simpa using h) (fun j g l hg hl=>hb (j+1) g l (by simpa using hg) (by simpa using hl)) d (i+1) _ B (Nat.max_le.2 ⟨h1,?_⟩) (by omega)
     have:=h0.2 (d+i)
     omega
theorem nth_le {fs:List (Nat→Nat)} {ls:List Nat} (h:fs.length=ls.length) (hb:∀ (i:Nat) f l,fs[i]? = some f→ls[i]? = some l→1≤l∧∀ d,f d≤d+l) (i d:Nat):nth fs i d≤d+(ls[i]?).getD 0:=by
 unfold nth
 cases hf:fs[i]? with
 | none=>simp
 | some f =>
   have hi:=(List.getElem?_eq_some_iff.1 hf).1
   have hl:ls[i]? = some (ls[i]'(by omega)):=List.getElem?_eq_getElem _
   have:=(hb i f _ hf hl).2 d
   rw [hl]
   simpa using this
theorem get_le_sum {ls:List Nat} (i:Nat):(ls[i]?).getD 0≤ls.sum:=by
 induction ls generalizing i with
 | nil=>simp
 | cons a r ih =>
   cases i with
   | zero=>simp
   | succ i=>have:=ih i;simp at this ⊢;omega
theorem need_le (x:Ex):∀ d,need x d≤d+x.list.length:=by
 refine Ex.ind (P:=fun x=>∀ d,need x d≤d+x.list.length) (fun n args ih=>?_) x
 intro d
 rw [need_mk,Ex.list_mk,List.length_append,List.length_singleton,List.length_flatMap]
 have hb:∀ (i:Nat) f l,(args.map need)[i]? = some f→(args.map fun a=>a.list.length)[i]? = some l→1≤l∧∀ d,f d≤d+l:=fun i f l hf hl=>by
  rw [List.getElem?_map,Option.map_eq_some_iff] at hf hl
  obtain ⟨a,ha,rfl⟩:=hf
  obtain ⟨a',ha',rfl⟩:=hl
  obtain rfl:a=a':=Option.some.inj (ha.symm.trans ha')
  exact ⟨a.list_pos,ih a (List.mem_of_getElem? ha)⟩
 have hlen:(args.map need).length=(args.map fun a=>a.list.length).length:=by simp
 have h0:=nth_le hlen hb 0 d
 have h1:=nth_le hlen hb 1 d
 have h2:=nth_le hlen hb 1 (d+1)
 have s0:=get_le_sum (ls:=args.map fun a=>a.list.length) 0
 have s1:=get_le_sum (ls:=args.map fun a=>a.list.length) 1
 generalize hS:(args.map fun a=>a.list.length).sum=S at *
 unfold comb
 split
 ·omega
 ·split
  ·exact Nat.max_le.2 ⟨by omega,by omega⟩
  ·split
   ·exact Nat.max_le.2 ⟨by omega,by omega⟩
   ·exact over_le hlen hb d 0 (d+1) _ (by omega) (by rw [hS];omega)
def declsL (l:List PStmt):List ByteArray:=(l.filter fun s=>decide (s.kind=1)).map fun s=>s.name
def placeS (m:Nat) (s:PStmt):Nat :=
 let m1:=match grow s.e with
  | some x=>max m (need x 0)
  | none=>m
 if s.kind=3 then
  match grow s.f with
  | some y=>max m1 (need y 1)
  | none=>m1
 else m1
def placesL (l:List PStmt):Nat:=l.foldl placeS 0
def frameSz (x:PFunc):Nat:=(4*(x.params.length+(declsL x.body).length+placesL x.body+1)+15) / 16*16
def stPlace (m:Nat) (x:Ex) (y:Option Ex):Nat:=match y with
 | some y=>max (max m (need x 0)) (need y 1)
 | none=>max m (need x 0)
mutual
def plSt (m:Nat):St→Nat
 | .mk _ _ x y T U=>plBlk (plBlk (stPlace m x y) T) U
def plBlk (m:Nat):List St→Nat
 | []=>m
 | x :: r=>plBlk (plSt m x) r
end
theorem placeS_eq {s:PStmt} {x:Ex} (hx:grow s.e=some x) (hs:stOk s=true) (m:Nat):placeS m s=stPlace m x (grow s.f):=by
 unfold placeS stPlace
 rw [hx]
 simp only
 by_cases h3:s.kind=3
 ·rw [if_pos h3]
 ·rw [if_neg h3]
  have hf:s.f=[]:=by
   simp only [stOk,Bool.and_eq_true] at hs
   have:=hs.1.1.1.1.1.2
   rw [if_neg h3] at this
   simpa using this
  rw [hf]
  rfl
theorem pl_blocks (n:Nat):∀ (l:List PStmt) (p:Nat) (sts:List St) (m:Nat),l.length≤n→blocks l p=some sts→plBlk m sts=l.foldl placeS m:=by
 induction n with
 | zero =>
   intro l p sts m hl hb
   obtain rfl:l=[]:=List.eq_nil_of_length_eq_zero (by omega)
   rw [blocks] at hb
   cases hb
   rw [plBlk];rfl
 | succ n ih =>
   intro l p sts m hl hb
   match l,hl with
   | [],_ =>
     rw [blocks] at hb
     cases hb
     rw [plBlk];rfl
   | s :: rest,hl =>
     simp only [List.length_cons] at hl
     obtain ⟨e,T,U,R,hg,hok,_,_,hle,h1,h2,h3,rfl⟩:=blocks_inv hb
     rw [plBlk,plSt,← placeS_eq hg hok,ih _ _ T _ (by simp;omega) h1,ih _ _ U _ (by simp;omega) h2,ih _ _ R _ (by simp;omega) h3]
     rw [← List.foldl_append,← List.foldl_append]
     have e1:rest.take s.thn.toNat ++ ((rest.drop s.thn.toNat).take s.els.toNat ++ rest.drop (s.thn.toNat+s.els.toNat))=rest:=by
      rw [show rest.drop (s.thn.toNat+s.els.toNat)=(rest.drop s.thn.toNat).drop s.els.toNat by rw [List.drop_drop],List.take_append_drop,List.take_append_drop]
     rw [e1]
     rfl
theorem decls_cons (s:PStmt) (l:List PStmt):declsL (s :: l)=(if s.kind=1 then [s.name] else []) ++ declsL l:=by
 unfold declsL
 by_cases h:s.kind=1
 ·rw [List.filter_cons_of_pos (by simpa using h),if_pos h];rfl
 ·rw [List.filter_cons_of_neg (by simpa using h),if_neg h];rfl
theorem decls_append (a b:List PStmt):declsL (a ++ b)=declsL a ++ declsL b:=by simp [declsL]
theorem stE_decl {t:PTree} {sc tk:List ByteArray} {s:PStmt} (hk:s.kind=1) (hm:s.name∈tk) (h:stE t sc tk s=0):False:=by
 rw [stE_eq] at h
 by_cases he:exprE t sc (s.e ++ s.f)=0
 ·rw [if_pos he] at h
  unfold kindE at h
  rw [if_pos hk,if_pos (.inl hm)] at h
  exact absurd h (by decide)
 ·rw [if_neg he] at h
  exact he h
theorem ck_takes (t:PTree) (n:Nat):∀ (l:List PStmt) (p:Nat) (sts:List St) (sc tk tk':List ByteArray),l.length≤n→blocks l p=some sts→ckBlk t sc tk sts=.ok tk'→tk'=tk ++ declsL l∧(tk.Nodup→tk'.Nodup):=by
 induction n with
 | zero =>
   intro l p sts sc tk tk' hl hb hc
   obtain rfl:l=[]:=List.eq_nil_of_length_eq_zero (by omega)
   rw [blocks] at hb
   cases hb
   rw [ck_nil] at hc
   cases hc
   exact ⟨by simp [declsL],fun h=>h⟩
 | succ n ih =>
   intro l p sts sc tk tk' hl hb hc
   match l,hl with
   | [],_ =>
     rw [blocks] at hb
     cases hb
     rw [ck_nil] at hc
     cases hc
     exact ⟨by simp [declsL],fun h=>h⟩
   | s :: rest,hl =>
     simp only [List.length_cons] at hl
     obtain ⟨e,T,U,R,_,hok,_,_,hle,h1,h2,h3,rfl⟩:=blocks_inv hb
     rw [ck_cons] at hc
     by_cases he:stE t sc tk s=0
     ·rw [if_pos he] at hc
      unfold ckTail at hc
      cases c1:ckBlk t (sc1 s sc) (sc1 s tk) T with
      | bad e a=>rw [c1] at hc;cases hc
      | ok tk2 =>
        rw [c1] at hc
        simp only at hc
        obtain ⟨q1,n1⟩:=ih _ _ _ _ _ _ (by simp;omega) h1 c1
        cases c2:ckBlk t (sc1 s sc) tk2 U with
        | bad e a=>rw [c2] at hc;cases hc
        | ok tk3 =>
          rw [c2] at hc
          simp only at hc
          obtain ⟨q2,n2⟩:=ih _ _ _ _ _ _ (by simp;omega) h2 c2
          obtain ⟨q3,n3⟩:=ih _ _ _ _ _ _ (by simp;omega) h3 hc
          have e1:rest.take s.thn.toNat ++ ((rest.drop s.thn.toNat).take s.els.toNat ++ rest.drop (s.thn.toNat+s.els.toNat))=rest:=by
           rw [show rest.drop (s.thn.toNat+s.els.toNat)=(rest.drop s.thn.toNat).drop s.els.toNat by rw [List.drop_drop],List.take_append_drop,List.take_append_drop]
          have e2:declsL rest=declsL (rest.take s.thn.toNat) ++ (declsL ((rest.drop s.thn.toNat).take s.els.toNat) ++ declsL (rest.drop (s.thn.toNat+s.els.toNat))):=by
           rw [← decls_append,← decls_append,e1]
          refine ⟨?_,fun hn=>n3 (n2 (n1 ?_))⟩
          ·rw [q3,q2,q1,decls_cons,e2]
           unfold sc1
           by_cases hk:s.kind=1
           ·rw [if_pos hk,if_pos hk];simp
           ·rw [if_neg hk,if_neg hk];simp
          ·unfold sc1
           by_cases hk:s.kind=1
           ·rw [if_pos hk]
            refine List.nodup_append.2 ⟨hn,by simp,fun a ha b hb2=>?_⟩
            rw [List.mem_singleton.1 hb2]
            rintro rfl
            exact stE_decl hk ha he
           ·rw [if_neg hk];exact hn
     ·rw [if_neg he] at hc
      cases hc
end Go.Proofs.YtcfggjmdcaoecaaGreatDoor.Md
namespace Go.Proofs.YtcfggjmdcaoecaaGreatDoor
open Go Go.RowKit Md
theorem info_nodes:(Tryz.prog.info? 100).map (fun i=>(i.zero,i.size,i.bytes))=some (some (.slice none 0 0),1,24):=by kernel_rfl
theorem s_l6Most (a b:Nat) (w:World):Calls Tryz.prog 97 #[.int .i64 (a:Int),.int .i64 (b:Int)] w (Same (.int .i64 ((max a b:Nat):Int)) w):=by
 by_cases h:(b:Int)<(a:Int)
 ·have hm:max a b=a:=Nat.max_eq_left (by omega)
  rw [hm]
  go_enter Tryz.func97,Tryz.ntmps97
  go_wp2
  go_ret
  exact ⟨rfl,rfl⟩
 ·have hm:max a b=b:=Nat.max_eq_right (by omega)
  rw [hm]
  go_enter Tryz.func97,Tryz.ntmps97
  go_wp2
  go_ret
  exact ⟨rfl,rfl⟩
abbrev Tri:=Option Addr×Nat×Nat
def encS (p:Tri):Value:=.slice p.1 p.2.1 p.2.2
structure KidsAt (K:Foot) (w:World) (ts:List Tri) (args:List Ex):Prop where
 len:ts.length=args.length
 at_:∀ (i:Nat) (t:Tri) (a:Ex),ts[i]? = some t→args[i]? = some a→SlNode K w (encS t) a.list
theorem KidsAt.ext {K:Foot} {w w':World} {ts:List Tri} {args:List Ex} (h:KidsAt K w ts args) (k:Ext w w'):KidsAt K w' ts args :=
 ⟨h.len,fun i t a h1 h2=>(h.at_ i t a h1 h2).ext k (fun _ _ h=>h.any)⟩
theorem KidsAt.cons {K:Foot} {w:World} {t:Tri} {ts:List Tri} {a:Ex} {args:List Ex} (h0:SlNode K w (encS t) a.list) (h:KidsAt K w ts args):KidsAt K w (t :: ts) (a :: args) :=
 ⟨by simp [h.len],fun i u b h1 h2=>by
  cases i with
  | zero=>cases h1;cases h2;exact h0
  | succ i=>exact h.at_ i u b (by simpa using h1) (by simpa using h2)⟩
theorem ok_nodes (x:Ex):x.ok→∀ n∈x.list,(arity n).isSome=true:=by
 refine Ex.ind (P:=fun x=>x.ok→∀ n∈x.list,(arity n).isSome=true) (fun n args ih=>?_) x
 intro h m hm
 rw [Ex.ok_mk] at h
 rw [Ex.list_mk] at hm
 rcases List.mem_append.1 hm with hm | hm
 ·obtain ⟨a,ha,hm⟩:=List.mem_flatMap.1 hm
  exact ih a ha (h.2 a ha) m hm
 ·rw [List.mem_singleton.1 hm,h.1];rfl
theorem from_last (a:List PNode) (x:Ex) (hx:x.ok):fromL (a ++ x.list) (a ++ x.list).length 1=(a.length:Int):=by
 have h:=fromL_tree x hx a [] 1 (by omega)
 rw [List.append_nil,show (1:Int) - 1=0 by omega,fromL_stop _ _ _ (Int.le_refl _)] at h
 rw [List.length_append]
 exact h
def pre (args:List Ex) (j:Nat):List PNode:=(args.take j).flatMap Ex.list
theorem pre_succ {args:List Ex} {j:Nat} {a:Ex} (h:args[j]? = some a):pre args (j+1)=pre args j ++ a.list:=by
 unfold pre
 rw [take_snoc h,List.flatMap_append]
 simp
def KidsOut (K:Foot) (args:List Ex) (w:World) (e:Ending) (w':World):Prop :=
 ∃ v ts,e=.returned v∧w'.ownsRow w.heap.size 100 1 v ts.length (ts.map encS)∧KidsAt K w' ts args∧Ext w w'
set_option maxRecDepth 1000000 in
set_option maxHeartbeats 0 in
theorem s_l2Kids (K:Foot) (n:PNode) (args:List Ex) (hx:(Ex.mk n args).ok) (v:Value) (w:World) (hv:SlNode K w v (Ex.mk n args).list) (hl:(Ex.mk n args).list.length≤1000000) :
  Calls Tryz.prog 163 #[v] w (KidsOut K args w):=by
 have hok:=(Ex.ok_mk n args).1 hx
 have har:=ar_of_arity hok.1
 have hnodes:=ok_nodes _ hx
 have hlist:(Ex.mk n args).list=pre args args.length ++ [n]:=by rw [Ex.list_mk];unfold pre;rw [List.take_length]
 have hargs:args.length≤1000000:=by
  have h1:∀ (l:List Ex),l.length≤(l.flatMap Ex.list).length:=by
   intro l
   induction l with
   | nil=>simp
   | cons a r ih =>
     have:=a.list_pos
     rw [List.flatMap_cons,List.length_append,List.length_cons]
     omega
  rw [Ex.list_mk,List.length_append] at hl
  have:=h1 args
  omega
 have hroot:(Ex.mk n args).list.getLast? = some n:=by rw [hlist];simp
 have Hroot:=Lib.hid (s_l2Root K _ v n w hv hroot)
 have Harity:Hid (∀ w',Calls Tryz.prog 178 #[.agg #[.int .i64 n.kind,.int .i64 n.val,.string n.name]] w' (Gives (.int .i64 (args.length:Int)) w')):=fun w'=>by
  have:=s_l2Arity n w'
  rw [har] at this
  exact this
 have HAr:Hid (∀ j,j≤args.length→ArOk (pre args j)):=fun j hj m hm=>by
  refine ArOk.of_isSome (hnodes m ?_)
  rw [hlist]
  refine List.mem_append_left _ ?_
  unfold pre at hm ⊢
  obtain ⟨a,ha,hma⟩:=List.mem_flatMap.1 hm
  rw [List.take_length]
  exact List.mem_flatMap.2 ⟨a,List.mem_of_mem_take ha,hma⟩
 have HLe:Hid (∀ j,(pre args j).length≤1000000):=fun j=>by
  have h1:(pre args j).length≤(pre args args.length).length:=by
   unfold pre
   rw [List.take_length]
   conv=>rhs;rw [← List.take_append_drop j args]
   rw [List.flatMap_append,List.length_append]
   omega
  rw [hlist,List.length_append] at hl
  omega
 have Hoks:Hid (∀ a∈args,a.ok):=hok.2
 obtain ⟨i0,hi0,hz0,hz1,hz2⟩:=info_parts info_nodes
 obtain ⟨iN,hiN,hnz,hns,hnb⟩:=info_parts info_node
 obtain ⟨a,N,c,rfl⟩:=hv.shape
 have hN:=sl_len hv
 have hcap:=hv.op
 obtain ⟨a',N',c',e',_,hNc,hcm,_⟩:=hcap
 cases e'
 have hN1:(pre args args.length).length+1=N:=by rw [hlist,List.length_append] at hN;simpa using hN
 obtain ⟨aQ,hcut,hat⟩:=cut_head (P:=Tryz.prog) Tryz.underlying100 hiN hns a N c (N - 1) (by omega) hNc
 have hR0:SlNode K w (.slice aQ (N - 1) c) (pre args args.length):=by
  have h:=Sl.cutAt hv 0 (N - 1) (by omega) (by omega) (Nat.le_refl _) hat
  rw [List.drop_zero,hlist,List.take_left' (by omega)] at h
  exact h
 obtain ⟨N1,hN1e⟩:∃ N1,N1=N - 1:=⟨_,rfl⟩
 rw [← hN1e] at hcut hR0
 have eN:((N1:Nat):Int)=(N:Int) - 1:=by omega
 simp only [eN] at hcut
 clear hN1e eN
 obtain ⟨w1,hw1⟩:∃ w1,w1=w.alloc (.cells #[] 100):=⟨_,rfl⟩
 have X1:Ext w w1:=by rw [hw1];exact (Ext.refl w).alloc _
 have HO0:Hid (w1.ownsRow w.heap.size 100 1 (.slice (some ⟨w.heap.size,0,none⟩) 0 0) 0 (([]:List Tri).map encS)):=by rw [hw1];exact rw_new0 w w.heap.size _ 1 (Nat.le_refl _)
 have HR0:=Lib.hid hR0
 have HX1:=Lib.hid X1
 have HW1:=Lib.hid hw1
 have Hv:=Lib.hid hv
 have Hroot1:Hid (Calls Tryz.prog 140 #[.slice a N c] w1 (Gives (.agg #[.int .i64 n.kind,.int .i64 n.val,.string n.name]) w1)):=s_l2Root K _ _ n w1 (hv.ext X1 (fun _ _ h=>h.any)) hroot
 obtain ⟨m,hm⟩:∃ m,m=args.length:=⟨_,rfl⟩
 rw [← hm] at HR0 Harity hargs
 have Hm:=Lib.hid hm
 clear hx hv hl hok har hnodes hlist hroot hN hat hR0 hN1 hw1 X1 Hroot hm
 go_enter Tryz.func163,Tryz.ntmps163
 go_wp2_with fail
 rw [← HW1.out]
 refine Hroot1.out.mono ?_
 rintro e w2 ⟨rfl,hX2⟩
 go_wp2_with fail
 refine (Harity.out _).mono ?_
 rintro e w3 ⟨rfl,hX3⟩
 have HX3:=Lib.hid (HX1.out.trans (hX2.trans hX3))
 have HO3:=Lib.hid (rw_ext HO0.out (hX2.trans hX3))
 clear hX2 hX3 HO0 Hroot1 Harity hcut
 go_wp2
 go_loopw [3,4,5] (fun v3 v4 v5 wr=>∃ (j n3 n4 c3 c4:Nat) (a3 a4:Option Addr) (ts:List Tri),j≤m∧v5=.int .i64 j∧v3=.slice a3 n3 c3∧v4=.slice a4 n4 c4∧Hid (SlNode K w (.slice a3 n3 c3) (pre args j)) ∧
  Hid (wr.ownsRow w.heap.size 100 1 (.slice a4 n4 c4) n4 (ts.map encS))∧Hid (KidsAt K w ts (args.drop j))∧Ext w wr) (fun _ _ v5 _=>(intOf v5).toNat)
 case atStart=>exact ⟨m,N1,0,c,0,aQ,_,[],Nat.le_refl _,rfl,rfl,rfl,HR0.out,HO3.out,by rw [Hm.out,List.drop_length];exact ⟨rfl,fun i t a h=>by simp at h⟩,HX3.out⟩
 case round =>
  clear HR0 HO3 HX3
  obtain ⟨j,n3,n4,c3,c4,a3,a4,ts,hj,rfl,rfl,rfl,HR,HO,HKd,hX⟩:=hrel
  rcases Nat.eq_zero_or_pos j with rfl | hj0
  ·have hK0:=HKd.out
   rw [List.drop_zero] at hK0
   have hlo:=HO.out.1
   have hln:ts.length=n4:=by simpa using hlo
   have HF:Hid (KidsOut K args w (.returned (.slice a4 n4 c4)) wr):=⟨_,ts,rfl,by rw [hln];exact HO.out,hK0.ext hX,hX⟩
   clear hK0 hlo hln
   go_wp2
   go_ret
   exact HF.out
  ·obtain ⟨q,rfl⟩:∃ q,j=q+1:=⟨j - 1,by omega⟩
   obtain ⟨x,hxq⟩:∃ x,args[q]? = some x:=⟨args[q]'(by have:=Hm.out;omega),List.getElem?_eq_getElem _⟩
   have hps:=pre_succ hxq
   have hR:=HR.out
   have hxo:=Hoks.out x (List.mem_of_getElem? hxq)
   have HFr:=Lib.hid (s_l2From K (pre args (q+1)) _ wr (hR.ext hX (fun _ _ h=>h.any)) (HAr.out (q+1) (by have:=Hm.out;omega)) (HLe.out _))
   rw [hps,from_last _ x hxo] at HFr
   rw [hps] at hR
   have hn3:=sl_len hR
   obtain ⟨_,_,_,e3,_,hnc3,hcm3,_⟩:=hR.op
   cases e3
   obtain ⟨C0,hC0⟩:∃ C0,C0=(pre args q).length:=⟨_,rfl⟩
   rw [← hC0] at HFr
   rw [List.length_append,← hC0] at hn3
   have hxp:=x.list_pos
   obtain ⟨aL,hcutL,hatL⟩:=cut_from (P:=Tryz.prog) Tryz.underlying100 hiN hns a3 n3 c3 C0 (by omega) hnc3
   obtain ⟨aH,hcutH,hatH⟩:=cut_head (P:=Tryz.prog) Tryz.underlying100 hiN hns a3 n3 c3 C0 (by omega) hnc3
   have hKid:SlNode K w (encS (aL,n3 - C0,c3 - C0)) x.list:=by
    have h:=Sl.cutAt hR C0 (n3 - C0) (by omega) (by omega) (show c3 - C0≤c3 by omega) hatL
    rw [List.drop_left' hC0.symm,List.take_of_length_le (by omega)] at h
    exact h
   have hRest:SlNode K w (.slice aH C0 c3) (pre args q):=by
    have h:=Sl.cutAt hR 0 C0 (by omega) (by omega) (Nat.le_refl _) hatH
    rw [List.drop_zero,List.take_left' hC0.symm] at h
    exact h
   have hKd2:KidsAt K w ((aL,n3 - C0,c3 - C0) :: ts) (args.drop q):=by
    have e:args.drop q=x :: args.drop (q+1):=by
     obtain ⟨hq,e⟩:=List.getElem?_eq_some_iff.1 hxq
     rw [List.drop_eq_getElem_cons hq,e]
    rw [e]
    exact KidsAt.cons hKid HKd.out
   have HRest:=Lib.hid hRest
   have HKd2:=Lib.hid hKd2
   have hts:ts.length≤1000000:=by have h1:=HKd.out.len;rw [List.length_drop] at h1;have:=Hm.out;omega
   have z0:(0:Int)≤(C0:Int):=by omega
   have z1:(C0:Int)≤(n3:Int):=by omega
   obtain ⟨nL,hnL⟩:∃ nL,nL=n3 - C0:=⟨_,rfl⟩
   obtain ⟨cL,hcL⟩:∃ cL,cL=c3 - C0:=⟨_,rfl⟩
   rw [← hnL,← hcL] at hcutL HKd2
   clear hps hR hxo hn3 hC0 hxp hatL hatH hKid hRest hKd2 hxq hnc3 hnL hcL
   go_wp2_with fail
   refine HFr.out.mono ?_
   rintro e w4 ⟨rfl,hX4⟩
   have hX5:Ext w4 (w4.alloc (.cells #[encS (aL,nL,cL)] 100)):=(Ext.refl w4).alloc _
   have hrow1:(w4.alloc (.cells #[encS (aL,nL,cL)] 100)).ownsRow w.heap.size 100 1 (.slice (some ⟨w4.heap.size,0,none⟩) 1 1) 1 [encS (aL,nL,cL)] :=
    ⟨rfl,.inr ⟨w4.heap.size,1,#[encS (aL,nL,cL)],rfl,(hX.trans hX4).size,heap_alloc_new w4 _,Nat.le_refl _,by unfold maxLen;omega,rfl,rfl⟩⟩
   have hsrc:=sl_own encS (fun _ cs (y:Tri)=>cs=[encS y]) (fun _ _=>.inr trivial) (K:=AnyB) (rw_ext HO.out (hX4.trans hX5)) (fun _ _=>trivial) (fun _ _=>rfl)
   obtain ⟨v',w',r1,r2,r3,r4⟩:=run_app (P:=Tryz.prog) encS _ (fun _ _ _ h=>h) (fun _=>rfl) AnyB (w4.alloc (.cells #[encS (aL,nL,cL)] 100)) w.heap.size Tryz.underlying184 hi0 hz0 hz1 hz2 rfl _ _ hrow1 _ ts hsrc (by simp;omega) (by simp;omega) ((hX.trans hX4).trans hX5).size 184
   have r2':w'.ownsRow w.heap.size 100 1 v' (ts.length+1) (((aL,nL,cL) :: ts).map encS):=by
    have h:=r2
    simp only [List.singleton_append,List.length_cons,List.length_map] at h
    exact h
   have hX6:Ext w w':=Below.grown ((hX.trans hX4).trans hX5) r3 ((hX.trans hX4).trans hX5).size (fun g hg=>by cases hg;exact (hX.trans hX4).size)
   obtain ⟨a5,c5,rfl⟩:=rw_form0 r2'
   have HR1:Hid ((Builtin.append_ #[184,184] 184 #[.slice (some ⟨w4.heap.size,0,none⟩) 1 1,.slice a4 n4 c4]).run Tryz.prog (w4.alloc (.cells #[.slice aL nL cL] 100))=.ok (.slice a5 (ts.length+1) c5) w'):=r1
   have HO5:=Lib.hid r2'
   clear hX4 hX5 hrow1 hsrc r1 r2 r3 r4 r2' HFr hX
   go_wp2_with (at_builtin;refine Lib.wpList_append_run _ rfl _ _ _ _ rfl _ _ rfl rfl _ _ HR1.out ?_)
   go_roundw
   case rel=>exact ⟨q,C0,ts.length+1,c3,c5,aH,a5,_,by omega,by go_num,rfl,rfl,HRest.out,HO5.out,HKd2.out,hX6⟩
   case measure=>simp [intOf]
open Go Go.RowKit Md
theorem nth_map {args:List Ex} {i:Nat} {a:Ex} (h:args[i]? = some a) (d:Nat):nth (args.map need) i d=need a d:=by
 unfold nth
 rw [List.getElem?_map,h]
 rfl
theorem idx_le {args:List Ex} : ∀ {i:Nat} {a:Ex},args[i]? = some a→i+a.list.length≤(args.flatMap Ex.list).length:=by
 induction args with
 | nil=>intro i a h;simp at h
 | cons b r ih =>
   intro i a h
   rw [List.flatMap_cons,List.length_append]
   cases i with
   | zero =>
     cases h
     omega
   | succ i =>
     have h1:=ih (i:=i) (a:=a) (by simpa using h)
     have:=b.list_pos
     omega
theorem over_step {fs:List (Nat→Nat)} {k:Nat} {f:Nat→Nat} (h:fs[k]? = some f) (d m:Nat):over (fs.drop k) d k m=over (fs.drop (k+1)) d (k+1) (max m (f (d+k))):=by
 obtain ⟨hk,e⟩:=List.getElem?_eq_some_iff.1 h
 rw [List.drop_eq_getElem_cons hk,e,over]
set_option maxRecDepth 1000000 in
set_option maxHeartbeats 0 in
theorem s_l6Need (x:Ex):x.ok→∀ (K:Foot) (v:Value) (d:Nat) (w:World),SlNode K w v x.list→x.list.length≤1000000→d+x.list.length≤2000000 →
  Calls Tryz.prog 134 #[v,.int .i64 (d:Int)] w (Gives (.int .i64 ((need x d:Nat):Int)) w):=by
 refine Ex.ind (P:=fun x=>x.ok→∀ (K:Foot) (v:Value) (d:Nat) (w:World),SlNode K w v x.list→x.list.length≤1000000→d+x.list.length≤2000000 →
  Calls Tryz.prog 134 #[v,.int .i64 (d:Int)] w (Gives (.int .i64 ((need x d:Nat):Int)) w)) (fun n args ih=>?_) x
 intro hx K v d w hv hl hd
 have hok:=(Ex.ok_mk n args).1 hx
 have har:=ar_of_arity hok.1
 have hlen:(Ex.mk n args).list.length=(args.flatMap Ex.list).length+1:=by rw [Ex.list_mk];simp
 have hroot:(Ex.mk n args).list.getLast? = some n:=by rw [Ex.list_mk];simp
 have Hroot:=Lib.hid (s_l2Root K _ v n w hv hroot)
 have HKids:Hid (∀ w',Ext w w'→Calls Tryz.prog 163 #[v] w' (KidsOut K args w')):=fun w' hX=>s_l2Kids K n args hx v w' (hv.ext hX (fun _ _ h=>h.any)) hl
 obtain ⟨R,hR⟩:∃ R,R=need (.mk n args) d:=⟨_,rfl⟩
 rw [← hR]
 rw [need_mk] at hR
 have HR:=Lib.hid hR
 obtain ⟨av,Nv,cv,rfl⟩:=hv.shape
 have Hih:=Lib.hid ih
 have Hoks:Hid (∀ a∈args,a.ok):=hok.2
 obtain ⟨kd,vl,nm⟩:=n
 simp only at har hR HR Hroot
 have Hl:=Lib.hid hl
 have Hd:=Lib.hid hd
 have Hlen:=Lib.hid hlen
 have Har:=Lib.hid har
 have hdb:d≤2000000:=by omega
 clear hx hv hok hroot ih hR hl hd hlen har
 go_enter Tryz.func134,Tryz.ntmps134
 go_wp2_with fail
 refine Hroot.out.mono ?_
 rintro e w2 ⟨rfl,hX2⟩
 obtain ⟨w3,hw3⟩:∃ w3,w3=w2.alloc (.cells #[.int .i64 kd,.int .i64 vl,.string nm] 104):=⟨_,rfl⟩
 have X3:Ext w2 w3:=by rw [hw3];exact (Ext.refl w2).alloc _
 have BN:Blk w3 w2.heap.size 104 #[.int .i64 kd,.int .i64 vl,.string nm]:=by rw [hw3];exact Blk.alloc _ _ _
 have HK3:=Lib.hid (HKids.out w3 (hX2.trans X3))
 have HX3:=Lib.hid (hX2.trans X3)
 have HBN:=Lib.hid BN
 have HW3:=Lib.hid hw3
 clear hX2 X3 BN hw3 HKids
 go_wp2_with fail
 rw [← HW3.out]
 refine HK3.out.mono ?_
 rintro e w4 ⟨vO,ts,rfl,ho,hKA,hX4⟩
 obtain ⟨aO,cO,rfl⟩:=rw_form0 ho
 have q0:w4.cell? ⟨w2.heap.size,0,none⟩=some (.int .i64 kd):=hX4.cell ((HBN.out.cell 0).trans rfl)
 have HX4:=Lib.hid (HX3.out.trans hX4)
 have HO:=Lib.hid ho
 have HKA:=Lib.hid hKA
 have hnl:=hKA.len
 have HIH:Hid (∀ (i:Nat) (a:Ex) (t:Tri) (d':Nat) (di:Int),di=d'→args[i]? = some a→ts[i]? = some t→d'≤d+i→∀ w',Ext w4 w' →
   Calls Tryz.prog 134 #[encS t,.int .i64 di] w' (Gives (.int .i64 ((need a d':Nat):Int)) w')):=fun i a t d' di hdi ha ht hd' w' hX=>by
  subst hdi
  have h1:=idx_le ha
  have hl:=Hl.out
  have hd:=Hd.out
  have hlen:=Hlen.out
  exact Hih.out a (List.mem_of_getElem? ha) (Hoks.out a (List.mem_of_getElem? ha)) K _ d' w' ((HKA.out.at_ i t a ht ha).ext hX (fun _ _ h=>h.any)) (by omega) (by omega)
 obtain ⟨nO,hnO⟩:∃ nO,nO=ts.length:=⟨_,rfl⟩
 rw [← hnO] at HO hnl
 have HnO:=Lib.hid hnO
 clear ho hKA hX4 HK3 Hih
 try rw [← hnO]
 clear hnO
 by_cases h36:kd=3∨kd=6
 ·have har1:args.length=1:=by
   have:ar ⟨kd,vl,nm⟩=1:=by unfold ar;exact if_pos h36
   have har:=Har.out
   omega
  obtain ⟨x0,hx0⟩:∃ x0,args[0]? = some x0:=⟨args[0]'(by omega),List.getElem?_eq_getElem _⟩
  obtain ⟨t0,ht0⟩:∃ t0,ts[0]? = some t0:=⟨ts[0]'(by have:=HKA.out.len;omega),List.getElem?_eq_getElem _⟩
  have H0:=HIH.out 0 x0 t0 d (d:Int) rfl hx0 ht0 (by omega)
  obtain ⟨g,c',e',_,_,_,_⟩:=rw_form HO.out (by omega)
  obtain ⟨rfl,rfl⟩:aO=some ⟨g,0,none⟩∧c'=cO:=by cases e';exact ⟨rfl,rfl⟩
  have k0:=(rw_at HO.out (i:=0) (u:=encS t0) (by rw [List.getElem?_map,ht0];rfl)).1
  obtain ⟨p0,q0',r0⟩:=t0
  simp only [encS] at H0 k0
  have HRr:Hid (R=need x0 d):=by
   show _=_
   rw [HR.out]
   unfold comb
   rw [if_pos h36,nth_map hx0]
  obtain ⟨m0,hm0⟩:∃ m0,m0=need x0 d:=⟨_,rfl⟩
  rw [← hm0] at H0 HRr
  have HH0:=Lib.hid (H0 w4 (Ext.refl w4))
  have hn1:nO=1:=by omega
  subst hn1
  clear H0 hm0 e' hnl har1 hx0 ht0 HnO
  rcases h36 with rfl | rfl
  all_goals
   go_wp2_with fail
   refine HH0.out.mono ?_
   rintro e w5 ⟨rfl,hX5⟩
   go_wp2
   go_ret
   exact Gives.int (by rw [HRr.out]) (HX4.out.trans hX5)
 by_cases h7:kd=7
 ·subst h7
  have har2:args.length=2:=by
   have:ar ⟨7,vl,nm⟩=2:=by unfold ar;simp
   have har:=Har.out
   omega
  obtain ⟨x0,hx0⟩:∃ x0,args[0]? = some x0:=⟨args[0]'(by omega),List.getElem?_eq_getElem _⟩
  obtain ⟨x1,hx1⟩:∃ x1,args[1]? = some x1:=⟨args[1]'(by omega),List.getElem?_eq_getElem _⟩
  obtain ⟨t0,ht0⟩:∃ t0,ts[0]? = some t0:=⟨ts[0]'(by have:=HKA.out.len;omega),List.getElem?_eq_getElem _⟩
  obtain ⟨t1,ht1⟩:∃ t1,ts[1]? = some t1:=⟨ts[1]'(by have:=HKA.out.len;omega),List.getElem?_eq_getElem _⟩
  have H0:=HIH.out 0 x0 t0 d (d:Int) rfl hx0 ht0 (by omega)
  have H1:=HIH.out 1 x1 t1 (d+1) (IntKind.i64.wrap ((d:Int)+1)) (by rw [IntKind.wrap_i64];omega) hx1 ht1 (by omega)
  obtain ⟨g,c',e',_,_,_,_⟩:=rw_form HO.out (by omega)
  obtain ⟨rfl,rfl⟩:aO=some ⟨g,0,none⟩∧c'=cO:=by cases e';exact ⟨rfl,rfl⟩
  have k0:=(rw_at HO.out (i:=0) (u:=encS t0) (by rw [List.getElem?_map,ht0];rfl)).1
  have k1:=(rw_at HO.out (i:=1) (u:=encS t1) (by rw [List.getElem?_map,ht1];rfl)).1
  obtain ⟨p0,q0,r0⟩:=t0
  obtain ⟨p1,q1,r1⟩:=t1
  simp only [encS] at H0 H1 k0 k1
  have HRr:Hid (R=max (need x0 d) (need x1 (d+1))):=by
   show _=_
   rw [HR.out]
   unfold comb
   rw [if_neg h36,if_pos rfl]
   rw [nth_map hx0,nth_map hx1]
  obtain ⟨m0,hm0⟩:∃ m0,m0=need x0 d:=⟨_,rfl⟩
  obtain ⟨m1,hm1⟩:∃ m1,m1=need x1 (d+1):=⟨_,rfl⟩
  rw [← hm0] at H0 HRr
  rw [← hm1] at H1 HRr
  have HH0:=Lib.hid H0
  have HH1:=Lib.hid H1
  clear H0 H1 hm0 hm1 e'
  have hn2:nO=2:=by omega
  subst hn2
  clear hnl har2 hx0 hx1 ht0 ht1 HnO
  go_wp2_with fail
  go_region_held3 (fun w'=>w'.cell? ⟨g,0,none⟩=some (.slice p0 q0 r0)∧w'.cell? ⟨g,1,none⟩=some (.slice p1 q1 r1))
   (first | go_keep | (refine ⟨hX8.cell ?_,hX8.cell ?_⟩<;>simp [*]))
   (first
    | (go_at_call 134
       first
        | with_reducible refine (HH0.out _ ?_).mono ?_
        | with_reducible refine (HH1.out _ ?_).mono ?_
       ·first | exact hZ | exact (Ext.refl w4).drew
       rintro e8 w8 ⟨rfl,hX8⟩
       first
        | (have hY:=hZ.trans hX8)
        | (have hZ:=((Ext.refl w4).drew).trans hX8))
    | (go_at_call 97;refine (s_l6Most _ _ _).mono ?_;rintro e9 w9 ⟨rfl,rfl⟩))
  all_goals
   have HY:=Lib.hid (HX4.out.trans hY)
   clear hZ hY hX8
   go_wp2
   go_ret
   exact Gives.int (by rw [HRr.out]) HY.out
 by_cases h89:kd=8∨kd=9
 ·have har2:args.length=2:=by
   have:ar ⟨kd,vl,nm⟩=2:=by
    unfold ar
    rcases h89 with rfl | rfl<;>simp
   have har:=Har.out
   omega
  rcases h89 with rfl | rfl
  ·
   obtain ⟨x0,hx0⟩:∃ x0,args[0]? = some x0:=⟨args[0]'(by omega),List.getElem?_eq_getElem _⟩
   obtain ⟨x1,hx1⟩:∃ x1,args[1]? = some x1:=⟨args[1]'(by omega),List.getElem?_eq_getElem _⟩
   obtain ⟨t0,ht0⟩:∃ t0,ts[0]? = some t0:=⟨ts[0]'(by have:=HKA.out.len;omega),List.getElem?_eq_getElem _⟩
   obtain ⟨t1,ht1⟩:∃ t1,ts[1]? = some t1:=⟨ts[1]'(by have:=HKA.out.len;omega),List.getElem?_eq_getElem _⟩
   have H0:=HIH.out 0 x0 t0 d (d:Int) rfl hx0 ht0 (by omega)
   have H1:=HIH.out 1 x1 t1 (d) ((d:Int)) (rfl) hx1 ht1 (by omega)
   obtain ⟨g,c',e',_,_,_,_⟩:=rw_form HO.out (by omega)
   obtain ⟨rfl,rfl⟩:aO=some ⟨g,0,none⟩∧c'=cO:=by cases e';exact ⟨rfl,rfl⟩
   have k0:=(rw_at HO.out (i:=0) (u:=encS t0) (by rw [List.getElem?_map,ht0];rfl)).1
   have k1:=(rw_at HO.out (i:=1) (u:=encS t1) (by rw [List.getElem?_map,ht1];rfl)).1
   obtain ⟨p0,q0,r0⟩:=t0
   obtain ⟨p1,q1,r1⟩:=t1
   simp only [encS] at H0 H1 k0 k1
   have HRr:Hid (R=max (need x0 d) (need x1 (d))):=by
    show _=_
    rw [HR.out]
    unfold comb
    rw [if_neg h36,if_neg h7,if_pos (by simp)]
    rw [nth_map hx0,nth_map hx1]
   obtain ⟨m0,hm0⟩:∃ m0,m0=need x0 d:=⟨_,rfl⟩
   obtain ⟨m1,hm1⟩:∃ m1,m1=need x1 (d):=⟨_,rfl⟩
   rw [← hm0] at H0 HRr
   rw [← hm1] at H1 HRr
   have HH0:=Lib.hid H0
   have HH1:=Lib.hid H1
   clear H0 H1 hm0 hm1 e'
   have hn2:nO=2:=by omega
   subst hn2
   clear hnl har2 hx0 hx1 ht0 ht1 HnO
   go_wp2_with fail
   go_region_held3 (fun w'=>w'.cell? ⟨g,0,none⟩=some (.slice p0 q0 r0)∧w'.cell? ⟨g,1,none⟩=some (.slice p1 q1 r1))
    (first | go_keep | (refine ⟨hX8.cell ?_,hX8.cell ?_⟩<;>simp [*]))
    (first
     | (go_at_call 134
        first
         | with_reducible refine (HH0.out _ ?_).mono ?_
         | with_reducible refine (HH1.out _ ?_).mono ?_
        ·first | exact hZ | exact (Ext.refl w4).drew
        rintro e8 w8 ⟨rfl,hX8⟩
        first
         | (have hY:=hZ.trans hX8)
         | (have hZ:=((Ext.refl w4).drew).trans hX8))
     | (go_at_call 97;refine (s_l6Most _ _ _).mono ?_;rintro e9 w9 ⟨rfl,rfl⟩))
   all_goals
    have HY:=Lib.hid (HX4.out.trans hY)
    clear hZ hY hX8
    go_wp2
    go_ret
    exact Gives.int (by rw [HRr.out]) HY.out
  ·
   obtain ⟨x0,hx0⟩:∃ x0,args[0]? = some x0:=⟨args[0]'(by omega),List.getElem?_eq_getElem _⟩
   obtain ⟨x1,hx1⟩:∃ x1,args[1]? = some x1:=⟨args[1]'(by omega),List.getElem?_eq_getElem _⟩
   obtain ⟨t0,ht0⟩:∃ t0,ts[0]? = some t0:=⟨ts[0]'(by have:=HKA.out.len;omega),List.getElem?_eq_getElem _⟩
   obtain ⟨t1,ht1⟩:∃ t1,ts[1]? = some t1:=⟨ts[1]'(by have:=HKA.out.len;omega),List.getElem?_eq_getElem _⟩
   have H0:=HIH.out 0 x0 t0 d (d:Int) rfl hx0 ht0 (by omega)
   have H1:=HIH.out 1 x1 t1 (d) ((d:Int)) (rfl) hx1 ht1 (by omega)
   obtain ⟨g,c',e',_,_,_,_⟩:=rw_form HO.out (by omega)
   obtain ⟨rfl,rfl⟩:aO=some ⟨g,0,none⟩∧c'=cO:=by cases e';exact ⟨rfl,rfl⟩
   have k0:=(rw_at HO.out (i:=0) (u:=encS t0) (by rw [List.getElem?_map,ht0];rfl)).1
   have k1:=(rw_at HO.out (i:=1) (u:=encS t1) (by rw [List.getElem?_map,ht1];rfl)).1
   obtain ⟨p0,q0,r0⟩:=t0
   obtain ⟨p1,q1,r1⟩:=t1
   simp only [encS] at H0 H1 k0 k1
   have HRr:Hid (R=max (need x0 d) (need x1 (d))):=by
    show _=_
    rw [HR.out]
    unfold comb
    rw [if_neg h36,if_neg h7,if_pos (by simp)]
    rw [nth_map hx0,nth_map hx1]
   obtain ⟨m0,hm0⟩:∃ m0,m0=need x0 d:=⟨_,rfl⟩
   obtain ⟨m1,hm1⟩:∃ m1,m1=need x1 (d):=⟨_,rfl⟩
   rw [← hm0] at H0 HRr
   rw [← hm1] at H1 HRr
   have HH0:=Lib.hid H0
   have HH1:=Lib.hid H1
   clear H0 H1 hm0 hm1 e'
   have hn2:nO=2:=by omega
   subst hn2
   clear hnl har2 hx0 hx1 ht0 ht1 HnO
   go_wp2_with fail
   go_region_held3 (fun w'=>w'.cell? ⟨g,0,none⟩=some (.slice p0 q0 r0)∧w'.cell? ⟨g,1,none⟩=some (.slice p1 q1 r1))
    (first | go_keep | (refine ⟨hX8.cell ?_,hX8.cell ?_⟩<;>simp [*]))
    (first
     | (go_at_call 134
        first
         | with_reducible refine (HH0.out _ ?_).mono ?_
         | with_reducible refine (HH1.out _ ?_).mono ?_
        ·first | exact hZ | exact (Ext.refl w4).drew
        rintro e8 w8 ⟨rfl,hX8⟩
        first
         | (have hY:=hZ.trans hX8)
         | (have hZ:=((Ext.refl w4).drew).trans hX8))
     | (go_at_call 97;refine (s_l6Most _ _ _).mono ?_;rintro e9 w9 ⟨rfl,rfl⟩))
   all_goals
    have HY:=Lib.hid (HX4.out.trans hY)
    clear hZ hY hX8
    go_wp2
    go_ret
    exact Gives.int (by rw [HRr.out]) HY.out
 ·have HRr:Hid (R=over (args.map need) d 0 (d+1)):=by
   show _=_
   rw [HR.out]
   unfold comb
   rw [if_neg h36,if_neg h7,if_neg h89]
  have q3:(kd == 3)=false:=by simpa using fun h=>h36 (.inl h)
  have q6:(kd == 6)=false:=by simpa using fun h=>h36 (.inr h)
  have q7:(kd == 7)=false:=by simpa using h7
  have q8:(kd == 8)=false:=by simpa using fun h=>h89 (.inl h)
  have q9:(kd == 9)=false:=by simpa using fun h=>h89 (.inr h)
  have hnO:nO≤1000000:=by
   have h1:∀ (l:List Ex),l.length≤(l.flatMap Ex.list).length:=by
    intro l
    induction l with
    | nil=>simp
    | cons a r ih =>
      have:=a.list_pos
      rw [List.flatMap_cons,List.length_append,List.length_cons]
      omega
   have:=h1 args
   have:=Hl.out
   have:=Hlen.out
   omega
  have Hnl:=Lib.hid hnl
  clear h36 h7 h89 hnl
  go_wp2_with fail
  go_loopw [7,8] (fun v7 v8 wr=>∃ (k m:Nat),k≤nO∧v8=.int .i64 k∧v7=.int .i64 m∧Hid (R=over ((args.map need).drop k) d k m)∧Ext w4 wr) (fun _ v8 _=>nO - (intOf v8).toNat)
  case atStart=>exact ⟨0,d+1,Nat.zero_le _,rfl,by go_num,HRr.out,Ext.refl _⟩
  case round =>
   obtain ⟨k,m,hk,rfl,rfl,HA,hX⟩:=hrel
   by_cases hlt:k<nO
   ·obtain ⟨x0,hx0⟩:∃ x0,args[k]? = some x0:=⟨args[k]'(by have:=Hnl.out;omega),List.getElem?_eq_getElem _⟩
    obtain ⟨t0,ht0⟩:∃ t0,ts[k]? = some t0:=⟨ts[k]'(by have:=HnO.out;omega),List.getElem?_eq_getElem _⟩
    have p1:wrap64 ((d:Int)+(k:Int))=((d+k:Nat):Int):=by unfold wrap64;omega
    have H0:=HIH.out k x0 t0 (d+k) (wrap64 ((d:Int)+(k:Int))) p1 hx0 ht0 (Nat.le_refl _) wr hX
    obtain ⟨g,c',e',_,_,_,_⟩:=rw_form HO.out (by omega)
    obtain ⟨rfl,rfl⟩:aO=some ⟨g,0,none⟩∧c'=cO:=by cases e';exact ⟨rfl,rfl⟩
    have k0:=hX.cell (rw_at HO.out (i:=k) (u:=encS t0) (by rw [List.getElem?_map,ht0];rfl)).1
    obtain ⟨p0,q0',r0⟩:=t0
    simp only [encS] at H0 k0
    have hst:=over_step (fs:=args.map need) (k:=k) (f:=need x0) (by rw [List.getElem?_map,hx0];rfl) d m
    rw [← HA.out] at hst
    obtain ⟨m0,hm0⟩:∃ m0,m0=need x0 (d+k):=⟨_,rfl⟩
    rw [← hm0] at H0 hst
    have HH0:=Lib.hid H0
    have HA2:=Lib.hid hst
    have z0:(0:Int)≤(k:Int):=by omega
    have z1:(k:Int)<(nO:Int):=by omega
    have e7:wrap64 ((d:Int)+(k:Int))=(d:Int)+(k:Int):=by rw [p1];omega
    rw [e7] at HH0
    clear H0 hm0 e' hx0 ht0 hst p1 e7
    go_wp2_with fail
    refine HH0.out.mono ?_
    rintro e w5 ⟨rfl,hX5⟩
    go_wp2_with fail
    refine (s_l6Most m m0 _).mono ?_
    rintro e w6 ⟨rfl,rfl⟩
    go_wp2
    go_roundw
    case rel=>exact ⟨k+1,max m m0,by omega,by go_num,rfl,HA2.out,hX.trans hX5⟩
    case measure=>simp [intOf];omega
   ·have HRe:Hid (R=m):=by
     show _=_
     rw [HA.out,List.drop_eq_nil_of_le (by rw [List.length_map];have:=Hnl.out;omega)]
     rfl
    go_wp2
    go_ret
    exact Gives.int (by rw [HRe.out]) (HX4.out.trans hX)
open Go Go.RowKit Md
theorem decls_take {l:List PStmt} {k:Nat} {s:PStmt} (h:l[k]? = some s):declsL (l.take (k+1))=declsL (l.take k) ++ if s.kind=1 then [s.name] else []:=by
 rw [take_snoc h,decls_append,decls_cons]
 simp [declsL]
theorem fold_take {l:List PStmt} {k:Nat} {s:PStmt} (h:l[k]? = some s) (m:Nat):(l.take (k+1)).foldl placeS m=placeS ((l.take k).foldl placeS m) s:=by
 rw [take_snoc h,List.foldl_append]
 rfl
def LayOut (x:PFunc) (w:World) (e:Ending) (w':World):Prop:=∃ a c,e=.returned (.tuple #[.slice a (x.params.length+(declsL x.body).length) c,.int .i64 (placesL x.body:Nat)])∧Ext w w'
theorem stOk_e {s:PStmt} (h:stOk s=true):∃ x,grow s.e=some x:=by
 simp only [stOk,Bool.and_eq_true] at h
 exact Option.isSome_iff_exists.1 h.1.1.1.1.1.1.1.2
theorem stOk_f3 {s:PStmt} (h:stOk s=true) (h3:s.kind=3):∃ x,grow s.f=some x:=by
 simp only [stOk,Bool.and_eq_true] at h
 have:=h.1.1.1.1.1.2
 rw [if_pos h3] at this
 exact Option.isSome_iff_exists.1 this
theorem sl_one3 {α:Type} (enc:α→Value) (w:World) (E:TypeId) (x:α):Sl AnyB (w.alloc (.cells #[enc x] E)) 1 (fun _ cs (y:α)=>cs=[enc y]) (.slice (some ⟨w.heap.size,0,none⟩) 1 1) [x] :=
 ⟨some ⟨w.heap.size,0,none⟩,1,rfl,Nat.le_refl _,by simp [maxLen],fun _=>⟨w.heap.size,0,rfl,trivial,fun i hi=>by
  have h0:i=0:=by simp at hi;omega
  subst h0
  exact ⟨[enc x],rfl,rfl,fun p u hu=>by
   have hp0:p=0:=by
    have:=(List.getElem?_eq_some_iff.1 hu).1
    simp at this
    omega
   subst hp0
   simp at hu
   subst hu
   exact ((Blk.alloc w E #[enc x]).cell 0).trans rfl⟩⟩⟩
theorem app_one3 {α:Type} {P:Program} {T E by_:Nat} {z:Value} {i0:TypeInfo} (enc:α→Value) (h1:∀ x,(enc x).oneCell'=true) (hT:P.underlying T=some (.slice E)) (hi:P.info? E=some i0) (hz:i0.zero=some z) (hs:i0.size=1) (hb:i0.bytes=by_) (hzs:z.cells.size=1) (ty:TypeId)
  {w0 wr:World} (hX:Ext w0 wr) {v:Value} {n:Nat} {xs:List α} (ho:wr.ownsRow w0.heap.size E 1 v n (xs.map enc)) (x:α) (hB:(n+1)*by_≤140737488355328) (hB1:n+1≤140737488355328) :
  ∃ v' w',(Builtin.append_ #[T,T] ty #[v,.slice (some ⟨wr.heap.size,0,none⟩) 1 1]).run P (wr.alloc (.cells #[enc x] E))=.ok v' w'∧w'.ownsRow w0.heap.size E 1 v' (n+1) ((xs ++ [x]).map enc)∧Ext w0 w'∧(wr.alloc (.cells #[enc x] E)).grownBy w' v.ownBlock:=by
 have hn:xs.length=n:=by have:=ho.1;simpa using this
 subst hn
 have hX4:Ext wr (wr.alloc (.cells #[enc x] E)):=(Ext.refl wr).alloc _
 obtain ⟨v',w',r1,r2,r3,r4⟩:=run_app (P:=P) enc _ (fun _ _ _ h=>h) h1 AnyB (wr.alloc (.cells #[enc x] E)) w0.heap.size hT hi hz hs hb hzs v (xs.map enc) (by simpa using rw_ext ho hX4) _ [x] (sl_one3 enc wr E x) (by simpa using hB) (by simpa using hB1) (hX.trans hX4).size ty
 exact ⟨v',w',r1,by rw [List.map_append];simpa using r2,Below.grown (hX.trans hX4) r3 (hX.trans hX4).size (rw_ge ho),r3⟩
set_option maxRecDepth 1000000 in
set_option maxHeartbeats 0 in
theorem s_l6Layout (K:Foot) (x:PFunc) (vP vB:Value) (w:World) (hP:SlStr K w vP x.params) (hB:SlStmt K w vB x.body) (hp:x.params.length≤6) (hl:x.body.length≤500) (hs:∀ s∈x.body,stOk s=true∧s.e.length≤2000∧s.f.length≤2000) :
  Calls Tryz.prog 99 #[.agg #[.string x.name,vP,vB]] w (LayOut x w):=by
 obtain ⟨aP,nP,cP,rfl⟩:=hP.shape
 have hlP:=sl_len hP
 obtain ⟨aB,nB,cB,rfl,HlB,hlcB,hcmB,helB⟩:=hB.op
 obtain ⟨iS,hiS,hzS,hsS,hbS⟩:=info_parts info_str
 obtain ⟨w1,hw1⟩:∃ w1,w1=w.alloc (.cells #[.string x.name,.slice aP nP cP,.slice aB nB cB] 83):=⟨_,rfl⟩
 have X1:Ext w w1:=by rw [hw1];exact (Ext.refl w).alloc _
 have BF:Blk w1 w.heap.size 83 #[.string x.name,.slice aP nP cP,.slice aB nB cB]:=by rw [hw1];exact Blk.alloc _ _ _
 obtain ⟨w2,hw2⟩:∃ w2,w2=w1.alloc (.cells #[] 9):=⟨_,rfl⟩
 have X2:Ext w1 w2:=by rw [hw2];exact (Ext.refl w1).alloc _
 have ho2:w2.ownsRow w1.heap.size 9 1 (.slice (some ⟨w1.heap.size,0,none⟩) 0 0) 0 []:=by rw [hw2];exact rw_new0 w1 w1.heap.size _ 1 (Nat.le_refl _)
 obtain ⟨v3,w3,r1,r2,r3,r4⟩:=run_app (P:=Tryz.prog) Value.string CStr (fun _ _ _ h=>h.1) (fun _=>rfl) K w2 w1.heap.size Tryz.underlying80 hiS hzS hsS hbS rfl _ [] ho2 _ x.params (hP.ext (X1.trans X2) (fun _ _ h=>h)) (by simp;omega) (by simp;omega) X2.size 80
 have r2':w3.ownsRow w1.heap.size 9 1 v3 nP ((x.params ++ declsL (x.body.take 0)).map Value.string):=by
  have h:=r2
  simp only [List.nil_append,List.length_map,hlP] at h
  simpa [declsL] using h
 have X3:Ext w1 w3:=Below.grown X2 r3 X2.size (fun k hk=>by cases hk;exact Nat.le_refl _)
 obtain ⟨a3,c3,rfl⟩:=rw_form0 r2'
 have hs1:w1.heap.size=w.heap.size+1:=by rw [hw1];simp
 have HR1:=Lib.hid r1
 have HO3:=Lib.hid r2'
 have HX1:=Lib.hid X1
 have HX3:=Lib.hid X3
 have HBF:=Lib.hid BF
 have HW1:=Lib.hid hw1
 have HW2:=Lib.hid hw2
 have HApp:Hid (∀ (wr:World) (v:Value) (n:Nat) (xs:List ByteArray) (y:ByteArray),Ext w1 wr→wr.ownsRow w1.heap.size 9 1 v n (xs.map Value.string)→n≤2000000 →
   ∃ v' w',(Builtin.append_ #[80,80] 80 #[v,.slice (some ⟨wr.heap.size,0,none⟩) 1 1]).run Tryz.prog (wr.alloc (.cells #[.string y] 9))=.ok v' w'∧w'.ownsRow w1.heap.size 9 1 v' (n+1) ((xs ++ [y]).map Value.string)∧Ext w1 w'∧(wr.alloc (.cells #[.string y] 9)).grownBy w' v.ownBlock) :=
  fun wr v n xs y hX ho hl=>app_one3 (P:=Tryz.prog) Value.string (fun _=>rfl) Tryz.underlying80 hiS hzS hsS hbS rfl 80 hX ho y (by omega) (by omega)
 have HSs:=Lib.hid hs
 have HB0:=Lib.hid hB
 have HlPp:=Lib.hid hlP
 have hnP:nP≤6:=by omega
 have hnB:nB≤500:=by have:=HlB.out;omega
 obtain ⟨R,hR⟩:∃ R,R=x.params.length+(declsL x.body).length:=⟨_,rfl⟩
 obtain ⟨Q,hQ⟩:∃ Q,Q=placesL x.body:=⟨_,rfl⟩
 unfold LayOut
 rw [← hR,← hQ]
 have HR:=Lib.hid hR
 have HQ:=Lib.hid hQ
 have b1:w2.cell? ⟨w.heap.size,1,none⟩=some (.slice aP nP cP):=X2.cell ((BF.cell 1).trans rfl)
 rw [hw2,hw1] at b1
 clear hP hB hlP hw1 hw2 X1 X2 X3 BF ho2 r1 r2 r3 r4 r2' hs hR hQ hp hl
 rw [hs1,HW2.out,HW1.out] at HR1
 clear hs1
 go_enter Tryz.func99,Tryz.ntmps99
 go_wp2_with (at_builtin;refine Lib.wpList_append_run _ rfl _ _ _ _ rfl _ _ rfl rfl _ _ HR1.out ?_)
 clear b1
 go_loopw [4,5,6] (fun v4 v5 v6 wr=>∃ (k n m c:Nat) (a:Option Addr),k≤nB∧n≤6+k∧v6=.int .i64 k∧v4=.slice a n c∧v5=.int .i64 m∧Hid (wr.ownsRow w1.heap.size 9 1 (.slice a n c) n ((x.params ++ declsL (x.body.take k)).map Value.string)) ∧
  Hid (m=(x.body.take k).foldl placeS 0)∧Ext w1 wr) (fun _ _ v6 _=>nB - (intOf v6).toNat)
 case atStart=>exact ⟨0,nP,0,c3,a3,Nat.zero_le _,by omega,rfl,rfl,rfl,HO3.out,rfl,HX3.out⟩
 case round =>
  clear HO3 HX3 HR1
  obtain ⟨k,n,m,c,a,hk,hn,rfl,rfl,rfl,HO,HM,hX⟩:=hrel
  have t1:wr.cell? ⟨w.heap.size,2,none⟩=some (.slice aB nB cB):=hX.cell ((HBF.out.cell 2).trans rfl)
  by_cases hlt:k<nB
  ·obtain ⟨bB,oB,rfl,_,helB⟩:=helB (by omega)
   obtain ⟨s,cs,hsk,_,hC,hcs⟩:=helB k hlt
   obtain ⟨vE,vF,rfl,sE,sF,q1,q2,q3,q4⟩:=hC
   have hXw:=HX1.out.trans hX
   have c0:=hXw.cell (hcs.z rfl)
   have c1:=hXw.cell (hcs 1 _ rfl)
   have c2:=hXw.cell (hcs 2 _ rfl)
   have c3':=hXw.cell (hcs 3 _ rfl)
   have c4:=hXw.cell (hcs 4 _ rfl)
   have c5:=hXw.cell (hcs 5 _ rfl)
   obtain ⟨hok,hle,hlf⟩:=HSs.out s (List.mem_of_getElem? hsk)
   obtain ⟨ex,hex⟩:=stOk_e hok
   have hexl:=grow_list hex
   have hexo:=grow_ok hex
   have HE:Hid (∀ w',Ext w w'→Calls Tryz.prog 134 #[vE,.int .i64 0] w' (Gives (.int .i64 ((need ex 0:Nat):Int)) w')):=fun w' hX' =>
    s_l6Need ex hexo K vE 0 w' (by rw [hexl];exact sE.ext hX' (fun _ _ h=>h.any)) (by rw [hexl];omega) (by rw [hexl];omega)
   have HF3:Hid (s.kind=3→∃ y,grow s.f=some y∧∀ w',Ext w w'→Calls Tryz.prog 134 #[vF,.int .i64 1] w' (Gives (.int .i64 ((need y 1:Nat):Int)) w')):=fun h3=>by
    obtain ⟨y,hy⟩:=stOk_f3 hok h3
    have hyl:=grow_list hy
    have hyo:=grow_ok hy
    exact ⟨y,hy,fun w' hX'=>s_l6Need y hyo K vF 1 w' (by rw [hyl];exact sF.ext hX' (fun _ _ h=>h.any)) (by rw [hyl];omega) (by rw [hyl];omega)⟩
   have hdt:=decls_take hsk
   have hft:=fold_take hsk 0
   rw [← HM.out] at hft
   obtain ⟨aE,nE,cE,rfl⟩:=sE.shape
   obtain ⟨aF,nF,cF,rfl⟩:=sF.shape
   obtain ⟨ws,hws⟩:∃ ws,ws=wr.alloc (.cells #[.int .i64 s.kind,.string s.name,.slice aE nE cE,.slice aF nF cF,.int .i64 s.thn,.int .i64 s.els] 102):=⟨_,rfl⟩
   have Xs:Ext wr ws:=by rw [hws];exact (Ext.refl wr).alloc _
   have BS:Blk ws wr.heap.size 102 #[.int .i64 s.kind,.string s.name,.slice aE nE cE,.slice aF nF cF,.int .i64 s.thn,.int .i64 s.els]:=by rw [hws];exact Blk.alloc _ _ _
   have HXs:=Lib.hid (hX.trans Xs)
   have HOs:=Lib.hid (rw_ext HO.out Xs)
   have HBS:=Lib.hid BS
   have HWs:=Lib.hid hws
   have Hdt:=Lib.hid hdt
   have Hft:=Lib.hid hft
   have Hex:=Lib.hid hex
   have z0:(0:Int)≤(k:Int):=by omega
   have z1:(k:Int)<(nB:Int):=by omega
   obtain ⟨kd,nm,xe,xf,thn,els⟩:=s
   simp only at c0 c1 c2 c3' c4 c5 HF3 HBS HWs Hdt Hft Hex hle hlf
   clear helB hcs hsk sE sF q1 q2 q3 q4 hok hex hexl hexo hdt hft hws Xs BS HO HM hX hXw hle hlf
   have d1:ws.cell? ⟨wr.heap.size,1,none⟩=some (.string nm):=(HBS.out.cell 1).trans rfl
   have d0:ws.cell? ⟨wr.heap.size,0,none⟩=some (.int .i64 kd):=(HBS.out.cell 0).trans rfl
   rw [HWs.out] at d0 d1
   have hsz:ws.heap.size=wr.heap.size+1:=by rw [HWs.out];simp
   have Hft2:Hid ((x.body.take (k+1)).foldl placeS 0=if kd=3 then (match grow xf with | some y=>max (max m (need ex 0)) (need y 1) | none=>max m (need ex 0)) else max m (need ex 0)):=by
    show _=_
    rw [Hft.out]
    unfold placeS
    rw [Hex.out]
    try rfl
   obtain ⟨m1,hm1⟩:∃ m1,m1=need ex 0:=⟨_,rfl⟩
   rw [← hm1] at HE Hft2
   clear hm1
   by_cases h1:kd=1
   ·subst h1
    obtain ⟨v',w',p1,p2,p3,p4⟩:=HApp.out ws _ n _ nm HXs.out HOs.out (by omega)
    obtain ⟨a5,c5',rfl⟩:=rw_form0 p2
    have HO6:Hid (w'.ownsRow w1.heap.size 9 1 (.slice a5 (n+1) c5') (n+1) ((x.params ++ declsL (x.body.take (k+1))).map Value.string)):=by
     rw [Hdt.out,if_pos rfl,← List.append_assoc];exact p2
    have hB2:Blk (ws.alloc (.cells #[.string nm] 9)) wr.heap.size 102 #[.int .i64 1,.string nm,.slice aE nE cE,.slice aF nF cF,.int .i64 thn,.int .i64 els]:=HBS.out.ext ((Ext.refl ws).alloc _)
    have hB5:Blk w' wr.heap.size 102 #[.int .i64 1,.string nm,.slice aE nE cE,.slice aF nF cF,.int .i64 thn,.int .i64 els]:=blk_grownBy hB2 p4 (own_ne_blk (rw_ext HOs.out ((Ext.refl ws).alloc _)) hB2 (by decide))
    have d2:w'.cell? ⟨wr.heap.size,2,none⟩=some (.slice aE nE cE):=(hB5.cell 2).trans rfl
    have d0':w'.cell? ⟨wr.heap.size,0,none⟩=some (.int .i64 1):=(hB5.cell 0).trans rfl
    have HX5:=Lib.hid p3
    have HM5:Hid (max m m1=(x.body.take (k+1)).foldl placeS 0):=by
     show _=_
     rw [Hft2.out,if_neg (by decide)]
    rw [hsz,HWs.out] at p1
    have HP1:=Lib.hid p1
    have HE5:=Lib.hid (HE.out w' (HX1.out.trans HX5.out))
    clear p1 p2 p3 p4 hB2 hB5 hsz Hft Hft2
    go_wp2_with (at_builtin;refine Lib.wpList_append_run _ rfl _ _ _ _ rfl _ _ rfl rfl _ _ HP1.out ?_)
    refine HE5.out.mono ?_
    rintro e w7 ⟨rfl,hX7⟩
    have d0':=hX7.cell d0'
    have HX6:=Lib.hid (HX5.out.trans hX7)
    have HO6:=Lib.hid (rw_ext HO6.out hX7)
    have HM6:=HM5
    clear hX7 d2
    go_wp2_with fail
    refine (s_l6Most m m1 _).mono ?_
    rintro e w8 ⟨rfl,rfl⟩
    go_wp2
    go_roundw
    case rel=>exact ⟨k+1,_,_,_,_,by omega,by omega,by go_num,rfl,rfl,HO6.out,HM6.out,HX6.out⟩
    case measure=>simp [intOf];omega
   ·have HO6:Hid (ws.ownsRow w1.heap.size 9 1 (.slice a n c) n ((x.params ++ declsL (x.body.take (k+1))).map Value.string)):=by
     rw [Hdt.out,if_neg h1,List.append_nil];exact HOs.out
    have q1:(kd == 1)=false:=by simpa using h1
    have d2:ws.cell? ⟨wr.heap.size,2,none⟩=some (.slice aE nE cE):=(HBS.out.cell 2).trans rfl
    have d3:ws.cell? ⟨wr.heap.size,3,none⟩=some (.slice aF nF cF):=(HBS.out.cell 3).trans rfl
    have d0':ws.cell? ⟨wr.heap.size,0,none⟩=some (.int .i64 kd):=(HBS.out.cell 0).trans rfl
    have d2':=d2
    rw [HWs.out] at d2'
    have HE5:=Lib.hid (HE.out ws (HX1.out.trans HXs.out))
    clear hsz HOs Hft
    go_wp2_with fail
    rw [← HWs.out]
    refine HE5.out.mono ?_
    rintro e w7 ⟨rfl,hX7⟩
    have d0':=hX7.cell d0'
    have d3:=hX7.cell d3
    have HX6:=Lib.hid (HXs.out.trans hX7)
    have HO6:=Lib.hid (rw_ext HO6.out hX7)
    clear hX7 d2 d2' d0 d1
    go_wp2_with fail
    refine (s_l6Most m m1 _).mono ?_
    rintro e w8 ⟨rfl,rfl⟩
    by_cases h3:kd=3
    ·subst h3
     obtain ⟨y,hy,HFy⟩:=HF3.out rfl
     have HFy:=Lib.hid HFy
     obtain ⟨m2,hm2⟩:∃ m2,m2=need y 1:=⟨_,rfl⟩
     have HM6:Hid (max m (max m1 m2)=(x.body.take (k+1)).foldl placeS 0):=by
      show _=_
      rw [Hft2.out,if_pos rfl,hy,hm2]
      exact (Nat.max_assoc _ _ _).symm
     rw [← hm2] at HFy
     have HF5:=Lib.hid (HFy.out w7 (HX1.out.trans HX6.out))
     clear hy hm2 HFy HF3 Hft2 h1
     go_wp2_with fail
     refine HF5.out.mono ?_
     rintro e w9 ⟨rfl,hX9⟩
     have HX6:=Lib.hid (HX6.out.trans hX9)
     have HO6:=Lib.hid (rw_ext HO6.out hX9)
     clear hX9 d0' d3
     go_wp2_with fail
     refine (s_l6Most (max m m1) m2 _).mono ?_
     rintro e w8 ⟨rfl,rfl⟩
     go_wp2
     go_roundw
     case rel=>exact ⟨k+1,_,_,_,_,by omega,by omega,by go_num,rfl,rfl,HO6.out,HM6.out,HX6.out⟩
     case measure=>simp [intOf];omega
    ·have HM6:Hid (max m m1=(x.body.take (k+1)).foldl placeS 0):=by
      show _=_
      rw [Hft2.out,if_neg h3]
     have q3:(kd == 3)=false:=by simpa using h3
     clear h1 h3 Hft2 HF3
     go_wp2
     go_roundw
     case rel=>exact ⟨k+1,_,_,_,_,by omega,by omega,by go_num,rfl,rfl,HO6.out,HM6.out,HX6.out⟩
     case measure=>simp [intOf];omega
  ·have hke:x.body.take k=x.body:=List.take_of_length_le (by rw [HlB.out];omega)
   have hO:=HO.out
   rw [hke] at hO
   have hnn:=hO.1
   simp only [List.length_map,List.length_append] at hnn
   have HRn:Hid (R=n):=by
    show _=_
    rw [HR.out];omega
   have HQm:Hid (Q=m):=by
    show _=_
    rw [HQ.out,HM.out,hke];rfl
   have HXe:=Lib.hid (HX1.out.trans hX)
   clear hke hO hnn HO HM hX
   go_wp2
   refine bodyPost_ret (v:=.tuple #[.slice a n c,.int .i64 m]) (by simp [results,Tryz.results99,go_sem]) rfl ?_
   exact ⟨a,c,by rw [HRn.out,HQm.out],HXe.out⟩
open Go Go.RowKit Md
theorem placeS_le {s:PStmt} {m B:Nat} (hm:m≤B) (he:s.e.length≤2000) (hf:s.f.length≤2000) (hB:2001≤B):placeS m s≤B:=by
 have hE:∀ x,grow s.e=some x→need x 0≤B:=fun x hx=>by
  have:=need_le x 0
  rw [grow_list hx] at this
  omega
 have hF:∀ x,grow s.f=some x→need x 1≤B:=fun x hx=>by
  have:=need_le x 1
  rw [grow_list hx] at this
  omega
 have h1:(match grow s.e with | some x=>max m (need x 0) | none=>m)≤B:=by
  cases h:grow s.e with
  | none=>exact hm
  | some x=>exact Nat.max_le.2 ⟨hm,hE x h⟩
 unfold placeS
 simp only
 split
 ·cases h:grow s.f with
  | none=>exact h1
  | some y=>exact Nat.max_le.2 ⟨h1,hF y h⟩
 ·exact h1
theorem places_le {l:List PStmt} (h:∀ s∈l,s.e.length≤2000∧s.f.length≤2000):∀ (m:Nat),m≤2001→l.foldl placeS m≤2001:=by
 induction l with
 | nil=>intro m hm;exact hm
 | cons a r ih =>
   intro m hm
   rw [List.foldl_cons]
   exact ih (fun s hs=>h s (List.mem_cons_of_mem _ hs)) _ (placeS_le hm (h a List.mem_cons_self).1 (h a List.mem_cons_self).2 (Nat.le_refl _))
theorem decls_le (l:List PStmt):(declsL l).length≤l.length:=by
 unfold declsL
 rw [List.length_map]
 exact List.length_filter_le _ _
def FrOk (x:PFunc):Prop:=x.params.length≤6∧x.body.length≤500∧∀ s∈x.body,stOk s=true∧s.e.length≤2000∧s.f.length≤2000
theorem valid_frOk {t:PTree} (h:valid t=true) (x:PFunc) (hx:x∈t.funcs):FrOk x:=by
 obtain ⟨h1,h2,h3⟩:=(valid_bounds h).2.2 x hx
 refine ⟨h1,h2,fun s hs=>?_⟩
 have hn:=nodes_mem hs
 unfold valid at h
 simp only [Bool.and_eq_true,decide_eq_true_eq,List.all_eq_true] at h
 have:=h.2 x hx
 unfold okFunc at this
 simp only [Bool.and_eq_true,decide_eq_true_eq,List.all_eq_true] at this
 have hb:=this.2
 rw [blocks_some _ _ 0 (Nat.le_refl _)] at hb
 simp only [Bool.and_eq_true,List.all_eq_true] at hb
 exact ⟨hb.1 s hs,by omega,by omega⟩
set_option maxRecDepth 1000000 in
set_option maxHeartbeats 4000000 in
theorem s_l6Frame (K:Foot) (x:PFunc) (vP vB:Value) (w:World) (hP:SlStr K w vP x.params) (hB:SlStmt K w vB x.body) (h:FrOk x) :
  Calls Tryz.prog 58 #[.agg #[.string x.name,vP,vB]] w (Gives (.int .i64 (frameSz x:Nat)) w):=by
 have hEx:Ext w (w.alloc (.cells #[.string x.name,vP,vB] 83)):=(Ext.refl w).alloc _
 have HL:=Lib.hid (s_l6Layout K x vP vB _ (hP.ext hEx (fun _ _ h=>h)) (hB.ext hEx (fun _ _ h=>h.ext hEx)) h.1 h.2.1 h.2.2)
 have hn:x.params.length+(declsL x.body).length≤600:=by
  have:=decls_le x.body
  have:=h.1
  have:=h.2.1
  omega
 have hm:placesL x.body≤3000:=Nat.le_trans (places_le (fun s hs=>(h.2.2 s hs).2) 0 (by omega)) (by omega)
 unfold frameSz
 unfold LayOut at HL
 obtain ⟨n,hN⟩:∃ n,n=x.params.length+(declsL x.body).length:=⟨_,rfl⟩
 obtain ⟨m,hM⟩:∃ m,m=placesL x.body:=⟨_,rfl⟩
 rw [← hN,← hM] at HL ⊢
 rw [← hN] at hn
 rw [← hM] at hm
 obtain ⟨R,hR⟩:∃ R,R=(4*(n+m+1)+15) / 16*16:=⟨_,rfl⟩
 rw [← hR]
 have HR:Hid ((R:Int)=(4*((n:Int)+m+1)+15) / 16*16):=by
  show _=_
  rw [hR]
  omega
 have HE:=Lib.hid hEx
 obtain ⟨aP,nP,cP,rfl⟩:=hP.shape
 obtain ⟨aB,nB,cB,rfl⟩:=hB.shape
 clear hP hB h hN hM hR hEx
 go_enter Tryz.func58,Tryz.ntmps58
 go_wp2_with fail
 refine HL.out.mono ?_
 rintro e w2 ⟨a,c,rfl,hX2⟩
 have HX:=Lib.hid (HE.out.trans hX2)
 clear hX2 HL
 go_wp2
 go_ret
 exact Gives.int (by rw [HR.out]) HX.out
noncomputable def framesAns (t:PTree):List Int:=if (checkAns t).1=0 then t.funcs.map fun x=>((frameSz x:Nat):Int) else []
theorem check_valid {t:PTree} (h:(checkAns t).1=0):valid t=true:=by
 unfold checkAns at h
 by_cases hv:valid t=true
 ·exact hv
 ·rw [if_neg hv] at h
  exact absurd h (by decide)
set_option maxRecDepth 1000000 in
set_option maxHeartbeats 4000000 in
theorem s_Frames (K:Foot) (t:PTree) (vG vF:Value) (w:World) (hG:SlGlob K w vG t.globals) (hF:SlFunc K w vF t.funcs) (hz:Small t) :
  Calls Tryz.prog 26 #[.agg #[vG,vF]] w (Listed64 w (framesAns t)):=by
 obtain ⟨aG,nG,cG,rfl⟩:=hG.shape
 obtain ⟨aF,nF,cF,rfl,HlF,hlcF,hcmF,helF⟩:=hF.op
 obtain ⟨w1,hw1⟩:∃ w1,w1=w.alloc (.cells #[.slice aG nG cG,.slice aF nF cF] 32):=⟨_,rfl⟩
 obtain ⟨w2,hw2⟩:∃ w2,w2=w1.alloc (.cells #[] 2):=⟨_,rfl⟩
 have X1:Ext w w1:=by rw [hw1];exact (Ext.refl w).alloc _
 have X2:Ext w1 w2:=by rw [hw2];exact (Ext.refl w1).alloc _
 have BT:Blk w1 w.heap.size 32 #[.slice aG nG cG,.slice aF nF cF]:=by rw [hw1];exact Blk.alloc _ _ _
 have ho2:w2.ownsRow w1.heap.size 2 1 (.slice (some ⟨w1.heap.size,0,none⟩) 0 0) 0 (([]:List Int).map (Value.int .i64)):=by rw [hw2];exact rw_new0 w1 w1.heap.size _ 1 (Nat.le_refl _)
 have hs1:w1.heap.size=w.heap.size+1:=by rw [hw1];simp
 have HC:=ret3 (s_CheckC K t _ _ w2 (Sl.ext hG (X1.trans X2) (fun _ _ h=>h.any)) (Sl.ext hF (X1.trans X2) (fun _ _ h=>h.ext (X1.trans X2))) hz)
 obtain ⟨ce,c1,c2,hce,HC⟩:=HC
 have hcd:(checkAns t).1=ce:=by rw [hce]
 obtain ⟨R,hR⟩:∃ R,R=framesAns t:=⟨_,rfl⟩
 rw [← hR]
 have HR:=Lib.hid hR
 have HCC:=Lib.hid HC
 have HX1:=Lib.hid X1
 have HX2:=Lib.hid X2
 have HO2:=Lib.hid ho2
 have HBT:=Lib.hid BT
 have HF:=Lib.hid hF
 have HW1:=Lib.hid hw1
 have HW2:=Lib.hid hw2
 have Hs1:=Lib.hid hs1
 obtain ⟨i1,hi1,hy0,hy1,hy2⟩:=info_parts info_int64
 have HApp:Hid (∀ (wr:World) (v:Value) (n:Nat) (xs:List Int) (y:Int),Ext w1 wr→wr.ownsRow w1.heap.size 2 1 v n (xs.map (Value.int .i64))→n≤2000000 →
   ∃ v' w',(Builtin.append_ #[27,27] 27 #[v,.slice (some ⟨wr.heap.size,0,none⟩) 1 1]).run Tryz.prog (wr.alloc (.cells #[.int .i64 y] 2))=.ok v' w'∧w'.ownsRow w1.heap.size 2 1 v' (n+1) ((xs ++ [y]).map (Value.int .i64))∧Ext w1 w') :=
  fun wr v n xs y hX ho hl=>app_one (P:=Tryz.prog) (Value.int .i64) (fun _=>rfl) Tryz.underlying27 hi1 hy0 hy1 hy2 rfl 27 hX ho y (by omega) (by omega)
 clear hG hF hz hce HC hR X1 X2 ho2 BT hw1 hw2 hs1
 have b0:w2.cell? ⟨w.heap.size,0,none⟩=some (.slice aG nG cG):=HX2.out.cell ((HBT.out.cell 0).trans rfl)
 have b1:w2.cell? ⟨w.heap.size,1,none⟩=some (.slice aF nF cF):=HX2.out.cell ((HBT.out.cell 1).trans rfl)
 rw [HW2.out,HW1.out] at b0 b1
 go_enter Tryz.func26,Tryz.ntmps26
 go_wp2_with fail
 rw [← HW1.out,← HW2.out]
 refine HCC.out.mono ?_
 rintro e w3 ⟨rfl,hX3⟩
 have HX3:=Lib.hid (HX2.out.trans hX3)
 have HO3:=Lib.hid (rw_ext HO2.out hX3)
 rw [← Hs1.out]
 clear b0 b1 hX3 HCC HO2 HW2
 have hfd:∀ w:World,(Instr.field 40 (.agg #[.int .i64 ce,.int .i64 c1,.int .i64 c2]) 0).run Tryz.prog w=.ok (.int .i64 ce) w:=fun _=>by kernel_rfl
 by_cases h0:ce=0
 case neg =>
  have HRr:Hid (R=[]):=by
   show _=_
   rw [HR.out]
   unfold framesAns
   rw [if_neg (by rw [hcd];exact h0)]
  have q0:(ce != 0)=true:=by simpa using h0
  clear hcd h0
  go_wp2
  go_ret
  exact ⟨_,rfl,by rw [HRr.out];exact rw_base HO3.out HX1.out.size,HX1.out.trans HX3.out⟩
 subst h0
 have hv:=check_valid hcd
 have hfo:=valid_frOk hv
 have hnF:nF≤50:=by have:=(valid_bounds hv).2.1;have:=HlF.out;omega
 have HRr:Hid (R=t.funcs.map fun x=>((frameSz x:Nat):Int)):=by
  show _=_
  rw [HR.out]
  unfold framesAns
  rw [if_pos hcd]
 have Hfo:=Lib.hid hfo
 clear hcd hv hfo HR
 go_wp2_with fail
 clear hfd
 go_loopw [3,4] (fun v3 v4 wr=>∃ (k:Nat) (a:Option Addr) (c:Nat),k≤nF∧v4=.int .i64 k∧v3=.slice a k c∧Hid (wr.ownsRow w1.heap.size 2 1 (.slice a k c) k (((t.funcs.take k).map fun x=>((frameSz x:Nat):Int)).map (Value.int .i64)))∧Ext w1 wr) (fun _ v4 _=>nF - (intOf v4).toNat)
 case atStart=>exact ⟨0,_,_,Nat.zero_le _,rfl,rfl,HO3.out,HX3.out⟩
 case round =>
  clear HO3 HX3
  obtain ⟨k,a,c,hk,rfl,rfl,HO,hX⟩:=hrel
  have t1:wr.cell? ⟨w.heap.size,1,none⟩=some (.slice aF nF cF):=hX.cell ((HBT.out.cell 1).trans rfl)
  by_cases hlt:k<nF
  ·obtain ⟨bF,oF,rfl,_,helF⟩:=helF (by omega)
   obtain ⟨x,cs,hxk,_,hC,hcs⟩:=helF k hlt
   obtain ⟨vP,vB,rfl,sP,sB,_⟩:=hC
   have hXw:=HX1.out.trans hX
   have c0:=hXw.cell (hcs.z rfl)
   have c1:=hXw.cell (hcs 1 _ rfl)
   have c2:=hXw.cell (hcs 2 _ rfl)
   have HFr:Hid (Calls Tryz.prog 58 #[.agg #[.string x.name,vP,vB]] wr (Gives (.int .i64 (frameSz x:Nat)) wr)) :=
    s_l6Frame K x vP vB wr (sP.ext hXw (fun _ _ h=>h)) (sB.ext hXw (fun _ _ h=>h.ext hXw)) (Hfo.out x (List.mem_of_getElem? hxk))
   have htk:(t.funcs.take (k+1)).map (fun x=>((frameSz x:Nat):Int))=(t.funcs.take k).map (fun x=>((frameSz x:Nat):Int)) ++ [((frameSz x:Nat):Int)]:=by
    rw [take_snoc hxk,List.map_append];rfl
   have Htk:=Lib.hid htk
   obtain ⟨m,hm⟩:∃ m,m=frameSz x:=⟨_,rfl⟩
   rw [← hm] at HFr Htk
   obtain ⟨aP,nP,cP,rfl⟩:=sP.shape
   obtain ⟨aB,nB,cB,rfl⟩:=sB.shape
   have HX:=Lib.hid hX
   obtain ⟨nm,xp,xb⟩:=x
   simp only at c0 HFr
   clear hxk sP sB hcs htk hm hX hXw helF
   have z0:(0:Int)≤(k:Int):=by omega
   have z1:(k:Int)<(nF:Int):=by omega
   go_wp2_with fail
   refine HFr.out.mono ?_
   rintro e w5 ⟨rfl,hX5⟩
   obtain ⟨v',w',p1,p2,p3⟩:=HApp.out w5 _ k _ (m:Int) (HX.out.trans hX5) (rw_ext HO.out hX5) (by omega)
   obtain ⟨a5,c5,rfl⟩:=rw_form0 p2
   have HP1:=Lib.hid p1
   have HX6:=Lib.hid p3
   have HO6:Hid (w'.ownsRow w1.heap.size 2 1 (.slice a5 (k+1) c5) (k+1) (((t.funcs.take (k+1)).map fun x=>((frameSz x:Nat):Int)).map (Value.int .i64))):=by
    rw [Htk.out];exact p2
   clear p1 p2 p3 hX5 HFr c0 c1 c2 t1 HO
   go_wp2_with (at_builtin;refine Lib.wpList_append_run _ rfl _ _ _ _ rfl _ _ rfl rfl _ _ HP1.out ?_)
   go_roundw
   case rel=>exact ⟨k+1,_,_,by omega,by go_num,rfl,HO6.out,HX6.out⟩
   case measure=>simp [intOf];omega
  ·have hke:t.funcs.take k=t.funcs:=List.take_of_length_le (by rw [HlF.out];omega)
   have hO:=HO.out
   rw [hke] at hO
   have hkn:k=R.length:=by
    rw [HRr.out,List.length_map,HlF.out];omega
   have HOe:Hid (wr.ownsRow w1.heap.size 2 1 (.slice a k c) R.length (R.map (Value.int .i64))):=by
    rw [← hkn,HRr.out];exact hO
   have HXe:=Lib.hid hX
   clear hke hO hkn HO hX
   go_wp2
   go_ret
   exact ⟨_,rfl,rw_base HOe.out HX1.out.size,HX1.out.trans HXe.out⟩
end Go.Proofs.YtcfggjmdcaoecaaGreatDoor
