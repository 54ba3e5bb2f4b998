/- A part of the proofs of FnBound and FnCheck: the lemmas and walks Arity, Grow, BlocksA, UnitB, ValidA. -/
import Derived.WalkSpells
import Derived.Lib.SliceRun
import Derived.ArgAppend
import Derived.OwnWalk
import Derived.Deep.RegionLaw
import Derived.Deep.RegionLawGrows
import Derived.Deep.DrawnRows
import Derived.Test.YtcfggjmdcaoecaaGreatDoorB04
import Derived.Test.YtcfggjmdcaoecaaGreatDoorB03
set_option linter.unusedVariables false
set_option linter.unusedSimpArgs false
namespace Go.Proofs.YtcfggjmdcaoecaaGreatDoor
open Go Go.RowKit Md
theorem i_isWord (v:Int) (w:World):Calls Tryz.prog 168 #[.int .i64 v] w (Same (.bool (isWord v)) w):=by
 go_enter Tryz.func168,Tryz.ntmps168
 by_cases h : -2147483648≤v
 ·go_wp2
  go_ret
  exact Same.bool (by unfold isWord;simp<;>omega)
 ·go_wp2
  go_ret
  exact Same.bool (by unfold isWord;simp<;>omega)
def arI (x:PNode):Int:=match arity x with | some k=>k | none=>-1
theorem arI_named (k v:Int) (m:ByteArray) (hk:k=2∨k=3∨k=4) (hn:isName m=true):arI ⟨k,v,m⟩=if k=4 then (if 0≤v∧v≤6 then v else -1) else if v=0 then (if k=2 then 0 else 1) else -1:=by
 unfold arI arity
 rw [if_pos hk,if_pos hn]
 rcases hk with rfl | rfl | rfl
 ·by_cases h:v=0<;>simp [h]
 ·by_cases h:v=0<;>simp [h]
 ·by_cases h:0≤v∧v≤6
  ·simp [h];omega
  ·simp [h]
theorem arI_bad (k v:Int) (m:ByteArray) (hk:k=2∨k=3∨k=4) (hn:isName m=false):arI ⟨k,v,m⟩ = -1:=by
 unfold arI arity
 rw [if_pos hk,if_neg (by simp [hn])]
theorem arI_bad2 (k v:Int) (m:ByteArray) (hk:¬ (k=2∨k=3∨k=4)) (hn:(m.toList == [])=false):arI ⟨k,v,m⟩ = -1:=by
 rw [toList_nil] at hn
 unfold arI arity
 rw [if_neg hk,if_neg (by simpa using hn)]
theorem arI_plain (k v:Int) (m:ByteArray) (hk:¬ (k=2∨k=3∨k=4)) (hn:(m.toList == [])=true) :
  arI ⟨k,v,m⟩=if k=1 then (if isWord v then 0 else -1) else if k=5 then (if v=0 then 0 else -1) else if k=6 then (if 0≤v∧v≤2 then 1 else -1) else if k=7 then (if 0≤v∧v≤15 then 2 else -1) else if k=8∨k=9 then (if v=0 then 2 else -1) else -1:=by
 rw [toList_nil] at hn
 have hz:m.size=0:=beq_iff_eq.1 hn
 unfold arI arity
 simp only [if_neg hk,if_pos hz]
 by_cases h1:k=1
 ·by_cases h:isWord v=true<;>simp [h1,h]
 by_cases h5:k=5
 ·by_cases h:v=0<;>simp [h1,h5,h]
 by_cases h6:k=6
 ·by_cases h:0≤v∧v≤2<;>simp [h1,h5,h6,h]
 by_cases h7:k=7
 ·by_cases h:0≤v∧v≤15<;>simp [h1,h5,h6,h7,h]
 by_cases h8:k=8∨k=9
 ·by_cases h:v=0<;>simp only [if_neg h1,if_neg h5,if_neg h6,if_neg h7,if_pos h8,h]<;>simp
 ·simp only [if_neg h1,if_neg h5,if_neg h6,if_neg h7,if_neg h8]
theorem isName_empty {m:ByteArray} (h:(m.toList == [])=true):isName m=false:=by
 rw [toList_nil] at h
 rw [isName_eq,decide_eq_false (by have:=beq_iff_eq.1 h;omega)];rfl
set_option maxHeartbeats 4000000 in
theorem i_arity (x:PNode) (w:World) (hs:x.name.size≤maxLen) (hres:Res w):Calls Tryz.prog 143 #[.agg #[.int .i64 x.kind,.int .i64 x.val,.string x.name]] w (Gives (.int .i64 (arI x)) w):=by
 obtain ⟨kind,val,name⟩:=x
 simp only at *
 obtain ⟨R,hR⟩:∃ R,R=arI ⟨kind,val,name⟩:=⟨_,rfl⟩
 rw [← hR]
 have HR:=Lib.hid hR
 clear hR
 have hEx:=fun o=>(Ext.refl w).alloc o
 have HN:=fun o=>Lib.hid (i_isName name _ hs (hres.ext (hEx o)))
 have HX:=Lib.hid hEx
 clear hres hEx
 go_enter Tryz.func143,Tryz.ntmps143
 by_cases h234:kind=2∨kind=3∨kind=4
 ·cases hn:(name.toList == [])
  ·cases hm:isName name
   ·have Hm:=Lib.hid hm
    rcases h234 with rfl | rfl | rfl<;>(
     go_wp2_with fail
     refine (HN _).out.mono ?_;rintro e w' ⟨rfl,rfl⟩
     go_wp2
     go_ret
     exact Gives.int (by rw [HR.out,arI_bad _ _ _ (by omega) Hm.out]) (HX.out _))
   ·have Hm:=Lib.hid hm
    rcases h234 with rfl | rfl | rfl
    ·by_cases hv:val=0
     ·subst hv
      go_wp2_with fail
      refine (HN _).out.mono ?_;rintro e w' ⟨rfl,rfl⟩
      go_wp2
      go_ret
      exact Gives.int (by rw [HR.out,arI_named _ _ _ (by omega) Hm.out];rfl) (HX.out _)
     ·have hv2:(val == 0)=false:=by simp [hv]
      go_wp2_with fail
      refine (HN _).out.mono ?_;rintro e w' ⟨rfl,rfl⟩
      go_wp2
      go_ret
      exact Gives.int (by rw [HR.out,arI_named _ _ _ (by omega) Hm.out,if_neg (by omega),if_neg hv]) (HX.out _)
    ·by_cases hv:val=0
     ·subst hv
      go_wp2_with fail
      refine (HN _).out.mono ?_;rintro e w' ⟨rfl,rfl⟩
      go_wp2
      go_ret
      exact Gives.int (by rw [HR.out,arI_named _ _ _ (by omega) Hm.out];rfl) (HX.out _)
     ·have hv2:(val == 0)=false:=by simp [hv]
      go_wp2_with fail
      refine (HN _).out.mono ?_;rintro e w' ⟨rfl,rfl⟩
      go_wp2
      go_ret
      exact Gives.int (by rw [HR.out,arI_named _ _ _ (by omega) Hm.out,if_neg (by omega),if_neg hv]) (HX.out _)
    ·by_cases hv:0≤val
     ·by_cases hv2:val≤6<;>(
       go_wp2_with fail
       refine (HN _).out.mono ?_;rintro e w' ⟨rfl,rfl⟩
       go_wp2
       go_ret
       exact Gives.int (by rw [HR.out,arI_named _ _ _ (by omega) Hm.out,if_pos rfl];first | rw [if_pos (by omega)] | rw [if_neg (by omega)]) (HX.out _))
     ·go_wp2_with fail
      refine (HN _).out.mono ?_;rintro e w' ⟨rfl,rfl⟩
      go_wp2
      go_ret
      exact Gives.int (by rw [HR.out,arI_named _ _ _ (by omega) Hm.out,if_pos rfl,if_neg (by omega)]) (HX.out _)
  ·have Hn:=Lib.hid hn
   rcases h234 with rfl | rfl | rfl<;>(
    go_wp2
    go_ret
    exact Gives.int (by rw [HR.out,arI_bad _ _ _ (by omega) (isName_empty Hn.out)]) (HX.out _))
 ·have H234:=Lib.hid h234
  have n2:(kind == 2)=false:=by simp;omega
  have n3:(kind == 3)=false:=by simp;omega
  have n4:(kind == 4)=false:=by simp;omega
  cases hn:(name.toList == [])
  ·have Hn:=Lib.hid hn
   go_wp2
   go_ret
   exact Gives.int (by rw [HR.out,arI_bad2 _ _ _ H234.out Hn.out]) (HX.out _)
  ·have Hn:=Lib.hid hn
   have HP:=Lib.hid (arI_plain kind val name h234 hn)
   by_cases h1:kind=1
   ·subst h1
    cases hv:isWord val<;>(
     have Hv:=Lib.hid hv
     go_wp2_with fail
     refine (i_isWord _ _).mono ?_;rintro e w' ⟨rfl,rfl⟩
     go_wp2
     go_ret
     exact Gives.int (by rw [HR.out,HP.out,Hv.out];rfl) (HX.out _))
   by_cases h5:kind=5
   ·subst h5
    by_cases hv:val=0
    ·subst hv
     go_wp2
     go_ret
     exact Gives.int (by rw [HR.out,HP.out];rfl) (HX.out _)
    ·have hv2:(val == 0)=false:=by simp [hv]
     go_wp2
     go_ret
     exact Gives.int (by rw [HR.out,HP.out];simp [hv]) (HX.out _)
   by_cases h6:kind=6
   ·subst h6
    by_cases hv:0≤val
    ·by_cases hv2:val≤2<;>(
      go_wp2
      go_ret
      exact Gives.int (by rw [HR.out,HP.out];simp;omega) (HX.out _))
    ·go_wp2
     go_ret
     exact Gives.int (by rw [HR.out,HP.out];simp;omega) (HX.out _)
   by_cases h7:kind=7
   ·subst h7
    by_cases hv:0≤val
    ·by_cases hv2:val≤15<;>(
      go_wp2
      go_ret
      exact Gives.int (by rw [HR.out,HP.out];simp;omega) (HX.out _))
    ·go_wp2
     go_ret
     exact Gives.int (by rw [HR.out,HP.out];simp;omega) (HX.out _)
   by_cases h89:kind=8∨kind=9
   ·rcases h89 with rfl | rfl<;>(
     by_cases hv:val=0
     ·subst hv
      go_wp2
      go_ret
      exact Gives.int (by rw [HR.out,HP.out];rfl) (HX.out _)
     ·have hv2:(val == 0)=false:=by simp [hv]
      go_wp2
      go_ret
      exact Gives.int (by rw [HR.out,HP.out];simp [hv]) (HX.out _))
   ·have HF:Hid (R = -1):=by
     show R = -1
     rw [HR.out,HP.out,if_neg h1,if_neg h5,if_neg h6,if_neg h7,if_neg h89]
    have f1:(kind == 1)=false:=by simp;omega
    have f5:(kind == 5)=false:=by simp;omega
    have f6:(kind == 6)=false:=by simp;omega
    have f7:(kind == 7)=false:=by simp;omega
    have f8:(kind == 8)=false:=by simp;omega
    have f9:(kind == 9)=false:=by simp;omega
    go_wp2
    go_ret
    exact Gives.int HF.out.symm (HX.out _)
open Go Go.RowKit Md
theorem info_expr:(Tryz.prog.info? 180).map (fun i=>(i.zero,i.size,i.bytes))=some (some (.pointer none),1,8):=by kernel_rfl
theorem SlV.nil_of_none {K:Foot} {w:World} {n c:Nat} {vs:List Value} (h:SlV K w (.slice none n c) vs):vs=[]:=by
 obtain ⟨a',cap,e,h1,h2,h3⟩:=h
 simp only [Value.slice.injEq] at e
 obtain ⟨rfl,rfl,rfl⟩:=e
 refine List.eq_nil_of_length_eq_zero (Nat.eq_zero_of_not_pos fun hp=>?_)
 obtain ⟨b,o,e,_⟩:=h3 hp
 cases e
theorem ext_of_grown_new {w w2 w1:World} {g:Nat} (h:w2.grownBy w1 (some g)) (hE:Ext w w2) (hg:w.heap.size≤g):Ext w w1 :=
 Below.grown hE h hE.size (fun k hk=>by cases hk;exact hg)
def Cloned (K:Foot) (w:World) (vs:List Value) (e:Ending) (w':World):Prop:=∃ v,e=.returned v∧SlV K w' v vs∧Ext w w'
set_option maxRecDepth 1000000 in
theorem g_ClonePtr (K:Foot) (v:Value) (vs:List Value) (w:World) (hv:SlV K w v vs) (hl:vs.length≤1048576) (h1:∀ u∈vs,u.oneCell'=true) :
  Calls Tryz.prog 144 #[v] w (Cloned (New w) w vs):=by
 obtain ⟨a,n,c,rfl⟩:=hv.shape
 obtain ⟨hn,hc,hm⟩:=hv.len
 have HN:=Lib.hid hn
 have HC:=Lib.hid hv.cells
 have HV:=Lib.hid hv
 clear hv hn
 obtain ⟨i0,hi,hz0,hz1,hz2⟩:=info_parts info_expr
 have heq:=fun (w:World) (a:Option Addr) (n c n2 c2:Nat)=>Lib.run_eql_slice_nil (P:=Tryz.prog) w 228 180 a n c n2 c2 Tryz.underlying228
 go_enter Tryz.func144,Tryz.ntmps144
 cases a with
 | none =>
   go_wp2
   go_ret
   obtain rfl:=HV.out.nil_of_none
   exact ⟨_,rfl,Sl.nil _ _ _ _,Ext.refl _⟩
 | some ad =>
   by_cases h0:n=0
   ·subst h0
    obtain rfl:vs=[]:=List.eq_nil_of_length_eq_zero HN.out
    have hown:(w.alloc (.cells #[] 180)).ownsRow w.heap.size 180 1 (.slice (some ⟨w.heap.size,0,none⟩) 0 0) 0 [] :=
     ⟨rfl,.inr ⟨w.heap.size,0,#[],rfl,Nat.le_refl _,heap_alloc_new _ _,Nat.le_refl _,by simp [maxLen],rfl,rfl⟩⟩
    go_wp2_with (at_builtin;refine wpList_append_fits_any _ rfl _ _ 228 rfl w.heap.size 180 i0 1 Tryz.underlying228 hi hz1 w.heap.size 0 0 [] (by rfl) hown (some ad) 0 c [] (by rfl) rfl (fun h=>by cases h) (fun _ _ j u hj=>by simp at hj) (fun u hu=>by cases hu) (Nat.le_refl _) ?_;intro w1 hown1 hg1)
    go_wp2
    go_ret
    refine ⟨_,rfl,sl_of_own hown1 (fun _ hg=>hg),ext_of_grown_new hg1 ((Ext.refl w).alloc (.cells #[] 180)) (Nat.le_refl _)⟩
   ·have hfull:0<0+n:=by omega
    have a1:vs.length=n*1:=by rw [Nat.mul_one];exact HN.out
    have a2:∀ j u,vs[j]? = some u→(w.alloc (.cells #[] 180)).cell? (ad.add j)=some u:=fun j u hj=>((Ext.refl w).alloc _).cell (HC.out ad rfl j u hj)
    have A1:=Lib.hid a1
    have A2:=Lib.hid a2
    have A3:0+n≤maxLen:=by unfold maxLen;omega
    have A4:(0+n)*8≤140737488355328:=by have:=HN.out;omega
    clear a1 a2
    go_wp2_with (at_builtin;refine wpList_append_grows _ rfl _ _ 228 rfl 180 i0 (.pointer none) 1 8 Tryz.underlying228 hi hz0 hz1 hz2 rfl (by decide) (some ⟨w.heap.size,0,none⟩) 0 0 [] (by rfl) (fun h=>by cases h) rfl (fun _ _ j u hj=>by simp at hj) ad n c vs (by rfl) A1.out A2.out h1 hfull A3 A4 ?_;intro v1 w1 hown1 hg1)
    go_wp2
    go_ret
    rw [List.nil_append] at hown1
    exact ⟨_,rfl,sl_of_own hown1 (fun g hg=>Nat.le_trans ((Ext.refl w).alloc _).size hg),Ext.trans ((Ext.refl w).alloc (.cells #[] 180)) (ext_of_grown hg1)⟩
theorem ExAt.one {K:Foot} {w:World} {v:Value} {x:Ex} (h:ExAt K w v x):v.oneCell'=true:=by
 cases h
 rfl
theorem All2.one {K:Foot} {w:World} {vs:List Value} {xs:List Ex} (h:All2 (ExAt K w) vs xs):∀ u∈vs,u.oneCell'=true:=by
 intro u hu
 obtain ⟨i,hi,e⟩:=List.mem_iff_getElem.1 hu
 have hl:=h.1
 exact (h.2 i u xs[i] (by rw [List.getElem?_eq_getElem hi,e]) (List.getElem?_eq_getElem (by omega))).one
def Grown (e:List PNode) (w:World) (r:Ending) (w':World):Prop:=∃ v,r=.returned v∧ExOpt (New w) w' v (Md.grow e)∧Ext w w'
theorem grows_snoc {e:List PNode} {k:Nat} {n:PNode} {st:List Ex} (h:grows (e.take k) []=some st) (hn:e[k]? = some n):grows (e.take (k+1)) []=push n st:=by
 rw [take_snoc hn,grows_append,h]
 simp only [Option.bind_some,grows]
 cases push n st<;>rfl
theorem grows_none {e:List PNode} {k:Nat} (h:grows (e.take k) []=none):Md.grow e=none:=by
 unfold Md.grow
 have:grows e []=none:=by
  rw [← List.take_append_drop k e,grows_append,h];rfl
 rw [this]
theorem news1 (w:World) (o:Obj) (v:Value) (t:TypeId):∀ (j:Nat) u,[v][j]? = some u→((w.alloc o).alloc (.cells #[v] t)).cell? ((⟨w.heap.size+1,0,none⟩:Addr).add j)=some u:=by
 intro j u hj
 have h0:j=0:=by
  have:=(List.getElem?_eq_some_iff.1 hj).1
  simp at this;omega
 subst h0
 have:=(Blk.alloc (w.alloc o) t #[v]).cell 0
 simp at hj
 subst hj
 simp [Addr.add]
set_option maxRecDepth 1000000 in
set_option maxHeartbeats 2000000 in
theorem i_grow (K:Foot) (e:List PNode) (vE:Value) (w:World) (hE:SlNode K w vE e) (hl:e.length≤1048576) (hres:Res w):Calls Tryz.prog 115 #[vE] w (Grown e w):=by
 obtain ⟨aE,len,cE,rfl,HlE,hlcE,hcmE,helE⟩:=hE.op
 rw [HlE.out] at hl
 clear hE
 obtain ⟨i0,hi,hz0,hz1,hz2⟩:=info_parts info_expr
 go_enter Tryz.func115,Tryz.ntmps115
 go_wp2
 go_loopw [3,10] (fun s i wr=>∃ (k:Nat) (vs:List Value) (st:List Ex),k≤len∧i=.int .i64 k∧SlV (New w) wr s vs∧All2 (ExAt (New w) wr) vs st∧st.length≤k∧Hid (grows (e.take k) []=some st)∧Ext w wr) (fun _ i _=>len - (intOf i).toNat)
 case atStart=>exact ⟨0,[],[],Nat.zero_le _,rfl,Sl.nil _ _ _ _,All2.nil _,Nat.le_refl _,rfl,Ext.refl _⟩
 case round =>
  obtain ⟨k,vs,st,hk,rfl,hS,hA,hst,hG,hEx⟩:=hrel
  obtain ⟨aS,nS,cS,rfl⟩:=hS.shape
  obtain ⟨hn,hc,hm⟩:=hS.len
  obtain rfl:nS=st.length:=by rw [← hn,hA.1]
  have HS:=Lib.hid hS
  have HA:=Lib.hid hA
  clear hS hA hn
  by_cases hlt:k<len
  ·obtain ⟨b,o,rfl,_,hel⟩:=helE (by omega)
   obtain ⟨x,cs,hx,_,hC,hcs⟩:=hel k hlt
   obtain ⟨rfl,q1,q2,q3⟩:=hC
   have c0:=hEx.cell (hcs.z rfl)
   have c1:=hEx.cell (hcs 1 _ rfl)
   have c2:=hEx.cell (hcs 2 _ rfl)
   have Hx:=Lib.hid hx
   have hres1:Res (wr.alloc (.cells #[.int .i64 x.kind,.int .i64 x.val,.string x.name] 104)):=(hres.ext hEx).ext ((Ext.refl _).alloc _)
   have HR1:=Lib.hid hres1
   clear hel hcs hx hres1
   have g0:(0:Int)≤(k:Int):=by omega
   have g1:(k:Int)<(len:Int):=by omega
   go_wp2_with fail
   refine (i_arity x _ q3 HR1.out).mono ?_
   rintro _ w2 ⟨rfl,hX2⟩
   have hEx2:Ext wr w2:=Ext.of_alloc hX2
   have hE2:Ext w w2:=hEx.trans hEx2
   have hB2:Blk w2 wr.heap.size 104 #[.int .i64 x.kind,.int .i64 x.val,.string x.name]:=(Blk.alloc wr _ _).ext hX2
   cases har:arity x with
   | none =>
     have HF:Hid (Md.grow e=none):=grows_none (k:=k+1) (by rw [grows_snoc hG.out Hx.out,push,har])
     rw [show arI x = -1 by unfold arI;rw [har]]
     go_wp2
     go_ret
     exact ⟨_,rfl,by rw [HF.out];rfl,hE2⟩
   | some m =>
     have HAr:=Lib.hid har
     rw [show arI x=m by unfold arI;rw [har]]
     clear har
     by_cases hm2:st.length<m
     ·have HF:Hid (Md.grow e=none):=grows_none (k:=k+1) (by rw [grows_snoc hG.out Hx.out,push,HAr.out];simp only;rw [if_neg (by omega)])
      go_wp2
      go_ret
      exact ⟨_,rfl,by rw [HF.out];rfl,hE2⟩
     ·have HP:Hid (push x st=some (st.take (st.length - m) ++ [.mk x (st.drop (st.length - m))])):=by
       show push x st=_
       rw [push,HAr.out]
       simp only
       rw [if_pos (by omega)]
      have s1:(st.length:Int) - (m:Int)=((st.length - m:Nat):Int):=by omega
      obtain ⟨cut,hcut⟩:∃ cut,cut=st.length - m:=⟨_,rfl⟩
      rw [← hcut] at HP s1
      have hle:cut≤st.length:=by omega
      go_wp2
      clear s1
      have n0:=hB2.cell 0
      have n1:=hB2.cell 1
      have n2:=hB2.cell 2
      have g2:(0:Int)≤(cut:Int):=by omega
      have g3:(cut:Int)≤(st.length:Int):=by omega
      have g4:(st.length:Int)≤(cS:Int):=by omega
      have g5:(cut:Int)≤(cS:Int):=by omega
      have HN:=Lib.hid hm2
      have HE2:=Lib.hid hE2
      obtain ⟨a1,hs1,k1⟩:=cut_to Tryz.underlying228 hi hz1 aS st.length cS cut (by omega)
      obtain ⟨a2,hs2,k2⟩:=cut_from Tryz.underlying228 hi hz1 aS st.length cS cut (by omega) (by omega)
      have hvl:vs.length=st.length:=HA.out.1
      have HT:Hid (SlV (New w) w2 (.slice a1 cut cut) (vs.take cut)):=by
       have:=Sl.cutAt (SlV.ext HS.out hEx2) 0 cut (by omega) (Nat.le_refl _) (by omega) k1
       rw [List.drop_zero] at this
       exact this
      have HD:Hid (SlV (New w) w2 (.slice a2 (st.length - cut) (cS - cut)) (vs.drop cut)):=by
       have:=Sl.cutAt (SlV.ext HS.out hEx2) cut (st.length - cut) (c:=cS - cut) (by omega) (by omega) (by omega) k2
       rw [List.take_of_length_le (by rw [List.length_drop];omega)] at this
       exact this
      have HA2:Hid (All2 (ExAt (New w) w2) vs st):=HA.out.exExt hEx2
      have HN1:Hid (a1=none→cut=0∧cut=0):=fun h=>by
       subst h
       have h1:=HT.out.nil_of_none
       have:(vs.take cut).length=0:=by rw [h1];rfl
       rw [List.length_take] at this
       omega
      have D1:(vs.drop cut).length≤1048576:=by rw [List.length_drop];omega
      have D2:=Lib.hid (HA2.out.drop cut).one
      have T1:Hid ((vs.take cut).length=cut*1):=by show _=_;rw [List.length_take];omega
      clear k1 k2 HS HA hvl
      have HX2:=Lib.hid hEx2
      have B3:cut+1≤maxLen:=by unfold maxLen;omega
      have B4:(cut+1)*8≤140737488355328:=by omega
      have HCut:=Lib.hid hcut
      have HLe:=Lib.hid hle
      clear c0 c1 c2 hX2 hB2 hm2 helE hE2 hEx2 hEx hcut hle g3 g5
      rw [← HCut.out]
      go_region_held3 (fun w'=>w'.cell? ⟨wr.heap.size,0,none⟩=some (.int .i64 x.kind)∧w'.cell? ⟨wr.heap.size,1,none⟩=some (.int .i64 x.val)∧w'.cell? ⟨wr.heap.size,2,none⟩=some (.string x.name))
       (first | go_keep | (refine ⟨(ext_of_grown hg4).cell ((((Ext.refl w3).alloc _).alloc _).cell (hX3.cell ?_)),(ext_of_grown hg4).cell ((((Ext.refl w3).alloc _).alloc _).cell (hX3.cell ?_)),(ext_of_grown hg4).cell ((((Ext.refl w3).alloc _).alloc _).cell (hX3.cell ?_))⟩<;>simp [*]) | (refine ⟨hX3.cell ?_,hX3.cell ?_,hX3.cell ?_⟩<;>simp [*]))
       (first
        | (go_at_call 144;refine (g_ClonePtr (New w) _ (vs.drop cut) _ (SlV.ext HD.out ((Ext.refl w2).drew)) D1 D2.out).mono ?_;rintro e3 w3 ⟨v3,rfl,hV3,hX3⟩;obtain ⟨a3,n3,c3,rfl⟩:=hV3.shape)
        | ((refine step_append_grows rfl (.tmp 31) (.tmp 39) 228 rfl 180 i0 (.pointer none) 1 8 Tryz.underlying228 hi hz0 hz1 hz2 rfl (by decide) a1 cut cut (vs.take cut) (by rfl) HN1.out T1.out (SlV.cells (SlV.ext (SlV.ext HT.out (((Ext.refl w2).drew).trans hX3)) (((Ext.refl w3).alloc _).alloc _))) ⟨w3.heap.size+1,0,none⟩ 1 1 [.pointer (some ⟨w3.heap.size,0,none⟩)] (by rfl) rfl (news1 _ _ _ _) (by simp [Value.oneCell']) (by omega) B3 B4 ?_;intro v4 w4 hown4 hg4)))
      have hX4:Ext w3 w4:=(((Ext.refl w3).alloc _).alloc _).trans (ext_of_grown hg4)
      have hE4:Ext w2 w4:=(((Ext.refl w2).drew).trans hX3).trans hX4
      have hB4:Blk w4 w3.heap.size 232 #[.int .i64 x.kind,.int .i64 x.val,.string x.name,.slice a3 n3 c3]:=((Blk.alloc w3 _ _).ext ((Ext.refl _).alloc _)).ext (ext_of_grown hg4)
      have hsz2:w.heap.size≤w2.heap.size:=HE2.out.size
      have hsz3:w2.heap.size≤w3.heap.size:=((Ext.refl w2).drew.trans hX3).size
      have hnew:ExAt (New w) w4 (.pointer (some ⟨w3.heap.size,0,none⟩)) (.mk x (st.drop cut)) :=
        .mk w3.heap.size x _ (vs.drop cut) _ (Nat.le_trans hsz2 hsz3) (fun i v hv=>by rw [Nat.zero_add,hB4.cell];simpa using hv) q1 q2 q3 (SlV.keep hV3 (hX4.keep _) (fun b hb=>Nat.le_trans hsz2 (Nat.le_trans ((Ext.refl w2).drew).size hb))) (HA2.out.drop cut).1 ((HA2.out.drop cut).exExt hE4).2
      have HNew:=Lib.hid hnew
      have HSl:=Lib.hid (sl_of_own (K:=New w) hown4 (fun g hg=>Nat.le_trans hsz2 (Nat.le_trans hsz3 (Nat.le_trans (((Ext.refl w3).alloc _).alloc _).size hg))))
      have HE4:=Lib.hid hE4
      clear hnew hB4 hX4 hX3 hV3 hown4 hg4 hE4
      go_wp2
      go_roundw
      case rel=>exact ⟨k+1,vs.take cut ++ [.pointer (some ⟨w3.heap.size,0,none⟩)],st.take cut ++ [.mk x (st.drop cut)],by omega,by go_num,HSl.out,((HA2.out.take cut).exExt HE4.out).snoc HNew.out,(by simp;have:=HLe.out;omega),(by show _=_;rw [grows_snoc hG.out Hx.out,HP.out]),HE2.out.trans HE4.out⟩
      case measure=>simp [intOf];omega
  ·have hke:k=len:=by omega
   have HGw:Hid (grows e []=some st):=by
    have:=hG.out
    rw [take_all (show Hid (e.length=k) from (by rw [HlE.out];exact hke.symm))] at this
    exact this
   by_cases h1:st.length=1
   ·have ⟨y,hy⟩:∃ y,st=[y]:=by
     match st,h1 with
     | [y],_=>exact ⟨y,rfl⟩
    subst hy
    have HF:Hid (Md.grow e=some y):=by
     show Md.grow e=_
     unfold Md.grow
     rw [HGw.out]
    obtain ⟨v,hv,hvx⟩:=HA.out.get (i:=0) (x:=y) rfl
    obtain ⟨b,o,rfl,_,hcl⟩:=SlV.at_ HS.out (by simp)
    have c0:=hcl 0 v hv
    rw [Nat.add_zero] at c0
    clear hcl hv
    obtain ⟨bx,va,ws,rfl,_⟩:=hvx.op
    have HV:=Lib.hid hvx
    clear hvx
    have hk0:¬ (k<len):=hlt
    have hl1:([y]:List Ex).length=1:=rfl
    rw [hl1] at *
    go_wp2
    go_ret
    exact ⟨_,rfl,by rw [HF.out];exact HV.out,hEx⟩
   ·have HF:Hid (Md.grow e=none):=by
     show Md.grow e=_
     unfold Md.grow
     rw [HGw.out]
     match st,h1 with
     | [],_=>rfl
     | [_],h=>exact absurd rfl h
     | _ :: _ :: _,_=>rfl
    have h1':((st.length:Int) == 1)=false:=by simp;omega
    go_wp2
    go_ret
    exact ⟨_,rfl,by rw [HF.out];rfl,hEx⟩
open Go Go.RowKit Md
theorem Sl.bound {α:Type} {K:Foot} {w:World} {sz:Nat} {C:World→List Value→α→Prop} {v:Value} {xs:List α} (h:Sl K w sz C v xs) (hs:0<sz):Sl (fun b=>K b∧b<w.heap.size) w sz C v xs:=by
 obtain ⟨a,cap,e,h1,h2,h3⟩:=h
 refine ⟨a,cap,e,h1,h2,fun hp=>?_⟩
 obtain ⟨b,o,e1,e2,e3⟩:=h3 hp
 obtain ⟨cs,c1,c2,c3⟩:=e3 0 hp
 have hl:=World.block_lt_of_cell? w _ (c3 0 _ (List.getElem?_eq_getElem (by omega)))
 exact ⟨b,o,e1,⟨e2,hl⟩,e3⟩
theorem ExAt.bound {K:Foot} {w:World} {v:Value} {x:Ex} (h:ExAt K w v x):ExAt (fun b=>K b∧b<w.heap.size) w v x:=by
 induction h with
 | mk b n va vs xs hb hc hk hv hn hs hl hx ih=>exact .mk b n va vs xs ⟨hb,World.block_lt_of_cell? w _ (hc 0 _ rfl)⟩ hc hk hv hn (Sl.bound hs (by decide)) hl ih
theorem ExOpt.bound {K:Foot} {w:World} {v:Value} {x:Option Ex} (h:ExOpt K w v x):ExOpt (fun b=>K b∧b<w.heap.size) w v x:=by
 cases x with
 | none=>exact h
 | some x=>exact ExAt.bound h
theorem StAt.bound {K:Foot} {w:World} {v:Value} {x:St} (h:StAt K w v x):StAt (fun b=>K b∧b<w.heap.size) w v x:=by
 induction h with
 | mk b s p x y vE vF ve vf vt vu ts us thn els hb hc hE hF h1 h2 h3 h4 he hf ht hu lt lu _ _ ih1 ih2 =>
   exact .mk b s p x y vE vF ve vf vt vu ts us thn els ⟨hb,World.block_lt_of_cell? w _ (hc 0 _ rfl)⟩ hc (Sl.bound hE (by decide)) (Sl.bound hF (by decide)) h1 h2 h3 h4 he.bound hf.bound (Sl.bound ht (by decide)) (Sl.bound hu (by decide)) lt lu ih1 ih2
theorem ExOpt.mono {K K':Foot} {w:World} {v:Value} {x:Option Ex} (h:ExOpt K w v x) (hK:∀ b,K b→K' b):ExOpt K' w v x:=h.keep (Keep.refl K w) hK
theorem ExOpt.ptr {K:Foot} {w:World} {v:Value} {x:Option Ex} (h:ExOpt K w v x):∃ p,v=.pointer p:=by
 cases x with
 | none=>exact ⟨none,h⟩
 | some x=>obtain ⟨b,va,vs,rfl,_⟩:=ExAt.op h;exact ⟨_,rfl⟩
theorem StAt.mono {K K':Foot} {w:World} {v:Value} {x:St} (h:StAt K w v x) (hK:∀ b,K b→K' b):StAt K' w v x:=h.keep (Keep.refl K w) hK
theorem All2.stBound {K:Foot} {w:World} {vs:List Value} {xs:List St} (h:All2 (StAt K w) vs xs):All2 (StAt (fun b=>K b∧b<w.heap.size) w) vs xs:=h.mono fun _ _ _ h=>h.bound
theorem own_moved {w w1:World} {base:Nat} {e:TypeId} {size n:Nat} {v:Value} {xs:List Value} (h:w.ownsRow base e size v n xs) (k:Ext w w1):w1.ownsRow base e size v n xs:=by
 obtain ⟨h1,h2⟩:=h
 refine ⟨h1,?_⟩
 rcases h2 with h2 | ⟨g,cap,cur,rfl,hg,hh,r⟩
 ·exact .inl h2
 ·exact .inr ⟨g,cap,cur,rfl,hg,(k.block g (Array.getElem?_eq_some_iff.1 hh).1).trans hh,r⟩
theorem own_block {w:World} {base:Nat} {e:TypeId} {size n:Nat} {v:Value} {xs:List Value} (h:w.ownsRow base e size v n xs):∀ k,v.ownBlock=some k→base≤k∧k<w.heap.size:=by
 rcases h.2 with ⟨rfl,_⟩ | ⟨g,cap,cur,rfl,hg,hh,_⟩
 ·intro k hk;simp [Value.ownBlock] at hk
 ·intro k hk
  have:g=k:=by simpa [Value.ownBlock] using hk
  subst this
  exact ⟨hg,(Array.getElem?_eq_some_iff.1 hh).1⟩
theorem own_shape {w:World} {base:Nat} {e:TypeId} {size n:Nat} {v:Value} {xs:List Value} (h:w.ownsRow base e size v n xs):∃ a c,v=.slice a n c:=by
 rcases h.2 with ⟨rfl,rfl⟩ | ⟨g,cap,cur,rfl,_⟩
 ·exact ⟨none,0,rfl⟩
 ·exact ⟨_,cap,rfl⟩
theorem keep_of_grown {K:Foot} {w w':World} {row:Option Nat} (h:w.grownBy w' row) (hK:∀ b,K b→b<w.heap.size→some b≠row):Keep K w w':=fun b hb hl=>h.block b hl (hK b hb hl)
theorem Ext.setCell {w w':World} (h:Ext w w') {b j:Nat} (hb:w.heap.size≤b) (v:Value):Ext w (w'.setCell ⟨b,j,none⟩ v):=Below.setCell h hb v
def KN (K:Foot) (w:World):Foot:=fun b=>K b∨w.heap.size≤b
def Apart (K:Foot) (w:World) (s:Value):Foot:=fun b=>(K b∨w.heap.size≤b)∧some b≠s.ownBlock
theorem Blk.cells {w:World} {g t:Nat} {arr:Array Value} (h:Blk w g t arr):Cells w g 0 arr.toList:=fun i v hv=>by
 rw [Nat.zero_add,h.cell]
 simpa using hv
theorem Drew.quiet {P:Program} {f:FuncId} {args:Array Value} {w:World} {n:Nat} {v:Value} (h:Calls P f args (w.drewN n) (Drew v (w.drewN n))) :
  Calls P f args (w.drewN n) fun e w''=>e=.returned v∧∃ m,w''=w.drewN m:=h.mono fun _ _ ⟨he,m,hm⟩=>⟨he,n+m,by rw [hm,World.drewN_drewN]⟩
theorem Ext.drewN {a b:World} (h:Ext a b) (n:Nat):Ext a (b.drewN n):=h.trans (drewN_ext b n)
theorem keep_set {w w':World} {B j:Nat} (h:Ext w w') (v:Value):Keep (fun c=>c≠B) w (w'.setCell ⟨B,j,none⟩ v):=Keep.setCell (a:=⟨B,j,none⟩) (h.keep _) (fun c hc=>hc) v
theorem stOk_nn {s:PStmt} (h:stOk s=true):0≤s.thn∧0≤s.els:=by
 simp only [stOk,Bool.and_eq_true,decide_eq_true_eq] at h
 exact ⟨h.1.1.1.1.2,h.1.1.1.2⟩
theorem stOk_f {s:PStmt} (h:stOk s=true):(if s.kind=3 then grow s.f else none)=grow s.f:=by
 simp only [stOk,Bool.and_eq_true,decide_eq_true_eq] at h
 have h5:=h.1.1.1.1.1.2
 split
 ·rfl
 ·rename_i h3
  rw [if_neg h3] at h5
  have:s.f=[]:=List.eq_nil_of_length_eq_zero (by simpa using h5)
  rw [this];rfl
theorem news0 (w:World) (v:Value) (t:TypeId) {s:Nat} (hs:s=w.heap.size):∀ (j:Nat) u,[v][j]? = some u→(w.alloc (.cells #[v] t)).cell? ((⟨s,0,none⟩:Addr).add j)=some u:=by
 intro j u hj
 subst hs
 have h0:j=0:=by
  have:=(List.getElem?_eq_some_iff.1 hj).1
  simp at this;omega
 subst h0
 have:=(Blk.alloc w t #[v]).cell 0
 simp at hj
 subst hj
 simp [Addr.add]
theorem apart_next {K:Foot} {w wr wA w':World} {v v':Value} {vs:List Value} {ts:List St} (hA:All2 (StAt (Apart K w v) wr) vs ts) (hE:Ext wr wA) (hg:wA.grownBy w' v.ownBlock) (hat:v'.ownBlock=v.ownBlock∨v'.ownBlock=some wA.heap.size) :
  All2 (StAt (Apart K w v') w') vs ts:=by
 have h1:=hA.stBound.stExt hE
 refine h1.stKeep (keep_of_grown hg (fun b hb _=>hb.1.2)) (fun b hb=>⟨hb.1.1,?_⟩)
 rcases hat with h | h
 ·rw [h];exact hb.1.2
 ·rw [h]
  intro e
  cases e
  exact absurd hb.2 (Nat.not_lt.2 hE.size)
theorem apart_new {K:Foot} {w wr w10 wA w':World} {v v' p:Value} {st:St} (hK:∀ b,K b→b<w.heap.size) (hS:StAt (fun c=>K c∨wr.heap.size≤c) w10 p st) (hE:Ext w10 wA) (hr:wr.heap.size≤w10.heap.size) (hw:w.heap.size≤wr.heap.size)
  (hv:∀ k,v.ownBlock=some k→w.heap.size≤k∧k<wr.heap.size) (hg:wA.grownBy w' v.ownBlock) (hat:v'.ownBlock=v.ownBlock∨v'.ownBlock=some wA.heap.size):StAt (Apart K w v') w' p st:=by
 have ne:∀ c,(K c∨wr.heap.size≤c)→some c≠v.ownBlock:=fun c hc e=>by
  obtain ⟨h1,h2⟩:=hv c e.symm
  rcases hc with hc | hc
  ·have:=hK c hc;omega
  ·omega
 refine (hS.bound.ext hE).keep (keep_of_grown hg (fun b hb _=>ne b hb.1)) (fun b hb=>⟨?_,?_⟩)
 ·rcases hb.1 with h | h
  ·exact .inl h
  ·exact .inr (Nat.le_trans hw h)
 ·rcases hat with h | h
  ·rw [h];exact ne b hb.1
  ·rw [h]
   intro e
   cases e
   exact absurd hb.2 (Nat.not_lt.2 hE.size)
def consB (e:Option Ex) (s:PStmt) (p:Nat) (t u r:Option (List St)):Option (List St) :=
 match e,t,u,r with
 | some e,some t,some u,some r=>some (.mk s p e (grow s.f) t u :: r)
 | _,_,_,_=>none
theorem consB_t {e:Option Ex} {s:PStmt} {p:Nat} {u r:Option (List St)} : consB e s p none u r=none:=by cases e<;>rfl
theorem consB_u {e:Option Ex} {s:PStmt} {p:Nat} {t r:Option (List St)} : consB e s p t none r=none:=by cases e<;>cases t<;>rfl
theorem consB_some {e:Ex} {s:PStmt} {p:Nat} {t u:List St} {r:Option (List St)} (ts:List St):(consB (some e) s p (some t) (some u) r).map (ts ++ ·)=r.map ((ts ++ [.mk s p e (grow s.f) t u]) ++ ·):=by cases r<;>simp [consB]
theorem blocks_no {l:List PStmt} {k base:Nat} {s:PStmt} (hs:l[k]? = some s) (h:¬ (stOk s=true∧s.thn≤((l.length - (k+1):Nat):Int)∧s.els≤((l.length - (k+1):Nat):Int) - s.thn)):Md.blocks (l.drop k) (base+k)=none:=by
 obtain ⟨hk,e⟩:=List.getElem?_eq_some_iff.1 hs
 rw [List.drop_eq_getElem_cons hk,e,Md.blocks,if_neg]
 rw [List.length_drop]
 exact h
theorem blocks_yes {l:List PStmt} {k base T U:Nat} {s:PStmt} (hs:l[k]? = some s) (h1:stOk s=true) (hT:s.thn=T) (hU:s.els=U) (h2:T≤l.length - (k+1)) (h3:U≤l.length - (k+1) - T) :
  Md.blocks (l.drop k) (base+k)=consB (grow s.e) s (base+k) (Md.blocks ((l.drop (k+1)).take T) (base+(k+1))) (Md.blocks ((l.drop (k+1+T)).take U) (base+(k+1+T))) (Md.blocks (l.drop (k+1+T+U)) (base+(k+1+T+U))):=by
 obtain ⟨hk,e⟩:=List.getElem?_eq_some_iff.1 hs
 rw [List.drop_eq_getElem_cons hk,e,Md.blocks,if_pos ⟨h1,by rw [hT,List.length_drop];omega,by rw [hT,hU,List.length_drop];omega⟩,hT,hU]
 simp only [List.drop_drop,Nat.add_assoc,Int.toNat_natCast]
 rfl
theorem blocks_nil {l:List PStmt} {k base:Nat} (h:l.length≤k):Md.blocks (l.drop k) (base+k)=some []:=by
 rw [List.drop_eq_nil_of_le h,Md.blocks]
open Go Go.RowKit Md
theorem own_ne_blk {w:World} {base e sz n U t:Nat} {v:Value} {xs:List Value} {arr:Array Value} (h:w.ownsRow base e sz v n xs) (hb:Blk w U t arr) (ht:e≠t):some U≠v.ownBlock:=by
 rcases h.2 with ⟨rfl,_⟩ | ⟨g,cap,cur,rfl,hg,hh,_⟩
 ·simp [Value.ownBlock]
 ·simp only [Value.ownBlock]
  intro e2
  cases e2
  unfold Blk at hb
  rw [hh] at hb
  simp only [Option.some.injEq,Obj.cells.injEq] at hb
  exact ht hb.2.1
theorem own_set {w:World} {base e sz n B j:Nat} {v u:Value} {xs:List Value} (h:w.ownsRow base e sz v n xs) (hne:some B≠v.ownBlock):(w.setCell ⟨B,j,none⟩ u).ownsRow base e sz v n xs:=by
 obtain ⟨h1,h2⟩:=h
 refine ⟨h1,?_⟩
 rcases h2 with h2 | ⟨g,cap,cur,rfl,hg,hh,r⟩
 ·exact .inl h2
 ·refine .inr ⟨g,cap,cur,rfl,hg,?_,r⟩
  rw [Below.heap_setCell _ _ _ _ (by intro e;apply hne;simp [Value.ownBlock,e])]
  exact hh
theorem blk_grownBy {w w':World} {g t:Nat} {arr:Array Value} {row:Option Nat} (h:Blk w g t arr) (hg:w.grownBy w' row) (hne:some g≠row):Blk w' g t arr:=by
 have hl:=h.lt
 unfold Blk at *
 rw [hg.block g hl hne];exact h
abbrev Fn:=PFunc×List St
def FnAt (K:Foot) (w:World) (v:Value) (x:Fn):Prop :=
 ∃ b vP vB vt ts,v=.pointer (some ⟨b,0,none⟩)∧K b∧Cells w b 0 [.string x.1.name,vP,vB,vt]∧SlStr K w vP x.1.params∧SlStmt K w vB x.1.body∧x.1.name.size≤maxLen∧SlV K w vt ts∧All2 (StAt K w) ts x.2
theorem FnAt.keep {K K':Foot} {w w':World} {v:Value} {x:Fn} (h:FnAt K w v x) (k:Keep K w w') (hK:∀ b,K b→K' b):FnAt K' w' v x:=by
 obtain ⟨b,vP,vB,vt,ts,e,hb,hc,h1,h2,h3,h4,h5⟩:=h
 exact ⟨b,vP,vB,vt,ts,e,hK b hb,hc.keep k hb,Sl.keep h1 k (fun _ _ _ h=>h.any) hK,Sl.keep h2 k (fun _ _ _ h=>h.keep k hK) hK,h3,h4.keep k hK,h5.stKeep k hK⟩
theorem FnAt.ext {K:Foot} {w w':World} {v:Value} {x:Fn} (h:FnAt K w v x) (k:Ext w w'):FnAt K w' v x:=h.keep (k.keep K) (fun _ h=>h)
theorem FnAt.mono {K K':Foot} {w:World} {v:Value} {x:Fn} (h:FnAt K w v x) (hK:∀ b,K b→K' b):FnAt K' w v x:=h.keep (Keep.refl K w) hK
theorem CStmt.bound {K:Foot} {w:World} {cs:List Value} {s:PStmt} (h:CStmt K w cs s):CStmt (fun b=>K b∧b<w.heap.size) w cs s:=by
 obtain ⟨vE,vF,e,h1,h2,h3⟩:=h
 exact ⟨vE,vF,e,Sl.bound h1 (by decide),Sl.bound h2 (by decide),h3⟩
theorem SlStmt.bound {K:Foot} {w:World} {v:Value} {l:List PStmt} (h:SlStmt K w v l):SlStmt (fun b=>K b∧b<w.heap.size) w v l:=by
 exact Sl.keep (Sl.bound h (by decide)) (Keep.refl _ w) (fun _ _ _ h=>h.bound) (fun _ h=>h)
theorem FnAt.bound {K:Foot} {w:World} {v:Value} {x:Fn} (h:FnAt K w v x):FnAt (fun b=>K b∧b<w.heap.size) w v x:=by
 obtain ⟨b,vP,vB,vt,ts,e,hb,hc,h1,h2,h3,h4,h5⟩:=h
 exact ⟨b,vP,vB,vt,ts,e,⟨hb,World.block_lt_of_cell? w _ (hc 0 _ rfl)⟩,hc,Sl.bound h1 (by decide),h2.bound,h3,Sl.bound h4 (by decide),h5.stBound⟩
def UnitAt (K:Foot) (w:World) (v:Value) (t:PTree) (fs:List Fn):Prop :=
 ∃ b vG vF vs ps,v=.pointer (some ⟨b,0,none⟩)∧K b∧Cells w b 0 [vG,vF,vs]∧SlGlob K w vG t.globals∧SlFunc K w vF t.funcs∧SlV K w vs ps∧All2 (FnAt K w) ps fs
theorem UnitAt.keep {K K':Foot} {w w':World} {v:Value} {t:PTree} {fs:List Fn} (h:UnitAt K w v t fs) (k:Keep K w w') (hK:∀ b,K b→K' b):UnitAt K' w' v t fs:=by
 obtain ⟨b,vG,vF,vs,ps,e,hb,hc,h1,h2,h3,h4⟩:=h
 exact ⟨b,vG,vF,vs,ps,e,hK b hb,hc.keep k hb,Sl.keep h1 k (fun _ _ _ h=>h.any) hK,Sl.keep h2 k (fun _ _ _ h=>h.keep k hK) hK,h3.keep k hK,h4.mono fun _ _ _ h=>h.keep k hK⟩
theorem UnitAt.ext {K:Foot} {w w':World} {v:Value} {t:PTree} {fs:List Fn} (h:UnitAt K w v t fs) (k:Ext w w'):UnitAt K w' v t fs:=h.keep (k.keep K) (fun _ h=>h)
def Bodies (l:List PFunc) (fs:List Fn):Prop:=fs.map Prod.fst=l∧∀ p∈fs,Md.blocks p.1.body 0=some p.2
theorem Bodies.snoc {l:List PFunc} {fs:List Fn} {k:Nat} {x:PFunc} {b:List St} (h:Bodies (l.take k) fs) (hx:l[k]? = some x) (hb:Md.blocks x.body 0=some b):Bodies (l.take (k+1)) (fs ++ [(x,b)]):=by
 have hi:=(List.getElem?_eq_some_iff.1 hx)
 refine ⟨by rw [List.map_append,h.1,List.take_succ_eq_append_getElem hi.1,hi.2];rfl,fun p hp=>?_⟩
 rcases List.mem_append.1 hp with hp | hp
 ·exact h.2 p hp
 ·rw [List.mem_singleton.1 hp];exact hb
def ApartU (K:Foot) (w:World) (U:Nat) (s:Value):Foot:=fun c=>(K c∨w.heap.size≤c)∧c≠U∧some c≠s.ownBlock
def UnitPost (K:Foot) (t:PTree) (w:World) (e:Ending) (w':World):Prop :=
 (valid t=true∧∃ fs v,Bodies t.funcs fs∧e=.returned v∧UnitAt (KN K w) w' v t fs∧Ext w w')∨(valid t=false∧e=.returned (.pointer none)∧Ext w w')
theorem fn_next {K:Foot} {w wr wA w':World} {U:Nat} {v v':Value} {vs:List Value} {fs:List Fn} (hA:All2 (FnAt (ApartU K w U v) wr) vs fs) (hE:Keep (fun c=>c≠U) wr wA) (hs:wr.heap.size≤wA.heap.size) (hg:wA.grownBy w' v.ownBlock)
  (hat:v'.ownBlock=v.ownBlock∨v'.ownBlock=some wA.heap.size):All2 (FnAt (ApartU K w U v') w') vs fs:=by
 have h1:All2 (FnAt (fun c=>ApartU K w U v c∧c<wr.heap.size) wA) vs fs:=hA.mono fun _ _ _ h=>h.bound.keep (hE.mono (fun c hc=>hc.1.2.1)) (fun _ h=>h)
 refine h1.mono fun _ _ _ h=>h.keep (keep_of_grown hg (fun b hb _=>hb.1.2.2)) (fun b hb=>⟨hb.1.1,hb.1.2.1,?_⟩)
 rcases hat with h | h
 ·rw [h];exact hb.1.2.2
 ·rw [h]
  intro e
  cases e
  exact absurd hb.2 (Nat.not_lt.2 hs)
theorem fn_new {K:Foot} {w wr w10 wA w':World} {U:Nat} {v v' p:Value} {x:Fn} (hK:∀ b,K b→b<w.heap.size) (hS:FnAt (fun c=>K c∨wr.heap.size≤c) w10 p x) (hE:Ext w10 wA) (hr:wr.heap.size≤w10.heap.size) (hw:w.heap.size≤wr.heap.size)
  (hU:w.heap.size≤U∧U<wr.heap.size) (hv:∀ k,v.ownBlock=some k→w.heap.size≤k∧k<wr.heap.size) (hg:wA.grownBy w' v.ownBlock) (hat:v'.ownBlock=v.ownBlock∨v'.ownBlock=some wA.heap.size):FnAt (ApartU K w U v') w' p x:=by
 have ne:∀ c,(K c∨wr.heap.size≤c)→some c≠v.ownBlock:=fun c hc e=>by
  obtain ⟨h1,h2⟩:=hv c e.symm
  rcases hc with hc | hc
  ·have:=hK c hc;omega
  ·omega
 refine (hS.bound.ext hE).keep (keep_of_grown hg (fun b hb _=>ne b hb.1)) (fun b hb=>⟨?_,?_,?_⟩)
 ·rcases hb.1 with h | h
  ·exact .inl h
  ·exact .inr (Nat.le_trans hw h)
 ·rcases hb.1 with h | h
  ·have:=hK b h;omega
  ·omega
 ·rcases hat with h | h
  ·rw [h];exact ne b hb.1
  ·rw [h]
   intro e
   cases e
   exact absurd hb.2 (Nat.not_lt.2 hE.size)
open Go Go.RowKit Md
def cN4 (k:Int) (n:ByteArray):Bool:=if named k then isName n else n.size == 0
def cF5 (k:Int) (f:List PNode):Bool:=if k=3 then (grow f).isSome else f.length == 0
section
variable {k t u:Int} {n:ByteArray} {e f:List PNode}
theorem stOk_c1 (h:¬ (1≤k∧k≤8)):stOk ⟨k,n,e,f,t,u⟩=false:=by
 by_cases h1:1≤k
 ·simp [stOk,show ¬ k≤8 by omega]
 ·simp [stOk,h1]
theorem stOk_c3 (h:grow e=none):stOk ⟨k,n,e,f,t,u⟩=false:=by simp [stOk,h]
theorem stOk_c4 (h:cN4 k n=false):stOk ⟨k,n,e,f,t,u⟩=false:=by unfold cN4 at h;simp only [stOk,h,Bool.and_false,Bool.false_and]
theorem stOk_c5 (h:cF5 k f=false):stOk ⟨k,n,e,f,t,u⟩=false:=by unfold cF5 at h;simp only [stOk,h,Bool.and_false,Bool.false_and]
theorem stOk_c6 (h:¬ (0≤t∧0≤u)):stOk ⟨k,n,e,f,t,u⟩=false:=by
 by_cases h1:0≤t
 ·simp [stOk,show ¬ 0≤u by omega]
 ·simp [stOk,h1]
theorem stOk_c8 (h1:t≠0) (h2:k≠4) (h3:k≠5):stOk ⟨k,n,e,f,t,u⟩=false:=by simp [stOk,h1,h2,h3]
theorem stOk_c9 (h1:u≠0) (h2:k≠4):stOk ⟨k,n,e,f,t,u⟩=false:=by simp [stOk,h1,h2]
theorem stOk_c10 {x:Ex} (hk:k=8) (hx:grow e=some x) (h:(x.node.kind == 4)=false):stOk ⟨k,n,e,f,t,u⟩=false:=by simp [stOk,hk,hx,h]
theorem stOk_true {x:Ex} (hx:grow e=some x) (h4:cN4 k n=true) (h5:cF5 k f=true) (h1:1≤k∧k≤8)
  (h6:0≤t∧0≤u) (h8:t=0∨k=4∨k=5) (h9:u=0∨k=4) (h10:k=8→(x.node.kind == 4)=true):stOk ⟨k,n,e,f,t,u⟩=true:=by
 unfold cN4 at h4
 unfold cF5 at h5
 have e8:(t == 0 || k == 4 || k == 5)=true:=by simp;omega
 have e9:(u == 0 || k == 4)=true:=by simp;omega
 have e10:(k != 8 || (match grow e with | some x=>x.node.kind == 4 | none=>false))=true:=by
  rw [hx]
  by_cases h:k=8
  ·simp only [h10 h,Bool.or_true]
  ·simp [h]
 simp only [hx] at e10
 simp only [stOk,h4,h5,e8,e9,decide_eq_true h1.1,decide_eq_true h1.2,decide_eq_true h6.1,decide_eq_true h6.2,hx,Option.isSome_some,Bool.and_self,Bool.true_and]
 exact e10
end
theorem cN4_named {k:Int} {n:ByteArray} (h:k=1∨k=2∨k=3):cN4 k n=isName n:=by unfold cN4 named;rcases h with rfl | rfl | rfl<;>rfl
theorem cN4_plain {k:Int} {n:ByteArray} (h:¬ (k=1∨k=2∨k=3)):cN4 k n=(n.toList == []):=by
 have:named k=false:=by unfold named;simp;omega
 unfold cN4
 rw [this,toList_nil];rfl
theorem cF5_3 {f:List PNode} : cF5 3 f=(grow f).isSome:=rfl
theorem cF5_no {k:Int} {f:List PNode} {n:Nat} (h:k≠3) (hf:f.length=n):cF5 k f=decide (n=0):=by
 unfold cF5
 rw [if_neg h,hf]
 by_cases h0:n=0<;>simp [h0]
theorem Drew.bool {x y:Bool} {w:World} (h:x=y) (n:Nat):Drew (.bool y) w (.returned (.bool x)) (w.drewN n):=⟨by rw [h],n,rfl⟩
end Go.Proofs.YtcfggjmdcaoecaaGreatDoor
