/- A part of the proofs of FnBound and FnCheck: the lemmas and walks SpecCkA, SpecCkB, App2, SpecCalls. -/
import Derived.Deep.RegionHeld3
import Derived.Lib.AppendZeros
import Derived.Test.YtcfggjmdcaoecaaGreatDoorB04
import Derived.Test.YtcfggjmdcaoecaaGreatDoorB01
import Derived.Test.YtcfggjmdcaoecaaGreatDoorB03
import Derived.Test.YtcfggjmdcaoecaaGreatDoorB02
set_option linter.unusedVariables false
set_option linter.unusedSimpArgs false
namespace Go.Proofs.YtcfggjmdcaoecaaGreatDoor
open Go Go.RowKit Md
theorem str_eq {a b:ByteArray} : (a.toList == b.toList)=decide (a=b):=by
 by_cases h:a=b
 ·subst h;simp
 ·rw [decide_eq_false h]
  exact beq_eq_false_iff_ne.2 (fun e=>h (toList_inj e))
theorem s_l3In (K:Foot) (l:List ByteArray) (v:Value) (s:ByteArray) (w:World) (hv:SlStr K w v l) :
  Calls Tryz.prog 82 #[v,.string s] w (Same (.bool (decide (s∈l))) w):=by
 obtain ⟨a,len,cap,rfl,Hlen,hlc,hcm,hel⟩:=hv.op
 clear hv
 go_enter Tryz.func82,Tryz.ntmps82
 go_wp2
 go_loop [5] (fun i=>∃ k:Nat,k≤len∧i=.int .i64 k∧Hid (¬ s∈l.take k)) (fun i=>len - (intOf i).toNat)
 case atStart=>exact ⟨0,Nat.zero_le _,rfl,by intro h;simp at h⟩
 case round =>
  obtain ⟨k,hk,rfl,hA⟩:=hrel
  by_cases hlt:k<len
  ·obtain ⟨b,o,rfl,_,hel⟩:=hel (by omega)
   obtain ⟨x,cs,hx,_,hC,hcs⟩:=hel k (by omega)
   obtain ⟨rfl,_⟩:=hC
   have c0:=hcs.z rfl
   rw [Nat.mul_one] at c0
   have Hx:=Lib.hid hx
   clear hel hcs hx
   have g0:(0:Int)≤(k:Int):=by omega
   have g1:(k:Int)<(len:Int):=by omega
   by_cases he:x=s
   ·subst he
    go_wp2
    go_ret
    exact Same.bool (by rw [decide_eq_true (List.mem_of_getElem? Hx.out)])
   ·have hq:(x.toList == s.toList)=false:=by rw [str_eq,decide_eq_false he]
    go_wp2
    go_round
    case rel =>
     refine ⟨k+1,by omega,by go_num,?_⟩
     rw [take_snoc Hx.out]
     intro h
     rcases List.mem_append.1 h with h | h
     ·exact hA.out h
     ·exact he (List.mem_singleton.1 h).symm
    case measure=>simp [intOf];omega
  ·go_wp2
   go_ret
   exact Same.bool (by
    have:=hA.out
    rw [List.take_of_length_le (by rw [Hlen.out];omega)] at this
    rw [decide_eq_false this])
theorem findFrom_drop {l:List PFunc} {s:ByteArray} {k:Nat} {x:PFunc} (h:l[k]? = some x):findFrom (l.drop k) s k=if x.name=s then (k:Int) else findFrom (l.drop (k+1)) s (k+1):=by
 obtain ⟨hk,e⟩:=List.getElem?_eq_some_iff.1 h
 rw [List.drop_eq_getElem_cons hk,e,findFrom]
theorem gsizeL_drop {l:List PGlob} {s:ByteArray} {k:Nat} {x:PGlob} (h:l[k]? = some x):gsizeL (l.drop k) s=if x.name=s then x.size else gsizeL (l.drop (k+1)) s:=by
 obtain ⟨hk,e⟩:=List.getElem?_eq_some_iff.1 h
 rw [List.drop_eq_getElem_cons hk,e,gsizeL]
theorem s_l3Func (K:Foot) (t:PTree) (vG vF:Value) (s:ByteArray) (w:World) (hG:SlGlob K w vG t.globals) (hF:SlFunc K w vF t.funcs) :
  Calls Tryz.prog 46 #[.agg #[vG,vF],.string s] w (Gives (.int .i64 (findF t s)) w):=by
 obtain ⟨aG,nG,cG,rfl⟩:=hG.shape
 obtain ⟨a,len,cap,rfl,Hlen,hlc,hcm,hel⟩:=hF.op
 obtain ⟨R,hR⟩:∃ R,R=findF t s:=⟨_,rfl⟩
 have HR:=Lib.hid hR
 rw [← hR]
 have hE:Ext w (w.alloc (.cells #[.slice aG nG cG,.slice a len cap] 32)):=(Ext.refl w).alloc _
 clear hG hF hR
 go_enter Tryz.func46,Tryz.ntmps46
 go_wp2
 go_loop [5] (fun i=>∃ k:Nat,k≤len∧i=.int .i64 k∧Hid (R=findFrom (t.funcs.drop k) s k)) (fun i=>len - (intOf i).toNat)
 case atStart=>exact ⟨0,Nat.zero_le _,rfl,HR.out⟩
 case round =>
  obtain ⟨k,hk,rfl,hA⟩:=hrel
  by_cases hlt:k<len
  ·obtain ⟨b,o,rfl,_,hel⟩:=hel (by omega)
   obtain ⟨x,cs,hx,_,hC,hcs⟩:=hel k (by omega)
   obtain ⟨vP,vB,rfl,_,_,_⟩:=hC
   have c0:=hE.cell (hcs.z rfl)
   have Hx:=Lib.hid (findFrom_drop (s:=s) hx)
   clear hel hcs hx
   have g0:(0:Int)≤(k:Int):=by omega
   have g1:(k:Int)<(len:Int):=by omega
   by_cases he:x.name=s
   ·have HE:=Lib.hid he
    have hq:(x.name.toList == s.toList)=true:=by rw [str_eq,decide_eq_true he]
    clear he
    go_wp2
    go_ret
    exact Gives.int (by rw [hA.out,Hx.out,if_pos HE.out]) ((Ext.refl w).alloc _)
   ·have hq:(x.name.toList == s.toList)=false:=by rw [str_eq,decide_eq_false he]
    go_wp2
    go_round
    case rel=>exact ⟨k+1,by omega,by go_num,by rw [hA.out,Hx.out,if_neg he];exact rfl⟩
    case measure=>simp [intOf];omega
  ·go_wp2
   go_ret
   exact Gives.int (by rw [hA.out,List.drop_eq_nil_of_le (by rw [Hlen.out];omega)];rfl) ((Ext.refl w).alloc _)
theorem s_l3Global (K:Foot) (t:PTree) (vG vF:Value) (s:ByteArray) (w:World) (hG:SlGlob K w vG t.globals) (hF:SlFunc K w vF t.funcs) :
  Calls Tryz.prog 83 #[.agg #[vG,vF],.string s] w (Gives (.int .i64 (gsize t s)) w):=by
 obtain ⟨aG,nG,cG,rfl⟩:=hF.shape
 obtain ⟨a,len,cap,rfl,Hlen,hlc,hcm,hel⟩:=hG.op
 obtain ⟨R,hR⟩:∃ R,R=gsize t s:=⟨_,rfl⟩
 have HR:=Lib.hid hR
 rw [← hR]
 have hE:Ext w (w.alloc (.cells #[.slice a len cap,.slice aG nG cG] 32)):=(Ext.refl w).alloc _
 clear hG hF hR
 go_enter Tryz.func83,Tryz.ntmps83
 go_wp2
 go_loop [5] (fun i=>∃ k:Nat,k≤len∧i=.int .i64 k∧Hid (R=gsizeL (t.globals.drop k) s)) (fun i=>len - (intOf i).toNat)
 case atStart=>exact ⟨0,Nat.zero_le _,rfl,HR.out⟩
 case round =>
  obtain ⟨k,hk,rfl,hA⟩:=hrel
  by_cases hlt:k<len
  ·obtain ⟨b,o,rfl,_,hel⟩:=hel (by omega)
   obtain ⟨x,cs,hx,_,hC,hcs⟩:=hel k (by omega)
   obtain ⟨rfl,_⟩:=hC
   have c0:=hE.cell (hcs.z rfl)
   have c1:=hE.cell (hcs 1 _ rfl)
   have Hx:=Lib.hid (gsizeL_drop (s:=s) hx)
   clear hel hcs hx
   have g0:(0:Int)≤(k:Int):=by omega
   have g1:(k:Int)<(len:Int):=by omega
   by_cases he:x.name=s
   ·have HE:=Lib.hid he
    have hq:(x.name.toList == s.toList)=true:=by rw [str_eq,decide_eq_true he]
    clear he
    go_wp2
    go_ret
    exact Gives.int (by rw [hA.out,Hx.out,if_pos HE.out]) ((Ext.refl w).alloc _)
   ·have hq:(x.name.toList == s.toList)=false:=by rw [str_eq,decide_eq_false he]
    go_wp2
    go_round
    case rel=>exact ⟨k+1,by omega,by go_num,by rw [hA.out,Hx.out,if_neg he];exact rfl⟩
    case measure=>simp [intOf];omega
  ·go_wp2
   go_ret
   exact Gives.int (by rw [hA.out,List.drop_eq_nil_of_le (by rw [Hlen.out];omega)];rfl) ((Ext.refl w).alloc _)
theorem s_l3Use (K Ks:Foot) (t:PTree) (vG vF vS:Value) (sc:List ByteArray) (s:ByteArray) (arr:Bool) (w:World) (hG:SlGlob K w vG t.globals) (hF:SlFunc K w vF t.funcs) (hS:SlStr Ks w vS sc) :
  Calls Tryz.prog 126 #[.agg #[vG,vF],vS,.string s,.bool arr] w (Gives (.int .i64 (useE t sc s arr)) w):=by
 obtain ⟨aG,nG,cG,rfl⟩:=hG.shape
 obtain ⟨aF,nF,cF,rfl⟩:=hF.shape
 obtain ⟨aS,nS,cS,rfl⟩:=hS.shape
 have hE:Ext w (w.alloc (.cells #[.slice aG nG cG,.slice aF nF cF] 32)):=(Ext.refl w).alloc _
 have HS:=Lib.hid (s_l3In Ks sc _ s _ (Sl.ext hS hE (fun _ _ h=>h.any)))
 have HG:=Lib.hid (s_l3Global K t _ _ s _ (Sl.ext hG hE (fun _ _ h=>h.any)) (Sl.ext hF hE (fun _ _ h=>h.ext hE)))
 clear hG hF hS
 obtain ⟨R,hR⟩:∃ R,R=useE t sc s arr:=⟨_,rfl⟩
 rw [← hR]
 unfold useE at hR
 by_cases hin:s∈sc
 ·rw [if_pos hin] at hR
  have hq:decide (s∈sc)=true:=decide_eq_true hin
  have HR:=Lib.hid hR
  rw [hq] at HS
  clear hin hq hR HG
  go_enter Tryz.func126,Tryz.ntmps126
  go_wp2_with fail
  refine HS.out.mono ?_
  rintro e w' ⟨rfl,rfl⟩
  cases arr
  ·go_wp2
   go_ret
   exact Gives.int (by rw [HR.out];rfl) hE
  ·go_wp2
   go_ret
   exact Gives.int (by rw [HR.out];rfl) hE
 ·rw [if_neg hin] at hR
  have hq:decide (s∈sc)=false:=decide_eq_false hin
  obtain ⟨z,hz⟩:∃ z,z=gsize t s:=⟨_,rfl⟩
  rw [← hz] at hR HG
  have HR:=Lib.hid hR
  rw [hq] at HS
  clear hin hq hR hz
  go_enter Tryz.func126,Tryz.ntmps126
  go_wp2_with fail
  refine HS.out.mono ?_
  rintro e w' ⟨rfl,rfl⟩
  go_wp2_with fail
  refine HG.out.mono ?_
  rintro e w' ⟨rfl,hX⟩
  by_cases h0:z<0
  ·go_wp2
   go_ret
   exact Gives.int (by rw [HR.out,if_pos (by omega)]) (hE.trans hX)
  ·by_cases h1:0<z
   ·have hd:decide (0<z)=true:=decide_eq_true h1
    cases arr
    ·go_wp2
     go_ret
     exact Gives.int (by rw [HR.out,if_neg (by omega),decide_eq_true (show 0<z by omega)];rfl) (hE.trans hX)
    ·go_wp2
     go_ret
     exact Gives.int (by rw [HR.out,if_neg (by omega),decide_eq_true (show 0<z by omega)];rfl) (hE.trans hX)
   ·have hd:decide (0<z)=false:=decide_eq_false h1
    cases arr
    ·go_wp2
     go_ret
     exact Gives.int (by rw [HR.out,if_neg (by omega),decide_eq_false (show ¬ 0<z by omega)];rfl) (hE.trans hX)
    ·go_wp2
     go_ret
     exact Gives.int (by rw [HR.out,if_neg (by omega),decide_eq_false (show ¬ 0<z by omega)];rfl) (hE.trans hX)
open Go Go.RowKit Md
theorem exprE_drop {t:PTree} {sc:List ByteArray} {l:List PNode} {k:Nat} {x:PNode} (h:l[k]? = some x):exprE t sc (l.drop k)=if nodeE t sc x=0 then exprE t sc (l.drop (k+1)) else nodeE t sc x:=by
 obtain ⟨hk,e⟩:=List.getElem?_eq_some_iff.1 h
 rw [List.drop_eq_getElem_cons hk,e,exprE]
set_option maxHeartbeats 2000000 in
theorem s_l3Expr (K Ks Ke:Foot) (t:PTree) (vG vF vS vE:Value) (sc:List ByteArray) (l:List PNode) (w:World) (hG:SlGlob K w vG t.globals) (hF:SlFunc K w vF t.funcs) (hS:SlStr Ks w vS sc) (hE:SlNode Ke w vE l) :
  Calls Tryz.prog 125 #[.agg #[vG,vF],vS,vE] w (Gives (.int .i64 (exprE t sc l)) w):=by
 obtain ⟨aG,nG,cG,rfl⟩:=hG.shape
 obtain ⟨aS,nS,cS,rfl⟩:=hS.shape
 obtain ⟨aF,nF,cF,rfl,HlF,hlcF,hcmF,helF⟩:=hF.op
 obtain ⟨a,len,cap,rfl,Hlen,hlc,hcm,hel⟩:=hE.op
 obtain ⟨R,hR⟩:∃ R,R=exprE t sc l:=⟨_,rfl⟩
 have HR:=Lib.hid hR
 rw [← hR]
 have X0:Ext w (w.alloc (.cells #[.slice aG nG cG,.slice aF nF cF] 32)):=(Ext.refl w).alloc _
 have HG:=Lib.hid hG
 have HF:=Lib.hid hF
 have HS:=Lib.hid hS
 have BT:Blk (w.alloc (.cells #[.slice aG nG cG,.slice aF nF cF] 32)) w.heap.size 32 #[.slice aG nG cG,.slice aF nF cF]:=Blk.alloc _ _ _
 have HU:∀ (s:ByteArray) (arr:Bool) (w':World),Ext w w'→Calls Tryz.prog 126 #[.agg #[.slice aG nG cG,.slice aF nF cF],.slice aS nS cS,.string s,.bool arr] w' (Gives (.int .i64 (useE t sc s arr)) w'):=fun s arr w' hX =>
  s_l3Use K Ks t _ _ _ sc s arr w' (Sl.ext hG hX (fun _ _ h=>h.any)) (Sl.ext hF hX (fun _ _ h=>h.ext hX)) (Sl.ext hS hX (fun _ _ h=>h.any))
 have HFn:∀ (s:ByteArray) (w':World),Ext w w'→Calls Tryz.prog 46 #[.agg #[.slice aG nG cG,.slice aF nF cF],.string s] w' (Gives (.int .i64 (findF t s)) w'):=fun s w' hX =>
  s_l3Func K t _ _ s w' (Sl.ext hG hX (fun _ _ h=>h.any)) (Sl.ext hF hX (fun _ _ h=>h.ext hX))
 have HU:=Lib.hid HU
 have HFn:=Lib.hid HFn
 clear hG hF hS hE hR
 go_enter Tryz.func125,Tryz.ntmps125
 go_wp2
 go_loopw [7] (fun i wr=>∃ k:Nat,k≤len∧i=.int .i64 k∧Hid (R=exprE t sc (l.drop k))∧Ext (w.alloc (.cells #[.slice aG nG cG,.slice aF nF cF] 32)) wr) (fun i _=>len - (intOf i).toNat)
 case atStart=>exact ⟨0,Nat.zero_le _,rfl,HR.out,Ext.refl _⟩
 case round =>
  obtain ⟨k,hk,rfl,hA,hX⟩:=hrel
  by_cases hlt:k<len
  ·obtain ⟨b,o,rfl,_,hel⟩:=hel (by omega)
   obtain ⟨x,cs,hx,_,hC,hcs⟩:=hel k (by omega)
   obtain ⟨rfl,_,_,hn⟩:=hC
   have c0:=(X0.trans hX).cell (hcs.z rfl)
   have c1:=(X0.trans hX).cell (hcs 1 _ rfl)
   have c2:=(X0.trans hX).cell (hcs 2 _ rfl)
   have Hx:=Lib.hid (exprE_drop (t:=t) (sc:=sc) hx)
   clear hel hcs hx
   have g0:(0:Int)≤(k:Int):=by omega
   have g1:(k:Int)<(len:Int):=by omega
   obtain ⟨kind,val,name⟩:=x
   simp only at c0 c1 c2 Hx hn
   have BX:Blk (wr.alloc (.cells #[.int .i64 kind,.int .i64 val,.string name] 104)) wr.heap.size 104 #[.int .i64 kind,.int .i64 val,.string name]:=Blk.alloc _ _ _
   have hX1:Ext wr (wr.alloc (.cells #[.int .i64 kind,.int .i64 val,.string name] 104)):=(Ext.refl wr).alloc _
   have BT1:=(BT.ext hX).ext hX1
   have t0:(wr.alloc (.cells #[.int .i64 kind,.int .i64 val,.string name] 104)).cell? ⟨w.heap.size,0,none⟩=some (.slice aG nG cG):=(BT1.cell 0).trans rfl
   have t1:(wr.alloc (.cells #[.int .i64 kind,.int .i64 val,.string name] 104)).cell? ⟨w.heap.size,1,none⟩=some (.slice aF nF cF):=(BT1.cell 1).trans rfl
   by_cases h2:kind=2
   ·subst h2
    have HN:Hid (nodeE t sc ⟨2,val,name⟩=useE t sc name false):=rfl
    rw [HN.out] at Hx
    have HU2:=Lib.hid (fun w' hX'=>HU.out name false w' hX')
    clear HN
    generalize useE t sc name false=u at Hx HU2
    go_wp2_with fail
    refine (HU2.out _ ((X0.trans hX).trans hX1)).mono ?_
    rintro e w2 ⟨rfl,hX2⟩
    have BX2:=BX.ext hX2
    have d0:w2.cell? ⟨wr.heap.size,0,none⟩=some (.int .i64 2):=(BX2.cell 0).trans rfl
    clear t0 t1
    by_cases hu:u=0
    ·subst hu
     go_wp2
     go_roundw
     case rel=>exact ⟨k+1,by omega,by go_num,hA.out.trans (Hx.out.trans (by simp)),(hX.trans hX1).trans hX2⟩
     case measure=>simp [intOf];omega
    ·go_wp2
     go_ret
     exact Gives.int (by rw [hA.out,Hx.out,if_neg hu]) ((X0.trans (hX.trans hX1)).trans hX2)
   by_cases h3:kind=3
   ·subst h3
    have HN:Hid (nodeE t sc ⟨3,val,name⟩=useE t sc name true):=rfl
    rw [HN.out] at Hx
    have HU2:=Lib.hid (fun w' hX'=>HU.out name true w' hX')
    clear HN
    generalize useE t sc name true=u at Hx HU2
    go_wp2_with fail
    refine (HU2.out _ ((X0.trans hX).trans hX1)).mono ?_
    rintro e w2 ⟨rfl,hX2⟩
    have BX2:=BX.ext hX2
    have d0:w2.cell? ⟨wr.heap.size,0,none⟩=some (.int .i64 3):=(BX2.cell 0).trans rfl
    clear t0 t1
    by_cases hu:u=0
    ·subst hu
     go_wp2
     go_roundw
     case rel=>exact ⟨k+1,by omega,by go_num,hA.out.trans (Hx.out.trans (by simp)),(hX.trans hX1).trans hX2⟩
     case measure=>simp [intOf];omega
    ·go_wp2
     go_ret
     exact Gives.int (by rw [hA.out,Hx.out,if_neg hu]) ((X0.trans (hX.trans hX1)).trans hX2)
   by_cases h4:kind=4
   ·subst h4
    have HN:Hid (nodeE t sc ⟨4,val,name⟩=if findF t name<0 then 4 else if arityF t (findF t name)=val then 0 else 6):=rfl
    rw [HN.out] at Hx
    have HU2:=Lib.hid (fun w' hX'=>HFn.out name w' hX')
    have hr:=findF_range t name
    clear HN
    generalize findF t name=u at Hx HU2 hr
    go_wp2_with fail
    refine (HU2.out _ ((X0.trans hX).trans hX1)).mono ?_
    rintro e w2 ⟨rfl,hX2⟩
    have BX2:=BX.ext hX2
    have d1:w2.cell? ⟨wr.heap.size,1,none⟩=some (.int .i64 val):=(BX2.cell 1).trans rfl
    have BT2:=BT1.ext hX2
    have t1:w2.cell? ⟨w.heap.size,1,none⟩=some (.slice aF nF cF):=(BT2.cell 1).trans rfl
    clear t0
    rcases hr with rfl | ⟨u0,u1,f,hf,_⟩
    ·go_wp2
     go_ret
     exact Gives.int (by rw [hA.out,Hx.out];rfl) ((X0.trans (hX.trans hX1)).trans hX2)
    ·obtain ⟨n,rfl⟩:=Int.eq_ofNat_of_zero_le u0
     rw [Int.toNat_natCast] at hf
     have hnF:n<nF:=by have:=HlF.out;omega
     obtain ⟨bF,oF,rfl,_,helF⟩:=helF (by omega)
     obtain ⟨f',csF,hf',_,hCF,hcsF⟩:=helF n hnF
     obtain rfl:f=f':=Option.some.inj (hf.symm.trans hf')
     obtain ⟨vP,vB,rfl,hP,_,_⟩:=hCF
     obtain ⟨aP,nP,cP,rfl,HlP,hlcP,hcmP,_⟩:=hP.op
     have hX3:=(X0.trans (hX.trans hX1)).trans hX2
     have e1:=hX3.cell (hcsF 1 _ rfl)
     have Har:Hid (arityF t (n:Int)=(nP:Int)):=by
      show _=_
      unfold arityF
      rw [Int.toNat_natCast,hf,← HlP.out]
     have HX3:=Lib.hid hX3
     have HX4:=Lib.hid ((hX.trans hX1).trans hX2)
     rw [if_neg (show ¬ ((n:Int)<0) by omega),Har.out] at Hx
     clear helF hcsF hf hf' hP Har u1 hX3
     have g2:(0:Int)≤(n:Int):=by omega
     have g3:(n:Int)<(nF:Int):=by omega
     by_cases hq:(nP:Int)=val
     ·have hne:(((nP:Int)) != val)=false:=by rw [hq];simp
      have HQ:=Lib.hid hq
      clear hq
      go_wp2_with fail
      go_quiet (fail)
      go_wp2
      go_roundw
      case rel=>exact ⟨k+1,by omega,by go_num,hA.out.trans (Hx.out.trans (by rw [if_pos HQ.out];simp)),HX4.out.trans (drewN_ext _ _)⟩
      case measure=>simp [intOf];omega
     ·have hne:(((nP:Int)) != val)=true:=by simpa using hq
      have HQ:=Lib.hid hq
      clear hq
      go_wp2_with fail
      go_quiet (fail)
      go_wp2
      go_ret
      exact Gives.int (by rw [hA.out,Hx.out,if_neg HQ.out];rfl) (HX3.out.trans (drewN_ext _ _))
   ·have Hx0:Hid (R=exprE t sc (l.drop (k+1))):=by
     show _=_
     rw [hA.out,Hx.out]
     simp [nodeE,h2,h3,h4]
    have q2:(kind == 2)=false:=by simpa using h2
    have q3:(kind == 3)=false:=by simpa using h3
    have q4:(kind == 4)=false:=by simpa using h4
    clear h2 h3 h4
    go_wp2
    go_roundw
    case rel=>exact ⟨k+1,by omega,by go_num,Hx0,hX.trans hX1⟩
    case measure=>simp [intOf];omega
  ·go_wp2
   go_ret
   exact Gives.int (by rw [hA.out,List.drop_eq_nil_of_le (by rw [Hlen.out];omega)];rfl) (X0.trans hX)
open Go Go.RowKit Go.Proofs.YtcfggjmdcaoecaaGreatDoorW.PrintLast
theorem put_eval (a:Act) {n:Nat} (hn:n<a.tmps.size) (v:Value) (m:Nat):(a.put (some n) v).eval (.tmp m)=if m=n then v else a.eval (.tmp m):=by
 simp only [Act.put,Act.eval,Array.getD_eq_getD_getElem?,Array.getElem?_setIfInBounds]
 by_cases h:m=n
 ·subst h;simp [hn]
 ·simp [h,Ne.symm h]
theorem put_size (a:Act) (n:Option Tmp) (v:Value):(a.put n v).tmps.size=a.tmps.size:=by
 cases n<;>simp [Act.put]
theorem put_comm (a:Act) {n m:Nat} (h:n≠m) (u v:Value):(a.put (some n) u).put (some m) v=(a.put (some m) v).put (some n) u:=by
 simp only [Act.put]
 congr 1
 apply Array.ext_getElem?
 intro i
 simp only [Array.getElem?_setIfInBounds,Array.size_setIfInBounds]
 by_cases h1:n=i<;>by_cases h2:m=i<;>simp_all
theorem new_cell (w:World) (v:Value) (E:Nat):(w.alloc (.cells #[v] E)).cell? ⟨w.heap.size,0,none⟩=some v:=((Blk.alloc w E #[v]).cell 0).trans rfl
section
variable {α:Type} {P:Program} {Q:Exit→Act→World→Prop} {S:World→Prop}
theorem exec_append {o:Oper} {x y:Operand} {t:TypeId} {a:Act} {w w':World} {v:Value} (ho:o.op=.call { callee:=.builtin .append,args:=#[x,y],argTypes:=#[t,t] })
  (hr:(Builtin.append_ #[t,t] o.type #[a.eval x,a.eval y]).run P w=.ok v w'):(execOp a.eval o).run P w=.ok (.value v) w':=by
 unfold execOp
 simp only [ho,resolve,invoke,builtin,Sem.run_bind,Sem.run_pure,Result.andThen_ok,List.map_toArray,List.map_cons,List.map_nil,hr]
theorem exec_assign {o:Oper} {x:Operand} {a:Act} {w:World} {v:Value} (ho:o.op=.assign x) (hv:a.eval x=v):(execOp a.eval o).run P w=.ok (.value v) w:=by
 unfold execOp
 simp [ho,hv]
theorem exec_slice0 {o:Oper} {t:TypeId} {n:Nat} {ps:Array (Nat×Operand)} {qs:Array (Nat×Value)} {a:Act} {w w':World} {v:Value} (ho:o.op=.buildSlice t n ps) (hq:ps.map (fun p=>(p.1,a.eval p.2))=qs) (hr:(Instr.buildSlice t n qs).run P w=.ok v w'):(execOp a.eval o).run P w=.ok (.value v) w':=by
 unfold execOp
 subst hq
 simp [ho,hr,Result.andThen]
set_option maxHeartbeats 1000000 in
theorem app2 {n0 n1 n2 n4 n5 n6 d T E by_:Nat} {t0 t2 t5 t6 t7:Nat} {p0 p2 p5 p6 p7:String} {o1 o3 o4:Oper} {i0:TypeInfo} {z:Value} (enc:α→Value) (C:World→List Value→α→Prop) (hC:∀ w cs x,C w cs x→cs=[enc x]) (h1:∀ x,(enc x).oneCell'=true)
  (hT:P.underlying T=some (.slice E)) (hi:P.info? E=some i0) (hz:i0.zero=some z) (hs:i0.size=1) (hb:i0.bytes=by_) (hzs:z.cells.size=1)
  (hb0:∀ w,(Instr.buildSlice T 0 #[]).run P w=.ok (.slice (some ⟨w.heap.size,0,none⟩) 0 0) (w.alloc (.cells #[] E))) (hb1:∀ w x,(Instr.buildSlice T 1 #[(0,enc x)]).run P w=.ok (.slice (some ⟨w.heap.size,0,none⟩) 1 1) (w.alloc (.cells #[enc x] E)))
  {a:Act} {w:World} (hS:∀ w',Ext w w'→S w') (hnd : [n0,n1,n2,n4,n5].Nodup) (hsz:n0<a.tmps.size∧n2<a.tmps.size∧n5<a.tmps.size∧n6<a.tmps.size)
  (K:Foot) (v1:Value) (xs:List α) (x:α) (e1:a.eval (.tmp n1)=v1) (hsl:Sl K w 1 C v1 xs) (e4:a.eval (.tmp n4)=enc x) (hB:(xs.length+1)*by_≤140737488355328) (hB1:xs.length+1≤140737488355328) (hCext:∀ w w' cs x,Ext w w'→C w cs x→C w' cs x) (hCx:∀ w,C w [enc x] x)
  (ops:Array Oper) (hops:ops=#[⟨some n0,.buildSlice T 0 #[],t0,p0,#[],none⟩,o1,⟨some n2,.call { callee:=.builtin .append,args:=#[.tmp n0,.tmp n1],argTypes:=#[T,T] },t2,p2,#[⟨0,.data⟩,⟨1,.data⟩],none⟩,o3,o4,
   ⟨some n5,.buildSlice T 1 #[(0,.tmp n4)],t5,p5,#[⟨4,.data⟩],none⟩,⟨some n6,.call { callee:=.builtin .append,args:=#[.tmp n2,.tmp n5],argTypes:=#[T,T] },t6,p6,#[⟨2,.data⟩,⟨5,.data⟩,⟨2,.chain⟩],none⟩,
   ⟨some d,.assign (.tmp n6),t7,p7,#[⟨6,.data⟩,⟨6,.chain⟩,⟨0,.phase⟩,⟨1,.phase⟩,⟨2,.phase⟩,⟨3,.phase⟩,⟨4,.phase⟩,⟨5,.phase⟩,⟨6,.phase⟩],none⟩])
  (h:∀ v0 v2 v5 v6 w',w'.ownsRow w.heap.size E 1 v6 (xs ++ [x]).length ((xs ++ [x]).map enc)→Ext w w'→Q .normal (((((a.put (some n0) v0).put (some n2) v2).put (some n5) v5).put (some n6) v6).put (some d) v6) w') :
  wpAnyLast P .any ops Q S [] 5 #[false,true,false,true,true,false,false,false] a w:=by
 subst hops
 simp only [List.nodup_cons,List.mem_cons,List.not_mem_nil,or_false,not_or] at hnd
 obtain ⟨⟨d01,d02,d04,d05⟩,⟨d12,d14,d15⟩,⟨d24,d25⟩,d45,_⟩:=hnd
 obtain ⟨s0,s2,s5,s6⟩:=hsz
 have hown0:∀ w:World,w.heap.size≤(w.alloc (.cells #[] E)).heap.size→(w.alloc (.cells #[] E)).ownsRow w.heap.size E 1 (.slice (some ⟨w.heap.size,0,none⟩) 0 0) ([]:List Value).length []:=fun w _ =>
  ⟨rfl,.inr ⟨w.heap.size,0,#[],rfl,Nat.le_refl _,heap_alloc_new w _,Nat.le_refl _,by simp [maxLen],rfl,rfl⟩⟩
 have hend:∀ v0 v2 g w',w'.ownsRow w.heap.size E 1 v2 (xs.map enc).length (xs.map enc)→w'.cell? ⟨g,0,none⟩=some (enc x)→Ext w w' →
   wpAnyLast P .any #[⟨some n0,.buildSlice T 0 #[],t0,p0,#[],none⟩,o1,⟨some n2,.call { callee:=.builtin .append,args:=#[.tmp n0,.tmp n1],argTypes:=#[T,T] },t2,p2,#[⟨0,.data⟩,⟨1,.data⟩],none⟩,o3,o4,
   ⟨some n5,.buildSlice T 1 #[(0,.tmp n4)],t5,p5,#[⟨4,.data⟩],none⟩,⟨some n6,.call { callee:=.builtin .append,args:=#[.tmp n2,.tmp n5],argTypes:=#[T,T] },t6,p6,#[⟨2,.data⟩,⟨5,.data⟩,⟨2,.chain⟩],none⟩,
   ⟨some d,.assign (.tmp n6),t7,p7,#[⟨6,.data⟩,⟨6,.chain⟩,⟨0,.phase⟩,⟨1,.phase⟩,⟨2,.phase⟩,⟨3,.phase⟩,⟨4,.phase⟩,⟨5,.phase⟩,⟨6,.phase⟩],none⟩] Q S [] 2 #[true,true,true,true,true,true,false,false]
    (((a.put (some n0) v0).put (some n2) v2).put (some n5) (.slice (some ⟨g,0,none⟩) 1 1)) w':=by
  intro v0 v2 g w' ho hc hX
  refine one_ (i:=6) (N:=some n6) #[true,true,true,true,true,true,true,false] rfl rfl (by kernel_rfl) (by simp) (fun K' hK=>?_)
  have hsl1:Sl AnyB w' 1 C (.slice (some ⟨g,0,none⟩) 1 1) [x]:=⟨some ⟨g,0,none⟩,1,rfl,Nat.le_refl _,by simp [maxLen],fun _=>⟨g,0,rfl,trivial,fun i hi=>by
   have h0:i=0:=by simp at hi;omega
   subst h0
   exact ⟨[enc x],rfl,hCx w',fun q u hq=>by
    have hq0:q=0:=by
     have:=(List.getElem?_eq_some_iff.1 hq).1
     simp at this
     omega
    subst hq0
    simp at hq
    subst hq
    exact hc⟩⟩⟩
  obtain ⟨v6,w6,hrun,ho6,hg6,hat6⟩:=run_app enc C hC h1 AnyB w' w.heap.size hT hi hz hs hb hzs v2 (xs.map enc) ho _ [x] hsl1 (by simpa using hB) (by simpa using hB1) hX.size t6
  have hX6:Ext w w6:=Below.grown hX hg6 hX.size (fun k hk=>by
   rcases ho.2 with ⟨rfl,_⟩ | ⟨g',_,_,rfl,hg',_⟩
   ·cases hk
   ·cases hk;exact hg')
  have e2:((((a.put (some n0) v0).put (some n2) v2).put (some n5) (.slice (some ⟨g,0,none⟩) 1 1))).eval (.tmp n2)=v2:=by
   rw [put_eval _ (by rw [put_size,put_size];exact s5),if_neg d25,put_eval _ (by rw [put_size];exact s2),if_pos rfl]
  have e5:((((a.put (some n0) v0).put (some n2) v2).put (some n5) (.slice (some ⟨g,0,none⟩) 1 1))).eval (.tmp n5)=.slice (some ⟨g,0,none⟩) 1 1:=by
   rw [put_eval _ (by rw [put_size,put_size];exact s5),if_pos rfl]
  refine value_ (w1:=w6) (v:=v6) (by rfl) rfl ?_ (hK.out _ _ (hS _ hX6) (fun _=>?_))
  ·exact exec_append rfl (by rw [e2,e5];exact hrun)
  ·refine one_ (i:=7) (N:=some d) #[true,true,true,true,true,true,true,true] rfl rfl (by kernel_rfl) (by simp) (fun K' hK=>?_)
   have e6:(((((a.put (some n0) v0).put (some n2) v2).put (some n5) (.slice (some ⟨g,0,none⟩) 1 1))).put (some n6) v6).eval (.tmp n6)=v6:=by
    rw [put_eval _ (by rw [put_size,put_size,put_size];exact s6),if_pos rfl]
   refine value_ (w1:=w6) (v:=v6) (by rfl) rfl ?_ (hK.out _ _ (hS _ hX6) (fun _=>?_))
   ·exact exec_assign rfl e6
   ·refine done_ (by kernel_rfl) ?_
    exact h v0 v2 (.slice (some ⟨g,0,none⟩) 1 1) v6 w6 (by simpa using ho6) hX6
 have happ:∀ g0 w',w'.ownsRow w.heap.size E 1 (.slice (some ⟨g0,0,none⟩) 0 0) ([]:List Value).length []→Ext w w'→w.heap.size≤g0 →
   ∃ v2 w2,(Builtin.append_ #[T,T] t2 #[.slice (some ⟨g0,0,none⟩) 0 0,v1]).run P w'=.ok v2 w2∧w2.ownsRow w.heap.size E 1 v2 (xs.map enc).length (xs.map enc)∧Ext w w2∧(∀ b,w.heap.size≤b→b≠g0→b<w'.heap.size→w2.heap[b]? = w'.heap[b]?):=by
  intro g0 w' ho hX hg0
  obtain ⟨v2,w2,hrun,ho2,hg2,_⟩:=run_app enc C hC h1 K w' w.heap.size hT hi hz hs hb hzs _ [] ho v1 xs (hsl.ext hX (fun cs x=>hCext _ _ cs x hX)) (by
   have:(([]:List Value).length+xs.length)*by_≤(xs.length+1)*by_:=Nat.mul_le_mul_right _ (by simp)
   omega) (by simp;omega) hX.size t2
  refine ⟨v2,w2,hrun,by simpa using ho2,Below.grown hX hg2 hX.size (fun k hk=>by cases hk;exact hg0),fun b _ hb hlt=>hg2.block b hlt (fun e=>hb (by cases e;rfl))⟩
 have hX1:∀ w',Ext w w'→Ext w (w'.alloc (.cells #[enc x] E)):=fun w' h=>h.alloc _
 refine two_ (i:=0) (j:=5) (Ni:=some n0) (Nj:=some n5) #[true,true,false,true,true,false,false,false] #[false,true,false,true,true,true,false,false] rfl rfl rfl rfl (by kernel_rfl) (by simp) (by simp) (fun K' hK=>?_) (fun K' hK=>?_)
 ·have hX0:Ext w (w.alloc (.cells #[] E)):=(Ext.refl w).alloc _
  have ho0:=hown0 w hX0.size
  refine value_ (w1:=w.alloc (.cells #[] E)) (v:=.slice (some ⟨w.heap.size,0,none⟩) 0 0) (by rfl) rfl ?_ (hK.out _ _ (hS _ hX0) (fun _=>?_))
  ·exact exec_slice0 (qs:=#[]) rfl (by simp) (hb0 w)
  clear hK
  generalize hw0:w.alloc (.cells #[] E)=w0 at hX0 ho0 ⊢
  have hsz0:w.heap.size<w0.heap.size:=by rw [← hw0];simp
  refine two_ (i:=2) (j:=5) (Ni:=some n2) (Nj:=some n5) #[true,true,true,true,true,false,false,false] #[true,true,false,true,true,true,false,false] rfl rfl rfl rfl (by kernel_rfl) (by simp) (by simp) (fun K' hK=>?_) (fun K' hK=>?_)
  ·obtain ⟨v2,w2,hrun,ho2,hX2,_⟩:=happ w.heap.size w0 ho0 hX0 (Nat.le_refl _)
   have e0:(a.put (some n0) (.slice (some ⟨w.heap.size,0,none⟩) 0 0)).eval (.tmp n0)=.slice (some ⟨w.heap.size,0,none⟩) 0 0:=by rw [put_eval _ s0,if_pos rfl]
   have e1':(a.put (some n0) (.slice (some ⟨w.heap.size,0,none⟩) 0 0)).eval (.tmp n1)=v1:=by rw [put_eval _ s0,if_neg (Ne.symm d01),e1]
   refine value_ (w1:=w2) (v:=v2) (by rfl) rfl (exec_append rfl (by rw [e0,e1'];exact hrun)) (hK.out _ _ (hS _ hX2) (fun _=>?_))
   have e4':((a.put (some n0) (.slice (some ⟨w.heap.size,0,none⟩) 0 0)).put (some n2) v2).eval (.tmp n4)=enc x:=by
    rw [put_eval _ (by rw [put_size];exact s2),if_neg (Ne.symm d24),put_eval _ s0,if_neg (Ne.symm d04),e4]
   have hX3:=hX1 _ hX2
   refine one_ (i:=5) (N:=some n5) #[true,true,true,true,true,true,false,false] rfl rfl (by kernel_rfl) (by simp) (fun K'' hK2=>?_)
   refine value_ (w1:=w2.alloc (.cells #[enc x] E)) (v:=.slice (some ⟨w2.heap.size,0,none⟩) 1 1) (by rfl) rfl (exec_slice0 (qs:=#[(0,enc x)]) rfl (by simp [e4']) (hb1 w2 x)) (hK2.out _ _ (hS _ hX3) (fun _=>?_))
   exact hend _ v2 w2.heap.size _ (ho2.alloc _) (new_cell _ _ _) hX3
  ·have e4':(a.put (some n0) (.slice (some ⟨w.heap.size,0,none⟩) 0 0)).eval (.tmp n4)=enc x:=by rw [put_eval _ s0,if_neg (Ne.symm d04),e4]
   have hX3:=hX1 _ hX0
   refine value_ (w1:=w0.alloc (.cells #[enc x] E)) (v:=.slice (some ⟨w0.heap.size,0,none⟩) 1 1) (by rfl) rfl (exec_slice0 (qs:=#[(0,enc x)]) rfl (by simp [e4']) (hb1 w0 x)) (hK.out _ _ (hS _ hX3) (fun _=>?_))
   obtain ⟨v2,w2,hrun,ho2,hX2,hkeep⟩:=happ w.heap.size (w0.alloc (.cells #[enc x] E)) (ho0.alloc _) hX3 (Nat.le_refl _)
   have e0:((a.put (some n0) (.slice (some ⟨w.heap.size,0,none⟩) 0 0)).put (some n5) (.slice (some ⟨w0.heap.size,0,none⟩) 1 1)).eval (.tmp n0)=.slice (some ⟨w.heap.size,0,none⟩) 0 0:=by
    rw [put_eval _ (by rw [put_size];exact s5),if_neg d05,put_eval _ s0,if_pos rfl]
   have e1':((a.put (some n0) (.slice (some ⟨w.heap.size,0,none⟩) 0 0)).put (some n5) (.slice (some ⟨w0.heap.size,0,none⟩) 1 1)).eval (.tmp n1)=v1:=by
    rw [put_eval _ (by rw [put_size];exact s5),if_neg d15,put_eval _ s0,if_neg (Ne.symm d01),e1]
   refine one_ (i:=2) (N:=some n2) #[true,true,true,true,true,true,false,false] rfl rfl (by kernel_rfl) (by simp) (fun K'' hK2=>?_)
   refine value_ (w1:=w2) (v:=v2) (by rfl) rfl (exec_append rfl (by rw [e0,e1'];exact hrun)) (hK2.out _ _ (hS _ hX2) (fun _=>?_))
   rw [put_comm _ (Ne.symm d25)]
   exact hend _ v2 w0.heap.size _ ho2 (by
    have hk:=hkeep w0.heap.size (Nat.le_of_lt hsz0) (by omega) (by simp)
    rw [World.cell?_of_block (a:=⟨w0.heap.size,0,none⟩) (w:=w0.alloc (.cells #[enc x] E)) hk]
    exact new_cell _ _ _) hX2
 ·have hX3:=hX1 _ (Ext.refl w)
  refine value_ (w1:=w.alloc (.cells #[enc x] E)) (v:=.slice (some ⟨w.heap.size,0,none⟩) 1 1) (by rfl) rfl (exec_slice0 (qs:=#[(0,enc x)]) rfl (by simp [e4]) (hb1 w x)) (hK.out _ _ (hS _ hX3) (fun _=>?_))
  clear hK
  have hc0:(w.alloc (.cells #[enc x] E)).cell? ⟨w.heap.size,0,none⟩=some (enc x):=new_cell _ _ _
  have hs3:w.heap.size<(w.alloc (.cells #[enc x] E)).heap.size:=by simp
  generalize hw1:w.alloc (.cells #[enc x] E)=w1 at hX3 hc0 hs3 ⊢
  have hX4:Ext w (w1.alloc (.cells #[] E)):=hX3.alloc _
  have ho0:=hown0 w1 (by simp)
  refine one_ (i:=0) (N:=some n0) #[true,true,false,true,true,true,false,false] rfl rfl (by kernel_rfl) (by simp) (fun K'' hK2=>?_)
  refine value_ (w1:=w1.alloc (.cells #[] E)) (v:=.slice (some ⟨w1.heap.size,0,none⟩) 0 0) (by rfl) rfl (exec_slice0 (qs:=#[]) rfl (by simp) (hb0 w1)) (hK2.out _ _ (hS _ hX4) (fun _=>?_))
  clear hK2
  obtain ⟨v2,w2,hrun,ho2,hX2,hkeep⟩:=happ w1.heap.size (w1.alloc (.cells #[] E)) ⟨ho0.1,by
   rcases ho0.2 with h | ⟨g,cap,cur,e,hg,r⟩
   ·exact .inl h
   ·exact .inr ⟨g,cap,cur,e,Nat.le_trans hX3.size hg,r⟩⟩ hX4 hX3.size
  have e0:((a.put (some n5) (.slice (some ⟨w.heap.size,0,none⟩) 1 1)).put (some n0) (.slice (some ⟨w1.heap.size,0,none⟩) 0 0)).eval (.tmp n0)=.slice (some ⟨w1.heap.size,0,none⟩) 0 0:=by
   rw [put_eval _ (by rw [put_size];exact s0),if_pos rfl]
  have e1':((a.put (some n5) (.slice (some ⟨w.heap.size,0,none⟩) 1 1)).put (some n0) (.slice (some ⟨w1.heap.size,0,none⟩) 0 0)).eval (.tmp n1)=v1:=by
   rw [put_eval _ (by rw [put_size];exact s0),if_neg (Ne.symm d01),put_eval _ s5,if_neg d15,e1]
  refine one_ (i:=2) (N:=some n2) #[true,true,true,true,true,true,false,false] rfl rfl (by kernel_rfl) (by simp) (fun K'' hK2=>?_)
  refine value_ (w1:=w2) (v:=v2) (by rfl) rfl (exec_append rfl (by rw [e0,e1'];exact hrun)) (hK2.out _ _ (hS _ hX2) (fun _=>?_))
  rw [put_comm a (Ne.symm d05),put_comm _ (Ne.symm d25)]
  exact hend _ v2 w.heap.size _ ho2 (by
   have hk:=hkeep w.heap.size (Nat.le_refl _) (by omega) (by simp;omega)
   rw [World.cell?_of_block (a:=⟨w.heap.size,0,none⟩) (w:=w1.alloc (.cells #[] E)) hk]
   exact Ext.cell ((Ext.refl w1).alloc _) hc0) hX2
end
open Go Go.RowKit Md Go.Proofs.YtcfggjmdcaoecaaGreatDoorW.PrintLast
theorem info_bool:(Tryz.prog.info? 4).map (fun i=>(i.zero,i.size,i.bytes))=some (some (.bool false),1,1):=by kernel_rfl
theorem info_int64:(Tryz.prog.info? 2).map (fun i=>(i.zero,i.size,i.bytes))=some (some (.int .i64 0),1,8):=by kernel_rfl
theorem info_nod:(Tryz.prog.info? 104).map (fun i=>(i.zero,i.size,i.bytes))=some (some (.agg #[.int .i64 0,.int .i64 0,.string ⟨#[]⟩]),3,32):=by kernel_rfl
def Listed64 (w:World) (l:List Int) (e:Ending) (w':World):Prop:=∃ v,e=.returned v∧w'.ownsRow w.heap.size 2 1 v l.length (l.map (Value.int .i64))∧Ext w w'
theorem outL_take' {t:PTree} {l:List PStmt} {k:Nat} {x:PStmt} (h:l[k]? = some x):outL t (l.take (k+1))=outL t (l.take k) ++ outS t x:=by
 rw [take_snoc h];simp [outL]
theorem outS_take' {t:PTree} {l:List PNode} {k:Nat} {x:PNode} (h:l[k]? = some x):(l.take (k+1)).filterMap (callN t)=(l.take k).filterMap (callN t) ++ (callN t x).toList:=by
 rw [take_snoc h,List.filterMap_append]
 congr 1
set_option maxRecDepth 1000000 in
set_option maxHeartbeats 0 in
theorem s_l3Calls (K:Foot) (t:PTree) (vG vF:Value) (f:Nat) (fi:Int) (hfi:fi=f) (x:PFunc) (w:World) (hG:SlGlob K w vG t.globals) (hF:SlFunc K w vF t.funcs) (hf:t.funcs[f]? = some x) (hn:t.funcs.length≤1048576) (hb:x.body.length≤1048576∧∀ s∈x.body,s.e.length≤1048576∧s.f.length≤1048576) :
  Calls Tryz.prog 35 #[.agg #[vG,vF],.int .i64 fi] w (Listed64 w (callsL t x.body)):=by
 subst hfi
 obtain ⟨aG,nG,cG,rfl⟩:=hG.shape
 have HG:=Lib.hid hG
 have HF:=Lib.hid hF
 obtain ⟨aF,nF,cF,rfl,HlF,hlcF,hcmF,helF⟩:=hF.op
 have hnF:nF≤1048576:=by have:=HlF.out;omega
 have hiF:f<nF:=by have:=HlF.out;have:=(List.getElem?_eq_some_iff.1 hf).1;omega
 obtain ⟨bF,oF,rfl,_,helF⟩:=helF (by omega)
 obtain ⟨x',csF,hf',_,hCF,hcsF⟩:=helF f hiF
 obtain rfl:x=x':=Option.some.inj (hf.symm.trans hf')
 obtain ⟨vP,vB,rfl,_,hB,_⟩:=hCF
 obtain ⟨aB,nB,cB,rfl,HlB,hlcB,hcmB,helB⟩:=hB.op
 have hnB:nB≤1048576:=by have:=HlB.out;omega
 have e2:=Lib.hid (hcsF 2 _ rfl)
 obtain ⟨i0,hi0,hz0,hz1,hz2⟩:=info_parts info_bool
 obtain ⟨i1,hi1,hy0,hy1,hy2⟩:=info_parts info_int64
 obtain ⟨i2,hi2,hx0,hx1,hx2⟩:=info_parts info_nod
 have HBd:=Lib.hid hb.2
 have HFn:∀ (s:ByteArray) (w':World),Ext w w'→Calls Tryz.prog 46 #[.agg #[.slice aG nG cG,.slice (some ⟨bF,oF,none⟩) nF cF],.string s] w' (Gives (.int .i64 (findF t s)) w'):=fun s w' hX =>
  s_l3Func K t _ _ s w' (Sl.ext HG.out hX (fun _ _ h=>h.any)) (Sl.ext HF.out hX (fun _ _ h=>h.ext hX))
 have HFn:=Lib.hid HFn
 have BT:=Blk.alloc w 32 #[.slice aG nG cG,.slice (some ⟨bF,oF,none⟩) nF cF]
 have X0:Ext w (w.alloc (.cells #[.slice aG nG cG,.slice (some ⟨bF,oF,none⟩) nF cF] 32)):=(Ext.refl w).alloc _
 have HAppB:Hid (∀ (w0 wr:World) (v:Value) (n:Nat) (xs:List Bool) (y:Bool),Ext w0 wr→wr.ownsRow w0.heap.size 4 1 v n (xs.map Value.bool)→n≤2000000 →
   ∃ v' w',(Builtin.append_ #[99,99] 99 #[v,.slice (some ⟨wr.heap.size,0,none⟩) 1 1]).run Tryz.prog (wr.alloc (.cells #[.bool y] 4))=.ok v' w'∧w'.ownsRow w0.heap.size 4 1 v' (n+1) ((xs ++ [y]).map Value.bool)∧Ext w0 w') :=
  fun w0 wr v n xs y hX ho hl=>app_one (P:=Tryz.prog) Value.bool (fun _=>rfl) Tryz.underlying99 hi0 hz0 hz1 hz2 rfl 99 hX ho y (by omega) (by omega)
 have HAppI:Hid (∀ (w0 wr:World) (v:Value) (n:Nat) (xs:List Int) (y:Int),Ext w0 wr→wr.ownsRow w0.heap.size 2 1 v n (xs.map (Value.int .i64))→n≤2000000 →
   ∃ v' w',(Builtin.append_ #[27,27] 27 #[v,.slice (some ⟨wr.heap.size,0,none⟩) 1 1]).run Tryz.prog (wr.alloc (.cells #[.int .i64 y] 2))=.ok v' w'∧w'.ownsRow w0.heap.size 2 1 v' (n+1) ((xs ++ [y]).map (Value.int .i64))∧Ext w0 w') :=
  fun w0 wr v n xs y hX ho hl=>app_one (P:=Tryz.prog) (Value.int .i64) (fun _=>rfl) Tryz.underlying27 hi1 hy0 hy1 hy2 rfl 27 hX ho y (by omega) (by omega)
 clear hG hF hf hf' hcsF helF hB hn hb
 have g8:(0:Int)≤(f:Int):=by omega
 have g9:(f:Int)<(nF:Int):=by omega
 go_enter Tryz.func35,Tryz.ntmps35
 go_wp2
 obtain ⟨w1,hw1⟩:∃ w1,w1=w.alloc (.cells #[.slice aG nG cG,.slice (some ⟨bF,oF,none⟩) nF cF] 32):=⟨_,rfl⟩
 have hs1:w.heap.size+1=w1.heap.size:=by rw [hw1];simp
 have T1:w1.cell? ⟨w.heap.size,1,none⟩=some (.slice (some ⟨bF,oF,none⟩) nF cF):=by rw [hw1];exact (BT.cell 1).trans rfl
 rw [← hw1] at BT X0 ⊢
 have hR0:=rw_new0 w1 w1.heap.size 4 1 (Nat.le_refl _)
 have HR0:=Lib.hid hR0
 have hXa:Ext w1 (w1.alloc (.cells #[] 4)):=(Ext.refl w1).alloc _
 have HX0:=Lib.hid X0
 have HBT:=Lib.hid BT
 clear hw1 hR0 BT X0
 try rw [hs1]
 go_loopw [5,6] (fun v i wr=>∃ k:Nat,k≤nF∧i=.int .i64 k∧Hid (wr.ownsRow w1.heap.size 4 1 v k ((List.replicate k false).map Value.bool))∧Ext w1 wr) (fun _ i _=>nF - (intOf i).toNat)
 case atStart=>exact ⟨0,Nat.zero_le _,rfl,HR0.out,hXa⟩
 case round =>
  obtain ⟨k,hk,rfl,HO,hX⟩:=hrel
  obtain ⟨av,cv,rfl⟩:=rw_form0 HO.out
  have t1:=hX.cell T1
  by_cases hlt:k<nF
  ·obtain ⟨v',w',r1,r2,r3⟩:=HAppB.out w1 wr _ k _ false hX HO.out (by omega)
   have HR1:=Lib.hid r1
   have HO2:=Lib.hid r2
   clear r1 r2
   go_wp2_with (at_builtin;refine Lib.wpList_append_run _ rfl _ _ _ _ rfl _ _ rfl rfl _ _ HR1.out ?_)
   go_roundw
   case rel=>exact ⟨k+1,by omega,by go_num,by rw [List.replicate_succ'];exact HO2.out,r3⟩
   case measure=>simp [intOf];omega
  ·obtain rfl:nF=k:=by omega
   have hO:wr.ownsRow w1.heap.size 4 1 (.slice av nF cv) nF ((thereB t []).map Value.bool):=by rw [thereB_nil,HlF.out];exact HO.out
   obtain ⟨gB,cT,eB,hgB,hgL,hlT,hcT⟩:=rw_form hO (by omega)
   obtain ⟨rfl,rfl⟩:some ⟨gB,0,none⟩=av∧cT=cv:=by cases eB;exact ⟨rfl,rfl⟩
   clear eB
   have d2:=(HX0.out.trans hX).cell e2.out
   have HO2:=Lib.hid hO
   clear HO hO hlt hk
   go_wp2
   go_loopw [8] (fun i wq=>∃ k:Nat,k≤nB∧i=.int .i64 k∧Hid (wq.ownsRow w1.heap.size 4 1 (.slice (some ⟨gB,0,none⟩) nF cT) nF ((thereB t (outL t (x.body.take k))).map Value.bool))∧Hid (Ext w1 wq)) (fun i _=>nB - (intOf i).toNat)
   case atStart=>exact ⟨0,Nat.zero_le _,rfl,HO2.out,hX⟩
   case round =>
    clear HO2 hX t1 d2 hgL
    obtain ⟨k,hk,rfl,HO,HX⟩:=hrel
    by_cases hlt:k<nB
    ·obtain ⟨bB,oB,rfl,_,helB⟩:=helB (by omega)
     obtain ⟨y,cs,hy,_,hC,hcs⟩:=helB k hlt
     obtain ⟨vE,vF,rfl,sE,sF,q1,q2,q3,q4⟩:=hC
     have hXw:=HX0.out.trans HX.out
     have c2:=hXw.cell (hcs 2 _ rfl)
     have c3:=hXw.cell (hcs 3 _ rfl)
     have Hy:=Lib.hid (outL_take' (t:=t) hy)
     have hbd:=HBd.out y (List.mem_of_getElem? hy)
     have HE:=Lib.hid (sE.ext hXw (fun _ _ h=>h.any))
     have HFf:=Lib.hid (sF.ext hXw (fun _ _ h=>h.any))
     obtain ⟨aE,nE,cE,rfl⟩:=sE.shape
     obtain ⟨aF2,nF2,cF2,rfl⟩:=sF.shape
     clear hcs helB hy sE sF hXw
     have g0:(0:Int)≤(k:Int):=by omega
     have g1:(k:Int)<(nB:Int):=by omega
     go_wp2_with fail
     refine start_ (n:=14) (S:=fun w'=>w'.cell? ⟨bB,oB+k*6+2,none⟩=some (.slice aE nE cE)∧w'.cell? ⟨bB,oB+k*6+3,none⟩=some (.slice aF2 nF2 cF2)) (ds:=[]) #[false,false,false,false,false,false,false,false,false,false,false,false,false,false] (by kernel_rfl) rfl rfl ?hS (fun hHeld=>?_)
     case hS=>exact ⟨by simpa using c2,by simpa using c3⟩
     refine pu_ 1 (some 38) #[false,true,false,false,false,false,false,false,false,false,false,false,false,false] rfl rfl (by kernel_rfl) (fun _ _ _ h=>h) (by rfl) (by intro w';go_simp;with_reducible rfl) (by simp only [pt_];rfl) ?_
     refine pu_ 2 (some 39) #[false,true,true,false,false,false,false,false,false,false,false,false,false,false] rfl rfl (by kernel_rfl) (fun _ _ _ h=>h) (by rfl) (by intro w';go_simp;with_reducible rfl) (by simp only [pt_];rfl) ?_
     refine pu_ 3 (some 40) #[false,true,true,true,false,false,false,false,false,false,false,false,false,false] rfl rfl (by kernel_rfl) (fun _ _ _ h=>h) (by rfl) (by intro w';go_simp;with_reducible rfl) (by simp only [pt_];rfl) ?_
     refine pu_ 4 (some 41) #[false,true,true,true,true,false,false,false,false,false,false,false,false,false] rfl rfl (by kernel_rfl) (fun _ _ _ h=>h) (by rfl) (by intro w';go_simp;with_reducible rfl) (by simp only [pt_];rfl) ?_
     refine ta_ 5 (some 42) #[false,true,true,true,true,true,false,false,false,false,false,false,false,false] rfl rfl (by kernel_rfl) (fun _ _ _ h=>h) hHeld (by rfl) (by rintro w' ⟨s0,s1⟩;go_simp;with_reducible rfl) (by simp only [pt_];rfl) ?_
     refine pu_ 7 (some 44) #[false,true,true,true,true,true,false,true,false,false,false,false,false,false] rfl rfl (by kernel_rfl) (fun _ _ _ h=>h) (by rfl) (by intro w';go_simp;with_reducible rfl) (by simp only [pt_];rfl) ?_
     refine pu_ 8 (some 45) #[false,true,true,true,true,true,false,true,true,false,false,false,false,false] rfl rfl (by kernel_rfl) (fun _ _ _ h=>h) (by rfl) (by intro w';go_simp;with_reducible rfl) (by simp only [pt_];rfl) ?_
     refine pu_ 9 (some 46) #[false,true,true,true,true,true,false,true,true,true,false,false,false,false] rfl rfl (by kernel_rfl) (fun _ _ _ h=>h) (by rfl) (by intro w';go_simp;with_reducible rfl) (by simp only [pt_];rfl) ?_
     refine pu_ 10 (some 47) #[false,true,true,true,true,true,false,true,true,true,true,false,false,false] rfl rfl (by kernel_rfl) (fun _ _ _ h=>h) (by rfl) (by intro w';go_simp;with_reducible rfl) (by simp only [pt_];rfl) ?_
     refine ta_ 11 (some 48) #[false,true,true,true,true,true,false,true,true,true,true,true,false,false] rfl rfl (by kernel_rfl) (fun _ _ _ h=>h) hHeld (by rfl) (by rintro w' ⟨s0,s1⟩;go_simp;with_reducible rfl) (by simp only [pt_];rfl) ?_
     refine one_ (i:=0) (N:=some 37) #[true,true,true,true,true,true,false,true,true,true,true,true,false,false] rfl rfl (by kernel_rfl) (by decide) (fun K hK=>?_)
     refine value_ (by rfl) rfl (by go_simp;constructor<;>rfl) ?_
     have hX1:Ext wr (wr.drew.alloc (.cells #[] 104)):=((Ext.refl wr).drew).alloc _
     refine hK.out _ _ ⟨hX1.cell c2,hX1.cell c3⟩ (fun hHeld=>?_)
     clear hK K
     refine norm_ (by show Act.put _ (some 37) _=_;simp only [pt_];rfl) ?_
     have hO1:=rw_new0 wr.drew wr.heap.size 104 3 (Nat.le_refl _)
     have hlE:y.e.length=nE:=sl_len HE.out
     have hlF:y.f.length=nF2:=sl_len HFf.out
     obtain ⟨v2,w2,r1,r2,r3,r4⟩:=run_appN (P:=Tryz.prog) CNode (fun _ _ _ h=>h.1) encNode_len (by decide) encNode_one K (wr.drew.alloc (.cells #[] 104)) wr.heap.size Tryz.underlying100 hi2 hx0 hx1 hx2 rfl _ 0 [] hO1 _ y.e (Sl.ext HE.out hX1 (fun _ _ h=>h.any)) (by omega) (by omega) hX1.size 100
     have hX2:Ext wr w2:=Below.grown hX1 r3 hX1.size (fun k hk=>by cases hk;exact Nat.le_refl _)
     refine one_ (i:=6) (N:=some 43) #[true,true,true,true,true,true,true,true,true,true,true,true,false,false] rfl rfl (by kernel_rfl) (by decide) (fun K hK=>?_)
     refine value_ (w1:=w2) (v:=v2) (by rfl) rfl (exec_append rfl r1) ?_
     refine hK.out _ _ ⟨hX2.cell c2,hX2.cell c3⟩ (fun hHeld=>?_)
     clear hK K
     refine norm_ (by show Act.put _ (some 43) _=_;simp only [pt_];rfl) ?_
     obtain ⟨v3,w3,r5,r6,r7,r8⟩:=run_appN (P:=Tryz.prog) CNode (fun _ _ _ h=>h.1) encNode_len (by decide) encNode_one K w2 wr.heap.size Tryz.underlying100 hi2 hx0 hx1 hx2 rfl _ _ _ r2 _ y.f (Sl.ext HFf.out hX2 (fun _ _ h=>h.any)) (by omega) (by omega) hX2.size 100
     have hX3:Ext wr w3:=Below.grown hX2 r7 hX2.size (rw_ge r2)
     refine one_ (i:=12) (N:=some 49) #[true,true,true,true,true,true,true,true,true,true,true,true,true,false] rfl rfl (by kernel_rfl) (by decide) (fun K hK=>?_)
     refine value_ (w1:=w3) (v:=v3) (by rfl) rfl (exec_append rfl r5) ?_
     refine hK.out _ _ ⟨hX3.cell c2,hX3.cell c3⟩ (fun hHeld=>?_)
     clear hK K
     refine norm_ (by show Act.put _ (some 49) _=_;simp only [pt_];rfl) ?_
     refine pu_ 13 (some 9) #[true,true,true,true,true,true,true,true,true,true,true,true,true,true] rfl rfl (by kernel_rfl) (fun _ _ _ h=>h) (by rfl) (by intro w';go_simp;with_reducible rfl) (by simp only [pt_];rfl) ?_
     refine done_ (by kernel_rfl) ?_
     have hgL:gB<wr.heap.size:=by
      obtain ⟨_,_,e,_,h,_⟩:=rw_form HO.out (by omega)
      cases e
      exact h
     have hA3:SlNode (fun b=>b≠gB) w3 v3 (y.e ++ y.f):=sl_ownN encNode_len (by decide) r6 (fun g hg e=>by omega) (fun z hz=>by
      rcases List.mem_append.1 hz with hz | hz
      ·obtain ⟨cs,h1,h2⟩:=Sl.mem HE.out z hz;exact ⟨rfl,h2⟩
      ·obtain ⟨cs,h1,h2⟩:=Sl.mem HFf.out z hz;exact ⟨rfl,h2⟩)
     have HO3:=Lib.hid (rw_ext HO.out hX3)
     have HX3:=Lib.hid (HX.out.trans hX3)
     obtain ⟨aA,nA,cA,rfl⟩:=hA3.shape
     have HA3:=Lib.hid hA3
     have hnA:(y.e ++ y.f).length=nA:=sl_len hA3
     have hnA2:nA≤4194304:=by rw [← hnA,List.length_append];omega
     have HnA:=Lib.hid hnA
     clear r1 r2 r3 r4 r5 r6 r7 r8 hX1 hX2 hX3 hO1 hA3 hHeld c2 c3 hlE hlF hnA hgL HE HFf HO HX
     go_wp2
     go_loopw [10] (fun j wi=>∃ q:Nat,q≤nA∧j=.int .i64 q∧Hid (wi.ownsRow w1.heap.size 4 1 (.slice (some ⟨gB,0,none⟩) nF cT) nF ((thereB t (outL t (x.body.take k) ++ ((y.e ++ y.f).take q).filterMap (callN t))).map Value.bool)) ∧
      Hid (SlNode (fun b=>b≠gB) wi (.slice aA nA cA) (y.e ++ y.f))∧Hid (Ext w1 wi)) (fun j _=>nA - (intOf j).toNat)
     case atStart=>exact ⟨0,Nat.zero_le _,rfl,by rw [List.take_zero,List.filterMap_nil,List.append_nil];exact HO3.out,HA3.out,HX3.out⟩
     case round =>
      clear HO3 HA3 HX3
      obtain ⟨q,hq,rfl,HO,HA,HX⟩:=hrel
      by_cases hqt:q<nA
      ·obtain ⟨aC',nC',cC',eC,_,_,_,helC⟩:=HA.out.op
       cases eC
       obtain ⟨bC,oC,rfl,_,helC⟩:=helC (by omega)
       obtain ⟨n,csy,hn,_,hCn,hcsy⟩:=helC q hqt
       obtain ⟨rfl,_,_,hnn⟩:=hCn
       have c0:=hcsy.z rfl
       have c2:=hcsy 2 _ rfl
       have Hn:=Lib.hid (outS_take' (t:=t) hn)
       obtain ⟨yk,yv,yn⟩:=n
       simp only at c0 c2 Hn hnn
       clear hn hcsy helC
       have g2:(0:Int)≤(q:Int):=by omega
       have g3:(q:Int)<(nA:Int):=by omega
       by_cases h4:yk=4
       ·subst h4
        have u0:wr.cell? ⟨w.heap.size,0,none⟩=some (.slice aG nG cG):=HX.out.cell ((HBT.out.cell 0).trans rfl)
        have u1:wr.cell? ⟨w.heap.size,1,none⟩=some (.slice (some ⟨bF,oF,none⟩) nF cF):=HX.out.cell ((HBT.out.cell 1).trans rfl)
        go_wp2_with fail
        go_region_held3 (fun w'=>w'.cell? ⟨w.heap.size,0,none⟩=some (.slice aG nG cG)∧w'.cell? ⟨w.heap.size,1,none⟩=some (.slice (some ⟨bF,oF,none⟩) nF cF)∧w'.cell? ⟨bC,oC+q*3+2,none⟩=some (.string yn))
         (first | go_keep | (refine ⟨hX3.cell ?_,hX3.cell ?_,hX3.cell ?_⟩<;>simp [*]))
         (first
          | (go_at_call 46;(refine (HFn.out yn _ (HX0.out.trans (HX.out.trans ((Ext.refl _).drew)))).mono ?_);rintro e3 w3 ⟨rfl,hX3⟩))
        have hX13:Ext wr w3:=((Ext.refl _).drew).trans hX3
        have HO3:=Lib.hid (rw_ext HO.out hX13)
        have HA3:=Lib.hid (Sl.ext HA.out hX13 (fun _ _ h=>h.any))
        have HX3:=Lib.hid (HX.out.trans hX13)
        have hr:=findF_range t yn
        have hcn:callN t ⟨4,yv,yn⟩=if 0≤findF t yn then some (findF t yn) else none:=by simp [callN]
        rw [hcn] at Hn
        clear hX13 hX3 hcn HO HA HX u0 u1 c0 c2
        generalize findF t yn=u at hr Hn
        rcases hr with rfl | ⟨u0,u1,_⟩
        ·go_wp2
         go_roundw
         case rel=>exact ⟨q+1,by omega,by go_num,by rw [Hn.out];rw [show (if (0:Int)≤-1 then some (-1:Int) else none).toList=[] from rfl,List.append_nil];exact HO3.out,HA3.out,HX3.out⟩
         case measure=>simp [intOf];omega
        ·obtain ⟨m,rfl⟩:∃ m:Nat,u=m:=⟨u.toNat,by omega⟩
         have hmF:m<nF:=by have:=HlF.out;omega
         have Hn2:Hid (((y.e ++ y.f).take (q+1)).filterMap (callN t)=((y.e ++ y.f).take q).filterMap (callN t) ++ [(m:Int)]):=by
          show _=_
          rw [Hn.out,if_pos u0];rfl
         have g4:(m:Int)<(nF:Int):=by omega
         obtain ⟨b0,b1⟩:=rw_at HO3.out (i:=m) (u:=Value.bool (decide ((m:Int)∈outL t (x.body.take k) ++ ((y.e ++ y.f).take q).filterMap (callN t)))) (by rw [List.getElem?_map,thereB_at (by have:=HlF.out;omega)];rfl)
         have hO4:=rw_set HO3.out hmF (.bool true)
         rw [← List.map_set,show (thereB t (outL t (x.body.take k) ++ ((y.e ++ y.f).take q).filterMap (callN t))).set m true=thereB t ((outL t (x.body.take k) ++ ((y.e ++ y.f).take q).filterMap (callN t)) ++ [(m:Int)]) from thereB_set t _ (m:Int) u0,List.append_assoc,← Hn2.out] at hO4
         have HO4:=Lib.hid hO4
         have hgB1:w1.heap.size≤gB:=hgB
         have HA4:Hid (SlNode (fun b=>b≠gB) (w3.setCell ⟨gB,m,none⟩ (.bool true)) (.slice (some ⟨bC,oC,none⟩) nA cA) (y.e ++ y.f)):=Sl.keep HA3.out (Keep.setCell (a:=⟨gB,m,none⟩) (Keep.refl (fun b=>b≠gB) w3) (fun b hb=>hb) (.bool true)) (fun _ _ _ h=>h.any) (fun _ h=>h)
         have HX4:Hid (Ext w1 (w3.setCell ⟨gB,m,none⟩ (.bool true))):=Below.setCell HX3.out hgB _
         clear hO4 u1
         go_wp2
         go_roundw
         case rel=>exact ⟨q+1,by omega,by go_num,HO4.out,HA4.out,HX4.out⟩
         case measure=>simp [intOf];omega
       ·have b4:(yk == 4)=false:=by simpa using h4
        have hcn:callN t ⟨yk,yv,yn⟩=none:=by simp [callN,h4]
        rw [hcn] at Hn
        clear h4 hcn
        go_wp2
        go_roundw
        case rel=>exact ⟨q+1,by omega,by go_num,by rw [Hn.out,Option.toList_none,List.append_nil];exact HO.out,HA.out,HX.out⟩
        case measure=>simp [intOf];omega
      ·have hqe:(y.e ++ y.f).take q=y.e ++ y.f:=List.take_of_length_le (by rw [HnA.out];omega)
       have hl:(outL t (x.body.take k) ++ ((y.e ++ y.f).take q).filterMap (callN t))=outL t (x.body.take (k+1)):=by rw [hqe,Hy.out];rfl
       have HL:=Lib.hid hl
       clear hqe hl
       go_wp2
       go_roundw
       case rel=>exact ⟨k+1,by omega,by go_num,by rw [← HL.out];exact HO.out,HX.out⟩
       case measure=>simp [intOf];omega
    ·have hke:x.body.take k=x.body:=List.take_of_length_le (by have:=HlB.out;omega)
     have hO:=HO.out
     rw [hke] at hO
     have HO2:=Lib.hid hO
     have hR:=rw_new0 wr wr.heap.size 2 1 (Nat.le_refl _)
     have HR:=Lib.hid hR
     have hXr:Ext wr (wr.alloc (.cells #[] 2)):=(Ext.refl wr).alloc _
     clear hke hO HO hR
     obtain ⟨w2,hw2⟩:∃ w2,w2=wr:=⟨_,rfl⟩
     go_wp2
     go_loopw [12,13] (fun v i wq=>∃ k n:Nat,k≤nF∧n≤k∧i=.int .i64 k∧Hid (wq.ownsRow w2.heap.size 2 1 v n ((upTo (outL t x.body) k).map (Value.int .i64)))∧Ext w2 wq) (fun _ i _=>nF - (intOf i).toNat)
     case atStart=>exact ⟨0,0,Nat.zero_le _,Nat.le_refl _,rfl,by rw [hw2];exact HR.out,by rw [hw2];exact hXr⟩
     case round =>
      rw [← hw2] at HO2 HX
      clear hw2 HR hXr
      obtain ⟨k,n,hk,hnk,rfl,HO,hX⟩:=hrel
      obtain ⟨av,cv,rfl⟩:=rw_form0 HO.out
      by_cases hlt:k<nF
      ·have hb0:=hX.cell (rw_at HO2.out (i:=k) (u:=Value.bool (decide ((k:Int)∈outL t x.body))) (by rw [List.getElem?_map,thereB_at (by have:=HlF.out;omega)];rfl)).1
       have g0:(0:Int)≤(k:Int):=by omega
       have g1:(k:Int)<(nF:Int):=by omega
       by_cases hin:(k:Int)∈outL t x.body
       ·rw [decide_eq_true hin] at hb0
        obtain ⟨v',w',r1,r2,r3⟩:=HAppI.out w2 wr _ n _ (k:Int) hX HO.out (by omega)
        rw [← upTo_in hin] at r2
        have HR1:=Lib.hid r1
        have HO3:=Lib.hid r2
        clear r1 r2
        go_wp2_with (at_builtin;refine Lib.wpList_append_run _ rfl _ _ _ _ rfl _ _ rfl rfl _ _ HR1.out ?_)
        go_roundw
        case rel=>exact ⟨k+1,n+1,by omega,by omega,by go_num,HO3.out,r3⟩
        case measure=>simp [intOf];omega
       ·rw [decide_eq_false hin] at hb0
        have HU:=Lib.hid (upTo_out hin)
        go_wp2
        go_roundw
        case rel=>exact ⟨k+1,n,by omega,by omega,by go_num,by rw [HU.out];exact HO.out,hX⟩
        case measure=>simp [intOf];omega
      ·have hl:upTo (outL t x.body) k=callsL t x.body:=by
        obtain rfl:nF=k:=by omega
        rw [← HlF.out];rfl
       have hO:=HO.out
       rw [hl] at hO
       have hln:(callsL t x.body).length=n:=by have:=hO.1;simpa using this
       have HO3:=Lib.hid hO
       have Hln:=Lib.hid hln
       have hXX:=HX0.out.trans (HX.out.trans hX)
       have hs2:w.heap.size≤w2.heap.size:=(HX0.out.trans HX.out).size
       clear hl hO hln
       go_wp2
       go_ret
       exact ⟨_,rfl,by rw [Hln.out];exact rw_base HO3.out hs2,hXX⟩
end Go.Proofs.YtcfggjmdcaoecaaGreatDoor
