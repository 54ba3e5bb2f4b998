/- A part of the proofs of FnBound and FnCheck: the lemmas and walks LwFns. -/
import Derived.BigQuiet
import Derived.Test.YtcfggjmdcaoecaaGreatDoorB14
import Derived.Test.YtcfggjmdcaoecaaGreatDoorB06
set_option linter.unusedVariables false
set_option linter.unusedSimpArgs false
namespace Go.Proofs.YtcfggjmdcaoecaaGreatDoor
open Go Go.RowKit Md
theorem c_lwHas (K:Foot) (l:List Int) (v:Value) (x:Int) (w:World) (hv:SlInt .i64 K w v l) :
  Calls Tryz.prog 23 #[v,.int .i64 x] w (Same (.bool (decide (x∈l))) w):=by
 obtain ⟨a,len,cap,rfl,Hlen,hlc,hcm,hel⟩:=hv.op
 clear hv
 go_enter Tryz.func23,Tryz.ntmps23
 go_wp2
 go_loop [5] (fun i=>∃ k:Nat,k≤len∧i=.int .i64 k∧Hid (x∉l.take k)) (fun i=>len - (intOf i).toNat)
 case atStart=>exact ⟨0,Nat.zero_le _,rfl,by show x∉_;simp⟩
 case round =>
  obtain ⟨k,hk,rfl,hA⟩:=hrel
  by_cases hlt:k<len
  ·obtain ⟨b,o,rfl,_,hel⟩:=hel (by omega)
   obtain ⟨y,cs,hy,_,hC,hcs⟩:=hel k hlt
   obtain ⟨rfl,_⟩:=hC
   have c0:=hcs.z rfl
   rw [Nat.mul_one] at c0
   have Hy:=Lib.hid hy
   clear hel hcs hy
   have g0:(0:Int)≤(k:Int):=by omega
   have g1:(k:Int)<(len:Int):=by omega
   by_cases he:y=x
   ·have Hm:Hid (x∈l):=by
     rw [← he]
     exact List.mem_of_getElem? Hy.out
    go_wp2
    go_ret
    exact Same.bool (decide_eq_true Hm.out).symm
   ·have Hn:Hid (x∉l.take (k+1)):=by
     show x∉_
     rw [take_snoc Hy.out,List.mem_append]
     rintro (h | h)
     ·exact hA.out h
     ·exact he (List.mem_singleton.1 h).symm
    go_wp2
    go_round
    case rel=>exact ⟨k+1,by omega,by go_num,Hn.out⟩
    case measure=>simp [intOf];omega
  ·have Hn:Hid (x∉l):=by
    have:=hA.out
    rw [List.take_of_length_le (by rw [Hlen.out];omega)] at this
    exact this
   go_wp2
   go_ret
   exact Same.bool (decide_eq_false Hn.out).symm
theorem c_lwMain (K:Foot) (t:PTree) (vG vF:Value) (w:World) (hG:SlGlob K w vG t.globals) (hF:SlFunc K w vF t.funcs) :
  Calls Tryz.prog 22 #[.agg #[vG,vF]] w (Gives (.int .i64 (findF t mainB)) w):=by
 obtain ⟨aG,nG,cG,rfl⟩:=hG.shape
 obtain ⟨a,len,cap,rfl,Hlen,hlc,hcm,hel⟩:=hF.op
 obtain ⟨R,hR⟩:∃ R,R=findF t mainB:=⟨_,rfl⟩
 have HR:=Lib.hid hR
 rw [← hR]
 have hE:Ext w (w.alloc (.cells #[.slice aG nG cG,.slice a len cap] 32)):=(Ext.refl w).alloc _
 clear hG hF hR
 go_enter Tryz.func22,Tryz.ntmps22
 go_wp2
 go_loop [3] (fun i=>∃ k:Nat,k≤len∧i=.int .i64 k∧Hid (R=findFrom (t.funcs.drop k) mainB k)) (fun i=>len - (intOf i).toNat)
 case atStart=>exact ⟨0,Nat.zero_le _,rfl,HR.out⟩
 case round =>
  obtain ⟨k,hk,rfl,hA⟩:=hrel
  by_cases hlt:k<len
  ·obtain ⟨b,o,rfl,_,hel⟩:=hel (by omega)
   obtain ⟨x,cs,hx,_,hC,hcs⟩:=hel k (by omega)
   obtain ⟨vP,vB,rfl,_,_,_⟩:=hC
   have c0:=hE.cell (hcs.z rfl)
   have Hx:=Lib.hid (findFrom_drop (s:=mainB) hx)
   clear hel hcs hx
   have g0:(0:Int)≤(k:Int):=by omega
   have g1:(k:Int)<(len:Int):=by omega
   by_cases he:x.name=mainB
   ·have HE:=Lib.hid he
    have hq:(x.name.toList == mainB.toList)=true:=by rw [str_eq,decide_eq_true he]
    unfold mainB at hq
    have hq2:(x.name.toList == [109,97,105,110])=true:=by simpa using hq
    clear he
    go_wp2
    go_ret
    exact Gives.int (by rw [hA.out,Hx.out,if_pos HE.out]) ((Ext.refl w).alloc _)
   ·have hq:(x.name.toList == mainB.toList)=false:=by rw [str_eq,decide_eq_false he]
    unfold mainB at hq
    have hq2:(x.name.toList == [109,97,105,110])=false:=by simpa using hq
    have He:=Lib.hid he
    clear he
    go_wp2
    go_round
    case rel=>exact ⟨k+1,by omega,by go_num,by rw [hA.out,Hx.out,if_neg He.out];exact rfl⟩
    case measure=>simp [intOf];omega
  ·go_wp2
   go_ret
   exact Gives.int (by rw [hA.out,List.drop_eq_nil_of_le (by rw [Hlen.out];omega)];rfl) ((Ext.refl w).alloc _)
theorem c_lwNums (K:Foot) (l:List Int) (v1 v2:Value) (w:World) (h1:SlInt .i64 K w v1 l) (h2:SlInt .i64 K w v2 l) :
  Calls Tryz.prog 29 #[v1,v2] w (Gives (.bool true) w):=by
 obtain ⟨a,len,cap,rfl,Hlen,hlc,hcm,hel⟩:=h1.op
 obtain ⟨a2,len2,cap2,rfl,Hlen2,hlc2,hcm2,hel2⟩:=h2.op
 obtain rfl:len=len2:=by rw [← Hlen.out,Hlen2.out]
 have Hel:=Lib.hid hel
 have Hel2:=Lib.hid hel2
 clear h1 h2 hel hel2
 go_enter Tryz.func29,Tryz.ntmps29
 go_wp2
 go_loopw [5] (fun i wr=>∃ k m:Nat,k≤len∧i=.int .i64 k∧Hid (wr=w.drewN m)) (fun i _=>len - (intOf i).toNat)
 case atStart=>exact ⟨0,0,Nat.zero_le _,rfl,rfl⟩
 case round =>
  obtain ⟨k,m,hk,rfl,HW⟩:=hrel
  have hX:Ext w wr:=by rw [HW.out];exact drewN_ext w m
  by_cases hlt:k<len
  ·obtain ⟨b,o,rfl,_,hel⟩:=Hel.out (by omega)
   obtain ⟨y,cs,hy,_,hC,hcs⟩:=hel k hlt
   obtain ⟨rfl,_⟩:=hC
   have c0:=hX.cell (hcs.z rfl)
   obtain ⟨b2,o2,rfl,_,hel2⟩:=Hel2.out (by omega)
   obtain ⟨y2,cs2,hy2,_,hC2,hcs2⟩:=hel2 k hlt
   obtain ⟨rfl,_⟩:=hC2
   obtain rfl:y=y2:=Option.some.inj (hy.symm.trans hy2)
   have c1:=hX.cell (hcs2.z rfl)
   rw [Nat.mul_one] at c0 c1
   have g0:(0:Int)≤(k:Int):=by omega
   have g1:(k:Int)<(len:Int):=by omega
   clear hel hel2 hcs hcs2 hy hy2 hX
   go_wp2_with fail
   go_quiet (fail)
   go_wp2
   go_roundw
   case rel=>exact ⟨k+1,m+nq,by omega,by go_num,by show _=_;rw [HW.out];simp⟩
   case measure=>simp [intOf];omega
  ·have HX:=Lib.hid hX
   clear hX
   go_wp2
   go_ret
   exact Gives.bool rfl HX.out
end Go.Proofs.YtcfggjmdcaoecaaGreatDoor
