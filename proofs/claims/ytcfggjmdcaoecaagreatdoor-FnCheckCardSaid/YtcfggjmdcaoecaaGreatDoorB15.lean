/- A part of the proofs of FnBound and FnCheck: the lemmas and walks SortC, ImplCkC. -/
import Derived.Shelf.Sort.Plain
import Derived.Shelf.Slices.CompactI
import Derived.Shelf.Slices.In.SortNone
import Derived.Test.YtcfggjmdcaoecaaGreatDoorProg
import Derived.Lib.AppendZeros
import Derived.Sort.OwnSortedInts
import Derived.Lib.OwnBridge
import Derived.Deep.RegionHeld3
import Derived.Test.YtcfggjmdcaoecaaGreatDoorB14
import Derived.Test.YtcfggjmdcaoecaaGreatDoorB05
import Derived.Test.YtcfggjmdcaoecaaGreatDoorB03
import Derived.Test.YtcfggjmdcaoecaaGreatDoorB01
set_option linter.unusedVariables false
set_option linter.unusedSimpArgs false
namespace Go.Proofs
open Go.Shelf
def Tryz.lays189_ren:Go.Shelf.Ren:=⟨fun | 189=>75 | 125=>121 | 257=>120 | 128=>154 | 129=>155 | 294=>145 | 295=>146 | 296=>147 | 297=>148 | 298=>149 | 299=>150 | 216=>151 | 300=>152 | 301=>153 | 328=>169 | 329=>170 | 330=>171 | 331=>172 | 332=>173 | 215=>174 | 343=>182 | n=>n,fun | 28=>59 | 3=>3 | 46=>189 | 0=>0 | 51=>243 | 53=>245 | 4=>4 | 183=>235 | 182=>234 | 131=>240 | 5=>5 | 9=>9 | 218=>256 | 222=>260 | 228=>270 | 229=>271 | n=>n,fun | n=>n⟩
theorem Tryz.lays189:Go.Proofs.Lays.n189 Tryz.prog Tryz.lays189_ren:={
 mixed:=by kernel_rfl
 f125:=Tryz.func121.trans (congrArg some (by kernel_rfl))
 f128:=Tryz.func154.trans (congrArg some (by kernel_rfl))
 f129:=Tryz.func155.trans (congrArg some (by kernel_rfl))
 f189:=Tryz.func75.trans (congrArg some (by kernel_rfl))
 f215:=Tryz.func174.trans (congrArg some (by kernel_rfl))
 f216:=Tryz.func151.trans (congrArg some (by kernel_rfl))
 f257:=Tryz.func120.trans (congrArg some (by kernel_rfl))
 f294:=Tryz.func145.trans (congrArg some (by kernel_rfl))
 f295:=Tryz.func146.trans (congrArg some (by kernel_rfl))
 f296:=Tryz.func147.trans (congrArg some (by kernel_rfl))
 f297:=Tryz.func148.trans (congrArg some (by kernel_rfl))
 f298:=Tryz.func149.trans (congrArg some (by kernel_rfl))
 f299:=Tryz.func150.trans (congrArg some (by kernel_rfl))
 f300:=Tryz.func152.trans (congrArg some (by kernel_rfl))
 f301:=Tryz.func153.trans (congrArg some (by kernel_rfl))
 f328:=Tryz.func169.trans (congrArg some (by kernel_rfl))
 f329:=Tryz.func170.trans (congrArg some (by kernel_rfl))
 f330:=Tryz.func171.trans (congrArg some (by kernel_rfl))
 f331:=Tryz.func172.trans (congrArg some (by kernel_rfl))
 f332:=Tryz.func173.trans (congrArg some (by kernel_rfl))
 f343:=Tryz.func182.trans (congrArg some (by kernel_rfl))
 t0:=Tryz.underlying0
 a0:=Tryz.isAgg0
 z0:=Tryz.sizeOf0
 v0:=Tryz.zeroValue0
 t3:=Tryz.underlying3
 a3:=Tryz.isAgg3
 z3:=Tryz.sizeOf3
 v3:=Tryz.zeroValue3
 t4:=Tryz.underlying4
 a4:=Tryz.isAgg4
 z4:=Tryz.sizeOf4
 v4:=Tryz.zeroValue4
 t5:=Tryz.underlying5
 a5:=Tryz.isAgg5
 z5:=Tryz.sizeOf5
 v5:=Tryz.zeroValue5
 t9:=Tryz.underlying9
 a9:=Tryz.isAgg9
 z9:=Tryz.sizeOf9
 v9:=Tryz.zeroValue9
 t28:=Tryz.underlying59
 a28:=Tryz.isAgg59
 z28:=Tryz.sizeOf59
 v28:=Tryz.zeroValue59
 t46:=Tryz.underlying189
 a46:=Tryz.isAgg189
 z46:=Tryz.sizeOf189
 v46:=Tryz.zeroValue189
 t51:=Tryz.underlying243
 a51:=Tryz.isAgg243
 z51:=Tryz.sizeOf243
 v51:=Tryz.zeroValue243
 t53:=Tryz.underlying245
 a53:=Tryz.isAgg245
 z53:=Tryz.sizeOf245
 v53:=Tryz.zeroValue245
 t131:=Tryz.underlying240
 a131:=Tryz.isAgg240
 z131:=Tryz.sizeOf240
 v131:=Tryz.zeroValue240
 t182:=Tryz.underlying234
 a182:=Tryz.isAgg234
 z182:=Tryz.sizeOf234
 v182:=Tryz.zeroValue234
 t183:=Tryz.underlying235
 a183:=Tryz.isAgg235
 z183:=Tryz.sizeOf235
 v183:=Tryz.zeroValue235
 t218:=Tryz.underlying256
 a218:=Tryz.isAgg256
 z218:=Tryz.sizeOf256
 v218:=Tryz.zeroValue256
 t222:=Tryz.underlying260
 a222:=Tryz.isAgg260
 z222:=Tryz.sizeOf260
 v222:=Tryz.zeroValue260
 t228:=Tryz.underlying270
 a228:=Tryz.isAgg270
 z228:=Tryz.sizeOf270
 v228:=Tryz.zeroValue270
 t229:=Tryz.underlying271
 a229:=Tryz.isAgg271
 z229:=Tryz.sizeOf271
 v229:=Tryz.zeroValue271 }
open Go.Sort Go.RowKit in
theorem Tryz.slices_Sort_int (blk off cap:Nat) (zs:List Int) (w:World) (hH:Holds (Value.int .i64) w blk off zs.toArray) (hblk:blk<w.heap.size) (hsz:zs.length<4611686018427387904) :
  Calls Tryz.prog 75 #[.slice (some ⟨blk,off,none⟩) zs.length cap] w fun e w' =>
   e=.returned (.tuple #[])∧∃ n os,w'=grow (putRow (Value.int .i64) (Sort.ahead w n) blk off (zs.mergeSort fun x y=>decide (x≤y)).toArray) os:=Any.slices_Sort_int Tryz.lays189 blk off cap zs w hH hblk hsz
def Tryz.laysNm220_ren:Go.Shelf.Ren:=⟨fun | 20=>76 | n=>n,fun | 22=>59 | 3=>3 | 4=>4 | 0=>0 | n=>n,fun | n=>n⟩
theorem Tryz.laysNm220:Go.Proofs.Lays2.n20 Tryz.prog Tryz.laysNm220_ren:={
 mixed:=by kernel_rfl
 f20:=Tryz.func76.trans (congrArg some (by kernel_rfl))
 t0:=Tryz.underlying0
 a0:=Tryz.isAgg0
 z0:=Tryz.sizeOf0
 v0:=Tryz.zeroValue0
 t3:=Tryz.underlying3
 a3:=Tryz.isAgg3
 z3:=Tryz.sizeOf3
 v3:=Tryz.zeroValue3
 t4:=Tryz.underlying4
 a4:=Tryz.isAgg4
 z4:=Tryz.sizeOf4
 v4:=Tryz.zeroValue4
 t22:=Tryz.underlying59
 a22:=Tryz.isAgg59
 z22:=Tryz.sizeOf59
 v22:=Tryz.zeroValue59
 i3:=by kernel_rfl }
open Go.RowKit Go.Lib Go.Sort in
theorem Tryz.slices_Compact_int (blk off cap:Nat) (zs:List Int) (w:World) (hH:Holds (Value.int .i64) w blk off zs.toArray) (hsz:zs.length≤9223372036854775807) (hcap:zs.length≤cap) :
  Calls Tryz.prog 76 #[.slice (some ⟨blk,off,none⟩) zs.length cap] w fun e w'=>e=.returned (.slice (some ⟨blk,off,none⟩) (Lib.compact zs).length cap)∧∃ q,w'=putRow (Value.int .i64) (Sort.ahead w q) blk off (Lib.compact zs ++ List.replicate (zs.length - (Lib.compact zs).length) 0).toArray:=Any.slices_Compact_int Tryz.laysNm220 blk off cap zs w hH hsz hcap
open Go.RowKit Go.Lib Go.Sort in
theorem Tryz.slices_Compact_int_empty (a:Option Addr) (cap:Nat) (w:World) :
  Calls Tryz.prog 76 #[.slice a 0 cap] w fun e w'=>e=.returned (.slice a 0 cap)∧w'=w:=Any.slices_Compact_int_empty Tryz.laysNm220 a cap w
open Go.RowKit Go.Sort in
theorem Tryz.slices_Sort_int_none (p:Option Addr) (cap:Nat) (w:World) :
  Calls Tryz.prog 75 #[.slice p 0 cap] w fun e w'=>e=.returned (.tuple #[])∧w'=w:=Any.slices_Sort_int_none Tryz.lays189 p cap w
end Go.Proofs
namespace Go.Proofs.YtcfggjmdcaoecaaGreatDoor
open Go Go.RowKit Md
theorem i_named1 (x:PFunc) (aP:Option Addr) (nP cP:Nat) (aB:Option Addr) (nB cB:Nat) (s:ByteArray) (b:Nat) (w:World) (hb:w.cell? ⟨b,0,none⟩=some (.string s)) :
  Calls Tryz.prog 119 #[.agg #[.string x.name,.slice aP nP cP,.slice aB nB cB],.pointer (some ⟨b,0,none⟩)] w (Gives (.bool (decide (x.name=s))) w):=by
 have hb1:=((Ext.refl w).alloc (.cells #[.string x.name,.slice aP nP cP,.slice aB nB cB] 83)).cell hb
 clear hb
 go_enter Tryz.func119,Tryz.ntmps119
 go_wp2
 go_ret
 exact Gives.bool str_eq ((Ext.refl w).alloc _)
set_option maxRecDepth 1000000 in
theorem i_IndexFn (K:Foot) (l:List PFunc) (v:Value) (s:ByteArray) (b:Nat) (w:World) (hv:SlFunc K w v l) (hb:w.cell? ⟨b,0,none⟩=some (.string s)) :
  Calls Tryz.prog 118 #[v,.func (.func 119) #[] #[.pointer (some ⟨b,0,none⟩)]] w (Gives (.int .i64 (findFrom l s 0)) w):=by
 obtain ⟨R,hR⟩:∃ R:Int,R=findFrom l s 0:=⟨_,rfl⟩
 rw [← hR]
 have HR:=Lib.hid hR
 have HB:=Lib.hid hb
 clear hR hb
 obtain ⟨a,len,cap,rfl,Hlen,hlc,hcm,hel⟩:=hv.op
 clear hv
 go_enter Tryz.func118,Tryz.ntmps118
 go_wp2
 go_loopw [8] (fun i wr=>∃ k:Nat,k≤len∧i=.int .i64 k∧Hid (R=findFrom (l.drop k) s k)∧Ext w wr) (fun i _=>len - (intOf i).toNat)
 case atStart=>exact ⟨0,Nat.zero_le _,rfl,HR.out,Ext.refl _⟩
 case round =>
  obtain ⟨k,hk,rfl,hA,hX⟩:=hrel
  by_cases hlt:k<len
  ·obtain ⟨bL,o,rfl,_,hel⟩:=hel (by omega)
   obtain ⟨x,cs,hx,_,hC,hcs⟩:=hel k hlt
   obtain ⟨vP,vB,rfl,hP,hB,_⟩:=hC
   obtain ⟨aP,nP,cP,rfl⟩:=hP.shape
   obtain ⟨aB,nB,cB,rfl⟩:=hB.shape
   have c0:=hX.cell (hcs.z rfl)
   have c1:=hX.cell (hcs 1 _ rfl)
   have c2:=hX.cell (hcs 2 _ rfl)
   have Hx:=Lib.hid (findFrom_drop (s:=s) hx)
   clear hel hcs hx hP hB
   have g0:(0:Int)≤(k:Int):=by omega
   have g1:(k:Int)<(len:Int):=by omega
   go_wp2_with fail
   refine (i_named1 x aP nP cP aB nB cB s b _ (hX.cell HB.out)).mono ?_
   rintro e w2 ⟨rfl,hX2⟩
   by_cases he:x.name=s
   ·have hq:decide (x.name=s)=true:=decide_eq_true he
    have HE:=Lib.hid he
    clear he
    rw [hq]
    go_wp2
    go_ret
    exact Gives.int (by rw [hA.out,Hx.out,if_pos HE.out]) (hX.trans hX2)
   ·have hq:decide (x.name=s)=false:=decide_eq_false he
    have HE:=Lib.hid he
    clear he
    rw [hq]
    go_wp2
    go_roundw
    case rel=>exact ⟨k+1,by omega,by go_num,by rw [hA.out,Hx.out,if_neg HE.out];exact rfl,hX.trans hX2⟩
    case measure=>simp [intOf];omega
  ·go_wp2
   go_ret
   exact Gives.int (by rw [hA.out,List.drop_eq_nil_of_le (by rw [Hlen.out];omega)];rfl) hX
theorem i_funcNamed (K:Foot) (t:PTree) (vG vF:Value) (s:ByteArray) (w:World) (hG:SlGlob K w vG t.globals) (hF:SlFunc K w vF t.funcs) :
  Calls Tryz.prog 74 #[.agg #[vG,vF],.string s] w (Gives (.int .i64 (findF t s)) w):=by
 obtain ⟨aG,nG,cG,rfl⟩:=hG.shape
 obtain ⟨aF,nF,cF,rfl⟩:=hF.shape
 have hE:Ext w ((w.alloc (.cells #[.slice aG nG cG,.slice aF nF cF] 32)).alloc (.cells #[.string s] 9)):=((Ext.refl w).alloc _).alloc _
 have HF:=Lib.hid (i_IndexFn K t.funcs _ s (w.heap.size+1) _ (hF.ext hE (fun _ _ h=>h.ext hE)) (((Blk.alloc2 w 32 9 #[.slice aG nG cG,.slice aF nF cF] #[.string s]).2.cell 0).trans rfl))
 have hmf:∀ (fn:Go.Fn) (first cap:Array Value) (w:World),(Instr.makeFunc fn first cap).run Tryz.prog w=.ok (.func fn first cap) w:=fun _ _ _ _=>rfl
 clear hG hF
 go_enter Tryz.func74,Tryz.ntmps74
 go_wp2_with fail
 refine HF.out.mono ?_
 rintro e w' ⟨rfl,hX⟩
 go_wp2
 go_ret
 exact Gives.int rfl (hE.trans hX)
open Go Go.RowKit Md
theorem info_node:(Tryz.prog.info? 104).map (fun i=>(i.zero,i.size,i.bytes))=some (some (.agg #[.int .i64 0,.int .i64 0,.string ⟨#[]⟩]),3,32):=by kernel_rfl
def Grew (w:World) (e:Ending) (w':World):Prop:=∃ v,e=.returned v∧w'.ownsRow w.heap.size 104 3 v 0 []∧Ext w w'
set_option maxRecDepth 1000000 in
theorem g_Grow (n:Nat) (m:Int) (hm:m=n) (w:World) (hn:n≤4194304) :
  Calls Tryz.prog 117 #[.slice none 0 0,.int .i64 m] w (Grew w):=by
 subst hm
 obtain ⟨i0,hi,hz0,hz1,hz2⟩:=info_parts info_node
 have b0:((n:Int)<0)=False:=by simp
 go_enter Tryz.func117,Tryz.ntmps117
 by_cases h0:0<n
 ·have g0:(0:Int)<(n:Int):=by omega
  obtain ⟨cp,hcp⟩:∃ cp,cp=grownCap w n 0 104:=⟨_,rfl⟩
  have hrun:=fun ty=>Lib.run_append_nil_zeros (P:=Tryz.prog) w 100 3 ty 104 i0 _ .i64 .i64 Tryz.underlying100 Tryz.underlying3 hi hz0 n h0 (by omega) (by omega) (by rw [hz2];omega)
  have HRun:=Lib.hid hrun
  clear hrun
  go_wp2_with (at_builtin;refine Lib.wpList_append_run _ rfl _ _ _ _ rfl _ _ rfl rfl _ _ (HRun.out _) ?_)
  have h1:=grownCap_ge w n 0 104
  have h2:=grownCap_le_maxLen w n 0 104 (by unfold maxLen;omega)
  go_ret
  refine ⟨_,rfl,⟨rfl,.inr ⟨w.heap.size,grownCap w n 0 104,_,rfl,Nat.le_refl _,heap_alloc_new w _,Nat.zero_le _,h2,?_,rfl⟩⟩,((Ext.refl w).alloc _).drew⟩
  rw [Array.size_append,size_zeroCells,size_zeroCells]
  show n*3+(_ - n)*3=_
  omega
 ·obtain rfl:n=0:=by omega
  clear h0
  go_wp2
  go_ret
  exact ⟨_,rfl,⟨rfl,.inl ⟨rfl,rfl⟩⟩,Ext.refl _⟩
def Joined (w:World) (l:List PNode) (e:Ending) (w':World):Prop:=∃ v,e=.returned v∧SlNode (New w) w' v l∧Ext w w'
set_option maxRecDepth 1000000 in
set_option maxHeartbeats 1000000 in
theorem g_Concat (K:Foot) (vE vF:Value) (le lf:List PNode) (g:Nat) (w:World) (hE:SlNode K w vE le) (hF:SlNode K w vF lf) (hg:Blk w g 100 #[vE,vF]) (he:le.length≤1048576) (hf:lf.length≤1048576) :
  Calls Tryz.prog 73 #[.slice (some ⟨g,0,none⟩) 2 2] w (Joined w (le ++ lf)):=by
 obtain ⟨i0,hi,hz0,hz1,hz2⟩:=info_parts info_node
 obtain ⟨aE,nE,cE,rfl,HlE,hlcE,hcmE,_⟩:=hE.op
 obtain ⟨aF,nF,cF,rfl,HlF,hlcF,hcmF,_⟩:=hF.op
 have HE:=Lib.hid hE
 have HF:=Lib.hid hF
 have HG:=Lib.hid hg
 have hnE:nE≤1048576:=by have:=HlE.out;omega
 have hnF:nF≤1048576:=by have:=HlF.out;omega
 have c0:w.cell? ⟨g,0,none⟩=some (.slice aE nE cE):=(hg.cell 0).trans rfl
 have c1:w.cell? ⟨g,1,none⟩=some (.slice aF nF cF):=(hg.cell 1).trans rfl
 clear hE hF hg he hf
 go_enter Tryz.func73,Tryz.ntmps73
 go_wp2
 go_loop [3,11] (fun s i=>(i=.int .i64 0∧s=.int .i64 0)∨(i=.int .i64 1∧s=.int .i64 nE)∨(i=.int .i64 2∧s=.int .i64 ((nE:Int)+(nF:Int)))) (fun _ i=>2 - (intOf i).toNat)
 case atStart=>exact .inl ⟨rfl,rfl⟩
 case round =>
  rcases hrel with ⟨rfl,rfl⟩ | ⟨rfl,rfl⟩ | ⟨rfl,rfl⟩
  ·go_wp2
   go_round
   case rel=>exact .inr (.inl ⟨by go_num,by go_num⟩)
   case measure=>simp [intOf]
  ·go_wp2
   go_round
   case rel=>exact .inr (.inr ⟨by go_num,by go_num⟩)
   case measure=>simp [intOf]
  ·have hsum:(nE:Int)+(nF:Int)=((nE+nF:Nat):Int):=by omega
   have HSum:=Lib.hid hsum
   clear hsum
   go_wp2_with fail
   refine (g_Grow (nE+nF) _ HSum.out _ (by omega)).mono ?_
   rintro e w1 ⟨v,rfl,hO,hX⟩
   have hE0:=HE.out.ext hX (fun _ _ h=>h.any)
   have hF0:=HF.out.ext hX (fun _ _ h=>h.any)
   have HO:=Lib.hid hO
   have HX:=Lib.hid hX
   clear hO hX c0 c1 HSum
   have HA:Hid (∀ (wr:World) (v vx:Value) (n:Nat) (xs ys:List PNode),w.heap.size≤wr.heap.size→wr.ownsRow w.heap.size 104 3 v n (xs.flatMap encNode)→SlNode K wr vx ys→n≤1048576→ys.length≤1048576 →
     ∃ v' w',(Builtin.append_ #[100,100] 100 #[v,vx]).run Tryz.prog wr=.ok v' w'∧w'.ownsRow w.heap.size 104 3 v' (n+ys.length) ((xs ++ ys).flatMap encNode)∧wr.grownBy w' v.ownBlock):=by
    intro wr v vx n xs ys hw ho hs h1 h2
    obtain ⟨v',w',r1,r2,r3,_⟩:=run_appN (P:=Tryz.prog) CNode (fun _ _ _ h=>h.1) encNode_len (by decide) encNode_one K wr w.heap.size Tryz.underlying100 hi hz0 hz1 hz2 rfl v n xs ho vx ys hs (by omega) (by omega) hw 100
    exact ⟨v',w',r1,r2,r3⟩
   go_wp2
   go_loopw [6,27] (fun v i wr=>∃ n l,Hid (wr.ownsRow w.heap.size 104 3 v n (l.flatMap encNode))∧Hid (Ext w wr)∧((i=.int .i64 0∧Hid (n=0∧l=[]))∨(i=.int .i64 1∧Hid (n=nE∧l=le))∨(i=.int .i64 2∧Hid (l=le ++ lf)))) (fun _ i _=>2 - (intOf i).toNat)
   case atStart=>exact ⟨0,[],HO.out,HX.out,.inl ⟨rfl,⟨rfl,rfl⟩⟩⟩
   case round =>
    obtain ⟨n,l,HO,HX,hrel⟩:=hrel
    have d0:wr.cell? ⟨g,0,none⟩=some (.slice aE nE cE):=HX.out.cell ((HG.out.cell 0).trans rfl)
    have d1:wr.cell? ⟨g,1,none⟩=some (.slice aF nF cF):=HX.out.cell ((HG.out.cell 1).trans rfl)
    obtain ⟨av,cv,rfl⟩:=own_shape HO.out
    rcases hrel with ⟨rfl,hn⟩ | ⟨rfl,hn⟩ | ⟨rfl,hn⟩
    ·obtain ⟨v',w',r1,r2,r3⟩:=HA.out wr _ _ n l le HX.out.size HO.out (HE.out.ext HX.out (fun _ _ h=>h.any)) (by have:=hn.out.1;omega) (by have:=HlE.out;omega)
     have HR1:=Lib.hid r1
     have hX':=Below.grown HX.out r3 HX.out.size (fun k hk=>by
      rcases HO.out.2 with ⟨e,_⟩ | ⟨g',_,_,e,hg',_⟩
      ·rw [e] at hk;cases hk
      ·rw [e] at hk;cases hk;exact hg')
     have HX':=Lib.hid hX'
     have HO':=Lib.hid r2
     clear r1 r2 r3 hX'
     go_wp2_with (at_builtin;refine Lib.wpList_append_run _ rfl _ _ _ _ rfl _ _ rfl rfl _ _ HR1.out ?_)
     go_roundw
     case rel=>exact ⟨n+le.length,l ++ le,HO'.out,HX'.out,.inr (.inl ⟨by go_num,⟨by rw [hn.out.1,HlE.out,Nat.zero_add],by rw [hn.out.2];rfl⟩⟩)⟩
     case measure=>simp [intOf]
    ·obtain ⟨v',w',r1,r2,r3⟩:=HA.out wr _ _ n l lf HX.out.size HO.out (HF.out.ext HX.out (fun _ _ h=>h.any)) (by have:=hn.out.1;omega) (by have:=HlF.out;omega)
     have HR1:=Lib.hid r1
     have hX':=Below.grown HX.out r3 HX.out.size (fun k hk=>by
      rcases HO.out.2 with ⟨e,_⟩ | ⟨g',_,_,e,hg',_⟩
      ·rw [e] at hk;cases hk
      ·rw [e] at hk;cases hk;exact hg')
     have HX':=Lib.hid hX'
     have HO':=Lib.hid r2
     clear r1 r2 r3 hX'
     go_wp2_with (at_builtin;refine Lib.wpList_append_run _ rfl _ _ _ _ rfl _ _ rfl rfl _ _ HR1.out ?_)
     go_roundw
     case rel=>exact ⟨n+lf.length,l ++ lf,HO'.out,HX'.out,.inr (.inr ⟨by go_num,by show _=_;rw [hn.out.2]⟩)⟩
     case measure=>simp [intOf]
    ·go_wp2
     go_ret
     refine ⟨_,rfl,sl_ownN encNode_len (by decide) (hn.out ▸ HO.out) (fun _ h=>h) (fun x hx=>?_),HX.out⟩
     rcases List.mem_append.1 hx with hx | hx
     ·obtain ⟨cs,hC⟩:=Sl.mem HE.out x hx
      exact ⟨rfl,hC.2⟩
     ·obtain ⟨cs,hC⟩:=Sl.mem HF.out x hx
      exact ⟨rfl,hC.2⟩
open Go Go.RowKit Md
theorem info_int:(Tryz.prog.info? 3).map (fun i=>(i.zero,i.size,i.bytes))=some (some (.int .i64 0),1,8):=by kernel_rfl
def Sorted (w:World) (base:Nat) (v:Value) (n:Nat) (zs:List Int) (e:Ending) (w':World):Prop:=e=.returned (.tuple #[])∧w'.ownsRow base 3 1 v n (zs.map (Value.int .i64))∧w.grownBy w' v.ownBlock
theorem g_Sort (base:Nat) (v:Value) (n:Nat) (zs:List Int) (w:World) (h:w.ownsRow base 3 1 v n (zs.map (Value.int .i64))) (hl:zs.length≤1048576) :
  Calls Tryz.prog 75 #[v] w (Sorted w base v n (zs.mergeSort fun x y=>decide (x≤y))):=by
 obtain rfl:zs.length=n:=by have:=h.1;simpa using this
 have hlen:(zs.mergeSort fun x y=>decide (x≤y)).length=zs.length:=List.length_mergeSort _
 rcases h.2 with ⟨rfl,h0⟩ | ⟨g,cap,cur,rfl,hb,hh,h1,h2,h3,h4⟩
 ·obtain rfl:zs=[]:=List.eq_nil_of_length_eq_zero h0
  refine (Tryz.slices_Sort_int_none none 0 w).mono ?_
  rintro e w' ⟨rfl,rfl⟩
  exact ⟨rfl,by simpa using h,⟨rfl,rfl,rfl,Nat.le_refl _,fun _ _ _=>rfl⟩⟩
 ·refine (Tryz.slices_Sort_int g 0 cap zs w (holds_of_blockI hh (by simpa using h4)) (Array.getElem?_eq_some_iff.1 hh).1 (by omega)).mono ?_
  rintro e w' ⟨rfl,n,os,rfl⟩
  refine ⟨rfl,?_,grownBy_sortedI _⟩
  exact ownsRow_sortedI hlen hb hh h1 h2 h3
def Compacted (w:World) (base:Nat) (v:Value) (zs:List Int) (e:Ending) (w':World):Prop:=∃ v',e=.returned v'∧w'.ownsRow base 3 1 v' zs.length (zs.map (Value.int .i64))∧w.grownBy w' v.ownBlock
theorem g_Compact (base:Nat) (v:Value) (n:Nat) (zs:List Int) (w:World) (h:w.ownsRow base 3 1 v n (zs.map (Value.int .i64))) (hl:zs.length≤1048576) :
  Calls Tryz.prog 76 #[v] w (Compacted w base v (Lib.compact zs)):=by
 obtain rfl:zs.length=n:=by have:=h.1;simpa using this
 rcases Nat.eq_zero_or_pos zs.length with h0 | hp
 ·obtain rfl:zs=[]:=List.eq_nil_of_length_eq_zero h0
  obtain ⟨a,c,rfl⟩:=own_shape h
  refine (Tryz.slices_Compact_int_empty a c w).mono ?_
  rintro e w' ⟨rfl,rfl⟩
  exact ⟨_,rfl,h,⟨rfl,rfl,rfl,Nat.le_refl _,fun _ _ _=>rfl⟩⟩
 ·obtain ⟨g,cap,rfl,hb,hlt,h1,h2,_,hH⟩:=Lib.holds_of_ownsRow (enc:=Value.int .i64) h (by
   rintro rfl
   rcases h.2 with ⟨_,e⟩ | ⟨g,cap,cur,e,_⟩
   ·omega
   ·cases e)
  refine (Tryz.slices_Compact_int g 0 cap zs w hH (by omega) h1).mono ?_
  rintro e w' ⟨rfl,q,rfl⟩
  have hcl:(Lib.compact zs).length≤zs.length:=by
   unfold Lib.compact Lib.compactUpTo
   rw [List.length_map]
   exact Nat.le_trans (List.length_filter_le _ _) (by simp)
  refine ⟨_,rfl,?_,?_⟩
  ·have:=Lib.ownsRow_putRow (enc:=Value.int .i64) (q:=q) (k:=(Lib.compact zs).length) (ys:=Lib.compact zs ++ List.replicate (zs.length - (Lib.compact zs).length) 0) h (by simp;omega) hcl
   rw [List.take_left] at this
   exact this
  ·have:=grownBy_sortedI (w:=w) (g:=g) (n:=q) (os:=#[]) (Lib.compact zs ++ List.replicate (zs.length - (Lib.compact zs).length) 0).toArray
   rw [Sort.grow_empty] at this
   exact this
theorem own_below' {w w':World} {base e sz n:Nat} {v:Value} {xs:List Value} (h:w.ownsRow base e sz v n xs) (k:Ext w w'):w'.ownsRow base e sz v n xs:=by
 obtain ⟨h1,h2⟩:=h
 refine ⟨h1,?_⟩
 rcases h2 with h2 | ⟨g,cap,cur,rfl,hg,hh,r⟩
 ·exact .inl h2
 ·exact .inr ⟨g,cap,cur,rfl,hg,(k.block g (Array.getElem?_eq_some_iff.1 hh).1).trans hh,r⟩
def Listed (w:World) (l:List Int) (e:Ending) (w':World):Prop:=∃ v,e=.returned v∧w'.ownsRow w.heap.size 3 1 v l.length (l.map (Value.int .i64))∧Ext w w'
theorem outL_take {t:PTree} {l:List PStmt} {k:Nat} {x:PStmt} (h:l[k]? = some x):outL t (l.take (k+1))=outL t (l.take k) ++ outS t x:=by
 rw [take_snoc h];simp [outL]
theorem outS_take {t:PTree} {l:List PNode} {k:Nat} {x:PNode} (h:l[k]? = some x):(l.take (k+1)).filterMap (callN t)=(l.take k).filterMap (callN t) ++ (callN t x).toList:=by
 rw [take_snoc h,List.filterMap_append]
 congr 1
theorem own_grown_ext {w wr w':World} {E sz n:Nat} {v:Value} {xs:List Value} (hX:Ext w wr) (ho:wr.ownsRow w.heap.size E sz v n xs) (hg:wr.grownBy w' v.ownBlock):Ext w w' :=
 Below.grown hX hg hX.size (fun k hk=>(own_block ho k hk).1)
set_option maxRecDepth 1000000 in
set_option maxHeartbeats 4000000 in
theorem i_calls (K:Foot) (t:PTree) (fs:List Fn) (pu:Value) (i:Nat) (ii:Int) (hii:ii=i) (f:PFunc) (w:World) (hu:UnitAt K w pu t fs) (hf:t.funcs[i]? = some f) (hn:t.funcs.length≤1000) (hb:f.body.length≤1000) (hs:∀ s∈f.body,s.e.length+s.f.length≤4000) (hsum:(outL t f.body).length≤1000000) :
  Calls Tryz.prog 39 #[pu,.int .i64 ii] w (Listed w (callsL t f.body)):=by
 subst hii
 obtain ⟨ub,vG,vF,vfs,ps,rfl,_,hcu,hG,hF,_,_⟩:=hu
 obtain ⟨aG,nG,cG,rfl⟩:=hG.shape
 have HG:=Lib.hid hG
 have HF:=Lib.hid hF
 obtain ⟨aF,nF,cF,rfl,HlF,hlcF,hcmF,helF⟩:=hF.op
 have hiF:i<nF:=by have:=HlF.out;have:=(List.getElem?_eq_some_iff.1 hf).1;omega
 obtain ⟨bF,oF,rfl,_,helF⟩:=helF (by omega)
 obtain ⟨f',csF,hf',_,hCF,hcsF⟩:=helF i hiF
 obtain rfl:f=f':=Option.some.inj (hf.symm.trans hf')
 obtain ⟨vP,vB,rfl,_,hB,_⟩:=hCF
 obtain ⟨aB,nB,cB,rfl,HlB,hlcB,hcmB,helB⟩:=hB.op
 have e2:=hcsF 2 _ rfl
 have u0:=hcu 0 _ rfl
 have u1:=hcu 1 _ rfl
 have hnF:nF≤1000:=by have:=HlF.out;omega
 have hnB:nB≤1000:=by have:=HlB.out;omega
 obtain ⟨i0,hi0,hz0,hz1,hz2⟩:=info_parts info_int
 have HSz:=Lib.hid hs
 have HSum:=Lib.hid hsum
 have HU0:=Lib.hid u0
 have HU1:=Lib.hid u1
 have HApp:Hid (∀ (wr:World) (v vx:Value) (n:Nat) (xs ys:List Int),w.heap.size≤wr.heap.size→wr.ownsRow w.heap.size 3 1 v n (xs.map (Value.int .i64))→Sl AnyB wr 1 (fun _ cs (x:Int)=>cs=[Value.int .i64 x]) vx ys→xs.length+ys.length≤2000000 →
   ∃ v' w',(Builtin.append_ #[59,59] 59 #[v,vx]).run Tryz.prog wr=.ok v' w'∧w'.ownsRow w.heap.size 3 1 v' (n+ys.length) ((xs ++ ys).map (Value.int .i64))∧wr.grownBy w' v.ownBlock∧(v'.ownBlock=v.ownBlock∨v'.ownBlock=some wr.heap.size)):=by
  intro wr v vx n xs ys hw ho hsl hle
  obtain rfl:xs.length=n:=by have:=ho.1;simpa using this
  obtain ⟨v',w',r1,r2,r3,r4⟩:=run_app (P:=Tryz.prog) (Value.int .i64) _ (fun _ _ _ h=>h) (fun _=>rfl) AnyB wr w.heap.size Tryz.underlying59 hi0 hz0 hz1 hz2 rfl v (xs.map (Value.int .i64)) (by simpa using ho) vx ys hsl (by simp;omega) (by simp;omega) hw 59
  exact ⟨v',w',r1,by rw [List.map_append];simpa using r2,r3,r4⟩
 clear hG hF hf hf' hcsF hcu helF hB hs hsum hn hb HlF
 have g8:(0:Int)≤(i:Int):=by omega
 have g9:(i:Int)<(nF:Int):=by omega
 go_enter Tryz.func39,Tryz.ntmps39
 go_wp2
 go_loopw [5,21] (fun v j wr=>∃ k n:Nat,k≤nB∧j=.int .i64 k∧Hid (wr.ownsRow w.heap.size 3 1 v n ((outL t (f.body.take k)).map (Value.int .i64)))∧Hid (Ext w wr)) (fun _ j _=>nB - (intOf j).toNat)
 case atStart=>exact ⟨0,0,Nat.zero_le _,rfl,World.ownsRow_nil w _ _ _,Ext.refl _⟩
 case round =>
  obtain ⟨k,no,hk,rfl,HO,HX⟩:=hrel
  obtain ⟨av,cv,rfl⟩:=own_shape HO.out
  by_cases hlt:k<nB
  ·obtain ⟨bB,oB,rfl,_,helB⟩:=helB (by omega)
   obtain ⟨x,cs,hx,_,hC,hcs⟩:=helB k hlt
   obtain ⟨vE,vF,rfl,sE,sF,q1,q2,q3,q4⟩:=hC
   have c0:=HX.out.cell (hcs.z rfl)
   have c1:=HX.out.cell (hcs 1 _ rfl)
   have c2:=HX.out.cell (hcs 2 _ rfl)
   have c3:=HX.out.cell (hcs 3 _ rfl)
   have c4:=HX.out.cell (hcs 4 _ rfl)
   have c5:=HX.out.cell (hcs 5 _ rfl)
   have Hx:=Lib.hid (outL_take (t:=t) hx)
   have Hxz:=Lib.hid (HSz.out x (List.mem_of_getElem? hx))
   have Hpre:Hid ((outL t (f.body.take (k+1))).length≤(outL t f.body).length):=by
    show _≤_
    have:=congrArg (fun l=>(outL t l).length) (List.take_append_drop (k+1) f.body)
    simp only [outL,List.flatMap_append,List.length_append] at this ⊢
    omega
   obtain ⟨aE,nE,cE,rfl⟩:=sE.shape
   obtain ⟨aFF,nFF,cFF,rfl⟩:=sF.shape
   obtain ⟨kind,name,xe,xf,thn,els⟩:=x
   simp only at c0 c1 c2 c3 c4 c5 Hx Hxz sE sF
   have BB:=Blk.alloc2 wr 102 100 #[.int .i64 kind,.string name,.slice aE nE cE,.slice aFF nFF cFF,.int .i64 thn,.int .i64 els] #[.slice aE nE cE,.slice aFF nFF cFF]
   have X2:Ext w ((wr.alloc (.cells #[.int .i64 kind,.string name,.slice aE nE cE,.slice aFF nFF cFF,.int .i64 thn,.int .i64 els] 102)).alloc (.cells #[.slice aE nE cE,.slice aFF nFF cFF] 100)):=(HX.out.alloc _).alloc _
   have HCc:=Lib.hid (g_Concat K _ _ xe xf (wr.heap.size+1) _ (sE.ext X2 (fun _ _ h=>h.any)) (sF.ext X2 (fun _ _ h=>h.any)) BB.2 (by have:=Hxz.out;omega) (by have:=Hxz.out;omega))
   have HO2:=Lib.hid ((HO.out.alloc (.cells #[.int .i64 kind,.string name,.slice aE nE cE,.slice aFF nFF cFF,.int .i64 thn,.int .i64 els] 102)).alloc (.cells #[.slice aE nE cE,.slice aFF nFF cFF] 100))
   have HOB:=Lib.hid (own_block HO.out)
   have hsz2:((wr.alloc (.cells #[.int .i64 kind,.string name,.slice aE nE cE,.slice aFF nFF cFF,.int .i64 thn,.int .i64 els] 102)).alloc (.cells #[.slice aE nE cE,.slice aFF nFF cFF] 100)).heap.size=wr.heap.size+2:=by simp
   have HSZ2:=Lib.hid hsz2
   have HX2:=Lib.hid X2
   clear hx hcs helB sE sF BB X2 hsz2
   have g0:(0:Int)≤(k:Int):=by omega
   have g1:(k:Int)<(nB:Int):=by omega
   go_wp2_with fail
   refine HCc.out.mono ?_
   rintro e w2 ⟨vC,rfl,hC,hX2⟩
   have HX3:=Lib.hid (HX2.out.trans hX2)
   have HO3:=Lib.hid (own_below' HO2.out hX2)
   have HCN:Hid (SlNode (fun b=>some b≠(Value.slice av no cv).ownBlock) w2 vC (xe ++ xf)):=Sl.keep hC (Keep.refl _ _) (fun _ _ _ h=>h) (fun b hb e=>by
    have:=HOB.out b e.symm
    have h2:=HSZ2.out
    unfold New at hb
    omega)
   obtain ⟨aC,nC,cC,rfl,HlC,hlcC,hcmC,_⟩:=hC.op
   clear hC hX2 HO2 HO HCc HX2 c0 c1 c2 c3 c4 c5
   have hnC:nC≤4000:=by have:=HlC.out;have:=Hxz.out;rw [List.length_append] at *;omega
   go_wp2_with fail
   go_loopw [5,32] (fun v j wi=>∃ q n:Nat,q≤nC∧j=.int .i64 q∧Hid (wi.ownsRow w.heap.size 3 1 v n ((outL t (f.body.take k) ++ ((xe ++ xf).take q).filterMap (callN t)).map (Value.int .i64))) ∧
    Hid (SlNode (fun b=>some b≠v.ownBlock) wi (.slice aC nC cC) (xe ++ xf))∧Hid (Ext w wi)) (fun _ j _=>nC - (intOf j).toNat)
   case atStart=>exact ⟨0,no,Nat.zero_le _,rfl,by rw [List.take_zero,List.filterMap_nil,List.append_nil];exact HO3.out,HCN.out,HX3.out⟩
   case round =>
    clear HO3 HCN HX3
    obtain ⟨q,nq,hq,rfl,HO,HCN,HX⟩:=hrel
    obtain ⟨av,cv,rfl⟩:=own_shape HO.out
    by_cases hqt:q<nC
    ·obtain ⟨aC',nC',cC',eC,_,_,_,helC⟩:=HCN.out.op
     cases eC
     obtain ⟨bC,oC,rfl,_,helC⟩:=helC (by omega)
     obtain ⟨y,csy,hy,_,hCy,hcsy⟩:=helC q hqt
     obtain ⟨rfl,_,_,hny⟩:=hCy
     have c0:=hcsy.z rfl
     have c1:=hcsy 1 _ rfl
     have c2:=hcsy 2 _ rfl
     have Hy:=Lib.hid (outS_take (t:=t) hy)
     obtain ⟨yk,yv,yn⟩:=y
     simp only at c0 c1 c2 Hy hny
     have hlenq:((xe ++ xf).take (q+1)).filterMap (callN t)=((xe ++ xf).take q).filterMap (callN t) ++ (callN t ⟨yk,yv,yn⟩).toList:=Hy.out
     have hbnd:(outL t (f.body.take k) ++ ((xe ++ xf).take q).filterMap (callN t)).length≤1000000:=by
      have h1:=Hpre.out
      rw [Hx.out] at h1
      have h2:(((xe ++ xf).take q).filterMap (callN t)).length≤(outS t ⟨kind,name,xe,xf,thn,els⟩).length:=by
       have:=congrArg (fun l=>(l.filterMap (callN t)).length) (List.take_append_drop q (xe ++ xf))
       simp only [List.filterMap_append,List.length_append] at this
       show _≤((xe ++ xf).filterMap (callN t)).length
       simp only [List.filterMap_append,List.length_append]
       omega
      have h3:=HSum.out
      simp only [List.length_append] at h1 ⊢
      omega
     have HBnd:=Lib.hid hbnd
     have BX:=Blk.alloc wr 104 #[.int .i64 yk,.int .i64 yv,.string yn]
     have hX1:Ext wr (wr.alloc (.cells #[.int .i64 yk,.int .i64 yv,.string yn] 104)):=(Ext.refl wr).alloc _
     have HX1:=Lib.hid hX1
     have HO1:=Lib.hid (own_below' HO.out hX1)
     have HCN1:=Lib.hid (HCN.out.ext hX1 (fun _ _ h=>h.any))
     have HB1:=Lib.hid BX
     have HOB:=Lib.hid (own_block HO.out)
     clear hy hcsy helC hlenq hbnd hX1 BX
     have g2:(0:Int)≤(q:Int):=by omega
     have g3:(q:Int)<(nC:Int):=by omega
     by_cases h4:yk=4
     ·subst h4
      have d2:(wr.alloc (.cells #[.int .i64 4,.int .i64 yv,.string yn] 104)).cell? ⟨wr.heap.size,2,none⟩=some (.string yn):=(HB1.out.cell 2).trans rfl
      have u0:=(HX.out.trans HX1.out).cell HU0.out
      have u1:=(HX.out.trans HX1.out).cell HU1.out
      go_wp2_with fail
      go_region_held3 (fun w'=>w'.cell? ⟨ub,0,none⟩=some (.slice aG nG cG)∧w'.cell? ⟨ub,1,none⟩=some (.slice (some ⟨bF,oF,none⟩) nF cF)∧w'.cell? ⟨wr.heap.size,2,none⟩=some (.string yn))
       (first | go_keep | (refine ⟨hX3.cell ?_,hX3.cell ?_,hX3.cell ?_⟩<;>simp [*]))
       (first
        | (go_at_call 74;(refine (i_funcNamed K t _ _ yn _ (HG.out.ext ((HX.out.trans HX1.out).trans ((Ext.refl _).drew)) (fun _ _ h=>h.any)) (HF.out.ext ((HX.out.trans HX1.out).trans ((Ext.refl _).drew)) (fun _ _ h=>h.ext ((HX.out.trans HX1.out).trans ((Ext.refl _).drew))))).mono ?_);rintro e3 w3 ⟨rfl,hX3⟩))
      have hX13:Ext wr w3:=HX1.out.trans (((Ext.refl _).drew).trans hX3)
      have HX13:=Lib.hid hX13
      have HO3:=Lib.hid (own_below' HO.out hX13)
      have HCN3:=Lib.hid (HCN.out.ext hX13 (fun _ _ h=>h.any))
      have hr:=findF_range t yn
      have hcn:callN t ⟨4,yv,yn⟩=if 0≤findF t yn then some (findF t yn) else none:=by simp [callN]
      rw [hcn] at Hy
      clear hX13 hX3 hcn HX1 HO1 HCN1 HB1 d2 u0 u1 c0 c1 c2
      generalize findF t yn=u at hr Hy
      rcases hr with rfl | ⟨u0,u1,_⟩
      ·go_wp2
       go_roundw
       case rel=>exact ⟨q+1,nq,by omega,by go_num,by rw [Hy.out];show World.ownsRow _ _ _ _ _ _ _;rw [show (if (0:Int)≤-1 then some (-1:Int) else none).toList=[] from rfl,List.append_nil];exact HO3.out,HCN3.out,HX.out.trans HX13.out⟩
       case measure=>simp [intOf];omega
      ·have Hy2:Hid (((xe ++ xf).take (q+1)).filterMap (callN t)=((xe ++ xf).take q).filterMap (callN t) ++ [u]):=by
        show _=_
        rw [Hy.out,if_pos u0];rfl
       have hX4:Ext w3 (w3.alloc (.cells #[.int .i64 u] 3)):=(Ext.refl w3).alloc _
       obtain ⟨v',w',r1,r2,r3,r4⟩:=HApp.out (w3.alloc (.cells #[.int .i64 u] 3)) _ (.slice (some ⟨w3.heap.size,0,none⟩) 1 1) nq _ [u] ((HX.out.trans (HX13.out.trans hX4)).size) (own_below' HO3.out hX4)
        ⟨some ⟨w3.heap.size,0,none⟩,1,rfl,Nat.le_refl _,by simp [maxLen],fun _=>⟨w3.heap.size,0,rfl,trivial,fun i hi=>by
         have h0:i=0:=by simp at hi;omega
         subst h0
         exact ⟨[.int .i64 u],rfl,rfl,fun p z hz=>by
          have hp0:p=0:=by
           have:=(List.getElem?_eq_some_iff.1 hz).1
           simp at this
           omega
          subst hp0
          simp at hz
          subst hz
          exact ((Blk.alloc w3 3 #[.int .i64 u]).cell 0).trans rfl⟩⟩⟩ (by have:=HBnd.out;simp only [List.length_cons,List.length_nil];omega)
       have HR1:=Lib.hid r1
       have HO5:=Lib.hid r2
       have HX5:=Lib.hid (own_grown_ext (HX.out.trans (HX13.out.trans hX4)) (own_below' HO3.out hX4) r3)
       have hK:SlNode (fun b=>some b≠v'.ownBlock) w' (.slice (some ⟨bC,oC,none⟩) nC cC) (xe ++ xf):=Sl.keep (Sl.ext (Sl.bound HCN3.out (by decide)) hX4 (fun _ _ h=>h.any)) (keep_of_grown r3 (fun b hb _=>hb.1)) (fun _ _ _ h=>h.any) (fun b hb=>by
        rcases r4 with r4 | r4
        ·rw [r4];exact hb.1
        ·rw [r4]
         intro e
         cases e
         exact absurd hb.2 (Nat.not_lt.2 hX4.size))
       have HK:=Lib.hid hK
       clear r1 r2 r3 r4 hX4 hK
       go_wp2_with (at_builtin;refine Lib.wpList_append_run _ rfl _ _ _ _ rfl _ _ rfl rfl _ _ HR1.out ?_)
       go_roundw
       case rel=>exact ⟨q+1,nq+1,by omega,by go_num,by rw [Hy2.out,← List.append_assoc];exact HO5.out,HK.out,HX5.out⟩
       case measure=>simp [intOf];omega
     ·have b4:(yk == 4)=false:=by simpa using h4
      have hcn:callN t ⟨yk,yv,yn⟩=none:=by simp [callN,h4]
      rw [hcn] at Hy
      clear h4 hcn
      go_wp2
      go_roundw
      case rel=>exact ⟨q+1,nq,by omega,by go_num,by rw [Hy.out,Option.toList_none,List.append_nil];exact HO1.out,HCN1.out,HX.out.trans HX1.out⟩
      case measure=>simp [intOf];omega
    ·have hqe:(xe ++ xf).take q=xe ++ xf:=List.take_of_length_le (by rw [HlC.out];omega)
     have HO2:=HO.out
     rw [hqe] at HO2
     have hl:(outL t (f.body.take k) ++ ((xe ++ xf).take q).filterMap (callN t))=outL t (f.body.take (k+1)):=by rw [hqe,Hx.out];rfl
     have HL:=Lib.hid hl
     clear hqe HO2 hl
     go_wp2
     go_roundw
     case rel=>exact ⟨k+1,nq,by omega,by go_num,by rw [← HL.out];exact HO.out,HX.out⟩
     case measure=>simp [intOf];omega
  ·have hke:f.body.take k=f.body:=List.take_of_length_le (by have:=HlB.out;omega)
   have HO2:=HO.out
   rw [hke] at HO2
   have HO2:=Lib.hid HO2
   have HS:=Lib.hid (g_Sort w.heap.size _ no (outL t f.body) wr HO2.out (by have:=HSum.out;omega))
   clear hke
   go_wp2_with fail
   refine HS.out.mono ?_
   rintro e w2 ⟨rfl,ho2,hg2⟩
   have hX2:=own_grown_ext HX.out HO.out hg2
   have HO3:=Lib.hid ho2
   have HX2:=Lib.hid hX2
   clear ho2 hg2 hX2
   have HC:=Lib.hid (g_Compact w.heap.size _ no ((outL t f.body).mergeSort fun x y=>decide (x≤y)) w2 HO3.out (by rw [List.length_mergeSort];have:=HSum.out;omega))
   rw [calls_eq] at HC
   go_wp2_with fail
   refine HC.out.mono ?_
   rintro e w3 ⟨v3,rfl,ho3,hg3⟩
   have HX3:=Lib.hid (own_grown_ext HX2.out HO3.out hg3)
   have HO4:=Lib.hid ho3
   clear ho3 hg3
   go_wp2
   go_ret
   exact ⟨_,rfl,HO4.out,HX3.out⟩
end Go.Proofs.YtcfggjmdcaoecaaGreatDoor
