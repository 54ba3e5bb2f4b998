/- A part of the proofs of FnBound and FnCheck: the lemmas and walks ImplCC. -/
import Derived.Test.YtcfggjmdcaoecaaGreatDoorProg
import Derived.LaidEql
import Derived.Laws.IdiomCopy
import Derived.Stop.Asserts
import Derived.RowKitTokens
import Derived.Test.YtcfggjmdcaoecaaGreatDoorB03
import Derived.Test.YtcfggjmdcaoecaaGreatDoorB21
import Derived.Test.YtcfggjmdcaoecaaGreatDoorB18
set_option linter.unusedVariables false
set_option linter.unusedSimpArgs false
namespace Go.Proofs.YtcfggjmdcaoecaaGreatDoor
open Go Go.RowKit Go.Extern.Stop Go.Stop Go.Extern
theorem as_nil (v:Value) (w:World):Calls Tryz.prog 49 #[.nilIface,v] w (Same (.bool false) w):=by
 go_enter Tryz.func49,Tryz.ntmps49
 go_wp2
 go_ret
 exact ⟨rfl,rfl⟩
theorem valueOfP (t:Addr) (w:World):(ReflectliteValue.unpack (.iface 74 (.pointer (some t)))).run Tryz.prog w
  = .ok (.agg #[.pointer (some ⟨2,74,none⟩),.pointer (some ⟨w.heap.size,0,none⟩),.int .u64 150]) (w.alloc (.cells #[.pointer (some t)] 74)):=by kernel_rfl
theorem typeP (a:Addr) (w:World):(ReflectliteValue.methodAny (ReflectliteValue.valueError "reflectlite.Value.Type" 0) (fun t _ _ _=>ReflectliteType.toType t) #[.agg #[.pointer (some ⟨2,74,none⟩),.pointer (some a),.int .u64 150]]).run Tryz.prog w
  = .ok (.iface 196 (.agg #[.pointer (some ⟨2,74,none⟩)])) w:=by kernel_rfl
theorem methodKind (h:Value) (w:World):(Go.method 403 196 (.agg #[h]) "Kind").run Tryz.prog w=.ok (199,h) w:=by kernel_rfl
theorem kindP (w:World):((ReflectliteType.abiMethod fun t=>(fun a:Nat=>Value.int IntKind.u8 (a:Int)) <$> Rtype.kind t) #[.pointer (some ⟨2,74,none⟩)]).run Tryz.prog w=.ok (.int .u8 22) w:=by kernel_rfl
theorem kindC (w:World):((ReflectliteType.abiMethod fun t=>(fun a:Nat=>Value.int IntKind.u8 (a:Int)) <$> Rtype.kind t) #[.pointer (some ⟨2,69,none⟩)]).run Tryz.prog w=.ok (.int .u8 25) w:=by kernel_rfl
theorem rlm (z:Sem Value) (f:TypeId→Addr→Nat→Nat→Sem Value) (v:Value) :
  ReflectliteValue.method z f #[v]=(do match ← ReflectliteValue.parts v with | none=>z | some (t,a,fl)=>f t a fl (fl % 32)):=rfl
theorem partsP (a:Addr) (w:World):(ReflectliteValue.parts (.agg #[.pointer (some ⟨2,74,none⟩),.pointer (some a),.int .u64 150])).run Tryz.prog w=.ok (some (74,a,150)) w:=by kernel_rfl
theorem isNilP (a p:Addr) (W:World) (ha:W.cell? a=some (.pointer (some p))) :
  (ReflectliteValue.method (ReflectliteValue.valueError "reflectlite.Value.IsNil" 0) ReflectliteValue.isNil #[.agg #[.pointer (some ⟨2,74,none⟩),.pointer (some a),.int .u64 150]]).run Tryz.prog W=.ok (.bool false) W:=by
 rw [rlm]
 simp only [Sem.run_bind,partsP,Result.andThen]
 simp [ReflectliteValue.isNil,loadVar,isAgg,underlying,Tryz.underlying74,ha,Result.andThen]
theorem methodElem (h:Value) (w:World):(Go.method 403 196 (.agg #[h]) "Elem").run Tryz.prog w=.ok (209,.agg #[h]) w:=by kernel_rfl
theorem methodImpl (h:Value) (w:World):(Go.method 403 196 (.agg #[h]) "Implements").run Tryz.prog w=.ok (210,.agg #[h]) w:=by kernel_rfl
theorem methodAssign (h:Value) (w:World):(Go.method 403 196 (.agg #[h]) "AssignableTo").run Tryz.prog w=.ok (207,.agg #[h]) w:=by kernel_rfl
theorem elemP (w:World):(ReflectliteType.method ReflectliteType.elem #[.agg #[.pointer (some ⟨2,74,none⟩)]]).run Tryz.prog w=.ok (.iface 196 (.agg #[.pointer (some ⟨2,69,none⟩)])) w:=by kernel_rfl
theorem implC (w:World):(ReflectliteType.relation "Implements" ReflectliteType.implements_ #[.agg #[.pointer (some ⟨2,69,none⟩)],.iface 196 (.agg #[.pointer (some ⟨2,72,none⟩)])]).run Tryz.prog w=.ok (.bool true) w:=by kernel_rfl
theorem typeOfC (v:Value) (w:World):(ReflectliteType.typeOf #[.iface 69 v]).run Tryz.prog w=.ok (.iface 196 (.agg #[.pointer (some ⟨2,69,none⟩)])) w:=by kernel_rfl
theorem assignC (w:World):(ReflectliteType.relation "AssignableTo" ReflectliteType.assignableTo #[.agg #[.pointer (some ⟨2,69,none⟩)],.iface 196 (.agg #[.pointer (some ⟨2,69,none⟩)])]).run Tryz.prog w=.ok (.bool true) w:=by kernel_rfl
theorem valueOfC (a b c:Value) (w:World):(ReflectliteValue.unpack (.iface 69 (.agg #[a,b,c]))).run Tryz.prog w
  = .ok (.agg #[.pointer (some ⟨2,69,none⟩),.pointer (some ⟨w.heap.size,0,none⟩),.int .u64 153]) (w.alloc (.cells #[a,b,c] 69)):=by kernel_rfl
theorem elemOfP (w:World):(Rtype.elem? 74).run Tryz.prog w=.ok (some 69) w:=by kernel_rfl
theorem mkC (p:Addr) (w:World):(ReflectliteValue.mk 69 p ReflectliteValue.flagAddr).run Tryz.prog w=.ok (.agg #[.pointer (some ⟨2,69,none⟩),.pointer (some p),.int .u64 409]) w:=by kernel_rfl
theorem elemVP (a p:Addr) (W:World) (ha:W.cell? a=some (.pointer (some p))) :
  (ReflectliteValue.method (ReflectliteValue.valueError "reflectlite.Value.Elem" 0) ReflectliteValue.elem #[.agg #[.pointer (some ⟨2,74,none⟩),.pointer (some a),.int .u64 150]]).run Tryz.prog W
   = .ok (.agg #[.pointer (some ⟨2,69,none⟩),.pointer (some p),.int .u64 409]) W:=by
 rw [rlm]
 simp only [Sem.run_bind,partsP,Result.andThen]
 simp [ReflectliteValue.elem,loadVar,isAgg,underlying,Tryz.underlying74,ha,Result.andThen,elemOfP,mkC]
theorem rls (v x:Value):ReflectliteValue.set #[v,x]=(do
  let (some (dst,a,fl),some (src,b,_)):=(← ReflectliteValue.parts v,← ReflectliteValue.parts x)
   | unsupported (.noEntry "extern/(internal/reflectlite.Value).Set.zeroValue")
  if fl / ReflectliteValue.flagAddr % 2 == 0 then unsupported (.noEntry "extern/(internal/reflectlite.Value).Set.unaddressable")
  let val ← loadVar src b
  if ← Rtype.directlyAssignable dst src then storeVar dst a val
  else if ← Rtype.implements dst src then
   if (← Rtype.kind src) == 20 then
    match val with
    | .nilIface=>unsupported (.noEntry "extern/reflectlite: a nil value of one interface type handed on as a value of another")
    | _=>storeVar dst a val
   else storeVar dst a (.iface src val)
  else panicString ("reflectlite.Set: value of type " ++ (← Rtype.spelt src) ++ " is not assignable to type " ++ (← Rtype.spelt dst))
  pure (.tuple #[])):=rfl
theorem partsCa (a:Addr) (w:World):(ReflectliteValue.parts (.agg #[.pointer (some ⟨2,69,none⟩),.pointer (some a),.int .u64 409])).run Tryz.prog w=.ok (some (69,a,409)) w:=by kernel_rfl
theorem partsC (a:Addr) (w:World):(ReflectliteValue.parts (.agg #[.pointer (some ⟨2,69,none⟩),.pointer (some a),.int .u64 153])).run Tryz.prog w=.ok (some (69,a,153)) w:=by kernel_rfl
theorem directC (w:World):(Rtype.directlyAssignable 69 69).run Tryz.prog w=.ok true w:=by kernel_rfl
theorem isAggC (w:World):(isAgg 69).run Tryz.prog w=.ok true w:=by kernel_rfl
theorem sizeC (w:World):(sizeOf 69).run Tryz.prog w=.ok 3 w:=by kernel_rfl
theorem setC (E B:Nat) (a b c:Int) (x y z:Value) (W:World) (hB:Blk W B 69 #[.int .i64 a,.int .i64 b,.int .i64 c]) (hE:Blk W E 69 #[x,y,z]) :
  (ReflectliteValue.set #[.agg #[.pointer (some ⟨2,69,none⟩),.pointer (some ⟨E,0,none⟩),.int .u64 409],.agg #[.pointer (some ⟨2,69,none⟩),.pointer (some ⟨B,0,none⟩),.int .u64 153]]).run Tryz.prog W
   = .ok (.tuple #[]) (((W.setCell ⟨E,0,none⟩ (.int .i64 a)).setCell ⟨E,1,none⟩ (.int .i64 b)).setCell ⟨E,2,none⟩ (.int .i64 c)):=by
 rw [rls]
 simp only [Sem.run_bind,partsCa,partsC,Result.andThen]
 have l0:(loadVar 69 ⟨B,0,none⟩).run Tryz.prog W=.ok (.agg #[.int .i64 a,.int .i64 b,.int .i64 c]) W:=by
  have b0:W.cell? ⟨B,0,none⟩=some (.int .i64 a):=(hB.cell 0).trans rfl
  have b1:W.cell? ⟨B,1,none⟩=some (.int .i64 b):=(hB.cell 1).trans rfl
  have b2:W.cell? ⟨B,2,none⟩=some (.int .i64 c):=(hB.cell 2).trans rfl
  simp [loadVar,isAggC,sizeC,Result.andThen,loadCells,loadCellsFrom,Addr.add,b0,b1,b2]
 have s0:(storeVar 69 ⟨E,0,none⟩ (.agg #[.int .i64 a,.int .i64 b,.int .i64 c])).run Tryz.prog W=.ok () (((W.setCell ⟨E,0,none⟩ (.int .i64 a)).setCell ⟨E,1,none⟩ (.int .i64 b)).setCell ⟨E,2,none⟩ (.int .i64 c)):=by
  have e0:∀ j,j<3→(W.cell? ⟨E,0+0+j,none⟩).isSome=true:=fun j hj=>by
   rw [hE.cell,Array.getElem?_eq_getElem (by simp;omega)];rfl
  have hst:=run_storeCells_cells (P:=Tryz.prog) E 0 [Value.int .i64 a,.int .i64 b,.int .i64 c] 0 W e0 (fun j _=>hE.frozen _) (by simp [Value.oneCell'])
  simp [storeVar,sizeC,Result.andThen,Value.cells] at hst ⊢
  exact hst
 simp [l0,s0,ReflectliteValue.flagAddr,Result.andThen,directC]
set_option maxHeartbeats 4000000 in
theorem as_hit (a b c:Int) (E:Nat) (w:World) (x y z:Value) (hg:w.cell? ⟨0,0,none⟩=some (.iface 196 (.agg #[.pointer (some ⟨2,72,none⟩)]))) (hE:Blk w E 69 #[x,y,z]) :
  Calls Tryz.prog 49 #[.iface 69 (.agg #[.int .i64 a,.int .i64 b,.int .i64 c]),.iface 74 (.pointer (some ⟨E,0,none⟩))] w fun ev w' =>
   ev=.returned (.bool true)∧Blk w' E 69 #[.int .i64 a,.int .i64 b,.int .i64 c]∧Below E w w':=by
 have h85:=@run_callFunc_extern Tryz.prog 85 _ (fun args=>ReflectliteValue.unpack (args.getD 0 (.tuple #[]))) Tryz.func85 (by kernel_rfl) (by kernel_rfl) (by kernel_rfl) (by kernel_rfl)
 have h86:=@run_callFunc_extern Tryz.prog 86 _ (ReflectliteValue.methodAny (ReflectliteValue.valueError "reflectlite.Value.Type" 0) (fun t _ _ _=>ReflectliteType.toType t)) Tryz.func86 (by kernel_rfl) (by kernel_rfl) (by kernel_rfl) (by kernel_rfl)
 have h87:=@run_callFunc_extern Tryz.prog 87 _ (ReflectliteValue.method (ReflectliteValue.valueError "reflectlite.Value.IsNil" 0) ReflectliteValue.isNil) Tryz.func87 (by kernel_rfl) (by kernel_rfl) (by kernel_rfl) (by kernel_rfl)
 have hki:=@run_callFunc_extern Tryz.prog 199 _ (ReflectliteType.abiMethod fun t=>do pure (.int .u8 (← Rtype.kind t))) Tryz.func199 (by kernel_rfl) (by kernel_rfl) (by kernel_rfl) (by kernel_rfl)
 have hel:=@run_callFunc_extern Tryz.prog 209 _ (ReflectliteType.method ReflectliteType.elem) Tryz.func209 (by kernel_rfl) (by kernel_rfl) (by kernel_rfl) (by kernel_rfl)
 have him:=@run_callFunc_extern Tryz.prog 210 _ (ReflectliteType.relation "Implements" ReflectliteType.implements_) Tryz.func210 (by kernel_rfl) (by kernel_rfl) (by kernel_rfl) (by kernel_rfl)
 have hto:=@run_callFunc_extern Tryz.prog 127 _ ReflectliteType.typeOf Tryz.func127 (by kernel_rfl) (by kernel_rfl) (by kernel_rfl) (by kernel_rfl)
 have hat:=@run_callFunc_extern Tryz.prog 207 _ (ReflectliteType.relation "AssignableTo" ReflectliteType.assignableTo) Tryz.func207 (by kernel_rfl) (by kernel_rfl) (by kernel_rfl) (by kernel_rfl)
 have hve:=@run_callFunc_extern Tryz.prog 128 _ (ReflectliteValue.method (ReflectliteValue.valueError "reflectlite.Value.Elem" 0) ReflectliteValue.elem) Tryz.func128 (by kernel_rfl) (by kernel_rfl) (by kernel_rfl) (by kernel_rfl)
 have hse:=@run_callFunc_extern Tryz.prog 129 _ ReflectliteValue.set Tryz.func129 (by kernel_rfl) (by kernel_rfl) (by kernel_rfl) (by kernel_rfl)
 have t0:=typeOfC
 have t1:=methodAssign
 have t2:=assignC
 have t3:=valueOfC
 have t4:=valueOfP
 have t5:=typeP
 have t6:=methodKind
 have t7:=methodElem
 have t8:=methodImpl
 have t9:=kindP
 have t10:=kindC
 have t11:=elemP
 have t12:=implC
 have hlt:0<w.heap.size:=by
  rcases Nat.eq_zero_or_pos w.heap.size with h0 | h
  ·simp [World.cell?,h0] at hg
  ·exact h
 have hEl:=hE.lt
 have X1:Ext w (w.alloc (.cells #[.pointer (some ⟨E,0,none⟩)] 74)):=(Ext.refl w).alloc _
 have BP:=Blk.alloc w 74 #[.pointer (some ⟨E,0,none⟩)]
 have n8:=fun W (h:Ext (w.alloc (.cells #[.pointer (some ⟨E,0,none⟩)] 74)) W)=>isNilP ⟨w.heap.size,0,none⟩ ⟨E,0,none⟩ W (((BP.ext h).cell 0).trans rfl)
 have n9:=fun W (h:Ext (w.alloc (.cells #[.pointer (some ⟨E,0,none⟩)] 74)) W)=>elemVP ⟨w.heap.size,0,none⟩ ⟨E,0,none⟩ W (((BP.ext h).cell 0).trans rfl)
 obtain ⟨wa,hwa⟩:∃ wa,wa=(w.alloc (.cells #[.pointer (some ⟨E,0,none⟩)] 74)).alloc (.cells #[.pointer (some ⟨2,74,none⟩),.pointer (some ⟨w.heap.size,0,none⟩),.int .u64 150] 132):=⟨_,rfl⟩
 obtain ⟨wb,hwb⟩:∃ wb,wb=((w.alloc (.cells #[.pointer (some ⟨E,0,none⟩)] 74)).alloc (.cells #[.pointer (some ⟨2,74,none⟩),.pointer (some ⟨w.heap.size,0,none⟩),.int .u64 150] 132)).alloc (.cells #[.pointer (some ⟨2,74,none⟩),.pointer (some ⟨w.heap.size,0,none⟩),.int .u64 150] 132):=⟨_,rfl⟩
 have Xb:Ext (w.alloc (.cells #[.pointer (some ⟨E,0,none⟩)] 74)) wb:=by rw [hwb];exact ((Ext.refl _).alloc _).alloc _
 have Xa:Ext (w.alloc (.cells #[.pointer (some ⟨E,0,none⟩)] 74)) wa:=by rw [hwa];exact (Ext.refl _).alloc _
 have n8a:=n8 wa Xa
 have n9b:=n9 wb Xb
 have hga:=(X1.trans Xa).cell hg
 have hsz:wb.heap.size=w.heap.size+1+1+1:=by rw [hwb];simp
 have BC:=Blk.alloc wb 69 #[.int .i64 a,.int .i64 b,.int .i64 c]
 have hEc:Blk (wb.alloc (.cells #[.int .i64 a,.int .i64 b,.int .i64 c] 69)) E 69 #[x,y,z]:=(hE.ext (X1.trans Xb)).ext ((Ext.refl _).alloc _)
 have st:=setC E wb.heap.size a b c x y z _ BC hEc
 have HF:Hid (Blk ((((wb.alloc (.cells #[.int .i64 a,.int .i64 b,.int .i64 c] 69)).setCell ⟨E,0,none⟩ (.int .i64 a)).setCell ⟨E,1,none⟩ (.int .i64 b)).setCell ⟨E,2,none⟩ (.int .i64 c)) E 69 #[.int .i64 a,.int .i64 b,.int .i64 c]):=((hEc.set 0 _).set 1 _).set 2 _
 have HX:Hid (Below E w ((((wb.alloc (.cells #[.int .i64 a,.int .i64 b,.int .i64 c] 69)).setCell ⟨E,0,none⟩ (.int .i64 a)).setCell ⟨E,1,none⟩ (.int .i64 b)).setCell ⟨E,2,none⟩ (.int .i64 c))) :=
  Below.setCell (Below.setCell (Below.setCell ((X1.trans Xb).mono (Nat.le_of_lt hEl) |>.trans (((Ext.refl wb).alloc _).mono (by omega))) (p:=⟨E,0,none⟩) (Nat.le_refl _) _) (p:=⟨E,1,none⟩) (Nat.le_refl _) _) (p:=⟨E,2,none⟩) (Nat.le_refl _) _
 obtain ⟨wf,hwf⟩:∃ wf,wf=((((wb.alloc (.cells #[.int .i64 a,.int .i64 b,.int .i64 c] 69)).setCell ⟨E,0,none⟩ (.int .i64 a)).setCell ⟨E,1,none⟩ (.int .i64 b)).setCell ⟨E,2,none⟩ (.int .i64 c)):=⟨_,rfl⟩
 rw [← hwf] at st HF HX
 rw [hsz] at st
 rw [hwa] at n8a hga
 rw [hwb] at n9b st
 clear n8 n9 Xa Xb X1 BP BC hEc hwf hwa hE hsz hwb
 go_enter Tryz.func49,Tryz.ntmps49
 go_wp2
 refine wp_loop_rounds 1 ?_
 rw [rounds_succ]
 go_wp2
 go_ret
 exact ⟨rfl,HF.out,HX.out⟩
open Go Go.RowKit Md
theorem bodiesR_some {t:PTree} : ∀ {l:List (PFunc×List St)} {i:Nat} {r:Int×Int×Int},bodiesR t l i=some r→r.1≠0
 | [],_,_,h=>by cases h
 | x :: l,i,r,h=>by
   rw [bodiesR] at h
   by_cases hb:(bodyR t i x.1 x.2).1=0
   ·rw [if_pos hb] at h
    exact bodiesR_some h
   ·rw [if_neg hb] at h
    cases h
    exact hb
theorem checkR_zero {t:PTree} {fs:List (PFunc×List St)} (h:(checkR t fs).1=0):checkR t fs=(0,-1,-1):=by
 by_cases hn:(namesR t).1=0
 ·rw [checkR_ok hn] at h ⊢
  unfold tailR at h ⊢
  cases hb:bodiesR t (fs.drop 0) 0 with
  | some r =>
    rw [hb] at h
    exact absurd h (bodiesR_some hb)
  | none =>
    rw [hb] at h
    simp only at h ⊢
    unfold recR at h ⊢
    cases hr:recFrom t (findF t mainB) (t.funcs.length - 0) 0 with
    | some f =>
      rw [hr] at h
      exact absurd h (by simp)
    | none=>rfl
 ·rw [checkR_bad hn] at h
  exact absurd h hn
theorem UnitAt.bound {K:Foot} {w:World} {v:Value} {t:PTree} {fs:List Fn} (h:UnitAt K w v t fs):UnitAt (fun b=>K b∧b<w.heap.size) w v t fs:=by
 obtain ⟨b,vG,vF,vs,ps,e,hb,hc,h1,h2,h3,h4⟩:=h
 exact ⟨b,vG,vF,vs,ps,e,⟨hb,World.block_lt_of_cell? w _ (hc 0 _ rfl)⟩,hc,SlGlob.bound h1,SlFunc.bound h2,Sl.bound h3 (by decide),h4.mono fun _ _ _ h=>h.bound⟩
set_option maxRecDepth 1000000 in
set_option maxHeartbeats 0 in
theorem i_CheckC (K:Foot) (t:PTree) (vG vF:Value) (w:World) (hG:SlGlob K w vG t.globals) (hF:SlFunc K w vF t.funcs) (hz:Small t) (hres:Res w) (hg:w.cell? ⟨0,0,none⟩=some (.iface 196 (.agg #[.pointer (some ⟨2,72,none⟩)]))) :
  Calls Tryz.prog 19 #[.agg #[vG,vF]] w (GivesR (checkAns t) w):=by
 obtain ⟨w1,hw1⟩:∃ w1,w1=(w.alloc (.cells #[vG,vF] 32)).alloc (.cells #[.int .i64 0,.int .i64 0,.int .i64 0] 40):=⟨_,rfl⟩
 have X0:Ext w w1:=by rw [hw1];exact ((Ext.refl w).alloc _).alloc _
 have HU:=Lib.hid (i_unit _ t vG vF w1 ((SlGlob.bound hG).ext X0 (fun _ _ h=>h.any)) ((SlFunc.bound hF).ext X0 (fun _ _ h=>h.ext X0)) hz (hres.ext X0) (fun b hb=>Nat.lt_of_lt_of_le hb.2 X0.size))
 obtain ⟨aG,nG,cG,rfl⟩:=hG.shape
 obtain ⟨aF,nF,cF,rfl⟩:=hF.shape
 have BT:Blk w1 w.heap.size 32 #[.slice aG nG cG,.slice aF nF cF]:=by rw [hw1];exact (Blk.alloc2 w _ _ _ _).1
 have BR:Blk w1 (w.heap.size+1) 40 #[.int .i64 0,.int .i64 0,.int .i64 0]:=by rw [hw1];exact (Blk.alloc2 w _ _ _ _).2
 obtain ⟨R,hR⟩:∃ R,R=checkAns t:=⟨_,rfl⟩
 rw [← hR]
 have HR:=Lib.hid hR
 have HX0:=Lib.hid X0
 have HBR:=Lib.hid BR
 have HW1:=Lib.hid hw1
 have t0:=(BT.cell 0).trans (show _=some (Value.slice aG nG cG) from rfl)
 have t1:=(BT.cell 1).trans (show _=some (Value.slice aF nF cF) from rfl)
 rw [hw1] at t0 t1
 clear hG hF hz hres hR X0 BT BR hw1
 go_enter Tryz.func19,Tryz.ntmps19
 go_wp2_with fail
 rw [← HW1.out]
 refine HU.out.mono ?_
 rintro e w2 (⟨hv,fs,v,hb,rfl,hu,hX2⟩ | ⟨hv,rfl,hX2⟩)
 ·have HRr:Hid (R=checkR t fs):=by
   show _=_
   rw [HR.out]
   unfold checkAns
   rw [if_pos hv,bodiesOf_eq hb.1 hb.2]
  obtain ⟨w3,hw3⟩:∃ w3,w3=w2.alloc (.cells #[.int .i64 0,.int .i64 0,.int .i64 0] 69):=⟨_,rfl⟩
  have X3:Ext w2 w3:=by rw [hw3];exact (Ext.refl w2).alloc _
  have BE:Blk w3 w2.heap.size 69 #[.int .i64 0,.int .i64 0,.int .i64 0]:=by rw [hw3];exact Blk.alloc _ _ _
  have HCk:=Lib.hid (i_check _ t fs v w3 (fun b hb=>hb.2) ((hu.ext X3).bound) hb hv)
  obtain ⟨ub,_,_,_,_,rfl,_⟩:=hu
  have HX13:=Lib.hid (hX2.trans X3)
  have HBE:=Lib.hid BE
  have HW3:=Lib.hid hw3
  have HE1:Hid (w.heap.size+2≤w2.heap.size):=by
   have h1:=hX2.size
   have h2:=HBR.out.lt
   show _≤_
   omega
  obtain ⟨E,hE⟩:∃ E,E=w2.heap.size:=⟨_,rfl⟩
  rw [← hE] at HE1 HBE
  have HEe:=Lib.hid hE
  obtain ⟨rr,hrr⟩:∃ rr,rr=checkR t fs:=⟨_,rfl⟩
  rw [← hrr] at HCk HRr
  have hzero:=fun h=>checkR_zero (t:=t) (fs:=fs) h
  rw [← hrr] at hzero
  have Hzero:=Lib.hid hzero
  clear hzero
  obtain ⟨ra,rb,rc⟩:=rr
  have Hg:=Lib.hid hg
  clear hv hb hX2 X3 BE hw3 t0 t1 HU hrr hg hE
  go_wp2_with fail
  rw [← HW3.out]
  refine HCk.out.mono ?_
  rintro e w4 ⟨he,hX4⟩
  have HX4:=Lib.hid (HX13.out.trans hX4)
  have HBE4:=Lib.hid (HBE.out.ext hX4)
  have HBR4:=Lib.hid (HBR.out.ext HX4.out)
  clear hX4 HCk
  rcases he with ⟨h0,rfl⟩ | ⟨h0,rfl⟩
  ·have HR0:Hid (R=(0,-1,-1)):=by
    show _=_
    rw [HRr.out];exact Hzero.out h0
   have b0:w4.cell? ⟨w.heap.size+1,0,none⟩=some (.int .i64 0):=(HBR4.out.cell 0).trans rfl
   have b1:w4.cell? ⟨w.heap.size+1,1,none⟩=some (.int .i64 0):=(HBR4.out.cell 1).trans rfl
   have b2:w4.cell? ⟨w.heap.size+1,2,none⟩=some (.int .i64 0):=(HBR4.out.cell 2).trans rfl
   have f0:=HBR4.out.frozen 0
   have f1:=HBR4.out.frozen 1
   have f2:=HBR4.out.frozen 2
   clear h0 Hzero
   go_wp2_with fail
   refine (as_nil _ _).mono ?_
   rintro e w5 ⟨rfl,rfl⟩
   go_wp2
   refine bodyPost_ret (v:=.agg #[.int .i64 0,.int .i64 (-1),.int .i64 (-1)]) (by simp [results,Tryz.results19,go_sem,b0,b1,b2]) rfl ?_
   exact ⟨by rw [HR0.out];rfl,ext_set3 (HX0.out.trans HX4.out) (Nat.le_succ _) _ _ _⟩
  ·simp only at h0
   have HA:=Lib.hid (as_hit ra rb rc E w4 _ _ _ ((HX0.out.trans HX4.out).cell Hg.out) HBE4.out)
   clear h0
   simp only
   rw [← HEe.out]
   go_wp2_with fail
   refine HA.out.mono ?_
   rintro e w5 ⟨rfl,hE5,hB5⟩
   have HX5:Hid (Ext w w5):=Below.trans (HX0.out.trans HX4.out) (hB5.mono (by have:=HE1.out;omega))
   have HBR5:Hid (Blk w5 (w.heap.size+1) 40 #[.int .i64 0,.int .i64 0,.int .i64 0]):=blk_keep HBR4.out (hB5.block _ (by have:=HE1.out;omega))
   have q0:w5.cell? ⟨E,0,none⟩=some (.int .i64 ra):=(hE5.cell 0).trans rfl
   have q1:w5.cell? ⟨E,1,none⟩=some (.int .i64 rb):=(hE5.cell 1).trans rfl
   have q2:w5.cell? ⟨E,2,none⟩=some (.int .i64 rc):=(hE5.cell 2).trans rfl
   have b0:w5.cell? ⟨w.heap.size+1,0,none⟩=some (.int .i64 0):=(HBR5.out.cell 0).trans rfl
   have b1:w5.cell? ⟨w.heap.size+1,1,none⟩=some (.int .i64 0):=(HBR5.out.cell 1).trans rfl
   have b2:w5.cell? ⟨w.heap.size+1,2,none⟩=some (.int .i64 0):=(HBR5.out.cell 2).trans rfl
   have f0:=HBR5.out.frozen 0
   have f1:=HBR5.out.frozen 1
   have f2:=HBR5.out.frozen 2
   clear hE5 hB5
   go_wp2
   refine bodyPost_ret (v:=.agg #[.int .i64 ra,.int .i64 rb,.int .i64 rc]) (by simp [results,Tryz.results19,go_sem,b0,b1,b2]) rfl ?_
   exact ⟨by rw [HRr.out];rfl,ext_set3 HX5.out (Nat.le_succ _) _ _ _⟩
 ·have HRr:Hid (R=(1,-1,-1)):=by
   show _=_
   rw [HR.out]
   unfold checkAns
   rw [if_neg (by rw [hv];decide)]
  have b0:w2.cell? ⟨w.heap.size+1,0,none⟩=some (.int .i64 0):=hX2.cell ((HBR.out.cell 0).trans rfl)
  have b1:w2.cell? ⟨w.heap.size+1,1,none⟩=some (.int .i64 0):=hX2.cell ((HBR.out.cell 1).trans rfl)
  have b2:w2.cell? ⟨w.heap.size+1,2,none⟩=some (.int .i64 0):=hX2.cell ((HBR.out.cell 2).trans rfl)
  have f0:=(HBR.out.ext hX2).frozen 0
  have f1:=(HBR.out.ext hX2).frozen 1
  have f2:=(HBR.out.ext hX2).frozen 2
  clear hv
  go_wp2
  refine bodyPost_ret (v:=.agg #[.int .i64 1,.int .i64 (-1),.int .i64 (-1)]) (by simp [results,Tryz.results19,go_sem,b0,b1,b2]) rfl ?_
  exact ⟨by rw [HRr.out];rfl,ext_set3 (HX0.out.trans hX2) (Nat.le_succ _) _ _ _⟩
end Go.Proofs.YtcfggjmdcaoecaaGreatDoor
