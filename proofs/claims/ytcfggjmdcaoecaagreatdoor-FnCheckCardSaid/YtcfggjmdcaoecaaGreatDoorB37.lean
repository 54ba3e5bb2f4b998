/- FnCheck: for every draw the law returns true (impl.reserved and errors.errorType as the program text lays them). -/
import Derived.Test.YtcfggjmdcaoecaaGreatDoorTie
import Derived.Test.YtcfggjmdcaoecaaGreatDoorCards
import Derived.SevenTiedAt
import Derived.LaidHandle
import Derived.Lib.SmallJoins
import Derived.Test.YtcfggjmdcaoecaaGreatDoorB35
import Derived.Test.YtcfggjmdcaoecaaGreatDoorB33
import Derived.Test.YtcfggjmdcaoecaaGreatDoorB34
set_option linter.unusedVariables false
set_option linter.unusedSimpArgs false
namespace Go.Proofs.YtcfggjmdcaoecaaGreatDoor.LFnCheck
open Go Go.RowKit Go.ChangeShapes Go.WideShapes Go.ChangeAt Go.WideMaps Go.WideElems Md
set_option maxRecDepth 100000
theorem open_bytes {H:Type} {enc:TypeId×Value→H} {W:World} {sp:Nat→Bool} {held:Bool} {r:Reach} {b0:Nat} {v:Value} {d:DataW H} {p:List MemPlace} (hv:Value.okWide Tryz.prog W r b0 44 v)
  (h:DataW.Trod enc Tryz.prog W 0 sp held 44 v d p):∃ xs:List Int,SlInt .u8 AnyB W v xs:=by
 obtain ⟨n,h⟩:=h
 obtain ⟨a,len,cap,rfl⟩:=okWide_slice Tryz.underlying44 hv
 exact sl_of_trod (C:=CInt .u8) (sz:=1) Tryz.underlying44 (by kernel_rfl) (by decide) (fun _ _ _ h _=>int_of_trod Tryz.underlying5 h) (v:=.slice a len cap) h
theorem walk (hS:SpoilOk) (xs:List Int) (v:Value) (w:World) (hv:SlInt .u8 AnyB w v xs) (hres:Res w) (hg:w.cell? ⟨0,0,none⟩=some (.iface 196 (.agg #[.pointer (some ⟨2,72,none⟩)]))) :
  Calls Tryz.prog 5 #[v] w (Gives (.bool true) w):=by
 obtain ⟨a,len,cap,rfl,Hlen,hlc,hcm,_⟩:=Sl.op hv
 exact w_FnCheck a len cap w (by omega) (fun hn=>d_DrawCheckC hS _ xs w hv (by rw [Hlen.out];omega)) hres hg
abbrev laid:=Rows.fnCheckRow.laid
theorem door_met (os:Os) (args:Array Value):laidMetH Tryz.prog Rows.fnCheckRow.laid ((World.doorLaid Tryz.prog 400 os).forCall (fun _ _=>0) ⟨#[],args,[]⟩).memory :=
 laidMetH_of_parts3 (fuel:=8) (laidMet_of_run' 8 (by kernel_rfl) (by kernel_rfl)) (by kernel_rfl) (by kernel_rfl)
theorem et:Tryz.prog.globalNamed "errors.errorType" = some 0:=by kernel_rfl
theorem rt:(Tryz.prog.cutTypes.find? (·.1 == "internal/reflectlite.rtype")).map (·.2)=some 196:=by kernel_rfl
theorem tysize:Tryz.prog.types.size=303:=by kernel_rfl
theorem oneRow:((List.range 303).filter fun t=>Tryz.prog.rowNamed t [101,114,114,111,114])=[72]:=by kernel_rfl
theorem of_laid {W:World} (h:laidMetH Tryz.prog Rows.fnCheckRow.laid W):Res W∧W.cell? ⟨0,0,none⟩=some (.iface 196 (.agg #[.pointer (some ⟨2,72,none⟩)])):=by
 have h':laidMet Tryz.prog [("loop.example/s01725/impl.reserved",Rows.laid_loop_example_s01725_impl_reserved)] W∧handlesMet Tryz.prog [("errors.errorType",Rows.laid_errors_errorType)] W:=h
 constructor
 ·obtain ⟨ps,⟨g0,t0,cs0,f0,p0,q0,hg0,ht0,hv0,hd0,_,_⟩,_,_⟩:=h'.1
  obtain rfl:=Option.some.inj (gRes.symm.trans hg0)
  obtain rfl:=Option.some.inj (tRes.symm.trans ht0)
  exact res_of_trod hv0 hd0
 ·obtain ⟨name,u,ty,e1,e2,e3,e4,e5⟩:=h'.2 _ (List.mem_singleton.2 rfl)
  have en:name=[101,114,114,111,114]:=(Option.some.inj e1).symm
  subst en
  obtain rfl:=Option.some.inj (rt.symm.trans e2)
  have hm:ty∈(List.range 303).filter fun t=>Tryz.prog.rowNamed t [101,114,114,111,114]:=List.mem_filter.2 ⟨List.mem_range.2 (by rw [← tysize];exact e3),e4⟩
  rw [oneRow] at hm
  obtain rfl:=List.mem_singleton.1 hm
  have hh:typeHandle Tryz.prog 72=.pointer (some ⟨2,72,none⟩):=by kernel_rfl
  rw [hh] at e5
  simpa using World.var?_cell et e5 0
theorem lifted (hS:SpoilOk) (os:Os) (started:os.Started) (H:Type) (enc:TypeId×Value→H) :
  ReturnsInHanded {} Tryz.checked os 5 .any (fun w args=>(Rows.fnCheckSpec.pre enc Tryz.prog Tryz.f5 [] false w args∧laidMetH Tryz.prog Rows.fnCheckRow.laid w)∧sizedMet enc Tryz.prog Tryz.f5 (OpenSpec.ofChange Rows.fnCheckSpec) false w args)
   (Rows.fnCheckSpec.post enc Tryz.prog Tryz.f5 false true false false):=by
 refine returnsInHanded_of_change_and (C:=Tryz.checked) (X:=fun w _=>laidMetH Tryz.prog Rows.fnCheckRow.laid w) (fun _ _ _ hh h=>h.of_heap hh) own started (by kernel_rfl) Tryz.func5
  (ChangeSpec.witness_shaped (enc:=enc) (C:=Tryz.checked) (os:=os) (X:=fun w _=>laidMetH Tryz.prog Rows.fnCheckRow.laid w) false (World.doorLaid Tryz.prog 400 os) #[.slice none 0 0] 8 rfl (World.shaped_of_RefB (by kernel_rfl) (by kernel_rfl)) (by kernel_rfl) (by kernel_rfl) (by kernel_rfl) (door_met os _)) ?_
 intro W base args ds gs before hval0 hW _ _ hL _
 have hval:∀ (j:Nat) t v,Tryz.f5.params[j]? = some t→args[j]? = some v→Value.okWide Tryz.prog W .any base t v:=hval0
 have hW':=hW
 obtain ⟨p,q,hA0,hV,rfl,hfz,hnd⟩:=hW
 have hA:DataW.TrodAll enc Tryz.prog W 0 (fun _=>true) true Tryz.f5.params.toList args.toList ds p:=hA0
 rw [Tryz.params5] at hA hval
 obtain ⟨v0,d0,rfl,rfl,h0⟩:=trodAll_one hA
 obtain ⟨g1,rfl⟩:∃ g,gs=[g]:=by
  match gs,hV with
  | [g],_=>exact ⟨g,rfl⟩
  | [],h=>exact h.elim
  | _ :: _ :: _,h=>obtain ⟨_,_,_,_,_,_,_,_,_,_,h,_⟩:=h;exact h.elim
 obtain ⟨xs,hx⟩:=open_bytes (hval 0 _ v0 rfl rfl) h0
 refine (walk hS xs v0 W hx (of_laid hL).1 (of_laid hL).2).mono fun e W' ⟨he,hw⟩=>?_
 subst he
 exact ⟨_,rfl,post_true laidOut (by kernel_rfl) (by kernel_rfl) (by kernel_rfl) Tryz.underlying4 hW' hw rfl⟩
theorem row_holds (hS:SpoilOk):Rows.FnCheckSaid :=
 OpenClaim.holds_of_wide 5 Tryz.f5 rfl rfl rfl rfl rfl rfl rfl ⟨rfl,rfl,rfl,rfl,rfl⟩ rfl rfl rfl rfl rfl (by kernel_rfl) Tryz.func5 (by kernel_rfl)
  (of_decide_eq_true (by kernel_rfl)) (by unfold Func.isWrapper;rw [if_neg (of_decide_eq_false (by kernel_rfl))];exact ⟨rfl,rfl⟩)
  (fun os started H enc _=>lifted hS os started H enc)
theorem card_of (hS:SpoilOk):Rows.FnCheckCardSaid :=
 Claim7.holds_tied_plain_at .later [] Rows.fnCheckCard.laidKinds true Rows.fnCheckCard.stood.harness Rows.fnCheckCard.stood.looks
  (row_holds hS) (fun _ h=>by cases h) (by kernel_rfl) (fun _ h=>by cases h) fnCheck_row_tie rfl ⟨rfl,rfl⟩ (by kernel_rfl) rfl
  (fun f fn hf hfn=>by
   obtain rfl:f=5:=Option.some.inj ((show Tryz.prog.funcNamed "loop.example/s01725/laws.FnCheck" = some 5 by kernel_rfl).symm.trans hf) |>.symm
   obtain rfl:fn=Tryz.f5:=(Option.some.inj (Tryz.func5.symm.trans hfn)).symm
   exact ⟨by kernel_rfl,fun j t ht=>by
    have hm:t∈Tryz.f5.params.toList:=by simpa using Array.mem_of_getElem? ht
    have hall:(Tryz.f5.params.toList.all fun u=>!Tryz.prog.wantsStandIn u)=true:=by kernel_rfl
    exact (show Tryz.prog.wantsStandIn t=false by simpa using List.all_eq_true.1 hall t hm)⟩)
  (by kernel_rfl)
theorem card_holds:Rows.FnCheckCardSaid:=card_of d_l2SpoilTree
#print axioms card_holds
end Go.Proofs.YtcfggjmdcaoecaaGreatDoor.LFnCheck
