/- A part of the proofs of FnBound and FnCheck: the lemmas and walks Base, Cuts, Rep, Ptr, Apps, Rows3, SpecCallsA. -/
import Derived.WalkKit
import Derived.ProofKit
import Derived.OpenShut
import Derived.ChangeOld
import Derived.Below
import Derived.SizedLaws
import Derived.Deep.QuietTactic
import Derived.Deep.RegionHeld3
import Derived.BigQuiet
import Derived.StillTailTactics
import Derived.Lib.Hide
import Derived.Laws.Slices
import Derived.Test.YtcfggjmdcaoecaaGreatDoorChecked
import Derived.Deep.Slices
import Derived.Deep.Strs
import Derived.Lib.SmallJoins
import Derived.Maps.AppendAt
import Derived.Laws.OwnMore
import Derived.Test.YtcfggjmdcaoecaaGreatDoorB01
set_option linter.unusedVariables false
set_option linter.unusedSimpArgs false
namespace Go.Proofs.YtcfggjmdcaoecaaGreatDoor
open Go Go.RowKit
abbrev Ext (w w':World):Prop:=Below w.heap.size w w'
theorem Ext.refl (w:World):Ext w w:=Below.refl _ _
theorem Ext.trans {a b c:World} (h:Ext a b) (k:Ext b c):Ext a c:=Below.trans h (k.mono h.size)
theorem Ext.drew {a b:World} (h:Ext a b):Ext a b.drew:=Below.drew h
theorem Ext.alloc {a b:World} (h:Ext a b) (o:Obj):Ext a (b.alloc o):=Below.alloc h h.size o
theorem Ext.of_alloc {a b:World} {o:Obj} (h:Ext (a.alloc o) b):Ext a b:=((Ext.refl a).alloc o).trans h
theorem Ext.cell {w w':World} (h:Ext w w') {a:Addr} {v:Value} (hc:w.cell? a=some v):w'.cell? a=some v :=
 (Below.cell h (World.block_lt_of_cell? w a hc)).trans hc
theorem drewN_ext (w:World):∀ n,Ext w (w.drewN n)
 | 0=>Ext.refl w
 | n+1=>by rw [World.drewN];exact (drewN_ext w n).drew
abbrev Foot:=Nat→Prop
def AnyB:Foot:=fun _=>True
def New (w:World):Foot:=fun b=>w.heap.size≤b
def Keep (K:Foot) (w w':World):Prop:=∀ b,K b→b<w.heap.size→w'.heap[b]? = w.heap[b]?
theorem Ext.keep {w w':World} (h:Ext w w') (K:Foot):Keep K w w':=fun b _ hb=>h.block b hb
theorem Keep.cell {K:Foot} {w w':World} (h:Keep K w w') {a:Addr} {v:Value} (hK:K a.block) (hc:w.cell? a=some v):w'.cell? a=some v :=
 (World.cell?_of_block (w:=w) (h a.block hK (World.block_lt_of_cell? w a hc))).trans hc
theorem Keep.refl (K:Foot) (w:World):Keep K w w:=fun _ _ _=>rfl
theorem Keep.trans {K:Foot} {a b c:World} (h:Keep K a b) (k:Keep K b c) (hs:a.heap.size≤b.heap.size):Keep K a c :=
 fun x hx hl=>(k x hx (Nat.lt_of_lt_of_le hl hs)).trans (h x hx hl)
theorem Keep.setCell {K:Foot} {w w':World} (h:Keep K w w') {a:Addr} (ha:∀ b,K b→b≠a.block) (v:Value):Keep K w (w'.setCell a v) :=
 fun b hb hl=>(Below.heap_setCell w' a v b (ha b hb)).trans (h b hb hl)
theorem Keep.mono {K K':Foot} {w w':World} (h:Keep K w w') (hK:∀ b,K' b→K b):Keep K' w w':=fun b hb hl=>h b (hK b hb) hl
def Cells (w:World) (b o:Nat) (cs:List Value):Prop:=∀ i v,cs[i]? = some v→w.cell? ⟨b,o+i,none⟩=some v
theorem Cells.keep {K:Foot} {w w':World} {b o:Nat} {cs:List Value} (h:Cells w b o cs) (k:Keep K w w') (hK:K b):Cells w' b o cs :=
 fun i v hi=>k.cell hK (h i v hi)
theorem Cells.z {w:World} {b o:Nat} {cs:List Value} (h:Cells w b o cs) {v:Value} (hv:cs[0]? = some v):w.cell? ⟨b,o,none⟩=some v:=h 0 v hv
def Sl {α:Type} (K:Foot) (w:World) (sz:Nat) (C:World→List Value→α→Prop) (v:Value) (xs:List α):Prop :=
 ∃ a cap,v=.slice a xs.length cap∧xs.length≤cap∧cap≤maxLen ∧
  (0<xs.length→∃ b o,a=some ⟨b,o,none⟩∧K b∧∀ i (h:i<xs.length),∃ cs,cs.length=sz∧C w cs xs[i]∧Cells w b (o+i*sz) cs)
theorem Sl.nil {α:Type} (K:Foot) (w:World) (sz:Nat) (C:World→List Value→α→Prop):Sl K w sz C (.slice none 0 0) [] :=
 ⟨none,0,rfl,Nat.le_refl _,by simp [maxLen],fun h=>absurd h (by simp)⟩
theorem Sl.keep {α:Type} {K K':Foot} {w w':World} {sz:Nat} {C C':World→List Value→α→Prop} {v:Value} {xs:List α} (h:Sl K w sz C v xs)
  (k:Keep K w w') (hC:∀ cs x,x∈xs→C w cs x→C' w' cs x) (hK:∀ b,K b→K' b):Sl K' w' sz C' v xs:=by
 obtain ⟨a,cap,e,h1,h2,h3⟩:=h
 refine ⟨a,cap,e,h1,h2,fun hp=>?_⟩
 obtain ⟨b,o,e1,e2,e3⟩:=h3 hp
 refine ⟨b,o,e1,hK b e2,fun i hi=>?_⟩
 obtain ⟨cs,c1,c2,c3⟩:=e3 i hi
 exact ⟨cs,c1,hC cs _ (List.getElem_mem hi) c2,c3.keep k e2⟩
theorem Sl.ext {α:Type} {K:Foot} {w w':World} {sz:Nat} {C:World→List Value→α→Prop} {v:Value} {xs:List α} (h:Sl K w sz C v xs)
  (k:Ext w w') (hC:∀ cs x,C w cs x→C w' cs x):Sl K w' sz C v xs:=h.keep (k.keep K) (fun cs x _=>hC cs x) (fun _ h=>h)
theorem Sl.shape {α:Type} {K:Foot} {w:World} {sz:Nat} {C:World→List Value→α→Prop} {v:Value} {xs:List α} (h:Sl K w sz C v xs):∃ a n c,v=.slice a n c:=by
 obtain ⟨a,cap,e,_⟩:=h
 exact ⟨a,_,cap,e⟩
theorem Sl.op {α:Type} {K:Foot} {w:World} {sz:Nat} {C:World→List Value→α→Prop} {v:Value} {xs:List α} (h:Sl K w sz C v xs) :
  ∃ a len cap,v=.slice a len cap∧Hid (xs.length=len)∧len≤cap∧cap≤9223372036854775807 ∧
   (0<len→∃ b o,a=some ⟨b,o,none⟩∧K b∧∀ i,i<len→∃ x cs,xs[i]? = some x∧cs.length=sz∧C w cs x∧Cells w b (o+i*sz) cs):=by
 obtain ⟨a,cap,e,h1,h2,h3⟩:=h
 refine ⟨a,xs.length,cap,e,rfl,h1,by unfold maxLen at h2;omega,fun hp=>?_⟩
 obtain ⟨b,o,e1,e2,e3⟩:=h3 hp
 refine ⟨b,o,e1,e2,fun i hi=>?_⟩
 obtain ⟨cs,c1,c2,c3⟩:=e3 i hi
 exact ⟨xs[i],cs,List.getElem?_eq_getElem hi,c1,c2,c3⟩
theorem take_snoc {α:Type} {xs:List α} {k:Nat} {x:α} (h:xs[k]? = some x):xs.take (k+1)=xs.take k ++ [x]:=by
 obtain ⟨hk,e⟩:=List.getElem?_eq_some_iff.1 h
 rw [List.take_succ_eq_append_getElem hk,e]
theorem take_all {α:Type} {xs:List α} {k:Nat} (h:Hid (xs.length=k)):xs.take k=xs:=List.take_of_length_le (by have:=h.out;omega)
def Same (v:Value) (w:World) (e:Ending) (w':World):Prop:=e=.returned v∧w=w'
def Drew (v:Value) (w:World) (e:Ending) (w':World):Prop:=e=.returned v∧∃ n,w'=w.drewN n
def Gives (v:Value) (w:World) (e:Ending) (w':World):Prop:=e=.returned v∧Ext w w'
def Made (w:World) (R:World→Value→Prop) (e:Ending) (w':World):Prop:=∃ v,e=.returned v∧R w' v∧Ext w w'
theorem Same.int {k:IntKind} {x y:Int} {w:World} (h:x=y):Same (.int k y) w (.returned (.int k x)) w:=⟨by rw [h],rfl⟩
theorem Same.bool {x y:Bool} {w:World} (h:x=y):Same (.bool y) w (.returned (.bool x)) w:=⟨by rw [h],rfl⟩
theorem Gives.int {k:IntKind} {x y:Int} {w w':World} (h:x=y) (hE:Ext w w'):Gives (.int k y) w (.returned (.int k x)) w':=⟨by rw [h],hE⟩
theorem Gives.bool {x y:Bool} {w w':World} (h:x=y) (hE:Ext w w'):Gives (.bool y) w (.returned (.bool x)) w':=⟨by rw [h],hE⟩
def Blk (w:World) (g:Nat) (t:TypeId) (arr:Array Value):Prop:=w.heap[g]? = some (.cells arr t (0,0))
theorem Blk.lt {w:World} {g t:Nat} {arr:Array Value} (h:Blk w g t arr):g<w.heap.size:=(Array.getElem?_eq_some_iff.1 h).1
theorem Blk.ext {w w':World} {g t:Nat} {arr:Array Value} (h:Blk w g t arr) (k:Ext w w'):Blk w' g t arr:=by
 unfold Blk at *
 rw [k.block g (Array.getElem?_eq_some_iff.1 h).1];exact h
theorem Blk.cell {w:World} {g t:Nat} {arr:Array Value} (h:Blk w g t arr) (i:Nat):w.cell? ⟨g,i,none⟩=arr[i]?:=cell_of_row w g i arr t _ h
theorem Blk.some {w:World} {g t:Nat} {arr:Array Value} (h:Blk w g t arr) (i:Nat) (hi:i<arr.size):∃ u,w.cell? ⟨g,i,none⟩=some u:=⟨_,by rw [h.cell];exact Array.getElem?_eq_getElem hi⟩
theorem Blk.frozen {w:World} {g t:Nat} {arr:Array Value} (h:Blk w g t arr) (i:Nat):w.frozen? ⟨g,i,none⟩=false:=frozen_of_row w g i arr t h
theorem Blk.set {w:World} {g t:Nat} {arr:Array Value} (h:Blk w g t arr) (i:Nat) (v:Value):Blk (w.setCell ⟨g,i,none⟩ v) g t (arr.setIfInBounds i v):=by
 unfold Blk at *
 rw [heap_setCell_same w g i arr t v h]
theorem Blk.setOther {w:World} {g t:Nat} {arr:Array Value} (h:Blk w g t arr) {a:Addr} (ha:g≠a.block) (v:Value):Blk (w.setCell a v) g t arr:=by
 unfold Blk at *
 rw [Below.heap_setCell _ _ _ _ ha];exact h
theorem Blk.alloc (w:World) (t:Nat) (arr:Array Value):Blk (w.alloc (.cells arr t)) w.heap.size t arr:=heap_alloc_new w _
theorem Blk.alloc2 (w:World) (t0 t1:Nat) (a b:Array Value) :
  Blk ((w.alloc (.cells a t0)).alloc (.cells b t1)) w.heap.size t0 a∧Blk ((w.alloc (.cells a t0)).alloc (.cells b t1)) (w.heap.size+1) t1 b:=by
 refine ⟨(Blk.alloc w t0 a).ext ((Ext.refl _).alloc _),?_⟩
 have:=Blk.alloc (w.alloc (.cells a t0)) t1 b
 simpa using this
def setCs (arr:Array Value) (i:Nat):List Value→Array Value
 | []=>arr
 | c :: cs=>setCs (arr.setIfInBounds i c) (i+1) cs
def Filled {α:Type} (w:World) (sz:Nat) (C:World→List Value→α→Prop) (l:List α) (k:Nat) (arr:Array Value):Prop :=
 ∀ j x,j<k→l[j]? = some x→∃ cs,cs.length=sz∧C w cs x∧∀ q,q<sz→arr[j*sz+q]? = cs[q]?
open Go Go.RowKit
section
variable {P:Program} {t e:TypeId} {i:TypeInfo} {sz:Nat}
def CutAt (sz lo n:Nat) (a a':Option Addr):Prop:=(∀ b o,a=some ⟨b,o,none⟩→0<n→a'=some ⟨b,o+lo*sz,none⟩)∧(a=none→a'=none)
theorem CutAt.mk_ (sz lo n c:Nat) (a:Option Addr) (hn:0<n→c≠lo):CutAt sz lo n a (if c=lo then a else a.map (·.add (lo*sz))):=by
 refine ⟨fun b o h hp=>?_,fun h=>?_⟩
 ·rw [if_neg (hn hp),h]
  simp only [Option.map_some,Addr.add]
  split<;>simp_all
 ·subst h
  split<;>rfl
theorem cut_from (ht:P.underlying t=some (.slice e)) (hi:P.info? e=some i) (hsz:i.size=sz) (a:Option Addr) (n c lo:Nat) (h1:lo≤n) (h2:n≤c) :
  ∃ a',(∀ W:World,(Instr.slice t (.slice a n c) (some (.int .i64 lo)) none none).run P W=.ok (.slice a' (n - lo) (c - lo)) W)∧CutAt sz lo (n - lo) a a':=by
 refine ⟨_,fun W=>?_,CutAt.mk_ sz lo (n - lo) c a (by omega)⟩
 have hel:P.elem t=e:=by simp [Program.elem,ht]
 have hu:P.underlying t=some (.slice (P.elem t)):=by rw [hel];exact ht
 rw [run_slice_l W t a n c hu .i64 (lo:Int) (by omega) (by omega),hel]
 simp [sizeOf,typeInfo,hi,hsz,sliced,Result.andThen]
theorem cut_to (ht:P.underlying t=some (.slice e)) (hi:P.info? e=some i) (hsz:i.size=sz) (a:Option Addr) (n c up:Nat) (h1:up≤c) :
  ∃ a',(∀ W:World,(Instr.slice t (.slice a n c) none (some (.int .i64 up)) (some (.int .i64 up))).run P W=.ok (.slice a' up up) W)∧CutAt sz 0 up a a':=by
 refine ⟨_,fun W=>?_,CutAt.mk_ sz 0 up up a (by omega)⟩
 have hel:P.elem t=e:=by simp [Program.elem,ht]
 have hu:P.underlying t=some (.slice (P.elem t)):=by rw [hel];exact ht
 rw [run_slice_hm W t a n c hu .i64 .i64 (up:Int) (up:Int) (by omega) (by omega) (by omega),hel]
 simp [sizeOf,typeInfo,hi,hsz,sliced,Result.andThen]
theorem cut_mid (ht:P.underlying t=some (.slice e)) (hi:P.info? e=some i) (hsz:i.size=sz) (a:Option Addr) (n c lo up:Nat) (h1:lo≤up) (h2:up≤c) :
  ∃ a',(∀ W:World,(Instr.slice t (.slice a n c) (some (.int .i64 lo)) (some (.int .i64 up)) none).run P W=.ok (.slice a' (up - lo) (c - lo)) W)∧CutAt sz lo (up - lo) a a':=by
 refine ⟨_,fun W=>?_,CutAt.mk_ sz lo (up - lo) c a (by omega)⟩
 have hel:P.elem t=e:=by simp [Program.elem,ht]
 have hu:P.underlying t=some (.slice (P.elem t)):=by rw [hel];exact ht
 rw [run_slice_lh W t a n c hu .i64 .i64 (lo:Int) (up:Int) (by omega) (by omega) (by omega),hel]
 simp [sizeOf,typeInfo,hi,hsz,sliced,Result.andThen]
theorem cut_mid_int (ht:P.underlying t=some (.slice e)) (hi:P.info? e=some i) (hsz:i.size=sz) (a:Option Addr) (n c lo up:Nat) (li ui:Int) (e1:li=lo) (e2:ui=up) (h1:lo≤up) (h2:up≤c) :
  ∃ a',(∀ W:World,(Instr.slice t (.slice a n c) (some (.int .i64 li)) (some (.int .i64 ui)) none).run P W=.ok (.slice a' (up - lo) (c - lo)) W)∧CutAt sz lo (up - lo) a a':=by
 subst e1
 subst e2
 exact cut_mid ht hi hsz a n c lo up h1 h2
end
theorem Sl.cutAt {α:Type} {K:Foot} {w:World} {sz:Nat} {C:World→List Value→α→Prop} {a:Option Addr} {len cap:Nat} {xs:List α} (h:Sl K w sz C (.slice a len cap) xs) (lo n:Nat) (h2:lo+n≤len)
  {a':Option Addr} {c:Nat} (hc:n≤c) (hm:c≤cap) (ha:CutAt sz lo n a a'):Sl K w sz C (.slice a' n c) ((xs.drop lo).take n):=by
 obtain ⟨a0,cap0,e,g1,g2,g3⟩:=h
 cases e
 have hl:((xs.drop lo).take n).length=n:=by simp;omega
 refine ⟨a',c,by rw [hl],by omega,by omega,fun hp=>?_⟩
 rw [hl] at hp
 obtain ⟨b,o,e1,e2,e3⟩:=g3 (by omega)
 refine ⟨b,o+lo*sz,ha.1 b o e1 hp,e2,fun i hi=>?_⟩
 rw [hl] at hi
 obtain ⟨cs,c1,c2,c3⟩:=e3 (lo+i) (by omega)
 refine ⟨cs,c1,by simpa using c2,?_⟩
 rw [Nat.add_assoc,← Nat.add_mul]
 exact c3
open Go Go.RowKit Md
def I64 (x:Int):Prop:=-9223372036854775808≤x∧x≤9223372036854775807
def CInt (k:IntKind) (w:World) (cs:List Value) (x:Int):Prop:=cs=[.int k x]∧(Lit.int k x).wf=true
def CStr (w:World) (cs:List Value) (s:ByteArray):Prop:=cs=[.string s]∧s.size≤maxLen
def CNode (w:World) (cs:List Value) (n:PNode):Prop:=cs=[.int .i64 n.kind,.int .i64 n.val,.string n.name]∧I64 n.kind∧I64 n.val∧n.name.size≤maxLen
def CGlob (w:World) (cs:List Value) (g:PGlob):Prop:=cs=[.string g.name,.int .i64 g.size]∧I64 g.size∧g.name.size≤maxLen
def CStmt (K:Foot) (w:World) (cs:List Value) (s:PStmt):Prop :=
 ∃ vE vF,cs=[.int .i64 s.kind,.string s.name,vE,vF,.int .i64 s.thn,.int .i64 s.els]∧Sl K w 3 CNode vE s.e∧Sl K w 3 CNode vF s.f ∧
  I64 s.kind∧I64 s.thn∧I64 s.els∧s.name.size≤maxLen
def CFunc (K:Foot) (w:World) (cs:List Value) (f:PFunc):Prop :=
 ∃ vP vB,cs=[.string f.name,vP,vB]∧Sl K w 1 CStr vP f.params∧Sl K w 6 (CStmt K) vB f.body∧f.name.size≤maxLen
def CTree (K:Foot) (w:World) (cs:List Value) (t:PTree):Prop :=
 ∃ vG vF,cs=[vG,vF]∧Sl K w 2 CGlob vG t.globals∧Sl K w 3 (CFunc K) vF t.funcs
theorem CInt.any {k:IntKind} {w w':World} {cs:List Value} {x:Int} (h:CInt k w cs x):CInt k w' cs x:=by unfold CInt at *;exact h
theorem CStr.any {w w':World} {cs:List Value} {x:ByteArray} (h:CStr w cs x):CStr w' cs x:=by unfold CStr at *;exact h
theorem CNode.any {w w':World} {cs:List Value} {x:PNode} (h:CNode w cs x):CNode w' cs x:=by unfold CNode at *;exact h
theorem CGlob.any {w w':World} {cs:List Value} {x:PGlob} (h:CGlob w cs x):CGlob w' cs x:=by unfold CGlob at *;exact h
theorem CStmt.keep {K K':Foot} {w w':World} {cs:List Value} {s:PStmt} (h:CStmt K w cs s) (k:Keep K w w') (hK:∀ b,K b→K' b):CStmt K' w' cs s:=by
 obtain ⟨vE,vF,e,h1,h2,h3⟩:=h
 exact ⟨vE,vF,e,h1.keep k (fun _ _ _ h=>h.any) hK,h2.keep k (fun _ _ _ h=>h.any) hK,h3⟩
theorem CFunc.keep {K K':Foot} {w w':World} {cs:List Value} {f:PFunc} (h:CFunc K w cs f) (k:Keep K w w') (hK:∀ b,K b→K' b):CFunc K' w' cs f:=by
 obtain ⟨vP,vB,e,h1,h2,h3⟩:=h
 exact ⟨vP,vB,e,h1.keep k (fun _ _ _ h=>h.any) hK,h2.keep k (fun _ _ _ h=>h.keep k hK) hK,h3⟩
theorem CStmt.ext {K:Foot} {w w':World} {cs:List Value} {s:PStmt} (h:CStmt K w cs s) (k:Ext w w'):CStmt K w' cs s:=h.keep (k.keep K) (fun _ h=>h)
theorem CFunc.ext {K:Foot} {w w':World} {cs:List Value} {f:PFunc} (h:CFunc K w cs f) (k:Ext w w'):CFunc K w' cs f:=h.keep (k.keep K) (fun _ h=>h)
abbrev SlInt (k:IntKind) (K:Foot) (w:World) (v:Value) (xs:List Int):Prop:=Sl K w 1 (CInt k) v xs
abbrev SlStr (K:Foot) (w:World) (v:Value) (xs:List ByteArray):Prop:=Sl K w 1 CStr v xs
abbrev SlNode (K:Foot) (w:World) (v:Value) (xs:List PNode):Prop:=Sl K w 3 CNode v xs
abbrev SlGlob (K:Foot) (w:World) (v:Value) (xs:List PGlob):Prop:=Sl K w 2 CGlob v xs
abbrev SlStmt (K:Foot) (w:World) (v:Value) (xs:List PStmt):Prop:=Sl K w 6 (CStmt K) v xs
abbrev SlFunc (K:Foot) (w:World) (v:Value) (xs:List PFunc):Prop:=Sl K w 3 (CFunc K) v xs
section
variable {H:Type} {enc:TypeId×Value→H} {P:Program} {W:World} {sp:Nat→Bool} {held:Bool}
theorem sl_of_trod {α:Type} {T E sz:Nat} {C:World→List Value→α→Prop} (hT:P.underlying T=some (.slice E)) (hsz:P.cellsOf E=sz) (h1:0<sz)
  (hel:∀ fuel cs x,DataW.trod enc P W 0 sp held fuel E cs=some x→cs.length=sz→∃ y,C W cs y) {fuel:Nat} {v:Value} {x:DataW H×List MemPlace}
  (h:DataW.trod enc P W 0 sp held fuel T [v]=some x):∃ xs:List α,Sl AnyB W sz C v xs:=by
 rcases Go.Deep.open_slice hT h with ⟨hcs,_⟩ | ⟨a,len,cap,m,n,D,Pl,hcs,_,hl,hm,hmm,_,hall⟩
 ·obtain rfl:v=.slice none 0 0:=by simpa using hcs
  exact ⟨[],Sl.nil _ _ _ _⟩
 ·obtain rfl:v=.slice (some a) len cap:=by simpa using hcs
  rw [hsz] at hall
  have hle:len≤m:=by rw [hmm];split<;>omega
  have hx:∀ i:Fin len,∃ y':α,∃ cs,cs.length=sz∧C W cs y'∧∀ j,j<sz→W.cell? ((a.add (i*sz)).add j)=cs[j]?:=by
   intro i
   obtain ⟨cs',c1,c2⟩:=hall i (by have:=i.isLt;omega)
   obtain ⟨_,c3,c4⟩:=World.cells?_some c1
   obtain ⟨y,hy⟩:=hel _ _ _ c2 c3
   exact ⟨y,cs',c3,hy,c4⟩
  refine ⟨List.ofFn fun i=>Classical.choose (hx i),some a,cap,by simp,by simpa using hl,hm,fun hp=>?_⟩
  simp only [List.length_ofFn] at hp ⊢
  have hsp:a.spot=none:=by
   obtain ⟨cs,c1,_,c3⟩:=Classical.choose_spec (hx ⟨0,hp⟩)
   have:=c3 0 h1
   rw [List.getElem?_eq_getElem (by omega)] at this
   simp only [Nat.zero_mul] at this
   cases hs:a.spot with
   | none=>rfl
   | some z =>
     exfalso
     have e:(a.add 0).add 0=a:=by simp [Addr.add]
     rw [e] at this
     unfold World.cell? at this
     split at this
     ·simp [hs] at this
     ·cases this
  refine ⟨a.block,a.off,by cases a;simp_all,trivial,fun i hi=>?_⟩
  obtain ⟨cs,c1,c2,c3⟩:=Classical.choose_spec (hx ⟨i,hi⟩)
  rw [List.getElem_ofFn]
  refine ⟨cs,c1,c2,fun j v hj=>?_⟩
  have hjl:j<cs.length:=(List.getElem?_eq_some_iff.1 hj).1
  have:=c3 j (by omega)
  rw [hj] at this
  rw [← this]
  congr 1
  rw [Go.Deep.add_add]
  obtain ⟨ab,ao,asp⟩:=a
  simp only at hsp
  subst hsp
  simp only [Addr.add]
  split
  ·rename_i e
   simp only [Addr.mk.injEq,true_and,and_true]
   omega
  ·simp only [Addr.mk.injEq,true_and,and_true]
   omega
theorem int_of_trod {T:Nat} {k:IntKind} (hT:P.underlying T=some (.int k)) {fuel:Nat} {cs:List Value} {x:DataW H×List MemPlace} (h:DataW.trod enc P W 0 sp held fuel T cs=some x) :
  ∃ y,CInt k W cs y:=by
 obtain ⟨a,h1,_,h3⟩:=DataW.trod_int hT h
 exact ⟨a,h1,h3⟩
end
open Go Go.RowKit Md
def CVal (w:World) (cs:List Value) (v:Value):Prop:=cs=[v]
theorem CVal.any {w w':World} {cs:List Value} {v:Value} (h:CVal w cs v):CVal w' cs v:=by unfold CVal at *;exact h
abbrev SlV (K:Foot) (w:World) (v:Value) (vs:List Value):Prop:=Sl K w 1 CVal v vs
theorem SlV.ext {K:Foot} {w w':World} {v:Value} {vs:List Value} (h:SlV K w v vs) (k:Ext w w'):SlV K w' v vs:=Sl.ext h k (fun _ _ h=>h.any)
def All2 {α:Type} (R:Value→α→Prop) (vs:List Value) (xs:List α):Prop:=vs.length=xs.length∧∀ (i:Nat) v x,vs[i]? = some v→xs[i]? = some x→R v x
theorem All2.nil {α:Type} (R:Value→α→Prop):All2 R [] []:=⟨rfl,fun i v x h=>by simp at h⟩
theorem All2.mono {α:Type} {R R':Value→α→Prop} {vs:List Value} {xs:List α} (h:All2 R vs xs) (hR:∀ v x,x∈xs→R v x→R' v x):All2 R' vs xs :=
 ⟨h.1,fun i v x h1 h2=>hR v x (List.mem_of_getElem? h2) (h.2 i v x h1 h2)⟩
theorem All2.take {α:Type} {R:Value→α→Prop} {vs:List Value} {xs:List α} (h:All2 R vs xs) (n:Nat):All2 R (vs.take n) (xs.take n):=by
 refine ⟨by rw [List.length_take,List.length_take,h.1],fun i v x h1 h2=>?_⟩
 rw [List.getElem?_take] at h1 h2
 split at h1
 ·rename_i hi
  rw [if_pos hi] at h2
  exact h.2 i v x h1 h2
 ·cases h1
theorem All2.drop {α:Type} {R:Value→α→Prop} {vs:List Value} {xs:List α} (h:All2 R vs xs) (n:Nat):All2 R (vs.drop n) (xs.drop n):=by
 refine ⟨by rw [List.length_drop,List.length_drop,h.1],fun i v x h1 h2=>?_⟩
 rw [List.getElem?_drop] at h1 h2
 exact h.2 _ v x h1 h2
theorem All2.snoc {α:Type} {R:Value→α→Prop} {vs:List Value} {xs:List α} {v:Value} {x:α} (h:All2 R vs xs) (hx:R v x):All2 R (vs ++ [v]) (xs ++ [x]):=by
 refine ⟨by simp [h.1],fun i u y h1 h2=>?_⟩
 have hl:=h.1
 by_cases hi:i<vs.length
 ·rw [List.getElem?_append_left hi] at h1
  rw [List.getElem?_append_left (by omega)] at h2
  exact h.2 i u y h1 h2
 ·rw [List.getElem?_append_right (by omega)] at h1
  rw [List.getElem?_append_right (by omega)] at h2
  have e1:i - vs.length=0:=by
   have:=(List.getElem?_eq_some_iff.1 h1).1
   simp at this;omega
  have e2:i - xs.length=0:=by omega
  rw [e1] at h1
  rw [e2] at h2
  simp at h1 h2
  subst h1
  subst h2
  exact hx
theorem All2.get {α:Type} {R:Value→α→Prop} {vs:List Value} {xs:List α} (h:All2 R vs xs) {i:Nat} {x:α} (hx:xs[i]? = some x):∃ v,vs[i]? = some v∧R v x:=by
 have hi:=(List.getElem?_eq_some_iff.1 hx).1
 have hl:=h.1
 exact ⟨vs[i],List.getElem?_eq_getElem (by omega),h.2 i _ x (List.getElem?_eq_getElem (by omega)) hx⟩
inductive ExAt (K:Foot) (w:World):Value→Ex→Prop where
 | mk (b:Nat) (n:PNode) (va:Value) (vs:List Value) (xs:List Ex) (hK:K b) (hc:Cells w b 0 [.int .i64 n.kind,.int .i64 n.val,.string n.name,va]) (hk:I64 n.kind) (hv:I64 n.val) (hn:n.name.size≤maxLen)
   (hs:SlV K w va vs) (hl:vs.length=xs.length) (hx:∀ (i:Nat) v x,vs[i]? = some v→xs[i]? = some x→ExAt K w v x):ExAt K w (.pointer (some ⟨b,0,none⟩)) (.mk n xs)
theorem SlV.keep {K K':Foot} {w w':World} {v:Value} {vs:List Value} (h:SlV K w v vs) (k:Keep K w w') (hK:∀ b,K b→K' b):SlV K' w' v vs:=Sl.keep h k (fun _ _ _ h=>h.any) hK
theorem ExAt.keep {K K':Foot} {w w':World} {v:Value} {x:Ex} (h:ExAt K w v x) (k:Keep K w w') (hK:∀ b,K b→K' b):ExAt K' w' v x:=by
 induction h with
 | mk b n va vs xs hb hc hk hv hn hs hl hx ih=>exact .mk b n va vs xs (hK b hb) (hc.keep k hb) hk hv hn (hs.keep k hK) hl ih
theorem ExAt.ext {K:Foot} {w w':World} {v:Value} {x:Ex} (h:ExAt K w v x) (k:Ext w w'):ExAt K w' v x:=h.keep (k.keep K) (fun _ h=>h)
theorem ExAt.mono {K K':Foot} {w:World} {v:Value} {x:Ex} (h:ExAt K w v x) (hK:∀ b,K b→K' b):ExAt K' w v x:=h.keep (Keep.refl K w) hK
theorem ExAt.op {K:Foot} {w:World} {v:Value} {x:Ex} (h:ExAt K w v x):∃ b va vs,v=.pointer (some ⟨b,0,none⟩)∧Cells w b 0 [.int .i64 x.node.kind,.int .i64 x.node.val,.string x.node.name,va]∧I64 x.node.kind∧I64 x.node.val∧x.node.name.size≤maxLen ∧
  SlV K w va vs∧All2 (ExAt K w) vs x.args:=by
 cases h with
 | mk b n va vs xs hb hc hk hv hn hs hl hx=>exact ⟨b,va,vs,rfl,hc,hk,hv,hn,hs,hl,hx⟩
theorem All2.exExt {K:Foot} {w w':World} {vs:List Value} {xs:List Ex} (h:All2 (ExAt K w) vs xs) (k:Ext w w'):All2 (ExAt K w') vs xs:=h.mono fun _ _ _ h=>h.ext k
def ExOpt (K:Foot) (w:World) (v:Value):Option Ex→Prop
 | some x=>ExAt K w v x
 | none=>v=.pointer none
theorem ExOpt.keep {K K':Foot} {w w':World} {v:Value} {x:Option Ex} (h:ExOpt K w v x) (k:Keep K w w') (hK:∀ b,K b→K' b):ExOpt K' w' v x:=by
 cases x with
 | none=>exact h
 | some x=>exact ExAt.keep h k hK
theorem ExOpt.ext {K:Foot} {w w':World} {v:Value} {x:Option Ex} (h:ExOpt K w v x) (k:Ext w w'):ExOpt K w' v x:=h.keep (k.keep K) (fun _ h=>h)
inductive StAt (K:Foot) (w:World):Value→St→Prop where
 | mk (b:Nat) (s:PStmt) (p:Nat) (x:Ex) (y:Option Ex) (vE vF ve vf vt vu:Value) (ts us:List Value) (thn els:List St) (hK:K b)
   (hc:Cells w b 0 [.int .i64 s.kind,.string s.name,vE,vF,.int .i64 s.thn,.int .i64 s.els,.int .i64 p,ve,vf,vt,vu]) (hE:SlNode K w vE s.e) (hF:SlNode K w vF s.f)
   (h1:I64 s.kind) (h2:I64 s.thn) (h3:I64 s.els) (h4:s.name.size≤maxLen) (he:ExAt K w ve x) (hf:ExOpt K w vf y) (ht:SlV K w vt ts) (hu:SlV K w vu us) (lt:ts.length=thn.length) (lu:us.length=els.length)
   (ht2:∀ (i:Nat) v z,ts[i]? = some v→thn[i]? = some z→StAt K w v z) (hu2:∀ (i:Nat) v z,us[i]? = some v→els[i]? = some z→StAt K w v z):StAt K w (.pointer (some ⟨b,0,none⟩)) (.mk s p x y thn els)
theorem StAt.keep {K K':Foot} {w w':World} {v:Value} {x:St} (h:StAt K w v x) (k:Keep K w w') (hK:∀ b,K b→K' b):StAt K' w' v x:=by
 induction h with
 | mk b s p x y vE vF ve vf vt vu ts us thn els hb hc hE hF h1 h2 h3 h4 he hf ht hu lt lu _ _ ih1 ih2 =>
   exact .mk b s p x y vE vF ve vf vt vu ts us thn els (hK b hb) (hc.keep k hb) (Sl.keep hE k (fun _ _ _ h=>h.any) hK) (Sl.keep hF k (fun _ _ _ h=>h.any) hK) h1 h2 h3 h4 (he.keep k hK) (hf.keep k hK) (ht.keep k hK) (hu.keep k hK) lt lu ih1 ih2
theorem StAt.ext {K:Foot} {w w':World} {v:Value} {x:St} (h:StAt K w v x) (k:Ext w w'):StAt K w' v x:=h.keep (k.keep K) (fun _ h=>h)
theorem StAt.op {K:Foot} {w:World} {v:Value} {x:St} (h:StAt K w v x):∃ b vE vF ve vf vt vu ts us,v=.pointer (some ⟨b,0,none⟩) ∧
  Cells w b 0 [.int .i64 x.s.kind,.string x.s.name,vE,vF,.int .i64 x.s.thn,.int .i64 x.s.els,.int .i64 (x.at_:Nat),ve,vf,vt,vu]∧SlNode K w vE x.s.e∧SlNode K w vF x.s.f ∧
  I64 x.s.kind∧I64 x.s.thn∧I64 x.s.els∧x.s.name.size≤maxLen∧ExAt K w ve x.e∧ExOpt K w vf x.f∧SlV K w vt ts∧SlV K w vu us∧All2 (StAt K w) ts x.thn∧All2 (StAt K w) us x.els:=by
 cases h with
 | mk b s p x y vE vF ve vf vt vu ts us thn els hb hc hE hF h1 h2 h3 h4 he hf ht hu lt lu ht2 hu2 =>
   exact ⟨b,vE,vF,ve,vf,vt,vu,ts,us,rfl,hc,hE,hF,h1,h2,h3,h4,he,hf,ht,hu,⟨lt,ht2⟩,⟨lu,hu2⟩⟩
theorem All2.stKeep {K K':Foot} {w w':World} {vs:List Value} {xs:List St} (h:All2 (StAt K w) vs xs) (k:Keep K w w') (hK:∀ b,K b→K' b):All2 (StAt K' w') vs xs:=h.mono fun _ _ _ h=>h.keep k hK
theorem All2.stExt {K:Foot} {w w':World} {vs:List Value} {xs:List St} (h:All2 (StAt K w) vs xs) (k:Ext w w'):All2 (StAt K w') vs xs:=h.mono fun _ _ _ h=>h.ext k
theorem sl_of_own {w:World} {base:Nat} {e:TypeId} {v:Value} {n:Nat} {vs:List Value} {K:Foot} (h:w.ownsRow base e 1 v n vs) (hK:∀ g,base≤g→K g):SlV K w v vs:=by
 have hl:vs.length=n:=by have:=h.1;simpa using this
 rcases h.2 with ⟨rfl,h1⟩ | ⟨g,cap,cur,rfl,hg,hh,h1,h2,h3,h4⟩
 ·obtain rfl:vs=[]:=List.eq_nil_of_length_eq_zero (by omega)
  exact Sl.nil _ _ _ _
 ·refine ⟨some ⟨g,0,none⟩,cap,by rw [hl],by omega,h2,fun hp=>⟨g,0,rfl,hK g hg,fun i hi=>⟨[vs[i]],rfl,rfl,fun q u hu=>?_⟩⟩⟩
  have hq:q=0:=by
   have:=(List.getElem?_eq_some_iff.1 hu).1
   simp at this;omega
  subst hq
  simp at hu
  subst hu
  have:=h.cells (g:=g) rfl i _ (List.getElem?_eq_getElem hi)
  have e:((⟨g,0,none⟩:Addr).add i)=⟨g,0+i*1+0,none⟩:=by
   unfold Addr.add
   split
   ·simp
   ·simp
  rw [e] at this
  exact this
theorem ext_of_grown {w w':World} (h:w.grownBy w' none):Ext w w':=⟨h.os,h.tape,h.output,h.size,fun k hk=>h.block k hk (by simp)⟩
theorem SlV.cells {K:Foot} {w:World} {a:Option Addr} {n c:Nat} {vs:List Value} (h:SlV K w (.slice a n c) vs):∀ ad,a=some ad→∀ j u,vs[j]? = some u→w.cell? (ad.add j)=some u:=by
 intro ad ha j u hu
 obtain ⟨a',cap,e,h1,h2,h3⟩:=h
 simp only [Value.slice.injEq] at e
 obtain ⟨rfl,rfl,rfl⟩:=e
 have hj:=(List.getElem?_eq_some_iff.1 hu).1
 obtain ⟨b,o,e1,_,e3⟩:=h3 (by omega)
 rw [ha] at e1
 cases e1
 obtain ⟨cs,c1,c2,c3⟩:=e3 j hj
 have hcs:cs=[vs[j]]:=c2
 subst hcs
 have:=c3 0 _ rfl
 have e:((⟨b,o,none⟩:Addr).add j)=⟨b,o+j*1+0,none⟩:=by
  unfold Addr.add
  split
  ·simp
  ·simp
 rw [e,this]
 rw [← hu,List.getElem?_eq_getElem hj]
theorem SlV.at_ {K:Foot} {w:World} {a:Option Addr} {n c:Nat} {vs:List Value} (h:SlV K w (.slice a n c) vs) (hp:0<n):∃ b o,a=some ⟨b,o,none⟩∧K b∧∀ (i:Nat) v,vs[i]? = some v→w.cell? ⟨b,o+i,none⟩=some v:=by
 have hc:=SlV.cells h
 obtain ⟨a',cap,e,h1,h2,h3⟩:=h
 simp only [Value.slice.injEq] at e
 obtain ⟨rfl,rfl,rfl⟩:=e
 obtain ⟨b,o,e1,hK,_⟩:=h3 hp
 refine ⟨b,o,e1,hK,fun i v hv=>?_⟩
 have:=hc _ e1 i v hv
 have e:((⟨b,o,none⟩:Addr).add i)=⟨b,o+i,none⟩:=by
  unfold Addr.add
  split
  ·simp_all
  ·simp
 rw [e] at this
 exact this
theorem SlV.len {K:Foot} {w:World} {a:Option Addr} {n c:Nat} {vs:List Value} (h:SlV K w (.slice a n c) vs):vs.length=n∧n≤c∧c≤9223372036854775807:=by
 obtain ⟨a',cap,e,h1,h2,h3⟩:=h
 simp only [Value.slice.injEq] at e
 obtain ⟨rfl,rfl,rfl⟩:=e
 unfold maxLen at h2
 exact ⟨rfl,h1,by omega⟩
open Go Go.RowKit
section
variable {α:Type} {P:Program} {T E by_:Nat} {z:Value} {i0:TypeInfo}
theorem run_append_none0 (w:World) (base:Nat) (t ty e:TypeId) (i:TypeInfo) (size:Nat) (ht:P.underlying t=some (.slice e)) (hi:P.info? e=some i)
  (v:Value) (n c:Nat) (xs:List Value) (hown:w.ownsRow base e size v n xs) :
  (Builtin.append_ #[t,t] ty #[v,.slice none 0 c]).run P w=.ok v w:=by
 rcases hown.2 with ⟨rfl,rfl⟩ | ⟨g,cap,cur,rfl,_,_,hnc,_⟩
 ·simp [Builtin.append_,run_underlying ht,sizeOf,typeInfo,hi,Builtin.lenOf,Builtin.firstCells]
 ·simp [Builtin.append_,run_underlying ht,sizeOf,typeInfo,hi,Builtin.lenOf,Builtin.firstCells,hnc,storeCells]
theorem run_app (enc:α→Value) (C:World→List Value→α→Prop) (hC:∀ w cs x,C w cs x→cs=[enc x]) (h1:∀ x,(enc x).oneCell'=true) (K:Foot) (w:World) (base:Nat) (hT:P.underlying T=some (.slice E)) (hi:P.info? E=some i0) (hz:i0.zero=some z) (hs:i0.size=1) (hb:i0.bytes=by_) (hzs:z.cells.size=1)
  (v:Value) (xs:List Value) (hown:w.ownsRow base E 1 v xs.length xs) (v2:Value) (ys:List α) (hr:Sl K w 1 C v2 ys) (hB:(xs.length+ys.length)*by_≤140737488355328) (hB1:xs.length+ys.length≤140737488355328) (hbase:base≤w.heap.size) (ty:TypeId) :
  ∃ v' w',(Builtin.append_ #[T,T] ty #[v,v2]).run P w=.ok v' w'∧w'.ownsRow base E 1 v' (xs ++ ys.map enc).length (xs ++ ys.map enc)∧w.grownBy w' v.ownBlock∧(v'.ownBlock=v.ownBlock∨v'.ownBlock=some w.heap.size):=by
 obtain ⟨a,cap,rfl,h2,h3,h4⟩:=hr
 have hlen:(xs ++ ys.map enc).length=xs.length+ys.length:=by simp
 cases a with
 | none =>
   have h0:ys.length=0:=by
    rcases Nat.eq_zero_or_pos ys.length with h | h
    ·exact h
    ·obtain ⟨b,o,e,_⟩:=h4 h
     cases e
   obtain rfl:ys=[]:=List.eq_nil_of_length_eq_zero h0
   refine ⟨v,w,run_append_none0 w base T ty E i0 1 hT hi v _ cap xs hown,by simpa using hown,⟨rfl,rfl,rfl,Nat.le_refl _,fun _ _ _=>rfl⟩,.inl rfl⟩
 | some ad =>
   have hc:∀ j u,(ys.map enc)[j]? = some u→w.cell? (ad.add j)=some u:=by
    intro j u hj
    rw [List.getElem?_map] at hj
    obtain ⟨y,hy,rfl⟩:=Option.map_eq_some_iff.1 hj
    obtain ⟨hjl,e⟩:=List.getElem?_eq_some_iff.1 hy
    obtain ⟨b,o,e1,_,e3⟩:=h4 (by omega)
    cases e1
    obtain ⟨cs,c1,c2,c3⟩:=e3 j hjl
    rw [e] at c2
    have:=c3 0 _ (by rw [hC _ _ _ c2];rfl)
    unfold Addr.add
    split
    ·rename_i hj0;subst hj0;simpa using this
    ·simpa using this
   obtain ⟨v',w',hrun,ho,hg,_,hat⟩:=run_append_own_at (P:=P) (w:=w) base T ty E i0 z 1 by_ hT hi hz hs hb hzs (by decide) v xs.length xs hown ad ys.length cap (ys.map enc) (by simp) hc (fun u hu=>by
    obtain ⟨x,_,rfl⟩:=List.mem_map.1 hu
    exact h1 x) (by unfold maxLen;omega) hB hbase
   exact ⟨v',w',hrun,by rw [hlen];exact ho,hg,hat⟩
theorem sl_own (enc:α→Value) (C:World→List Value→α→Prop) (hC:∀ x w,C w [enc x] x∨True) {w:World} {base n:Nat} {v:Value} {xs:List α} {K:Foot} (h:w.ownsRow base E 1 v n (xs.map enc)) (hK:∀ g,base≤g→K g) (hc:∀ x∈xs,C w [enc x] x):Sl K w 1 C v xs:=by
 have hl:(xs.map enc).length=n:=by have:=h.1;simpa using this
 rw [List.length_map] at hl
 rcases h.2 with ⟨rfl,h1⟩ | ⟨g,cap,cur,rfl,hg,hh,h1,h2,h3,h4⟩
 ·obtain rfl:xs=[]:=List.eq_nil_of_length_eq_zero (by omega)
  exact Sl.nil _ _ _ _
 ·refine ⟨some ⟨g,0,none⟩,cap,by rw [hl],by omega,h2,fun hp=>⟨g,0,rfl,hK g hg,fun i hi=>⟨[enc xs[i]],rfl,hc _ (List.getElem_mem hi),fun q u hu=>?_⟩⟩⟩
  have hq:q=0:=by
   have:=(List.getElem?_eq_some_iff.1 hu).1
   simp at this
   omega
  subst hq
  simp at hu
  subst hu
  have:=h.cells (g:=g) rfl i (enc xs[i]) (by simp [hi])
  unfold Addr.add at this
  split at this
  ·rename_i h0;subst h0;simpa using this
  ·simpa using this
end
open Go Go.RowKit Md
section
variable {α:Type} (sz:Nat) (enc:α→List Value)
theorem flat_len (h:∀ x,(enc x).length=sz) (xs:List α):(xs.flatMap enc).length=xs.length*sz:=by
 induction xs with
 | nil=>simp
 | cons x r ih=>rw [List.flatMap_cons,List.length_append,h,ih,List.length_cons,Nat.succ_mul,Nat.add_comm]
theorem flat_at (h:∀ x,(enc x).length=sz):∀ (xs:List α) (i q:Nat) (x:α),xs[i]? = some x→q<sz→(xs.flatMap enc)[i*sz+q]? = (enc x)[q]?:=by
 intro xs
 induction xs with
 | nil=>intro i q x hx;simp at hx
 | cons y r ih =>
   intro i q x hx hq
   rw [List.flatMap_cons]
   cases i with
   | zero =>
     simp at hx
     subst hx
     rw [Nat.zero_mul,Nat.zero_add,List.getElem?_append_left (by rw [h];exact hq)]
   | succ i =>
     simp at hx
     rw [List.getElem?_append_right (by rw [h,Nat.succ_mul];omega),h,show (i+1)*sz+q - sz=i*sz+q by rw [Nat.succ_mul];omega]
     exact ih i q x hx hq
theorem flat_inv (h:∀ x,(enc x).length=sz) (hs:0<sz) (xs:List α) (j:Nat) (u:Value) (hj:(xs.flatMap enc)[j]? = some u):∃ i q x,j=i*sz+q∧q<sz∧xs[i]? = some x∧(enc x)[q]? = some u:=by
 have hlt:=(List.getElem?_eq_some_iff.1 hj).1
 rw [flat_len sz enc h] at hlt
 have hi:j / sz<xs.length:=(Nat.div_lt_iff_lt_mul hs).2 hlt
 have hq:=Nat.mod_lt j hs
 have e:j=j / sz*sz+j % sz:=by rw [Nat.mul_comm];exact (Nat.div_add_mod j sz).symm
 refine ⟨j / sz,j % sz,xs[j / sz],e,hq,List.getElem?_eq_getElem hi,?_⟩
 rw [← flat_at sz enc h xs (j / sz) (j % sz) _ (List.getElem?_eq_getElem hi) hq,← e]
 exact hj
variable {sz enc}
theorem Sl.flat {K:Foot} {w:World} {C:World→List Value→α→Prop} {a:Option Addr} {n c:Nat} {xs:List α} (h:Sl K w sz C (.slice a n c) xs) (hl:∀ x,(enc x).length=sz) (hs:0<sz) (hC:∀ w cs x,C w cs x→cs=enc x) :
  ∀ ad,a=some ad→∀ j u,(xs.flatMap enc)[j]? = some u→w.cell? (ad.add j)=some u:=by
 intro ad ha j u hj
 obtain ⟨i,q,x,rfl,hq,hx,hu⟩:=flat_inv sz enc hl hs xs j u hj
 obtain ⟨a',cap,e,h1,h2,h3⟩:=h
 cases e
 obtain ⟨hi,e⟩:=List.getElem?_eq_some_iff.1 hx
 obtain ⟨b,o,e1,_,e3⟩:=h3 (by omega)
 rw [ha] at e1
 cases e1
 obtain ⟨cs,c1,c2,c3⟩:=e3 i hi
 rw [e] at c2
 rw [hC _ _ _ c2] at c3
 have:=c3 q u hu
 have e2:(⟨b,o,none⟩:Addr).add (i*sz+q)=⟨b,o+(i*sz+q),none⟩:=by unfold Addr.add;split<;>simp_all
 rw [e2,← Nat.add_assoc]
 exact this
theorem sl_ownN {w:World} {base n E:Nat} {v:Value} {xs:List α} {K:Foot} {C:World→List Value→α→Prop} (hl:∀ x,(enc x).length=sz) (hs:0<sz) (h:w.ownsRow base E sz v n (xs.flatMap enc)) (hK:∀ g,base≤g→K g) (hc:∀ x∈xs,C w (enc x) x):Sl K w sz C v xs:=by
 have hn:xs.length=n:=by
  have:=h.1
  rw [flat_len sz enc hl] at this
  exact Nat.eq_of_mul_eq_mul_right hs this
 rcases h.2 with ⟨rfl,h1⟩ | ⟨g,cap,cur,rfl,hg,hh,h1,h2,h3,h4⟩
 ·obtain rfl:xs=[]:=List.eq_nil_of_length_eq_zero (by omega)
  exact Sl.nil _ _ _ _
 ·refine ⟨some ⟨g,0,none⟩,cap,by rw [hn],by omega,h2,fun hp=>⟨g,0,rfl,hK g hg,fun i hi=>⟨enc xs[i],hl _,hc _ (List.getElem_mem hi),fun q u hu=>?_⟩⟩⟩
  have hq:q<sz:=by
   have:=(List.getElem?_eq_some_iff.1 hu).1
   rw [hl] at this
   exact this
  have:=h.cells (g:=g) rfl (i*sz+q) u (by rw [flat_at sz enc hl xs i q _ (List.getElem?_eq_getElem hi) hq];exact hu)
  have e2:(⟨g,0,none⟩:Addr).add (i*sz+q)=⟨g,0+(i*sz+q),none⟩:=by unfold Addr.add;split<;>simp_all
  rw [e2] at this
  rw [Nat.add_assoc]
  exact this
theorem run_appN {P:Program} {T E by_:Nat} {z:Value} {i0:TypeInfo} (C:World→List Value→α→Prop) (hC:∀ w cs x,C w cs x→cs=enc x) (hl:∀ x,(enc x).length=sz) (hs:0<sz) (h1:∀ x,∀ u∈enc x,u.oneCell'=true) (K:Foot) (w:World) (base:Nat) (hT:P.underlying T=some (.slice E)) (hi:P.info? E=some i0) (hz:i0.zero=some z) (hsz:i0.size=sz) (hb:i0.bytes=by_) (hzs:z.cells.size=sz)
  (v:Value) (n:Nat) (xs:List α) (hown:w.ownsRow base E sz v n (xs.flatMap enc)) (v2:Value) (ys:List α) (hr:Sl K w sz C v2 ys) (hB:(n+ys.length)*by_≤140737488355328) (hB1:n+ys.length≤140737488355328) (hbase:base≤w.heap.size) (ty:TypeId) :
  ∃ v' w',(Builtin.append_ #[T,T] ty #[v,v2]).run P w=.ok v' w'∧w'.ownsRow base E sz v' (n+ys.length) ((xs ++ ys).flatMap enc)∧w.grownBy w' v.ownBlock∧(v'.ownBlock=v.ownBlock∨v'.ownBlock=some w.heap.size):=by
 have hflat:=fun a c (e:v2=.slice a ys.length c)=>Sl.flat (e ▸ hr) hl hs hC
 obtain ⟨a,cap,rfl,h2,h3,h4⟩:=hr
 cases a with
 | none =>
   have h0:ys.length=0:=by
    rcases Nat.eq_zero_or_pos ys.length with h | h
    ·exact h
    ·obtain ⟨b,o,e,_⟩:=h4 h
     cases e
   obtain rfl:ys=[]:=List.eq_nil_of_length_eq_zero h0
   refine ⟨v,w,run_append_none0 w base T ty E i0 sz hT hi v n cap _ hown,by simpa using hown,⟨rfl,rfl,rfl,Nat.le_refl _,fun _ _ _=>rfl⟩,.inl rfl⟩
 | some ad =>
   obtain ⟨v',w',hrun,ho,hg,_,hat⟩:=run_append_own_at (P:=P) (w:=w) base T ty E i0 z sz by_ hT hi hz hsz hb hzs hs v n (xs.flatMap enc) hown ad ys.length cap (ys.flatMap enc) (flat_len sz enc hl ys) (hflat _ _ rfl ad rfl) (fun u hu=>by
    obtain ⟨x,_,hx⟩:=List.mem_flatMap.1 hu
    exact h1 x u hx) (by unfold maxLen;omega) hB hbase
   exact ⟨v',w',hrun,by rw [List.flatMap_append];exact ho,hg,hat⟩
end
def encNode (n:PNode):List Value:=[.int .i64 n.kind,.int .i64 n.val,.string n.name]
theorem encNode_len (n:PNode):(encNode n).length=3:=rfl
theorem encNode_one (n:PNode):∀ u∈encNode n,u.oneCell'=true:=by
 intro u hu
 simp only [encNode,List.mem_cons,List.not_mem_nil,or_false] at hu
 rcases hu with rfl | rfl | rfl<;>rfl
theorem Sl.mem {α:Type} {K:Foot} {w:World} {sz:Nat} {C:World→List Value→α→Prop} {v:Value} {l:List α} (h:Sl K w sz C v l):∀ x∈l,∃ cs,C w cs x:=by
 obtain ⟨a,cap,e,h1,h2,h3⟩:=h
 intro x hx
 obtain ⟨i,hi,rfl⟩:=List.getElem_of_mem hx
 obtain ⟨b,o,_,_,he⟩:=h3 (by omega)
 obtain ⟨cs,_,hC,_⟩:=he i hi
 exact ⟨cs,hC⟩
open Go Go.RowKit Md
theorem rw_new0 (w:World) (base E sz:Nat) (hb:base≤w.heap.size):(w.alloc (.cells #[] E)).ownsRow base E sz (.slice (some ⟨w.heap.size,0,none⟩) 0 0) 0 []:=by
 refine ⟨by simp,.inr ⟨w.heap.size,0,#[],rfl,hb,heap_alloc_new w _,Nat.le_refl _,by simp [maxLen],by simp,by simp⟩⟩
theorem rw_set {w:World} {base E n g c:Nat} {xs:List Value} (h:w.ownsRow base E 1 (.slice (some ⟨g,0,none⟩) n c) n xs) {i:Nat} (hi:i<n) (u:Value):(w.setCell ⟨g,i,none⟩ u).ownsRow base E 1 (.slice (some ⟨g,0,none⟩) n c) n (xs.set i u):=by
 obtain ⟨h1,h2⟩:=h
 refine ⟨by rw [List.length_set];exact h1,?_⟩
 rcases h2 with ⟨e,_⟩ | ⟨g',cap,cur,e,hb,hh,h3,h4,h5,h6⟩
 ·cases e
 ·cases e
  refine .inr ⟨g,c,cur.setIfInBounds i u,rfl,hb,heap_setCell_same w g i cur E u hh,h3,h4,by rw [Array.size_setIfInBounds];exact h5,?_⟩
  rw [Array.toList_setIfInBounds,List.take_set,h6]
theorem rw_at {w:World} {base E n g c:Nat} {xs:List Value} (h:w.ownsRow base E 1 (.slice (some ⟨g,0,none⟩) n c) n xs) {i:Nat} {u:Value} (hi:xs[i]? = some u):w.cell? ⟨g,i,none⟩=some u∧w.frozen? ⟨g,i,none⟩=false:=by
 have hc:=h.cells (g:=g) rfl i u hi
 rw [show (⟨g,0,none⟩:Addr).add i=⟨g,i,none⟩ by unfold Addr.add;split<;>simp_all] at hc
 refine ⟨hc,?_⟩
 rcases h.2 with ⟨e,_⟩ | ⟨g',cap,cur,e,hb,hh,_⟩
 ·cases e
 ·cases e
  exact frozen_of_row w g i cur E hh
theorem rw_form {w:World} {base E sz n:Nat} {v:Value} {xs:List Value} (h:w.ownsRow base E sz v n xs) (hp:0<n):∃ g c,v=.slice (some ⟨g,0,none⟩) n c∧base≤g∧g<w.heap.size∧n≤c∧c≤9223372036854775807:=by
 rcases h.2 with ⟨_,e⟩ | ⟨g,cap,cur,e,hb,hh,h1,h2,_⟩
 ·omega
 ·exact ⟨g,cap,e,hb,(Array.getElem?_eq_some_iff.1 hh).1,h1,by unfold maxLen at h2;omega⟩
theorem rw_form0 {w:World} {base E sz n:Nat} {v:Value} {xs:List Value} (h:w.ownsRow base E sz v n xs):∃ a c,v=.slice a n c:=by
 rcases h.2 with ⟨e,e2⟩ | ⟨g,cap,cur,e,_⟩
 ·subst e2;exact ⟨_,_,e⟩
 ·exact ⟨_,_,e⟩
theorem rw_ext {w w':World} {base e sz n:Nat} {v:Value} {xs:List Value} (h:w.ownsRow base e sz v n xs) (k:Ext w w'):w'.ownsRow base e sz v n xs:=by
 obtain ⟨h1,h2⟩:=h
 refine ⟨h1,?_⟩
 rcases h2 with h2 | ⟨g,cap,cur,rfl,hg,hh,r⟩
 ·exact .inl h2
 ·exact .inr ⟨g,cap,cur,rfl,hg,(k.block g (Array.getElem?_eq_some_iff.1 hh).1).trans hh,r⟩
theorem rw_ge {w:World} {base E sz n:Nat} {v:Value} {xs:List Value} (h:w.ownsRow base E sz v n xs):∀ k,v.ownBlock=some k→base≤k:=by
 intro k hk
 rcases h.2 with ⟨rfl,_⟩ | ⟨g,cap,cur,rfl,hg,_⟩
 ·cases hk
 ·cases hk;exact hg
theorem sl_len {α:Type} {K:Foot} {w:World} {sz:Nat} {C:World→List Value→α→Prop} {a:Option Addr} {n c:Nat} {xs:List α} (h:Sl K w sz C (.slice a n c) xs):xs.length=n:=by
 obtain ⟨_,_,e,_⟩:=h
 cases e
 rfl
theorem rw_base {w:World} {base base' E sz n:Nat} {v:Value} {xs:List Value} (h:w.ownsRow base E sz v n xs) (hb:base'≤base):w.ownsRow base' E sz v n xs:=by
 refine ⟨h.1,?_⟩
 rcases h.2 with e | ⟨g,cap,cur,e,hg,r⟩
 ·exact .inl e
 ·exact .inr ⟨g,cap,cur,e,Nat.le_trans hb hg,r⟩
theorem app_one {α:Type} {P:Program} {T E by_:Nat} {z:Value} {i0:TypeInfo} (enc:α→Value) (h1:∀ x,(enc x).oneCell'=true) (hT:P.underlying T=some (.slice E)) (hi:P.info? E=some i0) (hz:i0.zero=some z) (hs:i0.size=1) (hb:i0.bytes=by_) (hzs:z.cells.size=1) (ty:TypeId)
  {w0 wr:World} (hX:Ext w0 wr) {v:Value} {n:Nat} {xs:List α} (ho:wr.ownsRow w0.heap.size E 1 v n (xs.map enc)) (x:α) (hB:(n+1)*by_≤140737488355328) (hB1:n+1≤140737488355328) :
  ∃ v' w',(Builtin.append_ #[T,T] ty #[v,.slice (some ⟨wr.heap.size,0,none⟩) 1 1]).run P (wr.alloc (.cells #[enc x] E))=.ok v' w'∧w'.ownsRow w0.heap.size E 1 v' (n+1) ((xs ++ [x]).map enc)∧Ext w0 w':=by
 have hn:xs.length=n:=by have:=ho.1;simpa using this
 have hX4:Ext wr (wr.alloc (.cells #[enc x] E)):=(Ext.refl wr).alloc _
 have ho4:(wr.alloc (.cells #[enc x] E)).ownsRow w0.heap.size E 1 v n (xs.map enc):=ho.alloc _
 have hsl:Sl AnyB (wr.alloc (.cells #[enc x] E)) 1 (fun _ cs (y:α)=>cs=[enc y]) (.slice (some ⟨wr.heap.size,0,none⟩) 1 1) [x] :=
  ⟨some ⟨wr.heap.size,0,none⟩,1,rfl,Nat.le_refl _,by simp [maxLen],fun _=>⟨wr.heap.size,0,rfl,trivial,fun i hi=>by
   have h0:i=0:=by simp at hi;omega
   subst h0
   exact ⟨[enc x],rfl,rfl,fun p u hu=>by
    have hp0:p=0:=by
     have:=(List.getElem?_eq_some_iff.1 hu).1
     simp at this
     omega
    subst hp0
    simp at hu
    subst hu
    exact ((Blk.alloc wr E #[enc x]).cell 0).trans rfl⟩⟩⟩
 subst hn
 obtain ⟨v',w',r1,r2,r3,r4⟩:=run_app (P:=P) enc _ (fun _ _ _ h=>h) h1 AnyB (wr.alloc (.cells #[enc x] E)) w0.heap.size hT hi hz hs hb hzs v (xs.map enc) (by simpa using ho4) _ [x] hsl (by simpa using hB) (by simpa using hB1) (Nat.le_trans hX.size hX4.size) ty
 refine ⟨v',w',r1,by rw [List.map_append];simpa using r2,Below.grown (hX.trans hX4) r3 (Nat.le_trans hX.size hX4.size) (fun k hk=>?_)⟩
 rcases ho.2 with ⟨rfl,_⟩ | ⟨g,cap,cur,rfl,hg,_⟩
 ·cases hk
 ·cases hk;exact hg
def thereB (t:PTree) (xs:List Int):List Bool:=(List.range t.funcs.length).map fun g:Nat=>decide ((g:Int)∈xs)
theorem thereB_nil (t:PTree):thereB t []=List.replicate t.funcs.length false:=by
 refine List.ext_getElem (by simp [thereB]) (fun i h1 h2=>by simp [thereB])
theorem thereB_set (t:PTree) (xs:List Int) (u:Int) (h0:0≤u):(thereB t xs).set u.toNat true=thereB t (xs ++ [u]):=by
 refine List.ext_getElem (by simp [thereB]) (fun i h1 h2=>?_)
 rw [List.getElem_set]
 simp only [thereB,List.getElem_map,List.getElem_range,List.mem_append,List.mem_singleton]
 by_cases hi:u.toNat=i
 ·rw [if_pos hi,decide_eq_true (.inr (by omega))]
 ·rw [if_neg hi]
  have:¬ (i:Int)=u:=by omega
  simp [this]
theorem thereB_at {t:PTree} {xs:List Int} {i:Nat} (hi:i<t.funcs.length):(thereB t xs)[i]? = some (decide ((i:Int)∈xs)):=by
 simp [thereB,List.getElem?_map,hi]
def upTo (xs:List Int) (k:Nat):List Int:=((List.range k).filter fun g:Nat=>decide ((g:Int)∈xs)).map fun g:Nat=>(g:Int)
theorem upTo_in {xs:List Int} {k:Nat} (h:(k:Int)∈xs):upTo xs (k+1)=upTo xs k ++ [(k:Int)]:=by
 simp [upTo,List.range_succ,List.filter_append,h]
theorem upTo_out {xs:List Int} {k:Nat} (h:¬ (k:Int)∈xs):upTo xs (k+1)=upTo xs k:=by
 simp [upTo,List.range_succ,List.filter_append,h]
theorem upTo_len (xs:List Int) (k:Nat):(upTo xs k).length≤k:=by
 unfold upTo
 rw [List.length_map]
 exact Nat.le_trans (List.length_filter_le _ _) (by simp)
end Go.Proofs.YtcfggjmdcaoecaaGreatDoor
