/- A part of the proofs of FnBound and FnCheck: the lemmas and walks Model, MdCheck, MdCalls. -/
import Derived.MapKept
import Derived.Lib.SlicesCompact
set_option linter.unusedVariables false
set_option linter.unusedSimpArgs false
namespace Go.Proofs.YtcfggjmdcaoecaaGreatDoor.Md
structure PNode where
 kind:Int
 val:Int
 name:ByteArray
 deriving DecidableEq
structure PStmt where
 kind:Int
 name:ByteArray
 e:List PNode
 f:List PNode
 thn:Int
 els:Int
 deriving DecidableEq
structure PFunc where
 name:ByteArray
 params:List ByteArray
 body:List PStmt
 deriving DecidableEq
structure PGlob where
 name:ByteArray
 size:Int
 deriving DecidableEq
structure PTree where
 globals:List PGlob
 funcs:List PFunc
 deriving DecidableEq
def bAt (s:ByteArray) (i:Nat):Nat:=if h:i<s.size then (s[i]'h).toNat else 0
def isLetter (c:Nat):Bool:=(decide (97≤c) && decide (c≤122)) || c == 95
def isDigit (c:Nat):Bool:=decide (48≤c) && decide (c≤57)
def resL:List (List UInt8):=[[105,110,116],[105,102],[101,108,115,101],[119,104,105,108,101],[114,101,116,117,114,110],[105,110],[111,117,116]]
def isReserved (s:ByteArray):Bool:=resL.contains s.toList
def isName (s:ByteArray):Bool :=
 decide (1≤s.size) && decide (s.size≤20) && isLetter (bAt s 0) && !isReserved s && (List.range s.size).all fun i=>isLetter (bAt s i) || isDigit (bAt s i)
def isWord (v:Int):Bool:=decide (-2147483648≤v) && decide (v<2147483648)
def arity (n:PNode):Option Nat :=
 if n.kind=2∨n.kind=3∨n.kind=4 then
  if isName n.name then
   if n.kind=2 then if n.val=0 then some 0 else none
   else if n.kind=3 then if n.val=0 then some 1 else none
   else if 0≤n.val∧n.val≤6 then some n.val.toNat else none
  else none
 else if n.name.size=0 then
  if n.kind=1 then if isWord n.val then some 0 else none
  else if n.kind=5 then if n.val=0 then some 0 else none
  else if n.kind=6 then if 0≤n.val∧n.val≤2 then some 1 else none
  else if n.kind=7 then if 0≤n.val∧n.val≤15 then some 2 else none
  else if n.kind=8∨n.kind=9 then if n.val=0 then some 2 else none
  else none
 else none
def ar (n:PNode):Int :=
 if n.kind=3∨n.kind=6 then 1 else if n.kind=4 then n.val else if n.kind=7∨n.kind=8∨n.kind=9 then 2 else 0
theorem ar_of_arity {n:PNode} {k:Nat} (h:arity n=some k):ar n=k:=by
 unfold arity at h
 unfold ar
 repeat' split at h
 all_goals first | (cases h;done) | skip
 all_goals (simp only [Option.some.injEq] at h;subst h)
 all_goals (repeat' split)<;>first | omega | simp_all
inductive Ex where
 | mk (n:PNode) (args:List Ex)
namespace Ex
def node:Ex→PNode | mk n _=>n
def args:Ex→List Ex | mk _ a=>a
def list:Ex→List PNode
 | mk n args=>args.flatMap list ++ [n]
theorem ind {P:Ex→Prop} (h:∀ n args,(∀ x∈args,P x)→P (mk n args)):∀ x,P x
 | mk n args=>h n args fun x _=>ind h x
theorem list_mk (n:PNode) (args:List Ex):(mk n args).list=args.flatMap list ++ [n]:=by rw [list]
theorem list_pos (x:Ex):0<x.list.length:=by cases x;rw [list_mk];simp
def ok:Ex→Prop
 | mk n args=>arity n=some args.length∧∀ x∈args,ok x
theorem ok_mk (n:PNode) (args:List Ex):(mk n args).ok↔arity n=some args.length∧∀ x∈args,x.ok:=by rw [ok]
end Ex
def push (n:PNode) (st:List Ex):Option (List Ex) :=
 match arity n with
 | none=>none
 | some k=>if k≤st.length then some (st.take (st.length - k) ++ [.mk n (st.drop (st.length - k))]) else none
def grows:List PNode→List Ex→Option (List Ex)
 | [],st=>some st
 | n :: e,st=>(push n st).bind (grows e)
def grow (e:List PNode):Option Ex :=
 match grows e [] with
 | some [x]=>some x
 | _=>none
theorem grows_append (a b:List PNode) (st:List Ex):grows (a ++ b) st=(grows a st).bind (grows b):=by
 induction a generalizing st with
 | nil=>rfl
 | cons n a ih =>
   simp only [List.cons_append,grows]
   cases push n st with
   | none=>rfl
   | some st'=>simpa using ih st'
theorem push_list {n:PNode} {st st':List Ex} (h:push n st=some st'):st'.flatMap Ex.list=st.flatMap Ex.list ++ [n]:=by
 unfold push at h
 split at h
 ·cases h
 ·split at h
  ·cases h
   rw [List.flatMap_append,List.flatMap_cons,List.flatMap_nil,List.append_nil,Ex.list_mk,← List.append_assoc,← List.flatMap_append,List.take_append_drop]
  ·cases h
theorem push_ok {n:PNode} {st st':List Ex} (h:push n st=some st') (ho:∀ x∈st,x.ok):∀ x∈st',x.ok:=by
 unfold push at h
 split at h
 ·cases h
 ·rename_i k hk
  split at h
  ·rename_i hle
   cases h
   intro x hx
   rcases List.mem_append.1 hx with hx | hx
   ·exact ho x (List.mem_of_mem_take hx)
   ·simp only [List.mem_singleton] at hx
    subst hx
    rw [Ex.ok_mk]
    exact ⟨by rw [hk,List.length_drop];congr 1;omega,fun y hy=>ho y (List.mem_of_mem_drop hy)⟩
  ·cases h
theorem grows_list {e:List PNode} : ∀ {st st':List Ex},grows e st=some st'→st'.flatMap Ex.list=st.flatMap Ex.list ++ e:=by
 induction e with
 | nil=>intro st st' h;cases h;simp
 | cons n e ih =>
   intro st st' h
   simp only [grows,Option.bind_eq_some_iff] at h
   obtain ⟨s1,h1,h2⟩:=h
   rw [ih h2,push_list h1]
   simp
theorem grows_ok {e:List PNode} : ∀ {st st':List Ex},grows e st=some st'→(∀ x∈st,x.ok)→∀ x∈st',x.ok:=by
 induction e with
 | nil=>intro st st' h ho;cases h;exact ho
 | cons n e ih =>
   intro st st' h ho
   simp only [grows,Option.bind_eq_some_iff] at h
   obtain ⟨s1,h1,h2⟩:=h
   exact ih h2 (push_ok h1 ho)
theorem grow_list {e:List PNode} {x:Ex} (h:grow e=some x):x.list=e:=by
 unfold grow at h
 split at h
 ·rename_i y hy
  cases h
  have:=grows_list hy
  simpa using this
 ·cases h
theorem grow_ok {e:List PNode} {x:Ex} (h:grow e=some x):x.ok:=by
 unfold grow at h
 split at h
 ·rename_i y hy
  cases h
  exact grows_ok hy (by simp) x (by simp)
 ·cases h
def fromL (e:List PNode):(i:Nat)→(need:Int)→Int
 | i,need=>if need≤0 then i else match i with
   | 0=>-1
   | i+1=>fromL e i (need - 1+(match e[i]? with | some n=>ar n | none=>0))
def goodExpr (e:List PNode):Bool:=(e.all fun n=>(arity n).isSome) && decide (0<e.length) && fromL e e.length 1 == 0
def W (l:List PNode):Int:=(l.map fun n=>1 - ar n).sum
theorem W_append (a b:List PNode):W (a ++ b)=W a+W b:=by unfold W;rw [List.map_append,List.sum_append]
theorem W_one (n:PNode):W [n]=1 - ar n:=by simp [W]
theorem fromL_zero {e:List PNode} : ∀ {i:Nat} {need:Int},i≤e.length→1≤need→fromL e i need=0 →
  (∀ j,0<j→j≤i→W ((e.take i).drop j)≤need - 1)∧need≤W (e.take i):=by
 intro i
 induction i with
 | zero =>
   intro need _ hn h
   unfold fromL at h
   rw [if_neg (by omega)] at h
   simp at h
 | succ i ih =>
   intro need hi hn h
   unfold fromL at h
   rw [if_neg (by omega)] at h
   have hg:e[i]? = some e[i]:=List.getElem?_eq_getElem (by omega)
   simp only [hg] at h
   have ht:e.take (i+1)=e.take i ++ [e[i]]:=List.take_succ_eq_append_getElem (by omega)
   by_cases hm:need - 1+ar e[i]≤0
   ·unfold fromL at h
    rw [if_pos hm] at h
    have hi0:i=0:=by omega
    subst hi0
    refine ⟨fun j h0 h1=>?_,?_⟩
    ·have:(e.take (0+1)).drop j=[]:=List.drop_eq_nil_of_le (by simp;omega)
     rw [this]
     simp [W]
     omega
    ·rw [ht,W_append,W_one]
     simp [W]
     omega
   ·obtain ⟨h1,h2⟩:=ih (by omega) (by omega) h
    refine ⟨fun j h0 hj=>?_,?_⟩
    ·by_cases hji:j=i+1
     ·have:(e.take (i+1)).drop j=[]:=List.drop_eq_nil_of_le (by simp;omega)
      rw [this]
      simp [W]
      omega
     ·rw [ht,List.drop_append_of_le_length (by simp;omega),W_append,W_one]
      have:=h1 j h0 (by omega)
      omega
    ·rw [ht,W_append,W_one]
     omega
theorem push_W {n:PNode} {st st':List Ex} (h:push n st=some st'):(st'.length:Int)=st.length+(1 - ar n):=by
 unfold push at h
 split at h
 ·cases h
 ·rename_i k hk
  split at h
  ·cases h
   rw [ar_of_arity hk]
   simp
   omega
  ·cases h
theorem grows_W {e:List PNode} : ∀ {st st':List Ex},grows e st=some st'→(st'.length:Int)=st.length+W e:=by
 induction e with
 | nil=>intro st st' h;cases h;simp [W]
 | cons n e ih =>
   intro st st' h
   simp only [grows,Option.bind_eq_some_iff] at h
   obtain ⟨s1,h1,h2⟩:=h
   rw [ih h2,push_W h1,show n :: e=[n] ++ e from rfl,W_append,W_one]
   omega
theorem fromL_tree:∀ x:Ex,x.ok→∀ (a b:List PNode) (need:Int),1≤need →
  fromL (a ++ x.list ++ b) (a.length+x.list.length) need=fromL (a ++ x.list ++ b) a.length (need - 1):=by
 intro x
 induction x using Ex.ind with
 | h n args ih =>
   intro ho a b need hn
   rw [Ex.ok_mk] at ho
   have key:∀ (l:List Ex),(∀ x∈l,x∈args)→∀ (a b:List PNode) (need:Int),0≤need →
     fromL (a ++ l.flatMap Ex.list ++ b) (a.length+(l.flatMap Ex.list).length) (need+l.length)=fromL (a ++ l.flatMap Ex.list ++ b) a.length need:=by
    intro l
    induction l with
    | nil=>intro _ a b need _;simp
    | cons y l ih2 =>
      intro hm a b need h0
      have e1:=ih2 (fun z hz=>hm z (by simp [hz])) (a ++ y.list) b (need+1) (by omega)
      have e2:=ih y (hm y (by simp)) (ho.2 y (hm y (by simp))) a (l.flatMap Ex.list ++ b) (need+1) (by omega)
      simp only [List.flatMap_cons,List.length_append,List.length_cons,List.append_assoc,Nat.add_assoc] at *
      rw [show need+((l.length+1:Nat):Int)=need+1+(l.length:Int) by omega,e1,e2]
      congr 1
      omega
   rw [Ex.list_mk]
   have hl:(a ++ (args.flatMap Ex.list ++ [n]) ++ b)[a.length+(args.flatMap Ex.list).length]? = some n:=by
    rw [List.append_assoc,List.getElem?_append_right (by omega),List.append_assoc,List.getElem?_append_right (by omega)]
    simp
   have e0:a.length+(args.flatMap Ex.list ++ [n]).length=a.length+(args.flatMap Ex.list).length+1:=by simp;omega
   rw [e0]
   conv=>lhs;unfold fromL
   rw [if_neg (by omega)]
   simp only [hl]
   rw [ar_of_arity ho.1]
   have:=key args (fun _ h=>h) a ([n] ++ b) (need - 1) (by omega)
   simp only [List.append_assoc] at this ⊢
   exact this
theorem goodExpr_grow (e:List PNode):goodExpr e=(grow e).isSome:=by
 rw [Bool.eq_iff_iff]
 constructor
 ·intro h
  simp only [goodExpr,Bool.and_eq_true,List.all_eq_true,decide_eq_true_eq,beq_iff_eq] at h
  obtain ⟨⟨hall,hpos⟩,hf⟩:=h
  cases hg:grows e [] with
  | some st =>
    have hl:=grows_list hg
    have ho:=grows_ok hg (by simp)
    simp only [List.flatMap_nil,List.nil_append] at hl
    unfold grow
    rw [hg]
    match st,hl,ho with
    | [],hl,_=>simp at hl;subst hl;simp at hpos
    | [x],_,_=>rfl
    | x :: y :: r,hl,ho =>
      exfalso
      obtain ⟨init,z,hz⟩:∃ init z,x :: y :: r=init ++ [z]:=⟨(x :: y :: r).dropLast,(x :: y :: r).getLast (by simp),(List.dropLast_concat_getLast (by simp)).symm⟩
      rw [hz,List.flatMap_append] at hl
      simp only [List.flatMap_cons,List.flatMap_nil,List.append_nil] at hl
      have hzo:z.ok:=ho z (by rw [hz];simp)
      have:=fromL_tree z hzo (init.flatMap Ex.list) [] 1 (by omega)
      rw [List.append_nil,← List.length_append,hl,hf] at this
      unfold fromL at this
      rw [if_pos (by omega)] at this
      have hpi:0<(init.flatMap Ex.list).length:=by
       cases init with
       | nil=>have:=congrArg List.length hz;simp at this
       | cons q init=>have:=q.list_pos;simp;omega
      omega
  | none =>
    exfalso
    have split:∀ (e:List PNode) (st:List Ex),grows e st=none→∃ p n r st',e=p ++ n :: r∧grows p st=some st'∧push n st'=none:=by
     intro e
     induction e with
     | nil=>intro st h;cases h
     | cons n e ih =>
       intro st h
       cases hp:push n st with
       | none=>exact ⟨[],n,e,st,rfl,rfl,hp⟩
       | some st1 =>
         simp only [grows,hp,Option.bind_some] at h
         obtain ⟨p,m,r,st',h1,h2,h3⟩:=ih st1 h
         exact ⟨n :: p,m,r,st',by rw [h1];rfl,by simp [grows,hp,h2],h3⟩
    obtain ⟨p,n,r,st,he,hp,hn⟩:=split e [] hg
    have hk:=hall n (by rw [he];simp)
    obtain ⟨k,hk⟩:=Option.isSome_iff_exists.1 hk
    have hW:=grows_W hp
    simp only [push,hk] at hn
    split at hn
    ·cases hn
    ·rename_i hlt
     obtain ⟨h1,h2⟩:=fromL_zero (Nat.le_refl _) (by omega) hf
     rw [List.take_length] at h1 h2
     have h3:=h1 (p.length+1) (by omega) (by rw [he];simp)
     have e1:e.drop (p.length+1)=r:=by rw [he];simp
     rw [e1] at h3
     rw [he,show p ++ n :: r=p ++ [n] ++ r by simp,W_append,W_append,W_one,ar_of_arity hk] at h2
     simp only [List.length_nil] at hW
     omega
 ·intro h
  obtain ⟨x,hx⟩:=Option.isSome_iff_exists.1 h
  have hl:=grow_list hx
  have ho:=grow_ok hx
  simp only [goodExpr,Bool.and_eq_true,List.all_eq_true,decide_eq_true_eq,beq_iff_eq]
  refine ⟨⟨?_,by rw [← hl];exact x.list_pos⟩,?_⟩
  ·subst hl
   clear hx h
   revert ho
   induction x using Ex.ind with
   | h n args ih =>
     intro ho m hm
     rw [Ex.ok_mk] at ho
     rw [Ex.list_mk] at hm
     rcases List.mem_append.1 hm with hm | hm
     ·obtain ⟨y,hy,hm⟩:=List.mem_flatMap.1 hm
      exact ih y hy (ho.2 y hy) m hm
     ·simp only [List.mem_singleton] at hm
      subst hm
      rw [ho.1]
      rfl
  ·have:=fromL_tree x ho [] [] 1 (by omega)
   simp only [List.nil_append,List.append_nil,List.length_nil,Nat.zero_add,hl] at this
   rw [this]
   unfold fromL
   rw [if_pos (by omega)]
   rfl
inductive St where
 | mk (s:PStmt) (at_:Nat) (e:Ex) (f:Option Ex) (thn els:List St)
namespace St
def s:St→PStmt | mk s _ _ _ _ _=>s
def at_:St→Nat | mk _ a _ _ _ _=>a
def e:St→Ex | mk _ _ e _ _ _=>e
def f:St→Option Ex | mk _ _ _ f _ _=>f
def thn:St→List St | mk _ _ _ _ t _=>t
def els:St→List St | mk _ _ _ _ _ u=>u
end St
def named (k:Int):Bool:=k == 1 || k == 2 || k == 3
def stOk (s:PStmt):Bool :=
 decide (1≤s.kind) && decide (s.kind≤8) && (grow s.e).isSome && (if named s.kind then isName s.name else s.name.size == 0) &&
 (if s.kind=3 then (grow s.f).isSome else s.f.length == 0) && decide (0≤s.thn) && decide (0≤s.els) &&
 (s.thn == 0 || s.kind == 4 || s.kind == 5) && (s.els == 0 || s.kind == 4) && (s.kind != 8 || (match grow s.e with | some x=>x.node.kind == 4 | none=>false))
def shaped:List PStmt→Bool
 | []=>true
 | s :: rest =>
   if s.thn≤rest.length∧s.els≤rest.length - s.thn then
    shaped (rest.take s.thn.toNat) && shaped ((rest.drop s.thn.toNat).take s.els.toNat) && shaped (rest.drop (s.thn.toNat+s.els.toNat))
   else false
termination_by l=>l.length
decreasing_by all_goals (simp only [List.length_cons,List.length_take,List.length_drop];omega)
def blocks:List PStmt→Nat→Option (List St)
 | [],_=>some []
 | s :: rest,base =>
   if stOk s∧s.thn≤rest.length∧s.els≤rest.length - s.thn then
    match grow s.e,blocks (rest.take s.thn.toNat) (base+1),blocks ((rest.drop s.thn.toNat).take s.els.toNat) (base+1+s.thn.toNat),
      blocks (rest.drop (s.thn.toNat+s.els.toNat)) (base+1+s.thn.toNat+s.els.toNat) with
    | some e,some t,some u,some r=>some (.mk s base e (grow s.f) t u :: r)
    | _,_,_,_=>none
   else none
termination_by l=>l.length
decreasing_by all_goals (simp only [List.length_cons,List.length_take,List.length_drop];omega)
theorem stOk_grow {s:PStmt} (h:stOk s=true):(grow s.e).isSome=true:=by
 simp only [stOk,Bool.and_eq_true] at h
 exact h.1.1.1.1.1.1.1.2
theorem blocks_some (n:Nat):∀ (l:List PStmt) (base:Nat),l.length≤n→(blocks l base).isSome=(l.all stOk && shaped l):=by
 induction n with
 | zero =>
   intro l base h
   obtain rfl:l=[]:=List.eq_nil_of_length_eq_zero (by omega)
   simp [blocks,shaped]
 | succ n ih =>
   intro l base h
   match l,h with
   | [],_=>simp [blocks,shaped]
   | s :: rest,h =>
     simp only [List.length_cons] at h
     rw [blocks,shaped,List.all_cons]
     have i1:=ih (rest.take s.thn.toNat) (base+1) (by simp;omega)
     have i2:=ih ((rest.drop s.thn.toNat).take s.els.toNat) (base+1+s.thn.toNat) (by simp;omega)
     have i3:=ih (rest.drop (s.thn.toNat+s.els.toNat)) (base+1+s.thn.toNat+s.els.toNat) (by simp;omega)
     by_cases hs:stOk s=true
     ·by_cases hl:s.thn≤rest.length∧s.els≤rest.length - s.thn
      ·rw [if_pos ⟨hs,hl⟩,if_pos hl,hs]
       obtain ⟨x,hx⟩:=Option.isSome_iff_exists.1 (stOk_grow hs)
       rw [hx]
       have hall:rest.all stOk=((rest.take s.thn.toNat).all stOk && ((rest.drop s.thn.toNat).take s.els.toNat).all stOk && (rest.drop (s.thn.toNat+s.els.toNat)).all stOk):=by
        conv=>lhs;rw [← List.take_append_drop s.thn.toNat rest,List.all_append,← List.take_append_drop s.els.toNat (rest.drop s.thn.toNat),List.all_append,List.drop_drop]
        rw [Bool.and_assoc]
       rw [hall,Bool.true_and]
       cases h1:blocks (rest.take s.thn.toNat) (base+1)<;>cases h2:blocks ((rest.drop s.thn.toNat).take s.els.toNat) (base+1+s.thn.toNat) <;>
        cases h3:blocks (rest.drop (s.thn.toNat+s.els.toNat)) (base+1+s.thn.toNat+s.els.toNat) <;>
        rw [h1] at i1<;>rw [h2] at i2<;>rw [h3] at i3<;>simp only [Option.isSome_some,Option.isSome_none] at i1 i2 i3 ⊢
       all_goals
        revert i1 i2 i3
        generalize (rest.take s.thn.toNat).all stOk=a1
        generalize shaped (rest.take s.thn.toNat)=a2
        generalize ((rest.drop s.thn.toNat).take s.els.toNat).all stOk=a3
        generalize shaped ((rest.drop s.thn.toNat).take s.els.toNat)=a4
        generalize (rest.drop (s.thn.toNat+s.els.toNat)).all stOk=a5
        generalize shaped (rest.drop (s.thn.toNat+s.els.toNat))=a6
        cases a1<;>cases a2<;>cases a3<;>cases a4<;>cases a5<;>cases a6<;>simp
      ·rw [if_neg (fun h=>hl h.2),if_neg hl]
       simp
     ·rw [if_neg (fun h=>hs h.1)]
      simp [hs]
def nodes (b:List PStmt):Nat:=(b.map fun s=>s.e.length+s.f.length).sum
def okFunc (f:PFunc):Bool :=
 isName f.name && decide (f.params.length≤6) && f.params.all isName && decide (f.body.length≤500) && decide (nodes f.body≤2000) && (blocks f.body 0).isSome
def okGlob (g:PGlob):Bool:=isName g.name && decide (0≤g.size) && decide (g.size≤4000)
def valid (t:PTree):Bool:=decide (t.globals.length≤50) && decide (t.funcs.length≤50) && t.globals.all okGlob && t.funcs.all okFunc
open Go
instance lawfulBytes:LawfulBEq ByteArray where
 eq_of_beq h:=(MapKept.bytes_beq _ _).1 h
 rfl:=(MapKept.bytes_beq _ _).2 rfl
def findFrom:List PFunc→ByteArray→Nat→Int
 | [],_,_=>-1
 | f :: r,s,i=>if f.name=s then (i:Int) else findFrom r s (i+1)
def findF (t:PTree) (s:ByteArray):Int:=findFrom t.funcs s 0
def gsizeL:List PGlob→ByteArray→Int
 | [],_=>-1
 | g :: r,s=>if g.name=s then g.size else gsizeL r s
def gsize (t:PTree) (s:ByteArray):Int:=gsizeL t.globals s
theorem findFrom_range (l:List PFunc) (s:ByteArray):∀ i:Nat,findFrom l s i = -1∨((i:Int)≤findFrom l s i∧findFrom l s i<(i+l.length:Nat)∧∃ f,l[(findFrom l s i).toNat - i]? = some f∧f.name=s):=by
 induction l with
 | nil=>intro i;exact .inl rfl
 | cons f r ih =>
   intro i
   unfold findFrom
   by_cases h:f.name=s
   ·rw [if_pos h]
    exact .inr ⟨Int.le_refl _,by simp;omega,f,by simp,h⟩
   ·rw [if_neg h]
    rcases ih (i+1) with h1 | ⟨h1,h2,g,h3,h4⟩
    ·exact .inl h1
    ·refine .inr ⟨by omega,by simp at h2 ⊢;omega,g,?_,h4⟩
     rw [show (findFrom r s (i+1)).toNat - i=((findFrom r s (i+1)).toNat - (i+1))+1 by omega]
     simpa using h3
theorem findF_range (t:PTree) (s:ByteArray):findF t s = -1∨(0≤findF t s∧findF t s<t.funcs.length∧∃ f,t.funcs[(findF t s).toNat]? = some f∧f.name=s):=by
 unfold findF
 rcases findFrom_range t.funcs s 0 with h | ⟨h1,h2,h3⟩
 ·exact .inl h
 ·exact .inr ⟨by simpa using h1,by simpa using h2,by simpa using h3⟩
def useE (t:PTree) (sc:List ByteArray) (s:ByteArray) (arr:Bool):Int :=
 let size:=if s∈sc then 0 else gsize t s
 if size<0 then 4 else if decide (0<size)=arr then 0 else 5
def arityF (t:PTree) (f:Int):Int:=match t.funcs[f.toNat]? with | some g=>g.params.length | none=>0
def nodeE (t:PTree) (sc:List ByteArray) (n:PNode):Int :=
 if n.kind=2 then useE t sc n.name false
 else if n.kind=3 then useE t sc n.name true
 else if n.kind=4 then (if findF t n.name<0 then 4 else if arityF t (findF t n.name)=n.val then 0 else 6)
 else 0
def exprE (t:PTree) (sc:List ByteArray):List PNode→Int
 | []=>0
 | n :: r=>if nodeE t sc n=0 then exprE t sc r else nodeE t sc n
theorem exprE_append (t:PTree) (sc:List ByteArray) (a b:List PNode):exprE t sc (a ++ b)=if exprE t sc a=0 then exprE t sc b else exprE t sc a:=by
 induction a with
 | nil=>simp [exprE]
 | cons n r ih =>
   rw [List.cons_append,exprE,exprE,ih]
   by_cases h:nodeE t sc n=0
   ·rw [if_pos h,if_pos h]
   ·rw [if_neg h,if_neg h,if_neg h]
def stE (t:PTree) (sc tk:List ByteArray) (s:PStmt):Int :=
 if exprE t sc s.e=0 then
  if exprE t sc s.f=0 then
   if s.kind=1 then (if s.name∈tk∨0≤gsize t s.name then 2 else 0)
   else if s.kind=2 then useE t sc s.name false
   else if s.kind=3 then useE t sc s.name true
   else 0
  else exprE t sc s.f
 else exprE t sc s.e
inductive Ck where
 | bad (err at_:Int)
 | ok (tk:List ByteArray)
mutual
def ckSt (t:PTree) (sc tk:List ByteArray):St→Ck
 | .mk s p _ _ thn els =>
   if stE t sc tk s=0 then
    let sc1:=if s.kind=1 then sc ++ [s.name] else sc
    let tk1:=if s.kind=1 then tk ++ [s.name] else tk
    match ckBlk t sc1 tk1 thn with
    | .bad e a=>.bad e a
    | .ok tk2=>ckBlk t sc1 tk2 els
   else .bad (stE t sc tk s) p
def ckBlk (t:PTree) (sc tk:List ByteArray):List St→Ck
 | []=>.ok tk
 | x :: r =>
   match ckSt t sc tk x with
   | .bad e a=>.bad e a
   | .ok tk1=>ckBlk t (if x.s.kind=1 then sc ++ [x.s.name] else sc) tk1 r
end
def ckTail (t:PTree) (sc tk:List ByteArray) (T U R:List St):Ck :=
 match ckBlk t sc tk T with
 | .bad e a=>.bad e a
 | .ok tk2 =>
   match ckBlk t sc tk2 U with
   | .bad e a=>.bad e a
   | .ok tk3=>ckBlk t sc tk3 R
def sc1 (s:PStmt) (sc:List ByteArray):List ByteArray:=if s.kind=1 then sc ++ [s.name] else sc
theorem ck_cons (t:PTree) (sc tk:List ByteArray) (s:PStmt) (p:Nat) (x:Ex) (y:Option Ex) (T U R:List St) :
  ckBlk t sc tk (.mk s p x y T U :: R)=if stE t sc tk s=0 then ckTail t (sc1 s sc) (sc1 s tk) T U R else .bad (stE t sc tk s) p:=by
 rw [ckBlk,ckSt]
 by_cases h:stE t sc tk s=0
 ·rw [if_pos h,if_pos h]
  show (match (match ckBlk t (sc1 s sc) (sc1 s tk) T with | .bad e a=>Ck.bad e a | .ok tk2=>ckBlk t (sc1 s sc) tk2 U) with | .bad e a=>Ck.bad e a | .ok tk1=>ckBlk t (sc1 s sc) tk1 R)=_
  unfold ckTail
  cases ckBlk t (sc1 s sc) (sc1 s tk) T with
  | bad e a=>rfl
  | ok tk2=>rfl
 ·rw [if_neg h,if_neg h]
theorem ck_nil (t:PTree) (sc tk:List ByteArray):ckBlk t sc tk []=.ok tk:=by rw [ckBlk]
theorem blocks_inv {s:PStmt} {rest:List PStmt} {base:Nat} {sts:List St} (h:blocks (s :: rest) base=some sts) :
  ∃ e T U R,grow s.e=some e∧stOk s=true∧0≤s.thn∧0≤s.els∧s.thn.toNat+s.els.toNat≤rest.length∧blocks (rest.take s.thn.toNat) (base+1)=some T ∧
   blocks ((rest.drop s.thn.toNat).take s.els.toNat) (base+1+s.thn.toNat)=some U∧blocks (rest.drop (s.thn.toNat+s.els.toNat)) (base+1+s.thn.toNat+s.els.toNat)=some R∧sts=.mk s base e (grow s.f) T U :: R:=by
 rw [blocks] at h
 by_cases hc:stOk s∧s.thn≤rest.length∧s.els≤rest.length - s.thn
 ·rw [if_pos hc] at h
  obtain ⟨h1,h2,h3⟩:=hc
  have hn:0≤s.thn∧0≤s.els:=by
   simp only [stOk,Bool.and_eq_true,decide_eq_true_eq] at h1
   exact ⟨h1.1.1.1.1.2,h1.1.1.1.2⟩
  cases e1:grow s.e with
  | none=>rw [e1] at h;simp at h
  | some e =>
    cases e2:blocks (rest.take s.thn.toNat) (base+1) with
    | none=>rw [e1,e2] at h;simp at h
    | some T =>
      cases e3:blocks ((rest.drop s.thn.toNat).take s.els.toNat) (base+1+s.thn.toNat) with
      | none=>rw [e1,e2,e3] at h;simp at h
      | some U =>
        cases e4:blocks (rest.drop (s.thn.toNat+s.els.toNat)) (base+1+s.thn.toNat+s.els.toNat) with
        | none=>rw [e1,e2,e3,e4] at h;simp at h
        | some R =>
          rw [e1,e2,e3,e4] at h
          exact ⟨e,T,U,R,rfl,h1,hn.1,hn.2,by omega,rfl,rfl,rfl,(Option.some.inj h).symm⟩
 ·rw [if_neg hc] at h
  cases h
theorem stOk_range {s:PStmt} (h:stOk s=true):1≤s.kind∧s.kind≤8:=by
 simp only [stOk,Bool.and_eq_true,decide_eq_true_eq] at h
 exact ⟨h.1.1.1.1.1.1.1.1.1,h.1.1.1.1.1.1.1.1.2⟩
theorem sc1_len (s:PStmt) (sc:List ByteArray):(sc1 s sc).length≤sc.length+1:=by
 unfold sc1
 split<;>simp
theorem ck_len (t:PTree) (n:Nat):∀ (l:List PStmt) (p:Nat) (sts:List St) (sc tk tk':List ByteArray),l.length≤n→blocks l p=some sts→ckBlk t sc tk sts=.ok tk'→tk'.length≤tk.length+l.length:=by
 induction n with
 | zero =>
   intro l p sts sc tk tk' hl hb hc
   obtain rfl:l=[]:=List.eq_nil_of_length_eq_zero (by omega)
   rw [blocks] at hb
   cases hb
   rw [ck_nil] at hc
   cases hc
   simp
 | succ n ih =>
   intro l p sts sc tk tk' hl hb hc
   match l,hl with
   | [],_ =>
     rw [blocks] at hb
     cases hb
     rw [ck_nil] at hc
     cases hc
     simp
   | x :: rest,hl =>
     simp only [List.length_cons] at hl
     obtain ⟨e,T,U,R,_,_,_,_,hle,h1,h2,h3,rfl⟩:=blocks_inv hb
     rw [ck_cons] at hc
     by_cases he:stE t sc tk x=0
     ·rw [if_pos he] at hc
      unfold ckTail at hc
      have hs:=sc1_len x tk
      cases c1:ckBlk t (sc1 x sc) (sc1 x tk) T with
      | bad e a=>rw [c1] at hc;cases hc
      | ok tk2 =>
        rw [c1] at hc
        simp only at hc
        have b1:=ih _ _ _ _ _ _ (by simp;omega) h1 c1
        cases c2:ckBlk t (sc1 x sc) tk2 U with
        | bad e a=>rw [c2] at hc;cases hc
        | ok tk3 =>
          rw [c2] at hc
          simp only at hc
          have b2:=ih _ _ _ _ _ _ (by simp;omega) h2 c2
          have b3:=ih _ _ _ _ _ _ (by simp;omega) h3 hc
          simp at b1 b2 b3 ⊢
          omega
     ·rw [if_neg he] at hc
      cases hc
open Go
theorem asc_ext:∀ {a b:List Int},a.Pairwise (· < ·)→b.Pairwise (· < ·)→(∀ x,x∈a↔x∈b)→a=b
 | [],[],_,_,_=>rfl
 | [],y :: b,_,_,h=>absurd ((h y).2 (List.mem_cons_self ..)) (by simp)
 | x :: a,[],_,_,h=>absurd ((h x).1 (List.mem_cons_self ..)) (by simp)
 | x :: a,y :: b,ha,hb,h=>by
   have ha':=List.pairwise_cons.1 ha
   have hb':=List.pairwise_cons.1 hb
   have hxy:x=y:=by
    rcases List.mem_cons.1 ((h x).1 (List.mem_cons_self ..)) with e | e
    ·exact e
    ·have h1:=hb'.1 x e
     rcases List.mem_cons.1 ((h y).2 (List.mem_cons_self ..)) with e2 | e2
     ·exact e2.symm
     ·have h2:=ha'.1 y e2;omega
   subst hxy
   congr 1
   refine asc_ext ha'.2 hb'.2 (fun z=>⟨fun hz=>?_,fun hz=>?_⟩)
   ·rcases List.mem_cons.1 ((h z).1 (List.mem_cons_of_mem _ hz)) with e | e
    ·have:=ha'.1 z hz;omega
    ·exact e
   ·rcases List.mem_cons.1 ((h z).2 (List.mem_cons_of_mem _ hz)) with e | e
    ·have:=hb'.1 z hz;omega
    ·exact e
theorem get_le {zs:List Int} (h:zs.Pairwise (·≤·)) {i j:Nat} (hij:i≤j) (hj:j<zs.length):zs.toArray[i]!≤zs.toArray[j]!:=by
 have hi:i<zs.length:=by omega
 rw [getElem!_pos _ _ (by simpa using hi),getElem!_pos _ _ (by simpa using hj)]
 rcases Nat.lt_or_eq_of_le hij with h1 | rfl
 ·simpa using List.pairwise_iff_getElem.1 h i j hi hj h1
 ·exact Int.le_refl _
theorem compact_asc {zs:List Int} (h:zs.Pairwise (·≤·)):(Lib.compact zs).Pairwise (· < ·):=by
 unfold Lib.compact Lib.compactUpTo
 rw [List.pairwise_map]
 refine List.Pairwise.imp_of_mem (R:=fun i j=>i<j) (fun {i j} hi hj hij=>?_) (List.Pairwise.filter _ List.pairwise_lt_range)
 have hj1:=List.mem_filter.1 hj
 have hjl:=List.mem_range.1 hj1.1
 have hk:=hj1.2
 unfold Lib.keeps at hk
 simp only [decide_eq_true_eq] at hk
 rcases hk with hk | hk
 ·omega
 ·have h1:=get_le h (show i≤j - 1 by omega) (by omega)
  have h2:=get_le h (show j - 1≤j by omega) hjl
  omega
theorem mem_compact {zs:List Int} (x:Int):x∈Lib.compact zs↔x∈zs:=by
 unfold Lib.compact Lib.compactUpTo
 constructor
 ·intro h
  obtain ⟨i,hi,rfl⟩:=List.mem_map.1 h
  have hl:=List.mem_range.1 (List.mem_filter.1 hi).1
  rw [getElem!_pos _ _ (by simpa using hl)]
  simp
 ·intro h
  have hex:∃ i,i<zs.length∧zs.toArray[i]! = x:=by
   obtain ⟨i,hi,rfl⟩:=List.getElem_of_mem h
   exact ⟨i,hi,by rw [getElem!_pos _ _ (by simpa using hi)];simp⟩
  have hmin:∀ n i,i≤n→i<zs.length→zs.toArray[i]! = x→∃ j,j<zs.length∧zs.toArray[j]! = x∧Lib.keeps zs.toArray j=true:=by
   intro n
   induction n with
   | zero =>
     intro i h1 h2 h3
     obtain rfl:i=0:=by omega
     exact ⟨0,h2,h3,by simp [Lib.keeps]⟩
   | succ n ih =>
     intro i h1 h2 h3
     by_cases hk:Lib.keeps zs.toArray i=true
     ·exact ⟨i,h2,h3,hk⟩
     ·unfold Lib.keeps at hk
      simp only [decide_eq_true_eq,not_or,Decidable.not_not] at hk
      exact ih (i - 1) (by omega) (by omega) (by rw [← hk.2];exact h3)
  obtain ⟨i,hi,hx⟩:=hex
  obtain ⟨j,hj,hjx,hk⟩:=hmin i i (Nat.le_refl _) hi hx
  exact List.mem_map.2 ⟨j,List.mem_filter.2 ⟨List.mem_range.2 hj,hk⟩,hjx⟩
def callN (t:PTree) (n:PNode):Option Int:=if n.kind=4∧0≤findF t n.name then some (findF t n.name) else none
def outS (t:PTree) (s:PStmt):List Int:=(s.e ++ s.f).filterMap (callN t)
def outL (t:PTree) (l:List PStmt):List Int:=l.flatMap (outS t)
def callsL (t:PTree) (l:List PStmt):List Int:=((List.range t.funcs.length).filter fun g:Nat=>decide ((g:Int)∈outL t l)).map fun g:Nat=>(g:Int)
theorem outL_range (t:PTree) (l:List PStmt):∀ x∈outL t l,0≤x∧x<t.funcs.length:=by
 intro x hx
 obtain ⟨s,_,hs⟩:=List.mem_flatMap.1 hx
 obtain ⟨n,_,hn⟩:=List.mem_filterMap.1 hs
 unfold callN at hn
 split at hn
 ·rename_i hc
  cases hn
  rcases findF_range t n.name with h | ⟨h1,h2,_⟩
  ·omega
  ·exact ⟨h1,h2⟩
 ·cases hn
theorem callsL_asc (t:PTree) (l:List PStmt):(callsL t l).Pairwise (· < ·):=by
 unfold callsL
 rw [List.pairwise_map]
 exact List.Pairwise.imp (fun {a b} h=>by omega) (List.Pairwise.filter _ List.pairwise_lt_range)
theorem mem_callsL (t:PTree) (l:List PStmt) (x:Int):x∈callsL t l↔x∈outL t l:=by
 unfold callsL
 constructor
 ·intro h
  obtain ⟨g,hg,rfl⟩:=List.mem_map.1 h
  exact of_decide_eq_true (List.mem_filter.1 hg).2
 ·intro h
  obtain ⟨h0,h1⟩:=outL_range t l x h
  exact List.mem_map.2 ⟨x.toNat,List.mem_filter.2 ⟨List.mem_range.2 (by omega),decide_eq_true (by rw [Int.toNat_of_nonneg h0];exact h)⟩,Int.toNat_of_nonneg h0⟩
theorem sorted_le (l:List Int):(l.mergeSort fun x y=>decide (x≤y)).Pairwise (·≤·):=by
 have:=List.pairwise_mergeSort (le:=fun x y:Int=>decide (x≤y)) (fun a b c h1 h2=>by simp at h1 h2 ⊢;omega) (fun a b=>by simp;omega) l
 exact this.imp (fun {a b} h=>by simpa using h)
theorem calls_eq (t:PTree) (l:List PStmt):Lib.compact ((outL t l).mergeSort fun x y=>decide (x≤y))=callsL t l :=
 asc_ext (compact_asc (sorted_le _)) (callsL_asc t l) (fun x=>by rw [mem_compact,mem_callsL,List.mem_mergeSort])
end Go.Proofs.YtcfggjmdcaoecaaGreatDoor.Md
