/- A part of the proofs of FnBound and FnCheck: the lemmas and walks Name, ImplName, Num, SpecTree, SpecExpr. -/
import Derived.Test.YtcfggjmdcaoecaaGreatDoorRows
import Derived.Test.YtcfggjmdcaoecaaGreatDoorB03
set_option linter.unusedVariables false
set_option linter.unusedSimpArgs false
namespace Go.Proofs.YtcfggjmdcaoecaaGreatDoor
open Go Go.RowKit Md
theorem toList_loop (s:ByteArray):∀ n i r,s.size - i=n→ByteArray.toList.loop s i r=r.reverse ++ s.data.toList.drop i:=by
 intro n
 induction n with
 | zero =>
   intro i r h
   rw [ByteArray.toList.loop,if_neg (by omega),List.drop_eq_nil_of_le (by simp;change s.size≤i;omega),List.append_nil]
 | succ n ih =>
   intro i r h
   rw [ByteArray.toList.loop,if_pos (by omega),ih _ _ (by omega)]
   have hi:i<s.data.toList.length:=by simp;change i<s.size;omega
   rw [List.drop_eq_getElem_cons hi]
   have:s.get! i=s.data.toList[i]:=by
    cases s with | mk d =>
    simp [ByteArray.get!]
    simp at hi
    rw [getElem!_pos d i hi]
   rw [this];simp
theorem toList_eq (s:ByteArray):s.toList=s.data.toList:=by
 rw [ByteArray.toList,toList_loop s s.size 0 [] (by omega)];simp
theorem toList_nil (s:ByteArray):(s.toList == [])=(s.size == 0):=by
 rw [toList_eq]
 cases s with | mk d =>
 rw [Bool.eq_iff_iff,beq_iff_eq,beq_iff_eq];simp [ByteArray.size]
theorem toList_inj {s t:ByteArray} (h:s.toList=t.toList):s=t:=by
 rw [toList_eq,toList_eq] at h
 cases s;cases t;congr 1;exact Array.toList_inj.1 h
theorem s_l2First (c:Nat) (w:World):Calls Tryz.prog 104 #[.int .u8 c] w (Same (.bool (isLetter c)) w):=by
 go_enter Tryz.func104,Tryz.ntmps104
 by_cases h1:97≤c<;>by_cases h2:c≤122<;>by_cases h3:c=95<;>first | omega | skip
 all_goals go_wp2
 all_goals go_ret
 all_goals exact Same.bool (by unfold isLetter;first | (simp;omega) | (simp [*];done) | (rw [Bool.eq_iff_iff];simp;omega))
theorem s_l2Later (c:Nat) (w:World):Calls Tryz.prog 106 #[.int .u8 c] w (Same (.bool (isLetter c || isDigit c)) w):=by
 go_enter Tryz.func106,Tryz.ntmps106
 go_wp2_with fail
 refine (s_l2First _ _).mono ?_;rintro e w' ⟨rfl,rfl⟩
 cases hL:isLetter c
 ·by_cases h1:48≤c<;>by_cases h2:c≤57<;>first | omega | skip
  all_goals go_wp2
  all_goals go_ret
  all_goals exact Same.bool (by unfold isDigit;simp [*]<;>omega)
 ·go_wp2
  go_ret
  exact Same.bool (by simp [hL])
theorem s_l2Reserved (s:ByteArray) (w:World):Calls Tryz.prog 105 #[.string s] w (Same (.bool (isReserved s)) w):=by
 go_enter Tryz.func105,Tryz.ntmps105
 go_wp2
 all_goals go_ret
 all_goals exact Same.bool (by first | (simp [isReserved,resL, *];done) | (rw [Bool.eq_iff_iff];simp [isReserved,resL, *]))
theorem isName_eq (s:ByteArray):isName s=(decide (1≤s.size) && decide (s.size≤20) && isLetter (bAt s 0) && !isReserved s && (List.range s.size).all fun i=>isLetter (bAt s i) || isDigit (bAt s i)):=rfl
theorem bAt_get (s:ByteArray) (i:Nat) (h:i<s.size):(s[i]'h).toNat=bAt s i:=by unfold bAt;rw [dif_pos h]
theorem s_l2Name (s:ByteArray) (w:World) (hs:s.size≤maxLen):Calls Tryz.prog 65 #[.string s] w (Same (.bool (isName s)) w):=by
 unfold maxLen at hs
 go_enter Tryz.func65,Tryz.ntmps65
 by_cases h1:s.size<1
 ·go_wp2
  go_ret
  exact Same.bool (by rw [isName_eq,decide_eq_false (by omega)];rfl)
 ·by_cases h2:20<s.size
  ·go_wp2
   go_ret
   exact Same.bool (by rw [isName_eq,decide_eq_true (show 1≤s.size by omega),decide_eq_false (show ¬ s.size≤20 by omega)];rfl)
  ·go_wp2_with fail
   rw [bAt_get s 0 (by omega)]
   refine (s_l2First _ _).mono ?_;rintro e w' ⟨rfl,rfl⟩
   cases hF:isLetter (bAt s 0)
   ·go_wp2
    go_ret
    exact Same.bool (by rw [isName_eq,hF,Bool.and_false];rfl)
   ·go_wp2_with fail
    refine (s_l2Reserved s _).mono ?_;rintro e w' ⟨rfl,rfl⟩
    cases hR:isReserved s
    ·have hN:isName s=(List.range s.size).all fun i=>isLetter (bAt s i) || isDigit (bAt s i):=by
      rw [isName_eq,hF,hR,decide_eq_true (show 1≤s.size by omega),decide_eq_true (show s.size≤20 by omega)];rfl
     have HN:=Lib.hid hN
     clear hN
     go_wp2
     go_loopw [3] (fun i wr=>∃ k:Nat,k≤s.size∧i=.int .i64 k∧Hid (∀ j,j<k→(isLetter (bAt s j) || isDigit (bAt s j))=true)∧w=wr) (fun i _=>s.size - (intOf i).toNat)
     case atStart=>exact ⟨0,Nat.zero_le _,rfl,fun j hj=>absurd hj (by omega),rfl⟩
     case round =>
      obtain ⟨k,hk,rfl,hA,rfl⟩:=hrel
      by_cases hlt:k<s.size
      ·have g0:(0:Int)≤(k:Int):=by omega
       have g1:(k:Int)<(s.size:Int):=by omega
       go_wp2_with fail
       rw [bAt_get s k hlt]
       refine (s_l2Later _ _).mono ?_;rintro e w' ⟨rfl,rfl⟩
       cases hL:(isLetter (bAt s k) || isDigit (bAt s k))
       ·go_wp2
        go_ret
        exact Same.bool (by
         rw [HN.out]
         exact (List.all_eq_false.2 ⟨k,List.mem_range.2 hlt,by rw [hL];simp⟩).symm)
       ·go_wp2
        go_roundw
        case rel=>exact ⟨k+1,by omega,by go_num,fun j hj=>by
         by_cases hjk:j=k
         ·rw [hjk];exact hL
         ·exact hA.out j (by omega),trivial⟩
        case measure=>simp [intOf];omega
      ·go_wp2
       go_ret
       exact Same.bool (by
        rw [HN.out]
        exact (List.all_eq_true.2 fun j hj=>hA.out j (by have:=List.mem_range.1 hj;omega)).symm)
    ·go_wp2
     go_ret
     exact Same.bool (by rw [isName_eq,hR,Bool.not_true,Bool.and_false];rfl)
open Go Go.RowKit Md
theorem i_letter (c:Nat) (w:World):Calls Tryz.prog 111 #[.int .u8 c] w (Same (.bool (isLetter c)) w):=by
 go_enter Tryz.func111,Tryz.ntmps111
 by_cases h1:97≤c<;>by_cases h2:c≤122<;>by_cases h3:c=95<;>first | omega | skip
 all_goals go_wp2
 all_goals go_ret
 all_goals exact Same.bool (by unfold isLetter;first | (simp;omega) | (simp [*];done) | (rw [Bool.eq_iff_iff];simp;omega))
theorem i_digit (c:Nat) (w:World):Calls Tryz.prog 113 #[.int .u8 c] w (Same (.bool (isDigit c)) w):=by
 go_enter Tryz.func113,Tryz.ntmps113
 by_cases h1:48≤c<;>by_cases h2:c≤57<;>first | omega | skip
 all_goals go_wp2
 all_goals go_ret
 all_goals exact Same.bool (by unfold isDigit;simp [*]<;>omega)
def idxS (s:ByteArray):List ByteArray→Nat→Int
 | [],_=>-1
 | x :: r,i=>if s.toList == x.toList then (i:Int) else idxS s r (i+1)
def hasS (s:ByteArray) (l:List ByteArray):Bool:=l.any fun x=>s.toList == x.toList
theorem idxS_has (s:ByteArray) (l:List ByteArray):∀ i:Nat,decide (0≤idxS s l i)=hasS s l:=by
 induction l with
 | nil=>intro i;rfl
 | cons x r ih =>
   intro i
   unfold idxS hasS
   rw [List.any_cons]
   cases h:s.toList == x.toList
   ·rw [if_neg (by simp),ih];rfl
   ·rw [if_pos rfl,decide_eq_true (by omega)];rfl
theorem drop_get {α:Type} {l:List α} {k:Nat} {x:α} (h:l[k]? = some x):l.drop k=x :: l.drop (k+1):=by
 obtain ⟨hk,e⟩:=List.getElem?_eq_some_iff.1 h
 rw [List.drop_eq_getElem_cons hk,e]
set_option maxRecDepth 1000000 in
theorem g_Index (K:Foot) (l:List ByteArray) (v:Value) (s:ByteArray) (w:World) (hv:SlStr K w v l) :
  Calls Tryz.prog 142 #[v,.string s] w (Same (.int .i64 (idxS s l 0)) w):=by
 obtain ⟨R,hR⟩:∃ R:Int,R=idxS s l 0:=⟨_,rfl⟩
 rw [← hR]
 have HR:=Lib.hid hR
 clear hR
 obtain ⟨a,len,cap,rfl,Hlen,hlc,hcm,hel⟩:=hv.op
 clear hv
 go_enter Tryz.func142,Tryz.ntmps142
 go_wp2
 go_loop [8] (fun i=>∃ k:Nat,k≤len∧i=.int .i64 k∧Hid (R=idxS s (l.drop k) k)) (fun i=>len - (intOf i).toNat)
 case atStart=>exact ⟨0,Nat.zero_le _,rfl,HR.out⟩
 case round =>
  obtain ⟨k,hk,rfl,hA⟩:=hrel
  by_cases hlt:k<len
  ·obtain ⟨b,o,rfl,_,hel⟩:=hel (by omega)
   obtain ⟨x,cs,hx,_,hC,hcs⟩:=hel k hlt
   obtain ⟨rfl,hx2⟩:=hC
   have c0:=hcs.z rfl
   rw [Nat.mul_one] at c0
   have HA2:Hid (R=if s.toList == x.toList then (k:Int) else idxS s (l.drop (k+1)) (k+1)):=by
    show R=_
    rw [hA.out,drop_get hx];rfl
   clear hel hcs hx hA
   have g0:(0:Int)≤(k:Int):=by omega
   have g1:(k:Int)<(len:Int):=by omega
   cases hsx:s.toList == x.toList
   ·go_wp2
    go_round
    case rel=>exact ⟨k+1,by omega,by go_num,by have:=HA2.out;rw [if_neg (by simp only [hsx];simp)] at this;exact this⟩
    case measure=>simp [intOf];omega
   ·go_wp2
    go_ret
    exact Same.int (by have:=HA2.out;rw [if_pos hsx] at this;exact this.symm)
  ·go_wp2
   go_ret
   exact Same.int (by
    rw [hA.out,List.drop_eq_nil_of_le (by rw [Hlen.out];omega)];rfl)
theorem g_Contains (K:Foot) (l:List ByteArray) (v:Value) (s:ByteArray) (w:World) (hv:SlStr K w v l) :
  Calls Tryz.prog 112 #[v,.string s] w (Same (.bool (hasS s l)) w):=by
 rw [← idxS_has s l 0]
 obtain ⟨a,len,cap,e,_⟩:=hv.op
 subst e
 obtain ⟨R,hR⟩:∃ R:Int,R=idxS s l 0:=⟨_,rfl⟩
 have H:=g_Index K l _ s w hv
 rw [← hR] at H ⊢
 clear hR
 go_enter Tryz.func112,Tryz.ntmps112
 go_wp2_with fail
 refine H.mono ?_;rintro _ _ ⟨rfl,rfl⟩
 go_wp2
 go_ret
 exact Same.bool rfl
def Res (w:World):Prop:=∃ v l,w.cell? ⟨1,0,none⟩=some v∧SlStr AnyB w v l∧l.map ByteArray.toList=resL
theorem Res.ext {w w':World} (h:Res w) (k:Ext w w'):Res w':=by
 obtain ⟨v,l,hc,hv,hl⟩:=h
 exact ⟨v,l,k.cell hc,hv.ext k (fun _ _ h=>h.any),hl⟩
theorem hasS_res {l:List ByteArray} (h:l.map ByteArray.toList=resL) (s:ByteArray):hasS s l=isReserved s:=by
 unfold isReserved hasS
 rw [← h]
 rw [Bool.eq_iff_iff]
 simp [List.any_eq_true]
 constructor
 ·rintro ⟨x,h1,h2⟩;exact ⟨x,h1,h2.symm⟩
 ·rintro ⟨x,h1,h2⟩;exact ⟨x,h1,h2.symm⟩
theorem i_isName (s:ByteArray) (w:World) (hs:s.size≤maxLen) (hres:Res w):Calls Tryz.prog 69 #[.string s] w (Same (.bool (isName s)) w):=by
 unfold maxLen at hs
 obtain ⟨v,l,cg,hv,hl⟩:=hres
 have HC:=Lib.hid (g_Contains AnyB l v s w hv)
 have HH:=Lib.hid (hasS_res hl s)
 clear hv hl
 go_enter Tryz.func69,Tryz.ntmps69
 by_cases h1:s.size<1
 ·go_wp2
  go_ret
  exact Same.bool (by rw [isName_eq,decide_eq_false (by omega)];rfl)
 ·by_cases h2:20<s.size
  ·go_wp2
   go_ret
   exact Same.bool (by rw [isName_eq,decide_eq_true (show 1≤s.size by omega),decide_eq_false (show ¬ s.size≤20 by omega)];rfl)
  ·go_wp2_with fail
   rw [bAt_get s 0 (by omega)]
   refine (i_letter _ _).mono ?_;rintro e w' ⟨rfl,rfl⟩
   cases hF:isLetter (bAt s 0)
   ·go_wp2
    go_ret
    exact Same.bool (by rw [isName_eq,hF,Bool.and_false];rfl)
   ·go_wp2_with fail
    refine HC.out.mono ?_;rintro e w' ⟨rfl,rfl⟩
    rw [HH.out]
    cases hR:isReserved s
    ·have hN:isName s=(List.range s.size).all fun i=>isLetter (bAt s i) || isDigit (bAt s i):=by
      rw [isName_eq,hF,hR,decide_eq_true (show 1≤s.size by omega),decide_eq_true (show s.size≤20 by omega)];rfl
     have HN:=Lib.hid hN
     clear hN
     go_wp2
     go_loopw [25] (fun i wr=>∃ k:Nat,k≤s.size∧i=.int .i64 k∧Hid (∀ j,j<k→(isLetter (bAt s j) || isDigit (bAt s j))=true)∧w=wr) (fun i _=>s.size - (intOf i).toNat)
     case atStart=>exact ⟨0,Nat.zero_le _,rfl,fun j hj=>absurd hj (by omega),rfl⟩
     case round =>
      obtain ⟨k,hk,rfl,hA,rfl⟩:=hrel
      by_cases hlt:k<s.size
      ·have g0:(0:Int)≤(k:Int):=by omega
       have g1:(k:Int)<(s.size:Int):=by omega
       go_wp2_with fail
       rw [bAt_get s k hlt]
       refine (i_letter _ _).mono ?_;rintro e w' ⟨rfl,rfl⟩
       cases hL:isLetter (bAt s k)
       ·go_wp2_with fail
        rw [bAt_get s k hlt]
        refine (i_digit _ _).mono ?_;rintro e w' ⟨rfl,rfl⟩
        cases hD:isDigit (bAt s k)
        ·go_wp2
         go_ret
         exact Same.bool (by
          rw [HN.out]
          exact (List.all_eq_false.2 ⟨k,List.mem_range.2 hlt,by rw [hL,hD];simp⟩).symm)
        ·go_wp2
         go_roundw
         case rel=>exact ⟨k+1,by omega,by go_num,fun j hj=>by
          by_cases hjk:j=k
          ·rw [hjk,hL,hD];rfl
          ·exact hA.out j (by omega),trivial⟩
         case measure=>simp [intOf];omega
       ·go_wp2
        go_roundw
        case rel=>exact ⟨k+1,by omega,by go_num,fun j hj=>by
         by_cases hjk:j=k
         ·rw [hjk,hL];rfl
         ·exact hA.out j (by omega),trivial⟩
        case measure=>simp [intOf];omega
      ·go_wp2
       go_ret
       exact Same.bool (by
        rw [HN.out]
        exact (List.all_eq_true.2 fun j hj=>hA.out j (by have:=List.mem_range.1 hj;omega)).symm)
    ·go_wp2
     go_ret
     exact Same.bool (by rw [isName_eq,hR,Bool.not_true,Bool.and_false];rfl)
open Go Go.RowKit
def w32 (x:Int):Int:=wrap32 x
theorem w32_range (x:Int) : -2147483648≤w32 x∧w32 x≤2147483647:=by unfold w32 wrap32;omega
theorem w64_id {x:Int} (h : -9223372036854775808≤x∧x≤9223372036854775807):wrap64 x=x:=by unfold wrap64;omega
def b01 (b:Bool):Int:=if b then 1 else 0
def shN (b:Int):Nat:=(b % 32).toNat
def andI (a b:Int):Int:=(BitVec.ofInt 32 a &&& BitVec.ofInt 32 b).toInt
def xorI (a b:Int):Int:=(BitVec.ofInt 32 a ^^^ BitVec.ofInt 32 b).toInt
def orI (a b:Int):Int:=(BitVec.ofInt 32 a ||| BitVec.ofInt 32 b).toInt
def apW (op a b:Int):Int :=
 if op=0 then w32 (a*b) else if op=1 then if b=0 then -1 else w32 (a.tdiv b) else if op=2 then if b=0 then a else a.tmod b
 else if op=3 then w32 (a+b) else if op=4 then w32 (a - b) else if op=5 then w32 (a*2 ^ shN b) else if op=6 then a / 2 ^ shN b
 else if op=7 then b01 (decide (a<b)) else if op=8 then b01 (decide (a≤b)) else if op=9 then b01 (decide (b<a)) else if op=10 then b01 (decide (b≤a))
 else if op=11 then b01 (decide (a=b)) else if op=12 then b01 (decide (¬ a=b)) else if op=13 then andI a b else if op=14 then xorI a b else if op=15 then orI a b else 0
def apM (op x y:Int):Int:=apW op (w32 x) (w32 y)
theorem s_l1Wrap (x:Int) (w:World):Calls Tryz.prog 180 #[.int .i64 x] w (Same (.int .i64 (w32 x)) w):=by
 go_enter Tryz.func180,Tryz.ntmps180
 go_wp2
 go_ret
 have:=w32_range x
 exact Same.int (by exact w64_id ⟨by unfold w32 at this;omega,by unfold w32 at this;omega⟩)
open Go Go.RowKit Md
theorem s_l1In (x a b:Int) (w:World):Calls Tryz.prog 34 #[.int .i64 x,.int .i64 a,.int .i64 b] w (Same (.bool (decide (a≤x) && decide (x≤b))) w):=by
 go_enter Tryz.func34,Tryz.ntmps34
 by_cases h:a≤x
 ·go_wp2
  go_ret
  exact Same.bool (by simp<;>omega)
 ·go_wp2
  go_ret
  exact Same.bool (by simp<;>omega)
theorem s_l2Arity (x:PNode) (w:World):Calls Tryz.prog 178 #[.agg #[.int .i64 x.kind,.int .i64 x.val,.string x.name]] w (Gives (.int .i64 (ar x)) w):=by
 go_enter Tryz.func178,Tryz.ntmps178
 go_wp2
 all_goals go_ret
 all_goals exact Gives.int (by unfold ar;simp_all) ((Ext.refl _).alloc _)
theorem Same.quiet {P:Program} {f:FuncId} {args:Array Value} {w:World} {n:Nat} {v:Value} (h:Calls P f args (w.drewN n) (Same v (w.drewN n))) :
  Calls P f args (w.drewN n) fun e w''=>e=.returned v∧∃ m,w''=w.drewN m:=h.mono fun _ _ ⟨he,hm⟩=>⟨he,n,hm.symm⟩
theorem Ext.allocN (w:World) (o:Obj) (n:Nat):Ext w ((w.alloc o).drewN n):=((Ext.refl w).alloc o).trans (drewN_ext _ n)
theorem ar_num (v:Int) (m:ByteArray):(arity ⟨1,v,m⟩).isSome=((v == w32 v) && (m.toList == [])):=by
 have e:(v == w32 v)=isWord v:=by
  rw [Bool.eq_iff_iff]
  simp only [beq_iff_eq,isWord,Bool.and_eq_true,decide_eq_true_eq]
  unfold w32 wrap32
  omega
 rw [e,toList_nil]
 cases h:isWord v<;>by_cases h0:m.size=0<;>simp [arity,h,h0]
theorem ar_named (k v:Int) (m:ByteArray) (hk:k=2∨k=3):(arity ⟨k,v,m⟩).isSome=((v == 0) && isName m):=by
 rcases hk with rfl | rfl<;>cases h:isName m<;>by_cases h1:v=0<;>simp [arity,h,h1]
theorem ar_call (v:Int) (m:ByteArray):(arity ⟨4,v,m⟩).isSome=(decide (0≤v) && decide (v≤6) && isName m):=by
 cases h:isName m<;>by_cases h1:0≤v<;>by_cases h2:v≤6<;>simp [arity,h,h1,h2]
theorem ar_un (v:Int) (m:ByteArray):(arity ⟨6,v,m⟩).isSome=(decide (0≤v) && decide (v≤2) && (m.toList == [])):=by
 rw [toList_nil]
 by_cases h:m.size=0<;>by_cases h1:0≤v<;>by_cases h2:v≤2<;>simp [arity,h,h1,h2]
theorem ar_bin (v:Int) (m:ByteArray):(arity ⟨7,v,m⟩).isSome=(decide (0≤v) && decide (v≤15) && (m.toList == [])):=by
 rw [toList_nil]
 by_cases h:m.size=0<;>by_cases h1:0≤v<;>by_cases h2:v≤15<;>simp [arity,h,h1,h2]
theorem ar_plain (k v:Int) (m:ByteArray) (hk:k=5∨k=8∨k=9):(arity ⟨k,v,m⟩).isSome=((v == 0) && (m.toList == [])):=by
 rw [toList_nil]
 rcases hk with rfl | rfl | rfl<;>by_cases h:m.size=0<;>by_cases h1:v=0<;>simp [arity,h,h1]
theorem ar_none (k v:Int) (m:ByteArray) (h1:k≠1) (h2:k≠2) (h3:k≠3) (h4:k≠4) (h5:k≠5) (h6:k≠6) (h7:k≠7) (h8:k≠8) (h9:k≠9):(arity ⟨k,v,m⟩).isSome=false:=by
 simp [arity,h1,h2,h3,h4,h5,h6,h7,h8,h9]
theorem s_l2GoodNode (x:PNode) (w:World) (hs:x.name.size≤maxLen):Calls Tryz.prog 165 #[.agg #[.int .i64 x.kind,.int .i64 x.val,.string x.name]] w (Gives (.bool (arity x).isSome) w):=by
 obtain ⟨kind,val,name⟩:=x
 simp only at *
 go_enter Tryz.func165,Tryz.ntmps165
 by_cases h1:kind=1
 ·subst h1
  rw [ar_num]
  cases hd:(val == w32 val)<;>cases hn:(name.toList == [])<;>(
   go_wp2_with fail
   go_quiet (exact Same.quiet (s_l1Wrap _ _))
   go_wp2
   go_ret
   exact Gives.bool rfl (Ext.allocN _ _ _))
 by_cases h23:kind=2∨kind=3
 ·rw [ar_named _ _ _ h23]
  rcases h23 with rfl | rfl<;>cases hd:(val == 0)<;>(
   go_wp2_with fail
   first
    | (refine (s_l2Name name _ hs).mono ?_;rintro e w' ⟨rfl,rfl⟩;go_wp2)
    | skip
   go_ret
   exact Gives.bool (by first | (rw [hd];simp;done) | simp) ((Ext.refl _).alloc _))
 by_cases h4:kind=4
 ·subst h4
  rw [ar_call]
  go_wp2_with fail
  refine (s_l1In _ _ _ _).mono ?_;rintro e w' ⟨rfl,rfl⟩
  cases hd:(decide (0≤val) && decide (val≤6))<;>(
   go_wp2_with fail
   first
    | (refine (s_l2Name name _ hs).mono ?_;rintro e w' ⟨rfl,rfl⟩;go_wp2)
    | skip
   go_ret
   exact Gives.bool (by first | (rw [hd];simp;done) | simp) ((Ext.refl _).alloc _))
 by_cases h6:kind=6
 ·subst h6
  rw [ar_un]
  go_wp2_with fail
  refine (s_l1In _ _ _ _).mono ?_;rintro e w' ⟨rfl,rfl⟩
  cases hd:(decide (0≤val) && decide (val≤2))<;>(
   go_wp2
   go_ret
   exact Gives.bool (by first | (rw [hd];simp;done) | simp) ((Ext.refl _).alloc _))
 by_cases h7:kind=7
 ·subst h7
  rw [ar_bin]
  go_wp2_with fail
  refine (s_l1In _ _ _ _).mono ?_;rintro e w' ⟨rfl,rfl⟩
  cases hd:(decide (0≤val) && decide (val≤15))<;>(
   go_wp2
   go_ret
   exact Gives.bool (by first | (rw [hd];simp;done) | simp) ((Ext.refl _).alloc _))
 by_cases h589:kind=5∨kind=8∨kind=9
 ·rw [ar_plain _ _ _ h589]
  rcases h589 with rfl | rfl | rfl<;>cases hd:(val == 0)<;>(
   go_wp2
   go_ret
   exact Gives.bool (by first | (rw [hd];simp;done) | simp) ((Ext.refl _).alloc _))
 ·rw [ar_none _ _ _ h1 (by omega) (by omega) h4 (by omega) h6 h7 (by omega) (by omega)]
  have f1:(kind == 1)=false:=by simp;omega
  have f2:(kind == 2)=false:=by simp;omega
  have f3:(kind == 3)=false:=by simp;omega
  have f4:(kind == 4)=false:=by simp;omega
  have f5:(kind == 5)=false:=by simp;omega
  have f6:(kind == 6)=false:=by simp;omega
  have f7:(kind == 7)=false:=by simp;omega
  have f8:(kind == 8)=false:=by simp;omega
  have f9:(kind == 9)=false:=by simp;omega
  go_wp2
  go_ret
  exact Gives.bool rfl ((Ext.refl _).alloc _)
open Go Go.RowKit Md
def ArOk (l:List PNode):Prop:=∀ n∈l,0≤ar n∧ar n≤6
theorem ArOk.of_isSome {n:PNode} (h:(arity n).isSome=true):0≤ar n∧ar n≤6:=by
 obtain ⟨k,hk⟩:=Option.isSome_iff_exists.1 h
 rw [ar_of_arity hk]
 unfold arity at hk
 repeat' split at hk
 all_goals first | (cases hk;done) | (simp only [Option.some.injEq] at hk;omega)
theorem fromL_stop (e:List PNode) (i:Nat) (need:Int) (h:need≤0):fromL e i need=i:=by unfold fromL;rw [if_pos h]
theorem fromL_end (e:List PNode) (need:Int) (h:¬ need≤0):fromL e 0 need = -1:=by unfold fromL;rw [if_neg h]
theorem fromL_step (e:List PNode) (i:Nat) (need:Int) {x:PNode} (h:¬ need≤0) (hx:e[i]? = some x):fromL e (i+1) need=fromL e i (need - 1+ar x):=by
 conv=>lhs;unfold fromL
 rw [if_neg h]
 simp only [hx]
theorem s_l2From (K:Foot) (l:List PNode) (v:Value) (w:World) (hv:SlNode K w v l) (ha:ArOk l) (hl:l.length≤1000000) :
  Calls Tryz.prog 166 #[v] w (Gives (.int .i64 (fromL l l.length 1)) w):=by
 obtain ⟨a,len,cap,rfl,Hlen,hlc,hcm,hel⟩:=hv.op
 have hlm:len≤1000000:=by have:=Hlen.out;omega
 rw [Hlen.out]
 obtain ⟨r,hr⟩:∃ r,r=fromL l len 1:=⟨_,rfl⟩
 rw [← hr]
 have Hr:=Lib.hid hr
 have Ha:=Lib.hid ha
 clear hv hr ha
 go_enter Tryz.func166,Tryz.ntmps166
 go_wp2
 go_loopw [3,4] (fun nd i wr=>∃ (k:Nat) (need:Int),k≤len∧i=.int .i64 k∧nd=.int .i64 need∧0≤need∧need≤1+6*((len:Int) - k)∧Hid (r=fromL l k need)∧Ext w wr) (fun _ i _=>(intOf i).toNat)
 case atStart=>exact ⟨len,1,Nat.le_refl _,rfl,rfl,by omega,by omega,Hr,Ext.refl _⟩
 case round =>
  obtain ⟨k,need,hk,rfl,rfl,hn0,hn1,hF,hE⟩:=hrel
  by_cases hz:need≤0
  ·go_wp2
   go_ret
   exact Gives.int (by rw [hF.out,fromL_stop _ _ _ (by omega)]) hE
  ·by_cases hk0:k=0
   ·subst hk0
    go_wp2
    go_ret
    exact Gives.int (by rw [hF.out,fromL_end _ _ (by omega)]) hE
   ·obtain ⟨k,rfl⟩:∃ k',k=k'+1:=⟨k - 1,by omega⟩
    obtain ⟨b,o,rfl,_,hel⟩:=hel (by omega)
    obtain ⟨x,cs,hx,_,hC,hcs⟩:=hel k (by omega)
    obtain ⟨rfl,_,_,hn⟩:=hC
    have c0:=hE.cell (hcs.z rfl)
    have c1:=hE.cell (hcs 1 _ rfl)
    have c2:=hE.cell (hcs 2 _ rfl)
    have hax:=Ha.out x (List.mem_of_getElem? hx)
    have hF2:Hid (r=fromL l k (need - 1+ar x)):=by rw [hF.out,fromL_step _ _ _ hz hx];exact rfl
    obtain ⟨ax,hax'⟩:∃ ax,ax=ar x:=⟨_,rfl⟩
    rw [← hax'] at hax hF2
    have Hx:=Lib.hid hax'
    clear hel hcs hx hax'
    have g0:(0:Int)≤(k:Int):=by omega
    have g1:(k:Int)<(len:Int):=by omega
    go_wp2_with fail
    refine (s_l2Arity x _).mono ?_
    rintro e w1 ⟨rfl,hX⟩
    have hE1:=hE.trans hX
    rw [← Hx.out]
    go_wp2
    go_roundw
    case rel=>exact ⟨k,need - 1+ax,by omega,by go_num,by go_num,by omega,by omega,hF2,hE1⟩
    case measure=>simp [intOf]
set_option maxRecDepth 1000000 in
theorem s_l2Root (K:Foot) (l:List PNode) (v:Value) (x:PNode) (w:World) (hv:SlNode K w v l) (hx:l.getLast? = some x) :
  Calls Tryz.prog 140 #[v] w (Gives (.agg #[.int .i64 x.kind,.int .i64 x.val,.string x.name]) w):=by
 obtain ⟨a,len,cap,rfl,Hlen,hlc,hcm,hel⟩:=hv.op
 have hp:0<len:=by
  have:=Hlen.out
  cases l with
  | nil=>simp at hx
  | cons y l=>simp at this;omega
 obtain ⟨len,rfl⟩:∃ n,len=n+1:=⟨len - 1,by omega⟩
 obtain ⟨b,o,rfl,_,hel⟩:=hel (by omega)
 obtain ⟨y,cs,hy,_,hC,hcs⟩:=hel len (by omega)
 obtain rfl:x=y:=by
  rw [List.getLast?_eq_getElem?,Hlen.out,Nat.add_sub_cancel,hy] at hx
  exact (Option.some.inj hx).symm
 obtain ⟨rfl,_,_,hn⟩:=hC
 have hE:Ext w (w.alloc (.cells #[.int .i64 0,.int .i64 0,.string ⟨#[]⟩] 104)):=(Ext.refl w).alloc _
 have c0:=hE.cell (hcs.z rfl)
 have c1:=hE.cell (hcs 1 _ rfl)
 have c2:=hE.cell (hcs 2 _ rfl)
 clear hel hcs hx hy hv
 go_enter Tryz.func140,Tryz.ntmps140
 go_wp2
 all_goals
  refine bodyPost_ret (v:=.agg #[.int .i64 x.kind,.int .i64 x.val,.string x.name]) (by simp [results,Tryz.results140,go_sem]) rfl ?_
  refine ⟨rfl,?_⟩
  clear hE c0 c1 c2
  (repeat' (first | assumption | exact Ext.refl _ | refine Ext.drew ?_ | refine Ext.alloc ?_ _ | refine Ext.set ?_ (by first | omega | (simp;done) | (simp;omega)) _ _))
theorem s_l2GoodExpr (K:Foot) (l:List PNode) (v:Value) (w:World) (hv:SlNode K w v l) :
  Calls Tryz.prog 139 #[v] w (Gives (.bool (decide (l.length≤2000) && goodExpr l)) w):=by
 obtain ⟨a,len,cap,rfl,Hlen,hlc,hcm,hel⟩:=hv.op
 rw [Hlen.out]
 have Hv:=Lib.hid hv
 clear hv
 go_enter Tryz.func139,Tryz.ntmps139
 by_cases hb:2000<len
 ·go_wp2
  go_ret
  exact Gives.bool (by rw [decide_eq_false (by omega)];rfl) (Ext.refl _)
 ·rw [decide_eq_true (show len≤2000 by omega),Bool.true_and]
  go_wp2
  go_loopw [3] (fun i wr=>∃ k:Nat,k≤len∧i=.int .i64 k∧Hid (∀ n∈l.take k,(arity n).isSome=true)∧Ext w wr) (fun i _=>len - (intOf i).toNat)
  case atStart=>exact ⟨0,Nat.zero_le _,rfl,by intro n hn;simp at hn,Ext.refl _⟩
  case round =>
   obtain ⟨k,hk,rfl,hA,hE⟩:=hrel
   by_cases hlt:k<len
   ·obtain ⟨b,o,rfl,_,hel⟩:=hel (by omega)
    obtain ⟨x,cs,hx,_,hC,hcs⟩:=hel k (by omega)
    obtain ⟨rfl,_,_,hn⟩:=hC
    have c0:=hE.cell (hcs.z rfl)
    have c1:=hE.cell (hcs 1 _ rfl)
    have c2:=hE.cell (hcs 2 _ rfl)
    have Hx:=Lib.hid hx
    clear hel hcs hx
    have g0:(0:Int)≤(k:Int):=by omega
    have g1:(k:Int)<(len:Int):=by omega
    go_wp2_with fail
    refine (s_l2GoodNode x _ hn).mono ?_
    rintro e w1 ⟨rfl,hX⟩
    have hE1:=hE.trans hX
    cases ha:(arity x).isSome
    ·go_wp2
     go_ret
     exact Gives.bool (by
      have:(l.all fun n=>(arity n).isSome)=false:=List.all_eq_false.2 ⟨x,List.mem_of_getElem? Hx.out,by rw [ha];simp⟩
      rw [goodExpr,this];rfl) hE1
    ·go_wp2
     go_roundw
     case rel=>exact ⟨k+1,by omega,by go_num,(by
      intro n hn
      rw [take_snoc Hx.out] at hn
      rcases List.mem_append.1 hn with hn | hn
      ·exact hA.out n hn
      ·rw [List.mem_singleton.1 hn];exact ha),hE1⟩
     case measure=>simp [intOf];omega
   ·have hall:∀ n∈l,(arity n).isSome=true:=by
     have:=hA.out
     rwa [take_all (show Hid (l.length=k) from (by rw [Hlen.out];exact (show len=k by omega)))] at this
    have hall2:(l.all fun n=>(arity n).isSome)=true:=List.all_eq_true.2 hall
    have HA:=Lib.hid hall
    have HA2:=Lib.hid hall2
    clear hall hall2
    by_cases hp:0<len
    ·go_wp2_with fail
     refine (s_l2From K l _ _ (Hv.out.ext hE (fun _ _ h=>h.any)) (fun n hn=>ArOk.of_isSome (HA.out n hn)) (by have:=Hlen.out;omega)).mono ?_
     rintro e w1 ⟨rfl,hX⟩
     go_wp2
     go_ret
     exact Gives.bool (by rw [goodExpr,HA2.out,Hlen.out,decide_eq_true hp];rfl) (hE.trans hX)
    ·go_wp2
     go_ret
     exact Gives.bool (by rw [goodExpr,HA2.out,Hlen.out,decide_eq_false hp];rfl) hE
end Go.Proofs.YtcfggjmdcaoecaaGreatDoor
