/- A type's text tells the type. -/
import Derived.Test.YtlhoigpidpokfaaGreatMR5
set_option linter.unusedVariables false
set_option linter.unusedSimpArgs false
namespace Go.Proofs.YtlhoigpidpokfaaGreat
open Go Go.Abs Go.Proofs
def vr (n:ByteArray):Bool:=headP smallB n
theorem good_mk (n:ByteArray) (l:List Ty):(Ty.mk n l).good=true↔(Ty.mk n l).node=true∧∀ t∈l,t.good=true:=by
 have key:∀ l:List Ty,(nodesL l).all Ty.node=true↔∀ t∈l,t.good=true:=by
  intro l
  induction l with
  | nil=>simp [nodesL]
  | cons t ts ih=>simp only [nodesL,List.all_append,Bool.and_eq_true,ih,List.mem_cons,forall_eq_or_imp];rfl
 unfold Ty.good
 rw [Ty.nodes,List.all_cons,Bool.and_eq_true,key]
 rfl
theorem arrow_novar:vr arrowN=false:=by decide
theorem node_eq (n:ByteArray) (l:List Ty):(Ty.mk n l).node=if n=arrowN then decide ((l.length:Int)=2) else if vr n=true then smallN n && decide ((l.length:Int)=0) else greatN n && decide ((l.length:Int)≤8):=rfl
theorem node_varP {n:ByteArray} {l:List Ty} (h:(Ty.mk n l).node=true) (hv:vr n=true):l=[]∧smallN n=true:=by
 rw [node_eq,if_neg (by rintro e;rw [e,arrow_novar] at hv;cases hv),if_pos hv] at h
 simp only [Bool.and_eq_true,decide_eq_true_eq] at h
 refine ⟨?_,h.1⟩
 have:l.length=0:=by have:=h.2;omega
 simpa using this
def lex:List UInt8→List (List UInt8)
 | []=>[]
 | c::cs=>if c=32 then lex cs
  else if tailB c=true then (c::cs.takeWhile tailB)::lex (cs.dropWhile tailB)
  else if c=45∧cs.head?=some 62 then [45,62]::lex cs.tail
  else [c]::lex cs
termination_by l=>l.length
decreasing_by
 all_goals simp
 ·have:=(List.dropWhile_suffix (l:=cs) tailB).length_le;omega
 ·omega
def bL (s:ByteArray):List UInt8:=s.data.toList
theorem bL_append (a b:ByteArray):bL (a++b)=bL a++bL b:=by
 simp [bL,ByteArray.data_append]
theorem bL_inj {a b:ByteArray} (h:bL a=bL b):a=b:=by
 cases a;cases b;simp only [bL,Array.toList_inj] at h;simp [h]
def opT:List UInt8:=[40]
def clT:List UInt8:=[41]
def arT:List UInt8:=[45,62]
mutual
def toks:Ty→Nat→List (List UInt8)
 | .mk n l,k=>if n=arrowN∧l.length=2 then (if 0 < k then opT::(toksAr l++[clT]) else toksAr l)
  else if 1 < k∧0 < l.length then opT::(bL n::toksL l++[clT]) else bL n::toksL l
def toksL:List Ty→List (List UInt8)
 | []=>[]
 | t::ts=>toks t 2++toksL ts
def toksAr:List Ty→List (List UInt8)
 | [a,b]=>toks a 1++arT::toks b 0
 | _=>[]
end
def NoTail:List UInt8→Prop
 | []=>True
 | c::_=>tailB c=false
theorem takeWhile_all {p:UInt8→Bool} {a r:List UInt8} (h:∀ x∈a,p x=true) (hr:match r with | []=>True | c::_=>p c=false):(a++r).takeWhile p=a∧(a++r).dropWhile p=r:=by
 induction a with
 | nil =>
  cases r with
  | nil=>simp
  | cons c r=>simp only at hr;simp [List.takeWhile_cons,List.dropWhile_cons,hr]
 | cons x a ih =>
  have h1:=ih fun y hy=>h y (by simp [hy])
  simp [List.takeWhile_cons,List.dropWhile_cons,h x (by simp),h1]
theorem tail_no32:tailB 32=false:=by decide
theorem tail_no41:tailB 41=false:=by decide
theorem lex_run {a r:List UInt8} (ha:a≠[]) (h:∀ x∈a,tailB x=true) (hr:NoTail r):lex (a++r)=a::lex r:=by
 obtain ⟨c,a,rfl⟩:=List.exists_cons_of_ne_nil ha
 have hc:=h c (by simp)
 have hc2:c≠32:=by rintro rfl;rw [tail_no32] at hc;cases hc
 have h1:=takeWhile_all (a:=a) (r:=r) (p:=tailB) (fun x hx=>h x (by simp [hx])) (by cases r <;> exact hr)
 rw [List.cons_append,lex,if_neg hc2,if_pos hc,h1.1,h1.2]
theorem lex_sp (r:List UInt8):lex (32::r)=lex r:=by rw [lex,if_pos rfl]
theorem lex_op (r:List UInt8):lex (40::r)=opT::lex r:=by rw [lex,if_neg (by decide),if_neg (by decide),if_neg (fun h=>absurd h.1 (by decide))];rfl
theorem lex_cl (r:List UInt8):lex (41::r)=clT::lex r:=by rw [lex,if_neg (by decide),if_neg (by decide),if_neg (fun h=>absurd h.1 (by decide))];rfl
theorem lex_ar (r:List UInt8):lex (45::62::r)=arT::lex r:=by rw [lex,if_neg (by decide),if_neg (by decide),if_pos (by simp)];rfl
theorem run_names {n:ByteArray} (h:runB n=true):bL n≠[]∧∀ x∈bL n,tailB x=true:=by
 simp only [runB,Bool.and_eq_true,decide_eq_true_eq,List.all_eq_true] at h
 refine ⟨fun e=>?_,h.2⟩
 have h1:=h.1.1
 rw [ba_size] at h1
 change bL n=[] at e
 unfold bL at e
 rw [e] at h1;simp at h1
theorem node_run {n:ByteArray} {l:List Ty} (h:(Ty.mk n l).node=true) (ha:n≠arrowN):runB n=true:=by
 rw [node_eq,if_neg ha] at h
 split at h
 ·simp only [Bool.and_eq_true,smallN] at h;exact h.1.1.1
 ·simp only [Bool.and_eq_true,greatN] at h;exact h.1.1
theorem plainT_bL (n:ByteArray) (fs:List (Nat→ByteArray)):bL (plainT n fs)=bL n++fs.flatMap fun f=>32::bL (f 2):=by
 induction fs generalizing n with
 | nil=>simp [plainT]
 | cons f fs ih =>
  have h1:=ih (n++(spS++f 2))
  simp only [plainT,List.foldl_cons] at h1 ⊢
  rw [h1,bL_append,bL_append]
  simp [bL,spS]
theorem text_nolen {t:Ty} {k:Nat} (h:t.good=true):∀ r,NoTail r→lex (bL (textT t k)++r)=toks t k++lex r:=by
 induction t using Ty.ind generalizing k with
 | h n l ih =>
 intro r hr
 rw [good_mk] at h
 obtain ⟨hn,hg⟩:=h
 have hargs:∀ (l':List Ty),(∀ t∈l',t∈l)→∀ r,NoTail r→lex ((l'.map textT).flatMap (fun f=>32::bL (f 2))++r)=toksL l'++lex r:=by
  intro l'
  induction l' with
  | nil=>intro _ r _;simp [toksL]
  | cons x l' ihl =>
   intro hsub r hr
   have hx:=hsub x (by simp)
   simp only [List.map_cons,List.flatMap_cons,toksL,List.cons_append,List.append_assoc]
   rw [lex_sp,ih x hx (hg x hx),ihl (fun t ht=>hsub t (by simp [ht])) r hr]
   cases l' with
   | nil=>simpa using hr
   | cons y l'=>simp only [List.map_cons,List.flatMap_cons,List.cons_append];exact tail_no32
 simp only [textT,textE_eq,nodeT,List.length_map,toks]
 by_cases ha:n=arrowN∧l.length=2
 ·rw [if_pos ha,if_pos ha]
  obtain ⟨rfl,h2⟩:=ha
  obtain ⟨a,b,rfl⟩:∃ a b,l=[a,b]:=by
   match l,h2 with
   | [a,b],_=>exact ⟨a,b,rfl⟩
  have key:∀ r,NoTail r→lex (bL (textT a 1++arS++textT b 0)++r)=toksAr [a,b]++lex r:=by
   intro r hr
   have e:bL arS=[32,45,62,32]:=rfl
   rw [bL_append,bL_append,e,List.append_assoc,List.append_assoc,ih a (by simp) (hg a (by simp)) _ (by exact tail_no32)]
   simp only [List.cons_append,List.nil_append]
   rw [lex_sp,lex_ar,lex_sp,ih b (by simp) (hg b (by simp)) r hr]
   simp [toksAr]
  simp only [List.map_cons,List.map_nil,List.getD_cons_zero,List.getD_cons_succ]
  split
  ·rename_i hk
   have e1:bL opS=[40]:=rfl
   have e2:bL clS=[41]:=rfl
   rw [parS,bL_append,bL_append,e1,e2,List.append_assoc,List.append_assoc,List.cons_append,List.nil_append,lex_op]
   rw [key _ (by exact tail_no41),List.cons_append,List.nil_append,lex_cl]
   simp
  ·exact key r hr
 ·rw [if_neg ha,if_neg ha]
  have hne:n≠arrowN:=by
   rintro rfl
   rw [node_eq,if_pos rfl] at hn
   simp only [decide_eq_true_eq] at hn
   exact ha ⟨rfl,by omega⟩
  obtain ⟨r1,r2⟩:=run_names (node_run hn hne)
  have key:∀ r,NoTail r→lex (bL (plainT n (l.map textT))++r)=bL n::toksL l++lex r:=by
   intro r hr
   rw [plainT_bL,List.append_assoc,lex_run r1 r2,hargs l (fun _ h=>h) r hr]
   ·simp
   ·cases l with
    | nil=>simpa using hr
    | cons y l'=>simp only [List.map_cons,List.flatMap_cons,List.cons_append];exact tail_no32
  split
  ·have e1:bL opS=[40]:=rfl
   have e2:bL clS=[41]:=rfl
   rw [parS,bL_append,bL_append,e1,e2,List.append_assoc,List.append_assoc,List.cons_append,List.nil_append,lex_op]
   rw [key _ (by exact tail_no41)]
   simp only [List.cons_append,List.append_assoc,List.nil_append,lex_cl]
  ·exact key r hr
def toB (l:List UInt8):ByteArray:=⟨l.toArray⟩
theorem toB_bL (n:ByteArray):toB (bL n)=n:=by cases n;simp [toB,bL]
def isN (s:List UInt8):Bool:=greatN (toB s) || smallN (toB s)
mutual
def rdAlone:Nat→List (List UInt8)→Option (Ty × List (List UInt8))
 | 0,_=>none
 | f+1,l=>match l with
  | []=>none
  | s::r=>if isN s then some (.mk (toB s) [],r) else if s=opT then
   (match rdWhole f r with
   | some (t,s2::r2)=>if s2=clT then some (t,r2) else none
   | _=>none) else none
def rdArgs:Nat→List (List UInt8)→Option (List Ty × List (List UInt8))
 | 0,_=>none
 | f+1,l=>match l with
  | []=>some ([],[])
  | s::r=>if isN s=true∨s=opT then (match rdAlone f (s::r) with
   | some (t,r2)=>(match rdArgs f r2 with | some (ts,r3)=>some (t::ts,r3) | none=>none)
   | none=>none) else some ([],s::r)
def rdApplied:Nat→List (List UInt8)→Option (Ty × List (List UInt8))
 | 0,_=>none
 | f+1,l=>match l with
  | []=>none
  | s::r=>if greatN (toB s) then (match rdArgs f r with | some (ts,r2)=>some (.mk (toB s) ts,r2) | none=>none) else rdAlone f (s::r)
def rdWhole:Nat→List (List UInt8)→Option (Ty × List (List UInt8))
 | 0,_=>none
 | f+1,l=>match rdApplied f l with
  | none=>none
  | some (a,r)=>(match r with
   | []=>some (a,[])
   | s::r2=>if s=arT then (match rdWhole f r2 with | some (b,r3)=>some (.mk arrowN [a,b],r3) | none=>none) else some (a,s::r2))
end
def NoArg:List (List UInt8)→Prop
 | []=>True
 | s::_=>isN s=false∧s≠opT
def NoAr:List (List UInt8)→Prop
 | []=>True
 | s::_=>s≠arT
theorem isN_op:isN opT=false:=by decide
theorem isN_cl:isN clT=false:=by decide
theorem isN_ar:isN arT=false:=by decide
theorem great_op:greatN (toB opT)=false:=by decide
theorem na_ar (r:List (List UInt8)):NoArg (arT::r):=⟨isN_ar,by decide⟩
theorem na_cl (r:List (List UInt8)):NoArg (clT::r):=⟨isN_cl,by decide⟩
theorem nr_cl (r:List (List UInt8)):NoAr (clT::r):=show clT≠arT by decide
theorem node_cases {n:ByteArray} {l:List Ty} (h:(Ty.mk n l).node=true) (ha:n≠arrowN):(smallN n=true∧greatN n=false∧l=[])∨(greatN n=true):=by
 by_cases hv:vr n=true
 ·obtain ⟨h1,h2⟩:=node_varP h hv
  refine .inl ⟨h2,?_,h1⟩
  cases hg:greatN n with
  | false=>rfl
  | true =>
   simp only [greatN,Bool.and_eq_true] at hg
   have h3:=hg.2
   unfold vr at hv
   unfold headP at hv h3
   split at hv
   ·rename_i c hc
    rw [hc] at h3
    simp only [smallB,greatB,Bool.and_eq_true,decide_eq_true_eq] at hv h3
    omega
   ·cases hv
 ·rw [node_eq,if_neg ha,if_neg hv] at h
  simp only [Bool.and_eq_true] at h
  exact .inr h.1
theorem rd_ok {t:Ty} (h:t.good=true):∃ f0,∀ f,f0≤f→(∀ r,rdAlone f (toks t 2++r)=some (t,r))∧(∀ r,NoArg r→rdApplied f (toks t 1++r)=some (t,r))∧(∀ r,NoArg r→NoAr r→rdWhole f (toks t 0++r)=some (t,r)):=by
 induction t using Ty.ind with
 | h n l ih =>
 rw [good_mk] at h
 obtain ⟨hn,hg⟩:=h
 by_cases ha:n=arrowN
 ·subst ha
  have h2:l.length=2:=by
   rw [node_eq,if_pos rfl] at hn
   simp only [decide_eq_true_eq] at hn;omega
  obtain ⟨a,b,rfl⟩:∃ a b,l=[a,b]:=by
   match l,h2 with
   | [a,b],_=>exact ⟨a,b,rfl⟩
  obtain ⟨fa,hfa⟩:=ih a (by simp) (hg a (by simp))
  obtain ⟨fb,hfb⟩:=ih b (by simp) (hg b (by simp))
  have h0:∀ f,max fa fb+1≤f→∀ r,NoArg r→NoAr r→rdWhole f (toksAr [a,b]++r)=some (.mk arrowN [a,b],r):=by
   intro f hf r hr1 hr2
   obtain ⟨f,rfl⟩:∃ g,f=g+1:=⟨f - 1,by omega⟩
   have e:toksAr [a,b]++r=toks a 1++(arT::(toks b 0++r)):=by simp [toksAr]
   rw [e]
   simp only [rdWhole]
   rw [(hfa f (by omega)).2.1 _ (na_ar _)]
   simp only [if_true]
   rw [(hfb f (by omega)).2.2 r hr1 hr2]
  have h2':∀ f,max fa fb+2≤f→∀ r,rdAlone f (opT::(toksAr [a,b]++[clT])++r)=some (.mk arrowN [a,b],r):=by
   intro f hf r
   obtain ⟨f,rfl⟩:∃ g,f=g+1:=⟨f - 1,by omega⟩
   simp only [List.cons_append,rdAlone,isN_op,Bool.false_eq_true,if_false,if_true]
   rw [List.append_assoc,List.cons_append,List.nil_append,h0 f (by omega) _ (na_cl _) (nr_cl _)]
   simp
  refine ⟨max fa fb+3,fun f hf=>⟨fun r=>?_,fun r hr=>?_,fun r hr1 hr2=>?_⟩⟩
  ·simp only [toks,List.length_cons,List.length_nil,and_self,if_true,Nat.zero_add,Nat.reduceAdd,Nat.lt_irrefl,Nat.zero_lt_succ,if_pos (show 0 < 2 by omega)]
   exact h2' f (by omega) r
  ·simp only [toks,List.length_cons,List.length_nil,and_self,if_true,Nat.zero_add,Nat.reduceAdd,if_pos (show 0 < 1 by omega)]
   obtain ⟨f,rfl⟩:∃ g,f=g+1:=⟨f - 1,by omega⟩
   have h3:=h2' f (by omega) r
   simp only [List.cons_append] at h3 ⊢
   simp only [rdApplied,great_op,Bool.false_eq_true,if_false]
   exact h3
  ·simp only [toks,List.length_cons,List.length_nil,and_self,if_true,Nat.zero_add,Nat.reduceAdd,Nat.lt_irrefl,if_false]
   exact h0 f (by omega) r hr1 hr2
 ·have hna:¬ (n=arrowN∧l.length=2):=fun h=>ha h.1
  have hnc:=node_cases hn ha
  have hnn:isN (bL n)=true:=by
   unfold isN;rw [toB_bL]
   rcases hnc with h | h <;> simp [h]
  have hnop:bL n≠opT:=by
   intro e;rw [e,isN_op] at hnn;cases hnn
  have hargs:∀ l',(∀ t∈l',t∈l)→∃ f0,∀ f,f0≤f→∀ r,NoArg r→rdArgs f (toksL l'++r)=some (l',r):=by
   intro l'
   induction l' with
   | nil =>
    intro _
    refine ⟨1,fun f hf r hr=>?_⟩
    obtain ⟨f,rfl⟩:∃ g,f=g+1:=⟨f - 1,by omega⟩
    simp only [toksL,List.nil_append]
    cases r with
    | nil=>simp [rdArgs]
    | cons s r=>simp only [rdArgs,hr.1,hr.2,Bool.false_eq_true,or_self,if_false]
   | cons x l' ihl =>
    intro hsub
    obtain ⟨f1,h1⟩:=ih x (hsub x (by simp)) (hg x (hsub x (by simp)))
    obtain ⟨f2,h2⟩:=ihl fun t ht=>hsub t (by simp [ht])
    refine ⟨max f1 f2+1,fun f hf r hr=>?_⟩
    obtain ⟨f,rfl⟩:∃ g,f=g+1:=⟨f - 1,by omega⟩
    have h3:=(h1 f (by omega)).1 (toksL l'++r)
    have h4:=h2 f (by omega) r hr
    obtain ⟨s,q,hs,hcs⟩:∃ s q,toks x 2=s::q∧(isN s=true∨s=opT):=by
     have hx:=hg x (hsub x (by simp))
     obtain ⟨xn,xl⟩:=x
     rw [good_mk] at hx
     by_cases hxa:xn=arrowN∧xl.length=2
     ·exact ⟨opT,toksAr xl++[clT],by simp only [toks,if_pos hxa,if_pos (show 0 < 2 by omega)],.inr rfl⟩
     ·by_cases hx0:0 < xl.length
      ·exact ⟨opT,bL xn::toksL xl++[clT],by simp only [toks,if_neg hxa,hx0,and_true,if_pos (show 1 < 2 by omega)],.inr rfl⟩
      ·refine ⟨bL xn,toksL xl,by simp only [toks,if_neg hxa,hx0,and_false,if_false],.inl ?_⟩
       have hxne:xn≠arrowN:=by
        rintro rfl
        have h5:=hx.1
        rw [node_eq,if_pos rfl] at h5
        simp only [decide_eq_true_eq] at h5;omega
       unfold isN;rw [toB_bL]
       rcases node_cases hx.1 hxne with h | h <;> simp [h]
    simp only [toksL,List.append_assoc]
    rw [hs] at h3 ⊢
    simp only [List.cons_append] at h3 ⊢
    simp only [rdArgs,hcs,if_true,h3,h4]
  obtain ⟨fl,hfl⟩:=hargs l fun _ h=>h
  have h1:∀ f,fl+2≤f→∀ r,NoArg r→rdApplied f (bL n::toksL l++r)=some (.mk n l,r):=by
   intro f hf r hr
   obtain ⟨f,rfl⟩:∃ g,f=g+1:=⟨f - 1,by omega⟩
   simp only [List.cons_append,rdApplied,toB_bL]
   rcases hnc with ⟨h3,h4,rfl⟩ | h3
   ·simp only [h4,Bool.false_eq_true,if_false]
    obtain ⟨f,rfl⟩:∃ g,f=g+1:=⟨f - 1,by omega⟩
    simp only [rdAlone,hnn,if_true,toB_bL,toksL,List.nil_append]
   ·simp only [h3,if_true]
    rw [hfl f (by omega) r hr]
  have h0:∀ f,fl+3≤f→∀ r,NoArg r→NoAr r→rdWhole f (bL n::toksL l++r)=some (.mk n l,r):=by
   intro f hf r hr1 hr2
   obtain ⟨f,rfl⟩:∃ g,f=g+1:=⟨f - 1,by omega⟩
   simp only [rdWhole]
   rw [h1 f (by omega) r hr1]
   cases r with
   | nil=>rfl
   | cons s r=>simp only [if_neg (show s≠arT from hr2)]
  refine ⟨fl+4,fun f hf=>⟨fun r=>?_,fun r hr=>?_,fun r hr1 hr2=>?_⟩⟩
  ·obtain ⟨f,rfl⟩:∃ g,f=g+1:=⟨f - 1,by omega⟩
   by_cases hl0:0 < l.length
   ·simp only [toks,if_neg hna,hl0,and_true,if_pos (show 1 < 2 by omega),List.cons_append]
    simp only [rdAlone,isN_op,Bool.false_eq_true,if_false,if_true]
    have h3:=h0 f (by omega) (clT::r) (na_cl _) (nr_cl _)
    simp only [List.cons_append] at h3
    rw [List.append_assoc,List.cons_append,List.nil_append,h3]
    simp
   ·have hl1:l=[]:=by
                have:l.length=0:=by omega
                simpa using this
    subst hl1
    simp only [toks,List.length_nil,Nat.lt_irrefl,and_false,if_false,toksL,List.cons_append,List.nil_append,show ¬ (0=2) by omega]
    simp only [rdAlone,hnn,if_true,toB_bL]
  ·simp only [toks,if_neg hna,Nat.lt_irrefl,false_and,if_false]
   exact h1 f (by omega) r hr
  ·simp only [toks,if_neg hna,show ¬ 1 < 0 by omega,false_and,if_false]
   exact h0 f (by omega) r hr1 hr2
theorem text_inj {a b:Ty} (ha:a.good=true) (hb:b.good=true) (h:textT a 0=textT b 0):a=b:=by
 have hl:∀ a:Ty,a.good=true→lex (bL (textT a 0))=toks a 0:=by
  intro a ha
  have h2:=text_nolen (k:=0) ha [] trivial
  rw [List.append_nil] at h2
  rw [h2];simp [lex]
 have h1:=hl a ha
 rw [h,hl b hb] at h1
 obtain ⟨f1,g1⟩:=rd_ok ha
 obtain ⟨f2,g2⟩:=rd_ok hb
 have k1:=(g1 (max f1 f2) (by omega)).2.2 [] trivial trivial
 have k2:=(g2 (max f1 f2) (by omega)).2.2 [] trivial trivial
 rw [h1,k1] at k2
 simpa using k2
theorem run_sp {s:ByteArray} (h:runB s=true):(32:UInt8) ∉ bL s:=fun e=>absurd ((run_names h).2 32 e) (by decide)
theorem great_sp {s:ByteArray} (h:greatN s=true):(32:UInt8) ∉ bL s:=by
 unfold greatN at h
 simp only [Bool.and_eq_true] at h
 exact run_sp h.1
theorem split_sp {α:Type} {s:α}:∀ {a b x y:List α},s ∉ a→s ∉ b→a++s::x=b++s::y→a=b∧x=y
 | [],[],x,y,_,_,h=>by simpa using h
 | [],c::b,x,y,_,hb,h=>by
  simp only [List.nil_append,List.cons_append,List.cons.injEq] at h
  exact absurd h.1 fun e=>hb (by simp [e])
 | c::a,[],x,y,ha,_,h=>by
  simp only [List.nil_append,List.cons_append,List.cons.injEq] at h
  exact absurd h.1 fun e=>ha (by simp [e])
 | c::a,c'::b,x,y,ha,hb,h=>by
  simp only [List.cons_append,List.cons.injEq] at h
  obtain ⟨h1,h2⟩:=split_sp (fun e=>ha (by simp [e])) (fun e=>hb (by simp [e])) h.2
  exact ⟨by rw [h.1,h1],h2⟩
theorem cat_inj {a b x y:ByteArray} (ha:greatN a=true) (hb:greatN b=true) (h:a++spS++x=b++spS++y):a=b∧x=y:=by
 have h2:=congrArg bL h
 simp only [bL_append,List.append_assoc] at h2
 have e:bL spS=[32]:=rfl
 rw [e] at h2
 simp only [List.cons_append,List.nil_append] at h2
 obtain ⟨h3,h4⟩:=split_sp (great_sp ha) (great_sp hb) h2
 exact ⟨bL_inj h3,bL_inj h4⟩
theorem fkey_inj {p q:VP} (hp:greatN p.1=true) (hq:greatN q.1=true) (h:fkey p.1 p.2=fkey q.1 q.2):p=q:=by
 obtain ⟨h1,h2⟩:=cat_inj hp hq h
 exact Prod.ext h1 h2
theorem skey_inj {c c':ByteArray} {t t':Ty} (hc:greatN c=true) (hc':greatN c'=true) (ht:t.good=true) (ht':t'.good=true) (h:skey c t=skey c' t'):c=c'∧t=t':=by
 obtain ⟨h1,h2⟩:=cat_inj hc hc' h
 exact ⟨h1,text_inj ht ht' h2⟩
noncomputable def kidsOf (d:DeclsD) (t:Ty) (x:InstD):List (ByteArray × Ty):=x.preds.map fun q=>(q.cls,(t.args[(placeI (namedD d t.name).1.vars q.t.name).toNat]?).getD (.mk q.t.name []))
noncomputable def kids (d:DeclsD) (c:ByteArray) (t:Ty):Option (List (ByteArray × Ty)):=if instI d.insts c t.name < 0 then none else (d.insts[(instI d.insts c t.name).toNat]?).map (kidsOf d t)
inductive Gd (d:DeclsD):ByteArray→Ty→Prop
 | var {c:ByteArray} {t:Ty}:dVarB t=true→Gd d c t
 | inst {c:ByteArray} {t:Ty} {ks:List (ByteArray × Ty)}:dVarB t=false→kids d c t=some ks→(∀ k∈ks,Gd d k.1 k.2)→Gd d c t
inductive Nd (d:DeclsD):ByteArray→Ty→VP→Prop
 | var {c:ByteArray} {t:Ty}:dVarB t=true→Nd d c t (c,t.name)
 | kid {c:ByteArray} {t:Ty} {ks:List (ByteArray × Ty)} {k:ByteArray × Ty} {p:VP}:dVarB t=false→kids d c t=some ks→k∈ks→Nd d k.1 k.2 p→Nd d c t p
theorem gd_kids {d:DeclsD} {c:ByteArray} {t:Ty} {ks:List (ByteArray × Ty)} (hv:dVarB t=false) (hk:kids d c t=some ks):Gd d c t↔∀ k∈ks,Gd d k.1 k.2:=by
 constructor
 ·intro h
  cases h with
  | var h=>rw [hv] at h;cases h
  | inst h1 h2 h3=>rw [hk] at h2;cases h2;exact h3
 ·exact .inst hv hk
theorem nd_kids {d:DeclsD} {c:ByteArray} {t:Ty} {ks:List (ByteArray × Ty)} {p:VP} (hv:dVarB t=false) (hk:kids d c t=some ks):Nd d c t p↔∃ k∈ks,Nd d k.1 k.2 p:=by
 constructor
 ·intro h
  cases h with
  | var h=>rw [hv] at h;cases h
  | kid h1 h2 h3 h4=>rw [hk] at h2;cases h2;exact ⟨_,h3,h4⟩
 ·rintro ⟨k,h1,h2⟩
  exact .kid hv hk h1 h2
theorem nd_var {d:DeclsD} {c:ByteArray} {t:Ty} {p:VP} (hv:dVarB t=true):Nd d c t p↔p=(c,t.name):=by
 constructor
 ·intro h
  cases h with
  | var h=>rfl
  | kid h1=>rw [hv] at h1;cases h1
 ·rintro rfl;exact .var hv
theorem gd_none {d:DeclsD} {c:ByteArray} {t:Ty} (hv:dVarB t=false) (hk:kids d c t=none):¬ Gd d c t:=by
 intro h
 cases h with
 | var h=>rw [hv] at h;cases h
 | inst h1 h2 h3=>rw [hk] at h2;cases h2
def clsN (d:DeclsD):List ByteArray:=d.classes.map ClsD.name
structure Stock (d:DeclsD) (T:List Ty):Prop where
 good:∀ t∈T,t.good=true
 wt:∀ t∈T,t.wt < 1099511627776
 args:∀ t∈T,∀ a∈t.args,a∈T
 fit:∀ t∈T,kindB d 8 t=false
theorem placeI_lt {l:List ByteArray} {s:ByteArray} (h:¬ placeI l s < 0):(placeI l s).toNat < l.length:=by
 unfold placeI at *
 cases hh:l.findIdx? fun x=>decide (x=s) with
 | none=>rw [hh] at h;simp [ixI] at h
 | some i =>
  obtain ⟨hl,_⟩:=List.findIdx?_eq_some_iff_getElem.1 hh
  exact hl
theorem cls_great {d:DeclsD} (hV:validD d=0):∀ c∈clsN d,greatN c=true:=by
 intro c hc
 obtain ⟨x,hx,rfl⟩:=List.mem_map.1 hc
 have h:=(valid0 hV).ar
 simp only [argsB,Bool.and_eq_true] at h
 have:=all_ok h.1.2 x hx
 simp only [isClsB,Bool.and_eq_true] at this
 exact this.1.1
theorem great_ne {s:ByteArray} (h:greatN s=true):s≠arrowN:=fun e=>by rw [e,great_not_arrow] at h;cases h
theorem good_self {t:Ty} (h:t.good=true):t.node=true:=by
 obtain ⟨n,l⟩:=t
 exact ((good_mk n l).1 h).1
theorem node_size' {t:Ty} (h:t.node=true):t.name.size≤16:=by
 unfold Ty.node at h
 split at h
 ·rename_i h1;rw [h1];decide
 ·split at h
  ·simp only [smallN,runB,Bool.and_eq_true,decide_eq_true_eq] at h;omega
  ·simp only [greatN,runB,Bool.and_eq_true,decide_eq_true_eq] at h;omega
theorem arg_cnt {t a:Ty} (ha:a∈t.args):a.cnt < t.cnt:=by
 obtain ⟨n,l⟩:=t
 obtain ⟨k,hk⟩:=List.mem_iff_getElem?.1 ha
 have:=cnt_mem hk
 simp only [Ty.cnt,Ty.nodes,List.length_cons,Ty.args] at this ⊢
 omega
theorem var_inst {d:DeclsD} (hV:validD d=0) {c n:ByteArray} (hi:¬ instI d.insts c n < 0):greatN n=true:=by
 obtain ⟨i,y,_,h2,h3⟩:=instI_some hi
 have h4:=List.find?_some h3
 simp only [Bool.and_eq_true,decide_eq_true_eq] at h4
 have h:=(valid0 hV).ar
 simp only [argsB,Bool.and_eq_true] at h
 have:=all_ok h.2 y (List.mem_of_getElem? h2)
 simp only [isInstB,Bool.and_eq_true] at this
 rw [←h4.2];exact this.1.2
theorem kid_step {d:DeclsD} (hV:validD d=0) {T:List Ty} (hT:Stock d T) {c:ByteArray} {t:Ty} (ht:t∈T) (hv:dVarB t=false) (hi:¬ instI d.insts c t.name < 0) :
  ∃ x,d.insts[(instI d.insts c t.name).toNat]?=some x∧kids d c t=some (kidsOf d t x)∧(x.preds=[]∨¬ findI (allD d) t.name < 0∧∃ y,(allD d)[(findI (allD d) t.name).toNat]?=some y∧(namedD d t.name).1=y) ∧
   ∀ (k:Nat) (q:PredD),x.preds[k]?=some q→¬ placeI (namedD d t.name).1.vars q.t.name < 0∧∃ a,t.args[(placeI (namedD d t.name).1.vars q.t.name).toNat]?=some a∧a∈T∧a.cnt < t.cnt∧q.cls∈clsN d∧(kidsOf d t x)[k]?=some (q.cls,a):=by
 have hgr:=var_inst hV hi
 obtain ⟨i,x,h1,h2,h3⟩:=instI_some hi
 have h4:=List.find?_some h3
 simp only [Bool.and_eq_true,decide_eq_true_eq] at h4
 have hx:=List.mem_of_getElem? h2
 have hx2:d.insts[(instI d.insts c t.name).toNat]?=some x:=by rw [h1];exact h2
 have hn:instNone d x=false:=by
  have h:=(valid0 hV).no
  simp only [noneB,Bool.or_eq_false_iff] at h
  exact List.any_eq_false.1 h.2 x hx |> fun h=>by simpa using h
 simp only [instNone,Bool.or_eq_false_iff,Bool.not_eq_false'] at hn
 rw [h4.2] at hn
 have hp:∀ q∈x.preds,predB (namedD d x.data) q=true:=by
  have h:=(valid0 hV).ar
  simp only [argsB,Bool.and_eq_true] at h
  have:=all_ok h.2 x hx
  simp only [isInstB,Bool.and_eq_true] at this
  exact all_ok this.2
 rw [h4.2] at hp
 have hmem:∀ q∈x.preds,memS q.t.name (namedD d t.name).1.vars=true:=fun q hq=>by
  have:=hp q hq
  simp only [predB,Bool.and_eq_true,hn.1.1,Bool.not_true,Bool.false_or] at this
  exact this.2
 have hfit:t.args.length=(namedD d t.name).1.vars.length:=by
  have:=hT.fit t ht
  unfold kindB at this
  rw [hv,hn.1.1] at this
  simpa [great_ne hgr] using this
 refine ⟨x,hx2,?_,?_,fun k q hq=>?_⟩
 ·unfold kids
  rw [if_neg hi,hx2];rfl
 ·rcases named_find d t.name with ⟨h0,h5⟩ | ⟨h0,h5,h6⟩ | ⟨h0,j,y,h5,h6,h7⟩
  ·refine .inl ?_
   cases hps:x.preds with
   | nil=>rfl
   | cons q l =>
    have:=hmem q (by rw [hps];simp)
    rw [h5] at this;simp [memS] at this
  ·rw [h6] at hn;simp at hn
  ·refine .inr ⟨by omega,y,by rw [h5];exact h6,by rw [h7]⟩
 ·have hqm:=List.mem_of_getElem? hq
  have hm:=hmem q hqm
  rw [←placeI_ge] at hm
  have hge:=of_decide_eq_true hm
  have hnl:¬ placeI (namedD d t.name).1.vars q.t.name < 0:=by omega
  have hlt:=placeI_lt hnl
  rw [←hfit] at hlt
  have ha:=List.getElem?_eq_getElem hlt
  have hma:=List.mem_of_getElem? ha
  refine ⟨hnl,_,ha,hT.args t ht _ hma,arg_cnt hma,?_,?_⟩
  ·have:=List.any_eq_false.1 hn.2 q hqm
   simp only [noCls,decide_eq_true_eq] at this
   exact classI_mem this
  ·unfold kidsOf
   rw [List.getElem?_map,hq,Option.map_some,ha];rfl
def FmOk (m:FM):Prop:=(m.map (·.1)).Nodup∧∀ e∈m,e.1=fkey e.2.1 e.2.2∧greatN e.2.1=true
theorem fmPut_keys (m:FM) (k:ByteArray) (n:VP) (x:ByteArray):x∈(fmPut m k n).map (·.1)↔x∈m.map (·.1)∨x=k:=by
 induction m with
 | nil=>simp [fmPut]
 | cons e m ih =>
  by_cases h:k=e.1
  ·subst h
   simp only [fmPut,if_true,List.map_cons,List.mem_cons]
   constructor
   ·rintro (h | h)
    ·exact .inr h
    ·exact .inl (.inr h)
   ·rintro ((h | h) | h)
    ·exact .inl h
    ·exact .inr h
    ·exact .inl h
  ·simp only [fmPut,if_neg h,List.map_cons,List.mem_cons,ih,or_assoc]
theorem fmPut_ok {m:FM} {n:VP} (hm:FmOk m) (hn:greatN n.1=true):FmOk (fmPut m (fkey n.1 n.2) n)∧∀ p,p∈(fmPut m (fkey n.1 n.2) n).map (·.2)↔p∈m.map (·.2)∨p=n:=by
 induction m with
 | nil =>
  refine ⟨⟨by simp [fmPut],fun e he=>?_⟩,fun p=>by simp [fmPut]⟩
  simp only [fmPut,List.mem_singleton] at he
  subst he;exact ⟨rfl,hn⟩
 | cons e m ih =>
  have hm1:=hm.1
  rw [List.map_cons,List.nodup_cons] at hm1
  have he:=hm.2 e (by simp)
  by_cases h:fkey n.1 n.2=e.1
  ·have hne:n=e.2:=fkey_inj hn he.2 (by rw [h,he.1])
   have hf:fmPut (e::m) (fkey n.1 n.2) n=e::m:=by
    simp only [fmPut,if_pos h]
    rw [h,hne]
   rw [hf]
   refine ⟨hm,fun p=>?_⟩
   simp only [List.map_cons,List.mem_cons]
   constructor
   ·rintro (h | h)
    ·exact .inl (.inl h)
    ·exact .inl (.inr h)
   ·rintro ((h | h) | h)
    ·exact .inl h
    ·exact .inr h
    ·exact .inl (h.trans hne)
  ·obtain ⟨⟨i1,i2⟩,i3⟩:=ih ⟨hm1.2,fun e he=>hm.2 e (by simp [he])⟩
   simp only [fmPut,if_neg h]
   refine ⟨⟨?_,?_⟩,fun p=>?_⟩
   ·rw [List.map_cons,List.nodup_cons]
    refine ⟨fun hx=>?_,i1⟩
    rcases (fmPut_keys _ _ _ _).1 hx with h5 | h5
    ·exact hm1.1 h5
    ·exact h h5.symm
   ·intro e' he'
    rcases List.mem_cons.1 he' with rfl | he'
    ·exact he
    ·exact i2 e' he'
   ·simp only [List.map_cons,List.mem_cons,i3,or_assoc]
structure RedS (d:DeclsD) (T:List (ByteArray × Ty)) (m:FM) (r:Bool × FM):Prop where
 ok:FmOk r.2
 gd:r.1=true↔∀ e∈T,Gd d e.1 e.2
 nd:r.1=true→∀ p,p∈r.2.map (·.2)↔p∈m.map (·.2)∨∃ e∈T,Nd d e.1 e.2 p
theorem seqR {d:DeclsD} {m:FM} {R:ByteArray→Ty→FM→Option (Bool × FM)} {ks:List (ByteArray × Ty)} {F:Nat→Option (Bool × FM)} (h0:F 0=some (true,m)) (hm:FmOk m)
  (hT:∀ k e m1,ks[k]?=some e→F k=some (true,m1)→F (k+1)=R e.1 e.2 m1)
  (hF:∀ k e m1,ks[k]?=some e→F k=some (false,m1)→F (k+1)=some (false,m1))
  (hR:∀ e∈ks,∀ m1,FmOk m1→∃ r,R e.1 e.2 m1=some r∧RedS d [e] m1 r):∀ k,k≤ks.length→∃ r,F k=some r∧RedS d (ks.take k) m r:=by
 intro k
 induction k with
 | zero=>intro _;exact ⟨_,h0,hm,by simp,by simp⟩
 | succ k ih =>
  intro hk
  obtain ⟨⟨b,m1⟩,h1,h2⟩:=ih (by omega)
  have he:=List.getElem?_eq_getElem (show k < ks.length by omega)
  generalize ks[k]=e at he
  rw [take_one he]
  cases b with
  | false =>
   refine ⟨_,hF k e m1 he h1,h2.ok,⟨fun h=>(by cases h),fun h=>?_⟩,fun h=>(by cases h)⟩
   exact absurd (h2.gd.2 fun e' he'=>h e' (by simp [he'])) (by simp)
  | true =>
   obtain ⟨r,h3,h4⟩:=hR e (List.mem_of_getElem? he) m1 h2.ok
   refine ⟨r,by rw [hT k e m1 he h1,h3],h4.ok,?_,fun hr p=>?_⟩
   ·rw [h4.gd]
    have:=h2.gd.1 rfl
    constructor
    ·intro h e' he'
     rcases List.mem_append.1 he' with h5 | h5
     ·exact this e' h5
     ·exact h e' h5
    ·intro h e' he'
     exact h e' (List.mem_append_right _ he')
   ·rw [h4.nd hr,h2.nd rfl]
    constructor
    ·rintro ((h | ⟨e',h,h'⟩) | ⟨e',h,h'⟩)
     ·exact .inl h
     ·exact .inr ⟨e',List.mem_append_left _ h,h'⟩
     ·exact .inr ⟨e',List.mem_append_right _ h,h'⟩
    ·rintro (h | ⟨e',h,h'⟩)
     ·exact .inl (.inl h)
     ·rcases List.mem_append.1 h with h5 | h5
      ·exact .inl (.inr ⟨e',h5,h'⟩)
      ·exact .inr ⟨e',h5,h'⟩
theorem red_spec {d:DeclsD} (hV:validD d=0) {T:List Ty} (hT:Stock d T):∀ (f:Nat) (c:ByteArray) (t:Ty) (m:FM),c∈clsN d→t∈T→t.cnt≤f→FmOk m→∃ r,redF d f c t m=some r∧RedS d [(c,t)] m r:=by
 intro f
 induction f with
 | zero=>intro c t m _ _ h;have:=t.cnt_pos;omega
 | succ f ih =>
  intro c t m hc ht hf hm
  have hcg:=cls_great hV c hc
  have hs1:=great_sz hcg
  have hg:=hT.good t ht
  have hs2:t.name.size≤16:=node_size' (good_self hg)
  rw [redF,if_neg (by omega)]
  cases hv:dVarB t with
  | true =>
   rw [if_pos rfl]
   have h:=fmPut_ok (n:=(c,t.name)) hm hcg
   refine ⟨_,rfl,h.1,⟨fun _ e he=>?_,fun _=>rfl⟩,fun _ p=>?_⟩
   ·rw [List.mem_singleton] at he;subst he;exact .var hv
   ·have:=h.2 p
    simp only at this ⊢
    rw [this]
    simp [nd_var hv]
  | false =>
   rw [if_neg (by simp)]
   by_cases hi:instI d.insts c t.name < 0
   ·rw [if_pos hi]
    have hk:kids d c t=none:=by unfold kids;rw [if_pos hi]
    refine ⟨_,rfl,hm,⟨fun h=>(by cases h),fun h=>?_⟩,fun h=>(by cases h)⟩
    exact absurd (h (c,t) (by simp)) (gd_none hv hk)
   ·rw [if_neg hi]
    obtain ⟨x,h1,h2,_,h4⟩:=kid_step hV hT ht hv hi
    rw [h1]
    simp only
    have hlen:(kidsOf d t x).length=x.preds.length:=by simp [kidsOf]
    have hkid:∀ (k:Nat) (e:ByteArray × Ty),(kidsOf d t x)[k]?=some e→∃ (q:PredD) (a:Ty),x.preds[k]?=some q∧¬ placeI (namedD d t.name).1.vars q.t.name < 0∧t.args[(placeI (namedD d t.name).1.vars q.t.name).toNat]?=some a∧a∈T∧a.cnt < t.cnt∧q.cls∈clsN d∧e=(q.cls,a):=by
     intro k e he
     obtain ⟨hk,_⟩:=List.getElem?_eq_some_iff.1 he
     rw [hlen] at hk
     have hq:=List.getElem?_eq_getElem hk
     obtain ⟨g1,a,g2,g3,g4,g5,g6⟩:=h4 k _ hq
     rw [he] at g6
     exact ⟨_,a,hq,g1,g2,g3,g4,g5,Option.some.inj g6⟩
    obtain ⟨r,h5,h6⟩:=seqR (d:=d) (m:=m) (R:=redF d f) (ks:=kidsOf d t x) (F:=redK (redF d f) (namedD d t.name).1.vars t.args x.preds m) rfl hm
     (fun k e m1 he hk=>by
      obtain ⟨q,a,g1,g2,g3,_,_,_,rfl⟩:=hkid k e he
      simp only [redK,hk,g1,if_neg g2,g3])
     (fun k e m1 _ hk=>by simp only [redK,hk])
     (fun e he m1 hm1=>by
      obtain ⟨k,hk⟩:=List.mem_iff_getElem?.1 he
      obtain ⟨q,a,_,_,_,g4,g5,g6,rfl⟩:=hkid k e hk
      exact ih q.cls a m1 g6 g4 (by omega) hm1) _ (Nat.le_refl _)
    rw [List.take_length] at h6
    rw [hlen] at h5
    refine ⟨r,h5,h6.ok,?_,fun hr p=>?_⟩
    ·rw [h6.gd,←gd_kids hv h2];simp
    ·rw [h6.nd hr,←nd_kids hv h2];simp
theorem nodup_le {α:Type}:∀ {a b:List α},a.Nodup→(∀ x∈a,x∈b)→a.length≤b.length
 | [],_,_,_=>Nat.zero_le _
 | x::a,b,hn,h=>by
  rw [List.nodup_cons] at hn
  obtain ⟨p,q,rfl⟩:=List.append_of_mem (h x (by simp))
  have:=nodup_le (b:=p++q) hn.2 fun y hy=>by
   have h1:=h y (by simp [hy])
   rw [List.mem_append,List.mem_cons] at h1
   rw [List.mem_append]
   rcases h1 with h1 | rfl | h1
   ·exact .inl h1
   ·exact absurd hy hn.1
   ·exact .inr h1
  simp only [List.length_append,List.length_cons] at this ⊢
  omega
theorem flat_len {α β:Type} {f:α→List β} {n:Nat}:∀ {l:List α},(∀ x∈l,(f x).length=n)→(l.flatMap f).length=l.length * n
 | [],_=>by simp
 | a::l,h=>by
  rw [List.flatMap_cons,List.length_append,flat_len fun x hx=>h x (by simp [hx]),h a (by simp),List.length_cons,Nat.succ_mul];omega
structure SI (d:DeclsD) (T:List Ty) (n:Nat) (s:SS) (S:List VP):Prop where
 out:s.out=S.map vpP
 nd:S.Nodup
 key:∀ p∈S,skey p.1 (.mk p.2 [])∈s.met
 mnd:s.met.Nodup
 mU:∀ k∈s.met,∃ c∈clsN d,∃ t∈T,k=skey c t
 sU:∀ p∈S,p.1∈clsN d∧Ty.mk p.2 []∈T
 done:∀ c∈clsN d,∀ t∈T,t.cnt≤n→skey c t∈s.met→s.bad=true∨(Gd d c t∧∀ p,Nd d c t p→p∈S)
theorem SI.mlen {d:DeclsD} {T:List Ty} {n:Nat} {s:SS} {S:List VP} (h:SI d T n s S):s.met.length≤(clsN d).length * T.length:=by
 have h1:((clsN d).flatMap fun c=>T.map (skey c)).length=(clsN d).length * T.length:=flat_len fun c _=>by simp
 rw [←h1]
 refine nodup_le h.mnd fun k hk=>?_
 obtain ⟨c,hc,t,ht,rfl⟩:=h.mU k hk
 exact List.mem_flatMap.2 ⟨c,hc,List.mem_map_of_mem ht⟩
theorem SI.slen {d:DeclsD} {T:List Ty} {n:Nat} {s:SS} {S:List VP} (h:SI d T n s S):S.length≤(clsN d).length * T.length:=by
 have h1:((clsN d).flatMap fun c=>T.map fun t=>(c,t.name)).length=(clsN d).length * T.length:=flat_len fun c _=>by simp
 rw [←h1]
 refine nodup_le h.nd fun p hp=>?_
 obtain ⟨hc,ht⟩:=h.sU p hp
 exact List.mem_flatMap.2 ⟨p.1,hc,List.mem_map.2 ⟨_,ht,rfl⟩⟩
structure SolS (d:DeclsD) (T:List Ty) (n b:Nat) (ks:List (ByteArray × Ty)) (s:SS) (S:List VP) (s':SS) (S':List VP):Prop where
 si:SI d T n s' S'
 mono:∀ k∈s.met,k∈s'.met
 new:∀ c∈clsN d,∀ t∈T,skey c t∈s'.met→skey c t∈s.met∨t.cnt≤b
 sub:∀ p∈S,p∈S'
 bad:s.bad=true→s'.bad=true
 badO:s'.bad=true→s.bad=true∨∃ e∈ks,¬ Gd d e.1 e.2
 only:(∀ e∈ks,Gd d e.1 e.2)→∀ p∈S',p∈S∨∃ e∈ks,Nd d e.1 e.2 p
 did:s'.bad=true∨∀ e∈ks,Gd d e.1 e.2∧∀ p,Nd d e.1 e.2 p→p∈S'
theorem seqS {d:DeclsD} {T:List Ty} {n b:Nat} {R:ByteArray→Ty→SS→Option SS} {ks:List (ByteArray × Ty)} {F:Nat→Option SS} {s:SS} {S:List VP} (h0:F 0=some s) (hS:SI d T n s S)
  (hstep:∀ k e s1,ks[k]?=some e→F k=some s1→F (k+1)=R e.1 e.2 s1)
  (hR:∀ e∈ks,∀ s1 S1,SI d T n s1 S1→∃ s' S',R e.1 e.2 s1=some s'∧SolS d T n b [e] s1 S1 s' S'):∀ k,k≤ks.length→∃ s' S',F k=some s'∧SolS d T n b (ks.take k) s S s' S':=by
 intro k
 induction k with
 | zero =>
  intro _
  exact ⟨s,S,h0,hS,fun _ h=>h,fun _ _ _ _ h=>.inl h,fun _ h=>h,fun h=>h,fun h=>.inl h,fun _ _ h=>.inl h,.inr (by simp)⟩
 | succ k ih =>
  intro hk
  obtain ⟨s1,S1,h1,h2⟩:=ih (by omega)
  have he:=List.getElem?_eq_getElem (show k < ks.length by omega)
  generalize ks[k]=e at he
  rw [take_one he]
  obtain ⟨s',S',h3,h4⟩:=hR e (List.mem_of_getElem? he) s1 S1 h2.si
  refine ⟨s',S',by rw [hstep k e s1 he h1,h3],h4.si,fun k hk=>h4.mono k (h2.mono k hk),fun c hc t ht h=>?_,fun p hp=>h4.sub p (h2.sub p hp),fun h=>h4.bad (h2.bad h),fun h=>?_,fun h p hp=>?_,?_⟩
  ·rcases h4.new c hc t ht h with h5 | h5
   ·exact h2.new c hc t ht h5
   ·exact .inr h5
  ·rcases h4.badO h with h5 | ⟨e',h5,h6⟩
   ·rcases h2.badO h5 with h7 | ⟨e',h7,h8⟩
    ·exact .inl h7
    ·exact .inr ⟨e',List.mem_append_left _ h7,h8⟩
   ·exact .inr ⟨e',List.mem_append_right _ h5,h6⟩
  ·rcases h4.only (fun e' he'=>h e' (List.mem_append_right _ he')) p hp with h5 | ⟨e',h5,h6⟩
   ·rcases h2.only (fun e' he'=>h e' (List.mem_append_left _ he')) p h5 with h7 | ⟨e',h7,h8⟩
    ·exact .inl h7
    ·exact .inr ⟨e',List.mem_append_left _ h7,h8⟩
   ·exact .inr ⟨e',List.mem_append_right _ h5,h6⟩
  ·rcases h2.did with h5 | h5
   ·exact .inl (h4.bad h5)
   ·rcases h4.did with h6 | h6
    ·exact .inl h6
    ·refine .inr fun e' he'=>?_
     rcases List.mem_append.1 he' with h7 | h7
     ·exact ⟨(h5 e' h7).1,fun p hp=>h4.sub p ((h5 e' h7).2 p hp)⟩
     ·exact h6 e' h7
theorem placeI_mem {l:List ByteArray} {s:ByteArray}:0≤placeI l s↔s∈l:=by
 rw [←memS_iff,←placeI_ge];simp
theorem var_mk {t:Ty} (h:dVarB t=true):Ty.mk t.name []=t:=by
 obtain ⟨n,l⟩:=t
 cases l with
 | nil=>rfl
 | cons a l=>simp [dVarB,Ty.args] at h
theorem sol_spec {d:DeclsD} (hV:validD d=0) {T:List Ty} (hT:Stock d T) (hU:(clsN d).length * T.length≤1000000000):∀ (f:Nat) (c:ByteArray) (t:Ty) (n:Nat) (s:SS) (S:List VP),c∈clsN d→t∈T→t.cnt≤f→t.cnt≤n→SI d T n s S →
  ∃ s' S',solF d f c t s=some s'∧SolS d T n t.cnt [(c,t)] s S s' S':=by
 intro f
 induction f with
 | zero=>intro c t n s S _ _ h;have:=t.cnt_pos;omega
 | succ f ih =>
  intro c t n s S hc ht hf hn hS
  have hcg:=cls_great hV
  have hs1:=great_sz (hcg c hc)
  have hg:=hT.good t ht
  have hwt:=hT.wt t ht
  have hm1:=hS.mlen
  have hm2:=hS.slen
  have hm3:s.out.length=S.length:=by rw [hS.out,List.length_map]
  have hkey:∀ c'∈clsN d,∀ t'∈T,skey c' t'=skey c t→c'=c∧t'=t:=fun c' hc' t' ht' h=>skey_inj (hcg c' hc') (hcg c hc) (hT.good t' ht') hg h
  rw [solF,if_neg (by rw [hg,hm3];simp;omega)]
  by_cases hmet:0≤placeI s.met (skey c t)
  ·rw [if_pos hmet]
   have h1:=hS.done c hc t ht hn (placeI_mem.1 hmet)
   refine ⟨s,S,rfl,hS,fun _ h=>h,fun _ _ _ _ h=>.inl h,fun _ h=>h,fun h=>h,fun h=>.inl h,fun _ _ h=>.inl h,?_⟩
   rcases h1 with h1 | h1
   ·exact .inl h1
   ·refine .inr fun e he=>?_
    rw [List.mem_singleton] at he;subst he;exact h1
  rw [if_neg hmet]
  have hnm:skey c t ∉ s.met:=fun h=>hmet (placeI_mem.2 h)
  have hmnd:(s.met++[skey c t]).Nodup:=by
   rw [List.nodup_append]
   refine ⟨hS.mnd,by simp,fun a ha b hb=>?_⟩
   rw [List.mem_singleton] at hb
   rintro rfl;rw [hb] at ha;exact hnm ha
  have hmU:∀ k∈s.met++[skey c t],∃ c∈clsN d,∃ t∈T,k=skey c t:=by
   intro k hk
   rcases List.mem_append.1 hk with h | h
   ·exact hS.mU k h
   ·rw [List.mem_singleton] at h;exact ⟨c,hc,t,ht,h⟩
  have hnew:∀ c'∈clsN d,∀ t'∈T,skey c' t'∈s.met++[skey c t]→skey c' t'∈s.met∨t'.cnt≤t.cnt:=by
   intro c' hc' t' ht' h
   rcases List.mem_append.1 h with h | h
   ·exact .inl h
   ·rw [List.mem_singleton] at h
    rw [(hkey c' hc' t' ht' h).2];exact .inr (Nat.le_refl _)
  have hvv:t.isVar=dVarB t:=node_var (good_self hg)
  rw [hvv]
  cases hv:dVarB t with
  | true =>
   rw [if_pos rfl]
   have hmk:=var_mk hv
   have hout:(⟨c,t⟩:PredD)=vpP (c,t.name):=by unfold vpP;rw [hmk]
   refine ⟨_,S++[(c,t.name)],rfl,⟨?_,?_,?_,hmnd,hmU,?_,?_⟩,fun k hk=>List.mem_append_left _ hk,hnew,fun p hp=>List.mem_append_left _ hp,fun h=>h,fun h=>.inl h,fun _ p hp=>?_,?_⟩
   ·show s.out++[_]=_
    rw [hS.out,hout,List.map_append];rfl
   ·rw [List.nodup_append]
    refine ⟨hS.nd,by simp,fun a ha b hb=>?_⟩
    rw [List.mem_singleton] at hb
    rintro rfl
    have:=hS.key _ ha
    rw [hb] at this
    simp only at this
    rw [hmk] at this
    exact hnm this
   ·intro p hp
    show _∈s.met++[skey c t]
    rcases List.mem_append.1 hp with h | h
    ·exact List.mem_append_left _ (hS.key p h)
    ·rw [List.mem_singleton] at h
     subst h
     simp only
     rw [hmk];simp
   ·intro p hp
    rcases List.mem_append.1 hp with h | h
    ·exact hS.sU p h
    ·rw [List.mem_singleton] at h
     subst h
     simp only
     rw [hmk];exact ⟨hc,ht⟩
   ·intro c' hc' t' ht' hn' hk
    rcases List.mem_append.1 hk with h | h
    ·rcases hS.done c' hc' t' ht' hn' h with h1 | h1
     ·exact .inl h1
     ·exact .inr ⟨h1.1,fun p hp=>List.mem_append_left _ (h1.2 p hp)⟩
    ·rw [List.mem_singleton] at h
     obtain ⟨rfl,rfl⟩:=hkey c' hc' t' ht' h
     exact .inr ⟨.var hv,fun p hp=>by rw [(nd_var hv).1 hp];simp⟩
   ·rcases List.mem_append.1 hp with h | h
    ·exact .inl h
    ·rw [List.mem_singleton] at h
     exact .inr ⟨_,List.mem_singleton.2 rfl,(nd_var hv).2 h⟩
   ·refine .inr fun e he=>?_
    rw [List.mem_singleton] at he;subst he
    exact ⟨.var hv,fun p hp=>by rw [(nd_var hv).1 hp];simp⟩
  | false =>
   rw [if_neg (by simp)]
   by_cases hi:t.name=arrowN∨instI d.insts c t.name < 0
   ·rw [if_pos hi]
    have hi2:instI d.insts c t.name < 0:=by
     rcases hi with h | h
     ·by_cases h2:instI d.insts c t.name < 0
      ·exact h2
      ·exact absurd h (great_ne (var_inst hV h2))
     ·exact h
    have hk:kids d c t=none:=by unfold kids;rw [if_pos hi2]
    refine ⟨_,S,rfl,⟨hS.out,hS.nd,fun p hp=>List.mem_append_left _ (hS.key p hp),hmnd,hmU,hS.sU,fun _ _ _ _ _ _=>.inl rfl⟩,fun k hk=>List.mem_append_left _ hk,hnew,fun p hp=>hp,fun _=>rfl,fun _=>.inr ⟨_,List.mem_singleton.2 rfl,gd_none hv hk⟩,fun _ p hp=>.inl hp,.inl rfl⟩
   ·rw [if_neg hi]
    have hi2:¬ instI d.insts c t.name < 0:=fun h=>hi (.inr h)
    obtain ⟨x,h1,h2,h3,h4⟩:=kid_step hV hT ht hv hi2
    rw [h1]
    simp only
    by_cases hp0:x.preds=[]
    ·rw [if_pos hp0]
     have hk0:kidsOf d t x=[]:=by unfold kidsOf;rw [hp0];rfl
     rw [hk0] at h2
     have hgd:Gd d c t:=(gd_kids hv h2).2 (by simp)
     have hnd:∀ p,¬ Nd d c t p:=fun p h=>by have:=(nd_kids hv h2).1 h;simp at this
     refine ⟨_,S,rfl,⟨hS.out,hS.nd,fun p hp=>List.mem_append_left _ (hS.key p hp),hmnd,hmU,hS.sU,fun c' hc' t' ht' hn' hk=>?_⟩,fun k hk=>List.mem_append_left _ hk,hnew,fun p hp=>hp,fun h=>h,fun h=>.inl h,fun _ p hp=>.inl hp,.inr fun e he=>?_⟩
     ·rcases List.mem_append.1 hk with h | h
      ·exact hS.done c' hc' t' ht' hn' h
      ·rw [List.mem_singleton] at h
       obtain ⟨rfl,rfl⟩:=hkey c' hc' t' ht' h
       exact .inr ⟨hgd,fun p hp=>absurd hp (hnd p)⟩
     ·rw [List.mem_singleton] at he;subst he
      exact ⟨hgd,fun p hp=>absurd hp (hnd p)⟩
    rw [if_neg hp0]
    obtain ⟨hfi,y,hy1,hy2⟩:=h3.resolve_left hp0
    rw [hy1]
    simp only
    rw [if_neg hfi]
    have hlen:(kidsOf d t x).length=x.preds.length:=by simp [kidsOf]
    have hkid:∀ (k:Nat) (e:ByteArray × Ty),(kidsOf d t x)[k]?=some e→∃ (q:PredD) (a:Ty),x.preds[k]?=some q∧¬ placeI (namedD d t.name).1.vars q.t.name < 0∧t.args[(placeI (namedD d t.name).1.vars q.t.name).toNat]?=some a∧a∈T∧a.cnt < t.cnt∧q.cls∈clsN d∧e=(q.cls,a):=by
     intro k e he
     obtain ⟨hk,_⟩:=List.getElem?_eq_some_iff.1 he
     rw [hlen] at hk
     have hq:=List.getElem?_eq_getElem hk
     obtain ⟨g1,a,g2,g3,g4,g5,g6⟩:=h4 k _ hq
     rw [he] at g6
     exact ⟨_,a,hq,g1,g2,g3,g4,g5,Option.some.inj g6⟩
    rw [hy2] at hkid
    have hS1:SI d T (t.cnt - 1) (s.push (skey c t)) S:=⟨hS.out,hS.nd,fun p hp=>List.mem_append_left _ (hS.key p hp),hmnd,hmU,hS.sU,fun c' hc' t' ht' hn' hk=>by
     rcases List.mem_append.1 hk with h | h
     ·exact hS.done c' hc' t' ht' (by omega) h
     ·rw [List.mem_singleton] at h
      obtain ⟨rfl,rfl⟩:=hkey c' hc' t' ht' h
      have:=t'.cnt_pos
      omega⟩
    obtain ⟨s',S',h5,h6⟩:=seqS (b:=t.cnt - 1) (R:=solF d f) (ks:=kidsOf d t x) (F:=solK (solF d f) y.vars t.args x.preds (s.push (skey c t))) (by rw [solK]) hS1
     (fun k e s1 he hk=>by
      obtain ⟨q,a,g1,g2,g3,_,_,_,rfl⟩:=hkid k e he
      simp only [solK,hk,g1,if_neg g2,g3])
     (fun e he s1 S1 hs1=>by
      obtain ⟨k,hk⟩:=List.mem_iff_getElem?.1 he
      obtain ⟨q,a,_,_,_,g4,g5,g6,rfl⟩:=hkid k e hk
      obtain ⟨s',S',g7,g8⟩:=ih q.cls a (t.cnt - 1) s1 S1 g6 g4 (by omega) (by omega) hs1
      exact ⟨s',S',g7,g8.si,g8.mono,fun c' hc' t' ht' h=>(g8.new c' hc' t' ht' h).imp id fun h=>by omega,g8.sub,g8.bad,g8.badO,g8.only,g8.did⟩) _ (Nat.le_refl _)
    rw [List.take_length] at h6
    rw [hlen] at h5
    have hdid:s'.bad=true∨(Gd d c t∧∀ p,Nd d c t p→p∈S'):=by
     rcases h6.did with h | h
     ·exact .inl h
     ·refine .inr ⟨(gd_kids hv h2).2 fun k hk=>(h k hk).1,fun p hp=>?_⟩
      obtain ⟨k,hk,hkp⟩:=(nd_kids hv h2).1 hp
      exact (h k hk).2 p hkp
    refine ⟨s',S',h5,⟨h6.si.out,h6.si.nd,h6.si.key,h6.si.mnd,h6.si.mU,h6.si.sU,fun c' hc' t' ht' hn' hk=>?_⟩,fun k hk=>h6.mono k (List.mem_append_left _ hk),fun c' hc' t' ht' h=>?_,h6.sub,h6.bad,fun h=>?_,fun h p hp=>?_,?_⟩
    ·rcases h6.new c' hc' t' ht' hk with h | h
     ·rcases List.mem_append.1 h with h | h
      ·rcases hS.done c' hc' t' ht' hn' h with h7 | h7
       ·exact .inl (h6.bad h7)
       ·exact .inr ⟨h7.1,fun p hp=>h6.sub p (h7.2 p hp)⟩
      ·rw [List.mem_singleton] at h
       obtain ⟨rfl,rfl⟩:=hkey c' hc' t' ht' h
       exact hdid
     ·exact h6.si.done c' hc' t' ht' h hk
    ·rcases h6.new c' hc' t' ht' h with h7 | h7
     ·exact hnew c' hc' t' ht' h7
     ·exact .inr (by omega)
    ·rcases h6.badO h with h7 | ⟨e,h7,h8⟩
     ·exact .inl h7
     ·refine .inr ⟨_,List.mem_singleton.2 rfl,fun hgd=>h8 ((gd_kids hv h2).1 hgd e h7)⟩
    ·have hgd:=h (c,t) (by simp)
     rcases h6.only ((gd_kids hv h2).1 hgd) p hp with h7 | ⟨e,h7,h8⟩
     ·exact .inl h7
     ·exact .inr ⟨_,List.mem_singleton.2 rfl,(nd_kids hv h2).2 ⟨e,h7,h8⟩⟩
    ·rcases hdid with h | h
     ·exact .inl h
     ·refine .inr fun e he=>?_
      rw [List.mem_singleton] at he;subst he;exact h
mutual
theorem wt_le':∀ t:Ty,t.wt≤8 * t.cnt+(t.nodes.map fun x=>x.name.size).sum
 | .mk n l=>by
  have:=wtL_le' l
  simp only [Ty.wt,Ty.cnt,Ty.nodes,List.length_cons,List.map_cons,List.sum_cons,Ty.name] at this ⊢
  omega
theorem wtL_le':∀ l:List Ty,wtL l≤8 * (nodesL l).length+((nodesL l).map fun x=>x.name.size).sum
 | []=>by simp [wtL]
 | t::ts=>by
  have h1:=wt_le' t
  have h2:=wtL_le' ts
  simp only [wtL,nodesL,List.length_append,List.map_append,List.sum_append,Ty.cnt] at h1 ⊢
  omega
end
theorem sum_le' {l:List Nat} {b:Nat} (h:∀ x∈l,x≤b):l.sum≤b * l.length:=by
 induction l with
 | nil=>simp
 | cons x l ih =>
  have h1:=h x (by simp)
  have h2:=ih fun y hy=>h y (by simp [hy])
  simp only [List.sum_cons,List.length_cons,Nat.mul_add];omega
theorem valid_wt' {t:Ty} (h:t.valid=0):t.wt≤4800:=by
 have h2:=valid_cnt2 h
 have h3:=valid_good h
 have h1:=wt_le' t
 have h4:(t.nodes.map fun x=>x.name.size).sum≤16 * (t.nodes.map fun x=>x.name.size).length:=sum_le' (by
  intro x hx
  obtain ⟨y,hy,rfl⟩:=List.mem_map.1 hx
  exact node_size' (List.all_eq_true.1 h3 y hy))
 simp only [List.length_map] at h4
 simp only [Ty.cnt] at h1 h2
 omega
theorem nodes_args {t:Ty}:∀ {n a:Ty},n∈t.nodes→a∈n.args→a∈t.nodes:=by
 have self:∀ t:Ty,t∈t.nodes:=fun t=>by obtain ⟨n,l⟩:=t;simp [Ty.nodes]
 induction t using Ty.ind with
 | h nm l ih =>
  intro n a hn ha
  rw [Ty.nodes] at hn ⊢
  rcases List.mem_cons.1 hn with rfl | hn
  ·exact List.mem_cons_of_mem _ (mem_nodesL'.2 ⟨a,ha,self a⟩)
  ·obtain ⟨u,hu,hn⟩:=mem_nodesL'.1 hn
   exact List.mem_cons_of_mem _ (mem_nodesL'.2 ⟨u,hu,ih u hu hn ha⟩)
theorem nodes_good {t:Ty}:∀ {n:Ty},t.good=true→n∈t.nodes→n.good=true:=by
 induction t using Ty.ind with
 | h nm l ih =>
  intro n hg hn
  rw [Ty.nodes] at hn
  rcases List.mem_cons.1 hn with rfl | hn
  ·exact hg
  ·obtain ⟨u,hu,hn⟩:=mem_nodesL'.1 hn
   exact ih u hu (((good_mk nm l).1 hg).2 u hu) hn
theorem nodes_wt {t:Ty}:∀ {n:Ty},n∈t.nodes→n.wt≤t.wt:=by
 induction t using Ty.ind with
 | h nm l ih =>
  intro n hn
  rw [Ty.nodes] at hn
  rcases List.mem_cons.1 hn with rfl | hn
  ·exact Nat.le_refl _
  ·obtain ⟨u,hu,hn⟩:=mem_nodesL'.1 hn
   have h1:=ih u hu hn
   have h2:=wtL_mem hu
   simp only [Ty.wt] at h2 ⊢
   omega
structure PredOk (d:DeclsD) (p:PredD):Prop where
 cls:¬ classI d.classes p.cls < 0
 ok:p.t.valid=0
 there:kindsV d 4 p.t=0
 fit:kindsV d 8 p.t=0
theorem allV_iff {l:List Ty}:allV l=0↔∀ t∈l,t.valid=0:=by
 refine ⟨allV_mem,fun h=>?_⟩
 induction l with
 | nil=>rfl
 | cons a l ih =>
  simp only [allV]
  rw [if_pos (h a (by simp))]
  exact ih fun t ht=>h t (by simp [ht])
theorem resE_iff {d:DeclsD} {l:List PredD}:resE d l=0↔validD d=0∧l.length≤64∧∀ p∈l,PredOk d p:=by
 have hn:l.any (noneP d)=false∧l.any (fitP d)=false∧allV (l.map (·.t))=0↔∀ p∈l,PredOk d p:=by
  rw [allV_iff]
  constructor
  ·rintro ⟨h1,h2,h3⟩ p hp
   have a1:=List.any_eq_false.1 h1 p hp
   have a2:=List.any_eq_false.1 h2 p hp
   simp only [noneP,Bool.or_eq_true,decide_eq_true_eq,not_or,ne_eq,Decidable.not_not] at a1
   simp only [fitP,decide_eq_true_eq,ne_eq,Decidable.not_not] at a2
   exact ⟨a1.1,h3 _ (List.mem_map_of_mem hp),a1.2,a2⟩
  ·intro h
   refine ⟨List.any_eq_false.2 fun p hp=>?_,List.any_eq_false.2 fun p hp=>?_,fun t ht=>?_⟩
   ·simp only [noneP,Bool.or_eq_true,decide_eq_true_eq,not_or,ne_eq,Decidable.not_not]
    exact ⟨(h p hp).cls,(h p hp).there⟩
   ·simp only [fitP,decide_eq_true_eq,ne_eq,Decidable.not_not]
    exact (h p hp).fit
   ·obtain ⟨p,hp,rfl⟩:=List.mem_map.1 ht
    exact (h p hp).ok
 rw [←hn]
 unfold resE
 by_cases h1:validD d=0
 ·rw [if_neg (by simpa using h1)]
  by_cases h2:64 < l.length
  ·rw [if_pos h2];simp;omega
  ·rw [if_neg h2]
   by_cases h3:allV (l.map (·.t))=0
   ·rw [if_neg (by simpa using h3)]
    cases h4:l.any (noneP d)
    ·cases h5:l.any (fitP d)
     ·simp [h1,h3];omega
     ·simp
    ·simp
   ·rw [if_pos h3];simp [h3]
 ·rw [if_pos h1];simp [h1]
theorem stock_of {d:DeclsD} {l:List PredD} (h:∀ p∈l,PredOk d p):Stock d (l.flatMap fun p=>p.t.nodes) where
 good t ht:=by
  obtain ⟨p,hp,ht⟩:=List.mem_flatMap.1 ht
  exact nodes_good (valid_good (h p hp).ok) ht
 wt t ht:=by
  obtain ⟨p,hp,ht⟩:=List.mem_flatMap.1 ht
  have:=nodes_wt ht
  have:=valid_wt' (h p hp).ok
  omega
 args t ht a ha:=by
  obtain ⟨p,hp,ht⟩:=List.mem_flatMap.1 ht
  exact List.mem_flatMap.2 ⟨p,hp,nodes_args ht ha⟩
 fit t ht:=by
  obtain ⟨p,hp,ht⟩:=List.mem_flatMap.1 ht
  have:=(h p hp).fit
  unfold kindsV at this
  split at this
  ·cases this
  ·rename_i h2
   cases hk:kindB d 8 t with
   | false=>rfl
   | true=>exact absurd (List.any_eq_true.2 ⟨t,ht,hk⟩) h2
theorem nd_small {d:DeclsD} {c:ByteArray} {t:Ty} {p:VP} (h:Nd d c t p):smallN p.2=true:=by
 induction h with
 | var h =>
  unfold dVarB at h
  simp only [Bool.and_eq_true] at h
  exact h.2
 | kid _ _ _ _ ih=>exact ih
structure RunOk (d:DeclsD) (l:List PredD) (r:Bool × FM) (r':SS) (S:List VP):Prop where
 red:redA d 200 l l.length=some r
 sol:solA d 200 l l.length=some r'
 same:r.1=!r'.bad
 good:r.1=true↔∀ e∈l,Gd d e.cls e.t
 rnd:(r.2.map (·.2)).Nodup
 out:r'.out=S.map vpP
 snd:S.Nodup
 slen:S.length≤1000000
 cls:∀ p∈S,p.1∈clsN d
 rmem:r.1=true→∀ p,p∈r.2.map (·.2)↔∃ e∈l,Nd d e.cls e.t p
 smem:r.1=true→∀ p,p∈S↔∃ e∈l,Nd d e.cls e.t p
theorem fm_nodup {m:FM} (h:FmOk m):(m.map (·.2)).Nodup:=by
 have h1:=h.1
 have h2:=h.2
 clear h
 induction m with
 | nil=>simp
 | cons e m ih =>
  rw [List.map_cons,List.nodup_cons] at h1 ⊢
  refine ⟨fun hx=>h1.1 ?_,ih h1.2 fun e he=>h2 e (by simp [he])⟩
  obtain ⟨e',he',h3⟩:=List.mem_map.1 hx
  refine List.mem_map.2 ⟨e',he',?_⟩
  rw [(h2 e' (by simp [he'])).1,(h2 e (by simp)).1,h3]
theorem run_ok {d:DeclsD} {l:List PredD} (hE:resE d l=0):∃ r r' S,RunOk d l r r' S:=by
 obtain ⟨hV,hl,hp⟩:=resE_iff.1 hE
 have hT:=stock_of hp
 have hTl:(l.flatMap fun p=>p.t.nodes).length≤l.length * 200:=flat_le fun p h=>valid_cnt2 (hp p h).ok
 have hC:(clsN d).length≤12:=by unfold clsN;rw [List.length_map];exact (largeB_le (valid0 hV).lg).2.1
 generalize hTe:(l.flatMap fun p=>p.t.nodes)=T at *
 have hmT:∀ p∈l,p.t∈T:=fun p h=>by
  rw [←hTe]
  refine List.mem_flatMap.2 ⟨p,h,?_⟩
  obtain ⟨pc,⟨n,l⟩⟩:=p
  simp [Ty.nodes]
 have hU:(clsN d).length * T.length≤1000000:=by
  have:=Nat.mul_le_mul hC (show T.length≤12800 by omega)
  omega
 have hks:∀ (k:Nat) (e:ByteArray × Ty),(l.map fun p=>(p.cls,p.t))[k]?=some e→∃ p,l[k]?=some p∧p∈l∧e=(p.cls,p.t):=by
  intro k e he
  rw [List.getElem?_map] at he
  cases hp:l[k]? with
  | none=>rw [hp] at he;cases he
  | some p=>rw [hp] at he;exact ⟨p,rfl,List.mem_of_getElem? hp,(Option.some.inj he).symm⟩
 have hcl:∀ p∈l,p.cls∈clsN d:=fun p h=>classI_mem (hp p h).cls
 obtain ⟨r,h1,h2⟩:=seqR (d:=d) (m:=[]) (R:=redF d 200) (ks:=l.map fun p=>(p.cls,p.t)) (F:=redA d 200 l) (by rw [redA]) ⟨by simp,by simp⟩
  (fun k e m1 he hk=>by
   obtain ⟨p,g1,_,rfl⟩:=hks k e he
   simp only [redA,hk,g1])
  (fun k e m1 _ hk=>by simp only [redA,hk])
  (fun e he m1 hm1=>by
   obtain ⟨k,hk⟩:=List.mem_iff_getElem?.1 he
   obtain ⟨p,g1,g2,rfl⟩:=hks k e hk
   exact red_spec hV hT 200 p.cls p.t m1 (hcl p g2) (hmT p g2) (valid_cnt2 (hp p g2).ok) hm1) _ (Nat.le_refl _)
 have hS0:SI d T 200 ⟨[],[],false⟩ []:=⟨rfl,by simp,by simp,by simp,by simp,by simp,by simp⟩
 obtain ⟨r',S,h3,h4⟩:=seqS (b:=200) (R:=solF d 200) (ks:=l.map fun p=>(p.cls,p.t)) (F:=solA d 200 l) (by rw [solA]) hS0
  (fun k e s1 he hk=>by
   obtain ⟨p,g1,_,rfl⟩:=hks k e he
   simp only [solA,hk,g1])
  (fun e he s1 S1 hs1=>by
   obtain ⟨k,hk⟩:=List.mem_iff_getElem?.1 he
   obtain ⟨p,g1,g2,rfl⟩:=hks k e hk
   obtain ⟨s',S',g7,g8⟩:=sol_spec hV hT (by omega) 200 p.cls p.t 200 s1 S1 (hcl p g2) (hmT p g2) (valid_cnt2 (hp p g2).ok) (valid_cnt2 (hp p g2).ok) hs1
   exact ⟨s',S',g7,g8.si,g8.mono,fun c' hc' t' ht' h=>(g8.new c' hc' t' ht' h).imp id fun h=>Nat.le_trans h (valid_cnt2 (hp p g2).ok),g8.sub,g8.bad,g8.badO,g8.only,g8.did⟩) _ (Nat.le_refl _)
 rw [List.take_length] at h2 h4
 rw [List.length_map] at h1 h3
 have hgd:r.1=true↔∀ e∈l,Gd d e.cls e.t:=by
  rw [h2.gd];simp
 have hbad:r'.bad=false↔∀ e∈l,Gd d e.cls e.t:=by
  constructor
  ·intro h e he
   have:=h4.did.resolve_left (by simp [h]) (e.cls,e.t) (List.mem_map.2 ⟨e,he,rfl⟩)
   exact this.1
  ·intro h
   cases hb:r'.bad with
   | false=>rfl
   | true =>
    rcases h4.badO hb with h5 | ⟨e,h5,h6⟩
    ·cases h5
    ·obtain ⟨p,hp',rfl⟩:=List.mem_map.1 h5
     exact absurd (h p hp') h6
 refine ⟨r,r',S,h1,h3,?_,hgd,fm_nodup h2.ok,h4.si.out,h4.si.nd,by have:=h4.si.slen;omega,fun p hp=>(h4.si.sU p hp).1,fun hr p=>?_,fun hr p=>?_⟩
 ·rw [←hbad] at hgd
  cases h5:r.1 <;> cases h6:r'.bad <;> rw [h5,h6] at hgd <;> simp at hgd ⊢
 ·rw [h2.nd hr]
  constructor
  ·rintro (h | ⟨e,h,h'⟩)
   ·cases h
   ·obtain ⟨q,hq,rfl⟩:=List.mem_map.1 h
    exact ⟨q,hq,h'⟩
  ·rintro ⟨e,he,h⟩
   exact .inr ⟨_,List.mem_map.2 ⟨e,he,rfl⟩,h⟩
 ·have hg:=hgd.1 hr
  constructor
  ·intro h
   rcases h4.only (by simpa using hg) p h with h5 | ⟨e,h5,h6⟩
   ·cases h5
   ·obtain ⟨q,hq,rfl⟩:=List.mem_map.1 h5
    exact ⟨q,hq,h6⟩
  ·rintro ⟨e,he,h⟩
   have hb:=hbad.2 hg
   exact (h4.did.resolve_left (by simp [hb]) (e.cls,e.t) (List.mem_map.2 ⟨e,he,rfl⟩)).2 p h
theorem nodup_perm {α:Type}:∀ {a b:List α},a.Nodup→b.Nodup→(∀ x,x∈a↔x∈b)→a.Perm b
 | [],[],_,_,_=>.nil
 | [],y::b,_,_,h=>absurd ((h y).2 (by simp)) (by simp)
 | x::a,b,ha,hb,h=>by
  obtain ⟨p,q,rfl⟩:=List.append_of_mem ((h x).1 (by simp))
  refine .trans (.cons x ?_) (List.perm_middle.symm)
  have hb2:(x::(p++q)).Nodup:=List.perm_middle.nodup_iff.1 hb
  rw [List.nodup_cons] at ha hb2
  refine nodup_perm ha.2 hb2.2 fun y=>?_
  have h1:=h y
  simp only [List.mem_cons,List.mem_append] at h1 ⊢
  constructor
  ·intro hy
   rcases h1.1 (.inr hy) with h2 | rfl | h2
   ·exact .inl h2
   ·exact absurd hy ha.1
   ·exact .inr h2
  ·intro hy
   rcases h1.2 (hy.imp id .inr) with rfl | h2
   ·exact absurd (List.mem_append.2 hy) hb2.1
   ·exact h2
theorem leastP_same {d:DeclsD} {S S':List VP} (h1:S.Nodup) (h2:S'.Nodup) (h:∀ p,p∈S↔p∈S'):leastP d S=leastP d S':=by
 have hp:=nodup_perm h1 h2 h
 unfold leastP
 have e:(fun p=>!dropD d S p)=fun p=>!dropD d S' p:=funext fun p=>by rw [dropD_perm hp]
 rw [e]
 exact sortP_same (h2.sublist List.filter_sublist) (hp.filter _)
theorem leastP_mem {d:DeclsD} {S:List VP} {p:VP}:p∈leastP d S↔p∈S∧dropD d S p=false:=by
 unfold leastP
 rw [(sortP_perm _).mem_iff,List.mem_filter]
 simp
theorem leastP_nodup {d:DeclsD} {S:List VP} (h:S.Nodup):(leastP d S).Nodup:=(sortP_perm _).nodup_iff.2 (h.sublist List.filter_sublist)
theorem leastP_len {d:DeclsD} {S:List VP}:(leastP d S).length≤S.length:=by
 unfold leastP
 rw [(sortP_perm _).length_eq]
 exact List.length_filter_le _ _
theorem leastP_again {d:DeclsD} {S:List VP} (h:S.Nodup):leastP d (leastP d S)=leastP d S:=by
 have hA:=leastP_nodup (d:=d) h
 have hm:∀ p∈leastP d S,dropD d (leastP d S) p=false:=by
  intro p hp
  have h2:=(leastP_mem.1 hp).2
  unfold dropD at h2 ⊢
  rw [List.any_eq_false] at h2 ⊢
  exact fun q hq=>h2 q (leastP_mem.1 hq).1
 have hf:(leastP d S).filter (fun p=>!dropD d (leastP d S) p)=leastP d S:=List.filter_eq_self.2 fun p hp=>by rw [hm p hp];rfl
 have e:leastP d (leastP d S)=sortP ((leastP d S).filter fun p=>!dropD d (leastP d S) p):=rfl
 rw [e,hf]
 exact (sortP_eq hA (.refl _) (sortP_asc (h.sublist List.filter_sublist))).symm
theorem cls_nonneg {l:List ClsD} {n:ByteArray} (h:n∈l.map ClsD.name):¬ classI l n < 0:=by
 obtain ⟨x,hx,rfl⟩:=List.mem_map.1 h
 unfold classI
 cases hh:l.findIdx? fun y=>decide (y.name=x.name) with
 | none =>
  have:=List.findIdx?_eq_none_iff.1 hh x hx
  simp at this
 | some i=>simp [ixI]
theorem var_ok {d:DeclsD} {p:VP} (hc:p.1∈clsN d) (hs:smallN p.2=true):PredOk d (vpP p):=by
 have hv:dVarB (.mk p.2 [])=true:=by unfold dVarB;simp [Ty.args,Ty.name,hs]
 have hk:∀ w,kindsV d w (.mk p.2 [])=0:=fun w=>by
  unfold kindsV
  rw [if_neg]
  simp [Ty.nodes,nodesL,kindB,hv]
 refine ⟨cls_nonneg hc,?_,hk 4,hk 8⟩
 have hl:(Ty.mk p.2 []).large=false:=by simp [Ty.large,big,bigL]
 have hn:(Ty.mk p.2 []).node=true:=by
  rw [node_eq,if_neg,if_pos,hs]
  ·rfl
  ·exact small_head hs
  ·intro e
   rw [e] at hs
   have:=small_head hs
   rw [arrow_head] at this;cases this
 have hg:(Ty.mk p.2 []).good=true:=(good_mk _ _).2 ⟨hn,by simp⟩
 show Ty.valid _=0
 unfold vpP Ty.valid
 simp only
 rw [hl,hg];rfl
theorem again {d:DeclsD} {l:List PredD} (hE:resE d l=0) {r:Bool × FM} {r':SS} {S:List VP} (h:RunOk d l r r' S) (hr:r.1=true) {l2:List PredD} (h64:l2.length≤64)
  (hl2:l2=(leastP d S).map vpP∨l2=l++(leastP d S).map vpP):resE d l2=0∧∃ r2 r2' S2,RunOk d l2 r2 r2' S2∧r2.1=true∧leastP d (r2.2.map (·.2))=leastP d S:=by
 obtain ⟨hV,hl,hp⟩:=resE_iff.1 hE
 have hsm:∀ p∈S,smallN p.2=true:=fun p hp=>by
  obtain ⟨e,_,h2⟩:=(h.smem hr p).1 hp
  exact nd_small h2
 have hA:∀ q∈(leastP d S).map vpP,PredOk d q:=fun q hq=>by
  obtain ⟨p,hp,rfl⟩:=List.mem_map.1 hq
  have:=(leastP_mem.1 hp).1
  exact var_ok (h.cls p this) (hsm p this)
 have hE2:resE d l2=0:=resE_iff.2 ⟨hV,h64,fun q hq=>by
  rcases hl2 with rfl | rfl
  ·exact hA q hq
  ·rcases List.mem_append.1 hq with h1 | h1
   ·exact hp q h1
   ·exact hA q h1⟩
 obtain ⟨r2,r2',S2,h2⟩:=run_ok hE2
 have hvar:∀ p∈leastP d S,dVarB (vpP p).t=true:=fun p hp=>by
  have:=hsm p (leastP_mem.1 hp).1
  simp [vpP,dVarB,Ty.args,Ty.name,this]
 have hr2:r2.1=true:=h2.good.2 fun q hq=>by
  have hq2:∀ q∈(leastP d S).map vpP,Gd d q.cls q.t:=fun q hq=>by
   obtain ⟨p,hp,rfl⟩:=List.mem_map.1 hq
   exact .var (hvar p hp)
  rcases hl2 with rfl | rfl
  ·exact hq2 q hq
  ·rcases List.mem_append.1 hq with h1 | h1
   ·exact h.good.1 hr q h1
   ·exact hq2 q h1
 have hvm:∀ p,(∃ e∈(leastP d S).map vpP,Nd d e.cls e.t p)↔p∈leastP d S:=fun p=>by
  constructor
  ·rintro ⟨e,he,h3⟩
   obtain ⟨q,hq,rfl⟩:=List.mem_map.1 he
   have:=(nd_var (hvar q hq)).1 h3
   have e2:p=q:=this
   rw [e2];exact hq
  ·intro hp
   exact ⟨_,List.mem_map_of_mem hp,(nd_var (hvar p hp)).2 rfl⟩
 refine ⟨hE2,r2,r2',S2,h2,hr2,?_⟩
 rcases hl2 with rfl | rfl
 ·rw [←leastP_again h.snd]
  refine leastP_same h2.rnd (leastP_nodup h.snd) fun p=>?_
  rw [h2.rmem hr2,hvm]
 ·refine leastP_same h2.rnd h.snd fun p=>?_
  rw [h2.rmem hr2,h.smem hr]
  constructor
  ·rintro ⟨e,he,h3⟩
   rcases List.mem_append.1 he with h4 | h4
   ·exact ⟨e,h4,h3⟩
   ·exact (h.smem hr p).1 (leastP_mem.1 ((hvm p).1 ⟨e,h4,h3⟩)).1
  ·rintro ⟨e,he,h3⟩
   exact ⟨e,List.mem_append_left _ he,h3⟩
end Go.Proofs.YtlhoigpidpokfaaGreat
