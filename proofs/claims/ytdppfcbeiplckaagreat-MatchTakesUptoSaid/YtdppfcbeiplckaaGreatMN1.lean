/- Nodes (values and patterns are alike) and definitional trees, as the program holds them. -/
import Derived.Test.YtdppfcbeiplckaaGreatMW2
set_option linter.unusedVariables false
set_option linter.unusedSimpArgs false
namespace Go.Proofs.YtdppfcbeiplckaaGreat
open Go Go.Abs Go.Proofs
inductive Nd where
 | mk (op:Int) (name:ByteArray) (n:Int) (kids:List Nd)
mutual
def Nd.cells:Nd→List AV
 | .mk o s n l=>[intV o,strV s,intV n,.slice (cellsNd l) none]
def cellsNd:List Nd→List (List AV)
 | []=>[]
 | t::l=>t.cells::cellsNd l
end
def Nd.enc (t:Nd):AV:=.agg t.cells
theorem cellsNd_eq (l:List Nd):cellsNd l=l.map Nd.cells:=by
 induction l with
 | nil=>rfl
 | cons t ts ih=>simp [cellsNd,ih]
mutual
theorem Nd.low (n:Nat):∀ t:Nd,lowL n t.cells
 | .mk _ _ _ l=>⟨trivial,trivial,trivial,⟨by simp,lowNds n l⟩,trivial⟩
theorem lowNds (n:Nat):∀ l:List Nd,lowR n (cellsNd l)
 | []=>trivial
 | t::ts=>⟨t.low n,lowNds n ts⟩
end
mutual
theorem Nd.ind {p:Nd→Prop} (h:∀ o s n l,(∀ t∈l,p t)→p (.mk o s n l)):∀ t,p t
 | .mk o s n l=>h o s n l (Nd.indL h l)
theorem Nd.indL {p:Nd→Prop} (h:∀ o s n l,(∀ t∈l,p t)→p (.mk o s n l)):∀ l:List Nd,∀ t∈l,p t
 | [],t,ht=>absurd ht (by simp)
 | x::l,t,ht=>by
  rcases List.mem_cons.1 ht with e | ht
  ·rw [e];exact Nd.ind h x
  ·exact Nd.indL h l t ht
end
theorem Nd.cells_length (t:Nd):t.cells.length=4:=by cases t;rfl
theorem Nd.cells_one (t:Nd):t.cells.all (·.one)=true:=by cases t;rfl
theorem low_nds (n:Nat) (l:List Nd):lowR n (l.map Nd.cells):=by rw [←cellsNd_eq];exact lowNds n l
def Nd.op:Nd→Int | .mk o _ _ _=>o
def Nd.name:Nd→ByteArray | .mk _ s _ _=>s
def Nd.num:Nd→Int | .mk _ _ n _=>n
def Nd.kids:Nd→List Nd | .mk _ _ _ l=>l
theorem Nd.enc_mk (o:Int) (s:ByteArray) (n:Int) (l:List Nd):(Nd.mk o s n l).enc=.agg [intV o,strV s,intV n,.slice (l.map Nd.cells) none]:=by
 simp [Nd.enc,Nd.cells,cellsNd_eq]
inductive Nd.Sh (b:Nat):Nd→Prop
 | mk {o:Int} {s:ByteArray} {n:Int} {l:List Nd}:l.length < b→(∀ k∈l,Nd.Sh b k)→Nd.Sh b (.mk o s n l)
mutual
def Nd.gnd:Nd→Bool
 | .mk o _ _ l=>(decide (o=2) || decide (o=1)) && gndL l
def gndL:List Nd→Bool
 | []=>true
 | t::l=>t.gnd && gndL l
end
theorem gndL_all (l:List Nd):gndL l=l.all Nd.gnd:=by
 induction l with
 | nil=>rfl
 | cons t ts ih=>simp [gndL,ih]
abbrev intR (n:Int):List AV:=[intV n]
inductive DT where
 | mk (name:ByteArray) (n:Int) (kind:Int) (path rules:List Int) (kids:List DT)
mutual
def DT.cells:DT→List AV
 | .mk _ _ k p r l=>[intV k,.slice (p.map intR) none,.slice (r.map intR) none,.slice (cellsDT l) none]
def DT.kcells:DT→List AV
 | .mk s n k p r l=>[strV s,intV n,intV k,.slice (p.map intR) none,.slice (r.map intR) none,.slice (cellsDT l) none]
def cellsDT:List DT→List (List AV)
 | []=>[]
 | t::l=>t.kcells::cellsDT l
end
def DT.enc (t:DT):AV:=.agg t.cells
theorem cellsDT_eq (l:List DT):cellsDT l=l.map DT.kcells:=by
 induction l with
 | nil=>rfl
 | cons t ts ih=>simp [cellsDT,ih]
theorem low_ints (n:Nat) (l:List Int):lowR n (l.map intR):=lowR_map fun _ _=>⟨trivial,trivial⟩
mutual
theorem DT.low (n:Nat):∀ t:DT,lowL n t.cells
 | .mk _ _ _ p r l=>⟨trivial,⟨by simp,low_ints n p⟩,⟨by simp,low_ints n r⟩,⟨by simp,lowDTs n l⟩,trivial⟩
theorem DT.klow (n:Nat):∀ t:DT,lowL n t.kcells
 | .mk _ _ _ p r l=>⟨trivial,trivial,trivial,⟨by simp,low_ints n p⟩,⟨by simp,low_ints n r⟩,⟨by simp,lowDTs n l⟩,trivial⟩
theorem lowDTs (n:Nat):∀ l:List DT,lowR n (cellsDT l)
 | []=>trivial
 | t::ts=>⟨t.klow n,lowDTs n ts⟩
end
mutual
theorem DT.ind {p:DT→Prop} (h:∀ s n k q r l,(∀ t∈l,p t)→p (.mk s n k q r l)):∀ t,p t
 | .mk s n k q r l=>h s n k q r l (DT.indL h l)
theorem DT.indL {p:DT→Prop} (h:∀ s n k q r l,(∀ t∈l,p t)→p (.mk s n k q r l)):∀ l:List DT,∀ t∈l,p t
 | [],t,ht=>absurd ht (by simp)
 | x::l,t,ht=>by
  rcases List.mem_cons.1 ht with e | ht
  ·rw [e];exact DT.ind h x
  ·exact DT.indL h l t ht
end
theorem DT.kcells_length (t:DT):t.kcells.length=6:=by cases t;rfl
theorem DT.kcells_one (t:DT):t.kcells.all (·.one)=true:=by cases t;rfl
theorem low_dts (n:Nat) (l:List DT):lowR n (l.map DT.kcells):=by rw [←cellsDT_eq];exact lowDTs n l
theorem DT.enc_mk (s:ByteArray) (m k:Int) (p r:List Int) (l:List DT):(DT.mk s m k p r l).enc=.agg [intV k,.slice (p.map intR) none,.slice (r.map intR) none,.slice (l.map DT.kcells) none]:=by
 simp [DT.enc,DT.cells,cellsDT_eq]
theorem DT.kcells_mk (s:ByteArray) (m k:Int) (p r:List Int) (l:List DT):(DT.mk s m k p r l).kcells=[strV s,intV m,intV k,.slice (p.map intR) none,.slice (r.map intR) none,.slice (l.map DT.kcells) none]:=by
 simp [DT.kcells,cellsDT_eq]
def DT.name:DT→ByteArray | .mk s _ _ _ _ _=>s
def DT.num:DT→Int | .mk _ n _ _ _ _=>n
def DT.kind:DT→Int | .mk _ _ k _ _ _=>k
def DT.path:DT→List Int | .mk _ _ _ p _ _=>p
def DT.rules:DT→List Int | .mk _ _ _ _ r _=>r
def DT.kids:DT→List DT | .mk _ _ _ _ _ l=>l
inductive DT.Sh (b:Nat):DT→Prop
 | mk {s:ByteArray} {n k:Int} {p r:List Int} {l:List DT}:p.length < b→r.length < b→l.length < b→(∀ t∈l,DT.Sh b t)→DT.Sh b (.mk s n k p r l)
def shB (k:Int) (p:List Int) (l:List DT):Bool :=
 if k=1 then l.isEmpty else if k=2 then !p.isEmpty && !l.isEmpty else if k=3 then decide (l.length=2) else false
mutual
def DT.isT:DT→Nat→Bool × Nat
 | .mk _ _ k p _ l,n=>let r:=isTL l (shB k p l,n+1);(r.1 && decide (r.2≤400),r.2)
def isTL:List DT→Bool × Nat→Bool × Nat
 | [],s=>s
 | t::l,s=>if s.1=true then (if s.2≤400 then isTL l (t.isT s.2) else (false,s.2)) else s
end
mutual
def DT.cntR:DT→Nat→Nat
 | .mk _ _ _ _ _ l,n=>cntRL l (n+1)
def cntRL:List DT→Nat→Nat
 | [],n=>n
 | t::l,n=>if n≤400 then cntRL l (t.cntR n) else n
end
mutual
def DT.wfB:DT→Bool
 | .mk _ _ k p _ l=>shB k p l && wfL l
def wfL:List DT→Bool
 | []=>true
 | t::l=>t.wfB && wfL l
end
mutual
def DT.sz:DT→Nat
 | .mk _ _ _ _ _ l=>szL l+1
def szL:List DT→Nat
 | []=>0
 | t::l=>t.sz+szL l
end
def treeB (t:DT):Bool:=decide (t.cntR 0≤400) && t.wfB
theorem wfL_all (l:List DT):wfL l=l.all DT.wfB:=by
 induction l with
 | nil=>rfl
 | cons t ts ih=>simp [wfL,ih]
mutual
theorem cntR_sz:∀ (t:DT) (n:Nat),(n+t.sz≤400→t.cntR n=n+t.sz)∧(400 < n+t.sz→400 < t.cntR n)
 | .mk _ _ _ _ _ l,n=>by
  have h:=cntRL_sz l (n+1)
  simp only [DT.sz,DT.cntR]
  exact ⟨fun h1=>by rw [h.1 (by omega)];omega,fun h1=>h.2 (by omega)⟩
theorem cntRL_sz:∀ (l:List DT) (n:Nat),(n+szL l≤400→cntRL l n=n+szL l)∧(400 < n+szL l→400 < cntRL l n)
 | [],n=>by simp [szL,cntRL]
 | t::l,n=>by
  have h1:=cntR_sz t n
  have h2:=cntRL_sz l (t.cntR n)
  simp only [szL,cntRL]
  by_cases hn:n≤400
  ·rw [if_pos hn]
   by_cases ht:n+t.sz≤400
   ·have e:=h1.1 ht
    rw [e] at h2 ⊢
    exact ⟨fun h=>by rw [h2.1 (by omega)];omega,fun h=>h2.2 (by omega)⟩
   ·have e:=h1.2 (by omega)
    exact ⟨fun h=>by omega,fun h=>h2.2 (by omega)⟩
  ·rw [if_neg hn]
   exact ⟨fun h=>by omega,fun h=>by omega⟩
end
mutual
theorem isT_spec:∀ (t:DT) (n:Nat),(t.wfB=true∧n+t.sz≤400→t.isT n=(true,n+t.sz))∧(¬ (t.wfB=true∧n+t.sz≤400)→(t.isT n).1=false)
 | .mk _ _ k p _ l,n=>by
  simp only [DT.wfB,DT.sz,DT.isT,Bool.and_eq_true]
  cases hs:shB k p l with
  | false =>
   refine ⟨fun h=>by simp at h,fun _=>?_⟩
   have e:∀ (l:List DT) (m:Nat),isTL l (false,m)=(false,m):=fun l m=>by cases l <;> simp [isTL]
   rw [e];rfl
  | true =>
   have h:=isTL_spec l (n+1)
   refine ⟨fun h1=>?_,fun h1=>?_⟩
   ·rw [h.1 ⟨h1.1.2,by omega⟩]
    simp only [Bool.true_and,Prod.mk.injEq,decide_eq_true_eq]
    omega
   ·rcases h.2 (fun h2=>h1 ⟨⟨rfl,h2.1⟩,by omega⟩) with h3 | h3
    ·simp [h3]
    ·simp [show ¬ (isTL l (true,n+1)).2≤400 by omega]
theorem isTL_spec:∀ (l:List DT) (n:Nat),(wfL l=true∧n+szL l≤400→isTL l (true,n)=(true,n+szL l))∧(¬ (wfL l=true∧n+szL l≤400)→(isTL l (true,n)).1=false∨400 < (isTL l (true,n)).2)
 | [],n=>by simp [wfL,szL,isTL]
 | t::l,n=>by
  have h1:=isT_spec t n
  simp only [wfL,szL,isTL,Bool.and_eq_true]
  rw [if_pos trivial]
  by_cases hn:n≤400
  ·rw [if_pos hn]
   by_cases ht:t.wfB=true∧n+t.sz≤400
   ·rw [h1.1 ht]
    have h2:=isTL_spec l (n+t.sz)
    refine ⟨fun h=>?_,fun h=>h2.2 fun h3=>h ⟨⟨ht.1,h3.1⟩,by omega⟩⟩
    rw [h2.1 ⟨h.1.2,by omega⟩]
    simp only [Prod.mk.injEq,true_and];omega
   ·have e:=h1.2 ht
    obtain ⟨⟨b,m⟩,hb⟩:∃ q,q=t.isT n:=⟨_,rfl⟩
    rw [←hb] at e ⊢
    simp only at e
    subst e
    have e2:isTL l (false,m)=(false,m):=by cases l <;> simp [isTL]
    rw [e2]
    exact ⟨fun h=>absurd ⟨h.1.1,by omega⟩ ht,fun _=>.inl rfl⟩
  ·rw [if_neg hn]
   exact ⟨fun h=>by omega,fun _=>.inl rfl⟩
end
theorem tree_same (t:DT):(t.isT 0).1=treeB t:=by
 have h1:=isT_spec t 0
 have h2:=cntR_sz t 0
 unfold treeB
 by_cases h:t.wfB=true∧0+t.sz≤400
 ·rw [h1.1 h,h2.1 h.2,h.1];simp;omega
 ·rw [h1.2 h]
  cases hw:t.wfB with
  | false=>simp
  | true =>
   have:400 < t.cntR 0:=h2.2 (by
    rcases Nat.lt_or_ge 400 (0+t.sz) with h' | h'
    ·exact h'
    ·exact absurd ⟨hw,h'⟩ h)
   simp;omega
def zeroNd:Nd:=.mk 0 ByteArray.empty 0 []
def valFm:List Nd→Nd→List Int→Nd × Bool
 | _,v,[]=>(v,true)
 | l,v,k::p=>if k < 0∨(l.length:Int)≤k then (v,false) else match l[k.toNat]? with | none=>(v,false) | some x=>valFm x.kids x p
def hitB (v:Nd) (t:DT):Bool:=(decide (v.op=2) && (decide (t.name=ByteArray.empty) && decide (t.num=v.num))) || (decide (v.op=1) && (decide (t.name≠ByteArray.empty) && decide (t.name=v.name)))
def tkC (args:List Nd) (k:Int) (p r:List Int) (l:List DT) (rs:List (Bool × List Int)):Bool × List Int :=
 if k=1 then (true,r) else if k=3 then (match rs with | a::b::_=>if a.1=true then (b.1,a.2++b.2) else (false,a.2) | _=>(true,[]))
 else match valFm args zeroNd p with
  | (_,false)=>(false,[])
  | (v,true)=>match l.findIdx? (hitB v) with | some i=>rs.getD i (true,[]) | none=>(true,[])
mutual
def DT.tk (args:List Nd):DT→Bool × List Int
 | .mk _ _ k p r l=>tkC args k p r l (tkAll args l)
def tkAll (args:List Nd):List DT→List (Bool × List Int)
 | []=>[]
 | t::l=>t.tk args::tkAll args l
end
theorem tkAll_eq (args:List Nd) (l:List DT):tkAll args l=l.map (DT.tk args):=by
 induction l with
 | nil=>rfl
 | cons t ts ih=>simp [tkAll,ih]
def putN (m:List Int) (x:Int):List Int:=if x∈m then m else m++[x]
def putsN (m l:List Int):List Int:=l.foldl putN m
def tkRC (args:List Nd) (k:Int) (p r:List Int) (l:List DT) (rs:List (List Int→Bool × List Int)) (m:List Int):Bool × List Int :=
 if k=1 then (true,putsN m r) else if k=3 then (match rs with | a::b::_=>((a m).1 && (b (a m).2).1,(b (a m).2).2) | _=>(true,m))
 else match valFm args zeroNd p with
  | (_,false)=>(false,m)
  | (v,true)=>match l.findIdx? (hitB v) with | some i=>(rs.getD i (fun m=>(true,m))) m | none=>(true,m)
mutual
def DT.tkR (args:List Nd):DT→List Int→Bool × List Int
 | .mk _ _ k p r l,m=>tkRC args k p r l (tkRAll args l) m
def tkRAll (args:List Nd):List DT→List (List Int→Bool × List Int)
 | []=>[]
 | t::l=>t.tkR args::tkRAll args l
end
theorem tkRAll_eq (args:List Nd) (l:List DT):tkRAll args l=l.map (DT.tkR args):=by
 induction l with
 | nil=>rfl
 | cons t ts ih=>simp [tkRAll,ih]
theorem putsN_append (m a b:List Int):putsN m (a++b)=putsN (putsN m a) b:=by simp [putsN]
theorem tk_same (args:List Nd):∀ (t:DT) (m:List Int),(t.tkR args m).1=(t.tk args).1∧((t.tk args).1=true→(t.tkR args m).2=putsN m (t.tk args).2):=by
 refine DT.ind fun s n k p r l ih m=>?_
 simp only [DT.tkR,DT.tk,tkAll_eq,tkRAll_eq]
 unfold tkRC tkC
 by_cases h1:k=1
 ·simp [h1]
 rw [if_neg h1,if_neg h1]
 by_cases h3:k=3
 ·rw [if_pos h3,if_pos h3]
  match l,ih with
  | [],_=>simp [putsN]
  | [_],_=>simp [putsN]
  | a::b::_,ih =>
   simp only [List.map_cons]
   have ha:=ih a (by simp) m
   have hb:=ih b (by simp) (a.tkR args m).2
   rw [ha.1]
   cases hx:(a.tk args).1 with
   | false=>simp
   | true =>
    rw [hb.1]
    refine ⟨by simp,fun h=>?_⟩
    simp only [if_true] at h ⊢
    rw [hb.2 h,ha.2 hx,putsN_append]
 ·rw [if_neg h3,if_neg h3]
  generalize valFm args zeroNd p=q
  obtain ⟨v,ok⟩:=q
  cases ok with
  | false=>simp
  | true =>
   simp only
   cases hf:l.findIdx? (hitB v) with
   | none=>simp [putsN]
   | some i =>
    simp only
    have hi:i < l.length:=by
     have:=List.findIdx?_eq_some_iff_findIdx_eq.1 hf;exact this.1
    obtain ⟨t,ht⟩:∃ t,l[i]?=some t:=⟨_,List.getElem?_eq_getElem hi⟩
    have:=ih t (List.mem_of_getElem? ht) m
    simpa [List.getD_eq_getElem?_getD,ht] using this
def AscI (l:List Int):Prop:=l.Pairwise (· < ·)
theorem ascI_unique:∀ {a b:List Int},AscI a→AscI b→(∀ x,x∈a↔x∈b)→a=b
 | [],[],_,_,_=>rfl
 | [],y::b,_,_,h=>absurd ((h y).2 (by simp)) (by simp)
 | x::a,[],_,_,h=>absurd ((h x).1 (by simp)) (by simp)
 | x::a,y::b,ha,hb,h=>by
  unfold AscI at ha hb
  rw [List.pairwise_cons] at ha hb
  have hxy:x=y:=by
   rcases List.mem_cons.1 ((h x).1 (by simp)) with e | e
   ·exact e
   ·rcases List.mem_cons.1 ((h y).2 (by simp)) with e2 | e2
    ·exact e2.symm
    ·have:=hb.1 _ e;have:=ha.1 _ e2;omega
  subst hxy
  congr 1
  refine ascI_unique ha.2 hb.2 fun z=>⟨fun hz=>?_,fun hz=>?_⟩
  ·rcases List.mem_cons.1 ((h z).1 (by simp [hz])) with e | e
   ·subst e;have:=ha.1 _ hz;omega
   ·exact e
  ·rcases List.mem_cons.1 ((h z).2 (by simp [hz])) with e | e
   ·subst e;have:=hb.1 _ hz;omega
   ·exact e
theorem mem_putsN {l:List Int}:∀ {m:List Int} {x:Int},x∈putsN m l↔x∈m∨x∈l:=by
 induction l with
 | nil=>simp [putsN]
 | cons y l ih =>
  intro m x
  show x∈putsN (putN m y) l↔_
  rw [ih]
  unfold putN
  split
  ·rename_i h
   constructor
   ·rintro (h1 | h1)
    ·exact .inl h1
    ·exact .inr (by simp [h1])
   ·rintro (h1 | h1)
    ·exact .inl h1
    ·rcases List.mem_cons.1 h1 with e | e
     ·subst e;exact .inl h
     ·exact .inr e
  ·simp [or_assoc]
mutual
def DT.aloneB:DT→Bool
 | .mk _ _ k _ r l=>(!decide (k=3)) && ((!decide (k=1)) || decide (r.length < 2)) && aloneL l
def aloneL:List DT→Bool
 | []=>true
 | t::l=>t.aloneB && aloneL l
end
theorem aloneL_all (l:List DT):aloneL l=l.all DT.aloneB:=by
 induction l with
 | nil=>rfl
 | cons t ts ih=>simp [aloneL,ih]
end Go.Proofs.YtdppfcbeiplckaaGreat
