/- Nodes of types: how they are made. -/
import Derived.Test.YtgeehnbbhnpimaaGreatMR7
set_option linter.unusedVariables false
set_option linter.unusedSimpArgs false
namespace Go.Proofs.YtgeehnbbhnpimaaGreat
open Go Go.Abs Go.Proofs
set_option maxRecDepth 20000
attribute [local simp] aOps wantedA aStep aop aLoad aStore aBin aUn aFieldAddr aField aIndexAddr aIndex aLen aBuild aFill aAlloc aAppend aBuildSlice litRows newRows isMut isOwn isNilS nilsW bytesR tokW tokAV tokL ret readC splice aeval isLit isLate AV.celled AV.one AV.ofValue Value.oneCell' Value.cells intOp strOp get_nid upd_nid awp aEnd aResults aResult Det unord isCall isNext
attribute [local simp] low_take low_strs low_comp low_tcomp wkEs_refl' WkBs WkEnv WkB WkL WkE WkO ABlock.low lowO lowL lowR AV.low cellsL_eq Ty.low low_map Ty.cells_length Ty.cells_one
attribute [local simp] low_bind
def posN:List ByteArray→ByteArray→Nat
 | [],_=>0
 | x::l,n=>if x=n then 0 else posN l n+1
theorem posN_at {l:List ByteArray} {n:ByteArray} {k:Nat} (h:∀ x∈l.take k,¬ x=n) (hk:l[k]?=some n):posN l n=k:=by
 induction l generalizing k with
 | nil=>simp at hk
 | cons x l ih =>
  cases k with
  | zero=>simp only [List.getElem?_cons_zero,Option.some.injEq] at hk;simp [posN,hk]
  | succ k =>
   have h1:=h x (by simp)
   rw [posN,if_neg h1,ih (fun y hy=>h y (by simp only [List.take_succ_cons,List.mem_cons];exact .inr hy)) (by simpa using hk)]
theorem posN_no {l:List ByteArray} {n:ByteArray} (h:∀ x∈l,¬ x=n):posN l n=l.length:=by
 induction l with
 | nil=>rfl
 | cons x l ih=>rw [posN,if_neg (h x (by simp)),ih fun y hy=>h y (by simp [hy])];rfl
def TmS.push (S:TmS) (n:ByteArray) (args:List Nat):TmS:=⟨S.nm++[n],S.ar++[args],S.up++[S.up.length]⟩
mutual
def addT:Ty→TmS→Nat × TmS
 | .mk n l,S=>if headP smallB n=true∧posN S.nm n < S.nm.length then (posN S.nm n,S) else ((addL l S).2.up.length,(addL l S).2.push n (addL l S).1)
def addL:List Ty→TmS→List Nat × TmS
 | [],S=>([],S)
 | t::ts,S=>((addT t S).1::(addL ts (addT t S).2).1,(addL ts (addT t S).2).2)
end
theorem addL_append (a b:List Ty) (S:TmS):addL (a++b) S=((addL a S).1++(addL b (addL a S).2).1,(addL b (addL a S).2).2):=by
 induction a generalizing S with
 | nil=>simp [addL]
 | cons t ts ih=>simp only [List.cons_append,addL];rw [ih]
theorem addL_take {l:List Ty} {k:Nat} {x:Ty} (hx:l[k]?=some x) (S:TmS) :
  addL (l.take (k+1)) S=((addL (l.take k) S).1++[(addT x (addL (l.take k) S).2).1],(addT x (addL (l.take k) S).2).2):=by
 rw [take_one hx,addL_append];simp [addL]
theorem addL_len:∀ (l:List Ty) (S:TmS),(addL l S).1.length=l.length
 | [],S=>rfl
 | t::ts,S=>by simp only [addL,List.length_cons];rw [addL_len ts]
structure TmS.Even (S:TmS):Prop where
 ar:S.ar.length=S.nm.length
 up:S.up.length=S.nm.length
theorem Even.push {S:TmS} (h:S.Even) (n:ByteArray) (args:List Nat):(S.push n args).Even:=⟨by simp [TmS.push,h.ar],by simp [TmS.push,h.up]⟩
mutual
theorem addT_even:∀ (t:Ty) (S:TmS),S.Even→(addT t S).2.Even
 | .mk n l,S,h=>by
  rw [addT];split
  ·exact h
  ·exact Even.push (addL_even l S h) _ _
theorem addL_even:∀ (l:List Ty) (S:TmS),S.Even→(addL l S).2.Even
 | [],S,h=>h
 | t::ts,S,h=>by simp only [addL];exact addL_even ts _ (addT_even t S h)
end
mutual
theorem addT_grow:∀ (t:Ty) (S:TmS),S.nm.length≤(addT t S).2.nm.length∧(addT t S).2.nm.length≤S.nm.length+t.cnt
 | .mk n l,S=>by
  have hc:(Ty.mk n l).cnt=(nodesL l).length+1:=by simp [Ty.cnt,Ty.nodes]
  rw [addT];split
  ·simp only;omega
  ·have:=addL_grow l S
   simp only [TmS.push,List.length_append,List.length_singleton];omega
theorem addL_grow:∀ (l:List Ty) (S:TmS),S.nm.length≤(addL l S).2.nm.length∧(addL l S).2.nm.length≤S.nm.length+(nodesL l).length
 | [],S=>by simp [addL]
 | t::ts,S=>by
  have h1:=addT_grow t S
  have h2:=addL_grow ts (addT t S).2
  simp only [addL,nodesL,List.length_append]
  unfold Ty.cnt at h1
  omega
end
theorem tmB_low {wi ni ai ui n:Nat} (h1:wi < n) (h2:ni < n) (h3:ai < n) (h4:ui < n) (S:TmS):∀ p∈tmB wi ni ai ui S,p.1 < n∧p.2.low n:=by
 intro p hp
 simp only [tmB,List.mem_cons,List.not_mem_nil,or_false] at hp
 rcases hp with rfl | rfl | rfl | rfl
 ·exact ⟨h1,⟨⟨fun t ht=>by simp at ht;omega,lowR_map fun _ _=>⟨trivial,trivial⟩⟩,⟨fun t ht=>by simp at ht;omega,lowR_map fun l _=>⟨⟨by simp,lowR_map fun _ _=>⟨trivial,trivial⟩⟩,trivial⟩⟩,h4,trivial⟩⟩
 ·exact ⟨h2,trivial⟩
 ·exact ⟨h3,trivial⟩
 ·exact ⟨h4,lowR_map fun _ _=>⟨trivial,trivial⟩⟩
abbrev ND (wi ni ai ui:Nat):Prop:=[wi,ni,ai,ui].Nodup
section
variable {wi ni ai ui:Nat} {H:AHeap}
theorem tm_next (S:TmS):(puts H (tmB wi ni ai ui S)).next=H.next:=puts_next _ _
theorem tm_puts (hne:ND wi ni ai ui) (S S':TmS):puts (puts H (tmB wi ni ai ui S)) (tmB wi ni ai ui S')=puts H (tmB wi ni ai ui S'):=puts_puts rfl (by simpa [tmB] using hne)
theorem tm_holds (hne:ND wi ni ai ui) (S:TmS):Holds (puts H (tmB wi ni ai ui S)) (tmB wi ni ai ui S):=puts_holds _ (by simpa [tmB] using hne)
theorem tm_HL (h1:wi < H.next) (h2:ni < H.next) (h3:ai < H.next) (h4:ui < H.next) (S:TmS) (bs:List ABlock):puts (HL H bs) (tmB wi ni ai ui S)=HL (puts H (tmB wi ni ai ui S)) bs:=puts_HL (fun p hp=>(tmB_low h1 h2 h3 h4 S p hp).1)
theorem tm_closed (hc:H.Closed) (h1:wi < H.next) (h2:ni < H.next) (h3:ai < H.next) (h4:ui < H.next) (S:TmS):(puts H (tmB wi ni ai ui S)).Closed:=closed_puts hc (tmB_low h1 h2 h3 h4 S)
theorem tm_nm (hne:ND wi ni ai ui) (h1:wi < H.next) (h2:ni < H.next) (S:TmS) (nm:List ByteArray) (bs:List ABlock) :
  ((HL (puts H (tmB wi ni ai ui S)) bs).upd ni (.tok nm.length 1 none)).upd wi (.cells [.slice (nm.map fun s=>[strV s]) (some ni),.slice (S.ar.map fun l=>[argV l]) (some ai),.vec ui S.up.length])=HL (puts H (tmB wi ni ai ui { S with nm:=nm })) bs:=by
 have hn:=hne
 simp only [List.nodup_cons,List.mem_cons,List.not_mem_nil,or_false,not_or] at hn
 obtain ⟨⟨a1,a2,a3⟩,⟨a4,a5⟩,a6,_⟩:=hn
 rw [upd_lt (by rw [tm_next];exact h2),upd_lt (by show wi < (puts H _).next;rw [tm_next];exact h1),upd_puts (by simp [tmB]) (by simpa [tmB] using hne)]
 simp only [tmB,List.map_cons,List.map_nil,a1,a2,a3,a4,a5,a6,Ne.symm a1,Ne.symm a2,Ne.symm a3,Ne.symm a4,Ne.symm a5,Ne.symm a6,if_true,if_false]
 rw [upd_puts (by simp) (by simpa using hne)]
 simp only [List.map_cons,List.map_nil,a1,a2,a3,a4,a5,a6,Ne.symm a1,Ne.symm a2,Ne.symm a3,Ne.symm a4,Ne.symm a5,Ne.symm a6,if_true,if_false]
theorem tm_ar (hne:ND wi ni ai ui) (h1:wi < H.next) (h2:ai < H.next) (S:TmS) (ar:List (List Nat)) (bs:List ABlock) :
  ((HL (puts H (tmB wi ni ai ui S)) bs).upd ai (.tok ar.length 1 none)).upd wi (.cells [.slice (S.nm.map fun s=>[strV s]) (some ni),.slice (ar.map fun l=>[argV l]) (some ai),.vec ui S.up.length])=HL (puts H (tmB wi ni ai ui { S with ar:=ar })) bs:=by
 have hn:=hne
 simp only [List.nodup_cons,List.mem_cons,List.not_mem_nil,or_false,not_or] at hn
 obtain ⟨⟨a1,a2,a3⟩,⟨a4,a5⟩,a6,_⟩:=hn
 rw [upd_lt (by rw [tm_next];exact h2),upd_lt (by show wi < (puts H _).next;rw [tm_next];exact h1),upd_puts (by simp [tmB]) (by simpa [tmB] using hne)]
 simp only [tmB,List.map_cons,List.map_nil,a1,a2,a3,a4,a5,a6,Ne.symm a1,Ne.symm a2,Ne.symm a3,Ne.symm a4,Ne.symm a5,Ne.symm a6,if_true,if_false]
 rw [upd_puts (by simp) (by simpa using hne)]
 simp only [List.map_cons,List.map_nil,a1,a2,a3,a4,a5,a6,Ne.symm a1,Ne.symm a2,Ne.symm a3,Ne.symm a4,Ne.symm a5,Ne.symm a6,if_true,if_false]
theorem tm_up (hne:ND wi ni ai ui) (h1:wi < H.next) (h2:ui < H.next) (S:TmS) (up:List Nat) (bs:List ABlock) :
  ((HL (puts H (tmB wi ni ai ui S)) bs).upd ui (.tok up.length 1 (some (up.map fun i=>[nV i])))).upd wi (.cells [.slice (S.nm.map fun s=>[strV s]) (some ni),.slice (S.ar.map fun l=>[argV l]) (some ai),.vec ui up.length])=HL (puts H (tmB wi ni ai ui { S with up:=up })) bs:=by
 have hn:=hne
 simp only [List.nodup_cons,List.mem_cons,List.not_mem_nil,or_false,not_or] at hn
 obtain ⟨⟨a1,a2,a3⟩,⟨a4,a5⟩,a6,_⟩:=hn
 rw [upd_lt (by rw [tm_next];exact h2),upd_lt (by show wi < (puts H _).next;rw [tm_next];exact h1),upd_puts (by simp [tmB]) (by simpa [tmB] using hne)]
 simp only [tmB,List.map_cons,List.map_nil,a1,a2,a3,a4,a5,a6,Ne.symm a1,Ne.symm a2,Ne.symm a3,Ne.symm a4,Ne.symm a5,Ne.symm a6,if_true,if_false]
 rw [upd_puts (by simp) (by simpa using hne)]
 simp only [List.map_cons,List.map_nil,a1,a2,a3,a4,a5,a6,Ne.symm a1,Ne.symm a2,Ne.symm a3,Ne.symm a4,Ne.symm a5,Ne.symm a6,if_true,if_false]
theorem tm_gw (hne:ND wi ni ai ui) (h1:wi < H.next) (S:TmS) (bs:List ABlock):(HL (puts H (tmB wi ni ai ui S)) bs).get wi=some (.cells [.slice (S.nm.map fun s=>[strV s]) (some ni),.slice (S.ar.map fun l=>[argV l]) (some ai),.vec ui S.up.length]):=by
 rw [get_lt (by rw [tm_next];exact h1)];exact (tm_holds hne S).1
theorem tm_gn (hne:ND wi ni ai ui) (h1:ni < H.next) (S:TmS) (bs:List ABlock):(HL (puts H (tmB wi ni ai ui S)) bs).get ni=some (.tok S.nm.length 1 none):=by
 rw [get_lt (by rw [tm_next];exact h1)];exact (tm_holds hne S).2.1
theorem tm_ga (hne:ND wi ni ai ui) (h1:ai < H.next) (S:TmS) (bs:List ABlock):(HL (puts H (tmB wi ni ai ui S)) bs).get ai=some (.tok S.ar.length 1 none):=by
 rw [get_lt (by rw [tm_next];exact h1)];exact (tm_holds hne S).2.2.1
theorem tm_gu (hne:ND wi ni ai ui) (h1:ui < H.next) (S:TmS) (bs:List ABlock):(HL (puts H (tmB wi ni ai ui S)) bs).get ui=some (.tok S.up.length 1 (some (S.up.map fun i=>[nV i]))):=by
 rw [get_lt (by rw [tm_next];exact h1)];exact (tm_holds hne S).2.2.2.1
end
theorem low_nats (n:Nat) (l:List Nat):lowR n (l.map fun i=>[nV i]):=lowR_map fun _ _=>⟨trivial,trivial⟩
theorem reset_one {X T:AHeap} {bs:List ABlock} {w:Nat} {A B:ABlock} (hcT:T.Closed) (hX:X.upd w B=HL T bs) (hA:X.get w=some A) (hB:T.get w=some B) (hw:WkB A B):Reset X T:=by
 have hn:X.next=T.next+bs.length:=congrArg AHeap.next hX
 refine ⟨by omega,fun i C hC=>⟨(hcT i C hC).1,(hcT i C hC).2,?_⟩⟩
 by_cases hi:i=w
 ·subst hi
  rw [hB] at hC
  simp only [Option.some.injEq] at hC
  subst hC
  exact ⟨A,hA,hw⟩
 ·refine ⟨C,?_,WkB.refl C⟩
  have h1:(X.upd w B).get i=X.get i:=get_upd_ne hi
  rw [←h1,hX,get_lt (hcT i C hC).1]
  exact hC
theorem wkR_append:∀ {a b c d:List (List AV)},WkR a b→WkR c d→WkR (a++c) (b++d)
 | [],[],_,_,_,h=>h
 | _::_,_::_,_,_,⟨h1,h2⟩,h=>⟨h1,wkR_append h2 h⟩
theorem Wk.sliceT {xs ys:List (List AV)} {t:Option Nat} (h:WkR xs ys):Wk (.slice xs t) (.slice ys t):=fun K w x ⟨a,len,cap,e,h1,h2,h3,h4,h5⟩ =>
 ⟨a,len,cap,e,by rw [←h.length];exact h1,h2,h3,fun t ht=>by rw [←h.length];exact h4 t ht,fun hne=>by
  have hne':xs≠[]:=fun e=>hne (by have:=h.length;rw [e] at this;exact List.length_eq_zero_iff.1 this.symm)
  obtain ⟨ad,esz,q1,q2,q3⟩:=h5 hne'
  exact ⟨ad,esz,q1,q2,q3.wkR h⟩⟩
set_option maxHeartbeats 2000000 in
theorem tmAdd_c (wi ni ai ui:Nat) (hne:ND wi ni ai ui):∀ (t:Ty) (S:TmS) (H:AHeap),t.cnt < 1099511627776→S.nm.length+t.cnt < 1099511627776→S.Even→Holds H (tmB wi ni ai ui S) →
  ACalls Tryz.prog 105 [.ref wi 0,t.enc] H (nV (addT t S).1) (puts H (tmB wi ni ai ui (addT t S).2)):=by
 intro t
 induction t using Ty.ind with
 | h n l ih =>
 intro S H ht hsz hev hH
 have hcnt:(Ty.mk n l).cnt=(nodesL l).length+1:=by simp [Ty.cnt,Ty.nodes]
 have hll:=nodesL_len l
 have hv:=rIsVar_c (.mk n l)
 have hself:puts H (tmB wi ni ai ui S)=H:=puts_self hH
 have he:addT (.mk n l) S=if headP smallB n=true∧posN S.nm n < S.nm.length then (posN S.nm n,S) else ((addL l S).2.up.length,(addL l S).2.push n (addL l S).1):=by rw [addT]
 have eb3:(Ty.mk n l).isVar=headP smallB n:=rfl
 rw [←eb3] at he
 generalize addT (.mk n l) S=res at he ⊢
 simp only [enc_mk] at hv
 obtain ⟨gw0,gn0,ga0,gu0,_⟩:=id hH
 refine acalls_walk (fun d=>if d=6 then .nilv 1 else if d=56 then .lit else if d=66 then .lit else if d=80 then .lit else .imm) [0,1,3,4,5,6,7,8,10,17,29,35] Tryz.mixed Tryz.func105 rfl rfl rfl (by decide) (fun hcl hlow=>?_)
 simp only [enc_mk]
 have hwl:wi < H.next:=(hcl _ _ gw0).1
 have hnl:ni < H.next:=(hcl _ _ gn0).1
 have hal:ai < H.next:=(hcl _ _ ga0).1
 have hul:ui < H.next:=(hcl _ _ gu0).1
 have gw:∀ bs,(HL H bs).get wi=some (.cells [.slice (S.nm.map fun s=>[strV s]) (some ni),.slice (S.ar.map fun l=>[argV l]) (some ai),.vec ui S.up.length]):=fun bs=>by rw [get_lt hwl];exact gw0
 refine awp_sr fun K hK=>?_;simp;apply hK;clear hK K;repeat with_reducible refine awp_assoc ?_
 refine awp_sr fun K hK=>?_;refine aOps_split 1 fun K hK=>?_;simp;apply hK;clear hK K;refine aOps_call (hv _) (by first | rfl | simp) rfl rfl (by first | (simp;done) | rfl) ?_;simp;apply hK;clear hK K
 have hnw:¬ wi=ni∧¬ wi=ai∧¬ wi=ui:=by have:=hne;simp only [List.nodup_cons,List.mem_cons,List.not_mem_nil,or_false,not_or] at this;exact this.1
 refine awp_seq_k fun K hK=>?_
 have hrest:¬ ((Ty.mk n l).isVar=true∧posN S.nm n < S.nm.length)→∀ (b1 b4 b5 b10 b17 b29:AV),K (Env.ofL [(0,.ref wi 0),(1,b1),(3,.ref (nid H.next 0) 0),(4,b4),(5,b5),(6,.undef),(7,.undef),(8,.undef),(10,b10),(17,b17),(29,b29),(35,.undef)]) (HL H [.cells [strV n,.slice (l.map Ty.cells) none]]):=by
  intro hno b1 b4 b5 b10 b17 b29
  rw [if_neg hno] at he
  apply hK
  clear hK hv
  refine awp_sr fun K hK=>?_;simp;apply hK;clear hK K;repeat with_reducible refine awp_assoc ?_
  refine awp_sr fun K hK=>?_;simp;apply hK;clear hK K
  have hcc:=fun S=>tm_closed (S:=S) hcl hwl hnl hal hul
  have hnx:∀ S,(puts H (tmB wi ni ai ui S)).next=H.next:=fun S=>tm_next S
  refine awp_seq_k fun K hK=>?_;refine awp_block ?_
  refine awp_up l.length (fun k=>Env.ofL [(0,.ref wi 0),(3,.ref (nid H.next 0) 0),(6,.slice ((addL (l.take k) S).1.map fun i=>[nV i]) (some (nid H.next 1))),(7,intV (k:Int))])
   (fun k=>HL (puts H (tmB wi ni ai ui (addL (l.take k) S).2)) [.cells [strV n,.slice (l.map Ty.cells) none],.tok k 1 none]) (fun _=>True)
   (by simp only [List.take_zero,addL,hself];exact weak_HL hcl rfl (by simp) (by simp [lt_nid hwl])) trivial (fun k hk _=>?_) (fun _=>?_)
  ·obtain ⟨x,hx⟩:∃ x,l[k]?=some x:=⟨_,List.getElem?_eq_getElem hk⟩
   have hxa:=arg_cnt (n:=n) (List.mem_of_getElem? hx)
   have e1:=addL_take hx S
   have hgk:=addL_grow (l.take k) S
   have hevk:=addL_even (l.take k) S hev
   have hnk:(nodesL (l.take k)).length+x.cnt≤(nodesL l).length:=by
    have h1:=congrArg List.length (nodesL_take hx)
    have h2:nodesL l=nodesL (l.take (k+1))++nodesL (l.drop (k+1)):=by rw [←nodesL_append,List.take_append_drop]
    have h3:=congrArg List.length h2
    rw [List.length_append] at h1 h3;simp only [Ty.cnt];omega
   have hlk:(addL (l.take k) S).1.length=k:=by rw [addL_len];simp;omega
   generalize addL (l.take k) S=rk at e1 hgk hevk hlk ⊢
   generalize addL (l.take (k+1)) S=rk' at e1 ⊢
   subst e1
   obtain ⟨us,Sk⟩:=rk
   simp only at hgk hevk hlk ⊢
   have hc:=ih x (List.mem_of_getElem? hx) Sk (HL (puts H (tmB wi ni ai ui Sk)) [.cells [strV n,.slice (l.map Ty.cells) none],.tok k 1 none]) (by omega) (by omega) hevk
    ((holds_HL (fun p hp=>(tmB_low (n:=(puts H (tmB wi ni ai ui Sk)).next) (by rw [hnx];exact hwl) (by rw [hnx];exact hnl) (by rw [hnx];exact hal) (by rw [hnx];exact hul) Sk p hp).1)).2 (tm_holds hne Sk))
   rw [tm_HL (by rw [hnx];exact hwl) (by rw [hnx];exact hnl) (by rw [hnx];exact hal) (by rw [hnx];exact hul),tm_puts hne] at hc
   generalize addT x Sk=rc at hc ⊢
   obtain ⟨r,S'⟩:=rc
   obtain ⟨xn,xl⟩:=x
   simp only [enc_mk] at hc ⊢;repeat with_reducible refine awp_assoc ?_
   refine awp_sr fun K hK=>?_;simp [hk,hnx];apply hK;clear hK K;refine awp_seq_k fun K hK=>?_;refine awp_condT rfl (by simp) ?_;refine awp_skip ?_;apply hK;clear hK K;refine awp_seq_k fun K hK=>?_;refine awp_block ?_;refine awp_sr fun K hK=>?_;refine aOps_split 6 fun K hK=>?_;simp [hx,hnx,Ty.cells];apply hK;clear hK K;refine aOps_call (hc) (by first | rfl | simp) rfl rfl (by first | (simp;done) | rfl) ?_;simp;apply hK;clear hK K;refine awp_region ?_;simp [hlk,hnx]
   refine ⟨by omega,hK _ _ ?_⟩
   clear hK
   refine awp_region ?_;simp [hnx,wrap_succ (show k < 4611686018427387904 by omega)]
   refine weak_HL (hcc S') (by simp) (by simp [lt_nid hwl,hnx,low_nats]) (by simp [lt_nid hwl,hnx,low_nats])
  ·rw [List.take_of_length_le (Nat.le_refl _)]
   repeat with_reducible refine awp_assoc ?_
   refine awp_sr fun K hK=>?_;simp [hnx];apply hK;clear hK K;refine awp_seq_k fun K hK=>?_;refine awp_condF rfl (by simp) ?_;refine awp_exit ?_;simp;clear hK K;apply hK;clear hK K
   have hevl:=addL_even l S hev
   have hgl:=addL_grow l S
   have hll2:=addL_len l S
   generalize addL l S=rl at *
   obtain ⟨us,S1⟩:=rl
   simp only at hevl hgl hll2 he ⊢
   have hnai:¬ ai=wi:=Ne.symm hnw.2.1
   have hnui:¬ ui=wi:=Ne.symm hnw.2.2
   have hnni:¬ ni=wi:=Ne.symm hnw.1
   have g1:=fun S bs=>tm_gw (H:=H) hne hwl S bs
   have g2:=fun S bs=>tm_gn (H:=H) hne hnl S bs
   have g3:=fun S bs=>tm_ga (H:=H) hne hal S bs
   have g4:=fun S bs=>tm_gu (H:=H) hne hul S bs
   have u1:=fun (S:TmS) bs=>tm_nm (H:=H) hne hwl hnl S (S.nm++[n]) bs
   have u3:=fun (S:TmS) bs=>tm_ar (H:=H) hne hwl hal S (S.ar++[us]) bs
   have u4:=fun (S:TmS) bs=>tm_up (H:=H) hne hwl hul S (S.up++[S.up.length]) bs
   simp only [List.map_append,List.map_cons,List.map_nil,List.length_append,List.length_singleton] at u1 u3 u4
   have hur:=hevl.up
   have har:=hevl.ar
   refine awp_sdc [8,11] [[],[0],[0],[0],[0],[0,1,2,3,4],[0,1,2,3,4],[0,1,2,3,4],[0,1],[],[],[]] (by kernel_rfl) (by rfl) fun K hK=>?_;refine aCalm_pre 5 (by rfl) fun K hK=>?_;simp [g1,hnx];apply hK;clear hK K;refine aCalm_pre 3 (by rfl) fun K hK=>?_;simp [hnx];apply hK;clear hK K;refine aCalm_pre 1 (by rfl) fun K hK=>?_;simp [g2]
   refine ⟨by omega,hK _ _ ?_⟩
   clear hK K;refine aCalm_pre 3 (by rfl) fun K hK=>?_;simp [g1,get_upd_ne hnw.1,u1];apply hK;clear hK K;refine aCalm_end ?_;simp;apply hK;clear hK K
   generalize hS2:(⟨S1.nm++[n],S1.ar,S1.up⟩:TmS)=S2
   have hS2a:S2.ar=S1.ar:=by subst hS2;rfl
   have hS2u:S2.up=S1.up:=by subst hS2;rfl
   refine awp_sr fun K hK=>?_;refine aOps_split 5 fun K hK=>?_;simp [g1,hnx];apply hK;clear hK K;refine aOps_split 2 fun K hK=>?_;simp;apply hK;clear hK K;refine aOps_split 1 fun K hK=>?_;simp [g3]
   refine ⟨by rw [hS2a];omega,hK _ _ ?_⟩
   clear hK K;refine aOps_split 3 fun K hK=>?_;simp [g1,get_upd_ne hnw.2.1,hnx];apply hK;clear hK K;simp;apply hK
   clear hK
   generalize hX:((HL (puts H (tmB wi ni ai ui S2)) [.cells [strV n,.slice (l.map Ty.cells) none],.tok l.length 1 none]).upd ai (.tok (S2.ar.length+1) 1 none)).upd wi
    (.cells [.slice (S2.nm.map fun s=>[strV s]) (some ni),.slice (S2.ar.map (fun l=>[argV l])++[[.slice (us.map fun i=>[nV i]) (some (nid H.next 1))]]) (some ai),.vec ui S2.up.length])=X
   have gXw:X.get wi=some (.cells [.slice (S2.nm.map fun s=>[strV s]) (some ni),.slice (S2.ar.map (fun l=>[argV l])++[[.slice (us.map fun i=>[nV i]) (some (nid H.next 1))]]) (some ai),.vec ui S2.up.length]):=by subst hX;exact get_upd_self
   have hnau:¬ ai=ui:=by have:=hne;simp only [List.nodup_cons,List.mem_cons,List.not_mem_nil,or_false,not_or] at this;exact this.2.2.1
   have gXu:X.get ui=some (.tok S2.up.length 1 (some (S2.up.map fun i=>[nV i]))):=by
    subst hX;rw [get_upd_ne hnui,get_upd_ne (Ne.symm hnau)];exact g4 _ _
   have hlu:S2.up.length < 1099511627776:=by rw [hS2u];omega
   have hor:=one_rows S2.up
   refine awp_sdc [11,14] [[],[0],[0],[0],[0],[0,1,2,3,4],[0,1,2,3,4],[0,1,2,3,4],[0,1,2,3,4],[0,1,2,3,4,5],[0,1,2,3,4,5,6],[0,1,5,6,7],[],[],[]] (by kernel_rfl) (by rfl) fun K hK=>?_;refine aCalm_pre 5 (by rfl) fun K hK=>?_;simp [gXw];apply hK;clear hK K;refine aCalm_pre 4 (by rfl) fun K hK=>?_;simp [gXw];apply hK;clear hK K;refine aCalm_pre 2 (by rfl) fun K hK=>?_;simp [gXw];apply hK;clear hK K;refine aCalm_pre 1 (by rfl) fun K hK=>?_;simp [gXu]
   refine ⟨by omega,hK _ _ ?_⟩
   clear hK K;refine aCalm_pre 3 (by rfl) fun K hK=>?_;simp [gXw,get_upd_ne hnw.2.2];apply hK;clear hK K;refine aCalm_end ?_;simp;apply hK;clear hK K
   generalize hY:(X.upd ui (.tok (S2.up.length+1) 1 (some (S2.up.map (fun i=>[nV i])++[[nV S2.up.length]])))).upd wi
    (.cells [.slice (S2.nm.map fun s=>[strV s]) (some ni),.slice (S2.ar.map (fun l=>[argV l])++[[.slice (us.map fun i=>[nV i]) (some (nid H.next 1))]]) (some ai),.vec ui (S2.up.length+1)])=Y
   have gYw:Y.get wi=some (.cells [.slice (S2.nm.map fun s=>[strV s]) (some ni),.slice (S2.ar.map (fun l=>[argV l])++[[.slice (us.map fun i=>[nV i]) (some (nid H.next 1))]]) (some ai),.vec ui (S2.up.length+1)]):=by subst hY;exact get_upd_self
   have hw1:IntKind.i64.wrap (S2.up.length:Int)=(S2.up.length:Int):=by rw [wrap64 (by omega) (by omega)]
   refine awp_sr fun K hK=>?_;refine aOps_split 5 fun K hK=>?_;simp [gYw];apply hK;clear hK K;simp [hw1];apply hK;clear hK K
   have hfin:res=(S2.up.length,S1.push n us):=by rw [he,hS2u]
   rw [hfin]
   have hP:S1.push n us={ { S2 with ar:=S2.ar++[us] } with up:=S2.up++[S2.up.length] }:=by subst hS2;rfl
   simp
   refine reset_one (w:=wi) (A:=.cells [.slice (S2.nm.map fun s=>[strV s]) (some ni),.slice (S2.ar.map (fun l=>[argV l])++[[.slice (us.map fun i=>[nV i]) (some (nid H.next 1))]]) (some ai),.vec ui (S2.up.length+1)])
    (B:=.cells [.slice (S2.nm.map fun s=>[strV s]) (some ni),.slice ((S2.ar++[us]).map fun l=>[argV l]) (some ai),.vec ui (S2.up++[S2.up.length]).length]) (bs:=[.cells [strV n,.slice (l.map Ty.cells) none],.tok l.length 1 none]) (hcc _) ?_ gYw ?_ ?_
   ·subst hY hX
    rw [hP,←tm_up hne hwl hul { S2 with ar:=S2.ar++[us] } (S2.up++[S2.up.length]),←tm_ar hne hwl hal S2 (S2.ar++[us])]
    simp only [upd_upd,List.length_append,List.length_singleton,List.map_append,List.map_cons,List.map_nil]
    rw [upd_comm (i:=wi) (j:=ui) hnw.2.2,upd_upd,upd_comm (i:=wi) (j:=ui) hnw.2.2,upd_upd]
   ·rw [hP];exact (tm_holds hne _).1
   ·refine ⟨.refl _,Wk.sliceT ?_,by simp,trivial⟩
    rw [List.map_append]
    exact wkR_append (WkR.refl _) ⟨⟨Wk.tok _ _,trivial⟩,trivial⟩
 cases hvv:(Ty.mk n l).isVar
 ·refine awp_condF rfl (by simp [hvv]) ?_;refine awp_skip ?_
  exact hrest (by simp [hvv]) _ _ _ _ _ _
 ·refine awp_condT rfl (by simp [hvv]) ?_;refine awp_sr fun K hK=>?_;simp;apply hK;clear hK K;refine awp_block ?_
  refine awp_up S.nm.length (fun k=>Env.ofL [(0,.ref wi 0),(3,.ref (nid H.next 0) 0),(5,intV (k:Int))]) (fun k=>HL H [.cells [strV n,.slice (l.map Ty.cells) none]]) (fun k=>∀ x∈S.nm.take k,¬ x=n) (weak_HL hcl rfl (by simp) (by simp [lt_nid hwl])) (by simp) (fun k hk hi=>?_) (fun hi=>?_)
  ·obtain ⟨x,hx⟩:∃ x,S.nm[k]?=some x:=⟨_,List.getElem?_eq_getElem hk⟩
   repeat with_reducible refine awp_assoc ?_
   refine awp_sr fun K hK=>?_;simp [gw,hk];apply hK;clear hK K;refine awp_seq_k fun K hK=>?_;refine awp_condT rfl (by simp) ?_;refine awp_skip ?_;apply hK;clear hK K;refine awp_seq_k fun K2 hK2=>?_;refine awp_block ?_;refine awp_sdc [] [[],[],[],[],[0,1,2,3],[0],[0,1],[0,1,2,3,4,5,6],[0,1,2,3,4,5,6],[0,1,2]] (by kernel_rfl) (by rfl) fun K hK=>?_;refine aCalm_pre 4 (by rfl) fun K hK=>?_;simp [gw];apply hK;clear hK K;refine aCalm_pre 3 (by rfl) fun K hK=>?_;simp [hx];apply hK;clear hK K;refine aCalm_pre 2 (by rfl) fun K hK=>?_;simp;apply hK;clear hK K
   by_cases hxn:x=n
   ·subst hxn
    refine aCalm_pre 1 (by rfl) fun K hK=>?_;simp;apply hK;clear hK K;refine aCalm_end ?_;simp;apply hK;clear hK K;refine awp_condT rfl (by simp) ?_;refine awp_sr fun K hK=>?_;simp;apply hK;clear hK K
    rw [posN_at hi hx,if_pos ⟨hvv,hk⟩] at he
    rw [he]
    simp [hself]
    exact reset_all hcl
   ·refine aCalm_pre 1 (by rfl) fun K hK=>?_;simp [hxn];apply hK;clear hK K;refine aCalm_end ?_;simp;apply hK;clear hK K;refine awp_condF rfl (by simp) ?_;refine awp_skip ?_
    refine hK2 _ _ ?_
    clear hK2
    refine awp_region ?_;simp [wrap_succ (show k < 4611686018427387904 by omega)]
    refine ⟨fun y hy=>?_,?_⟩
    ·rw [take_one hx] at hy
     rcases List.mem_append.1 hy with hy | hy
     ·exact hi y hy
     ·simp only [List.mem_singleton] at hy;rw [hy];exact hxn
    ·refine weak_HL (hcl) (by simp) (by simp [lt_nid hwl]) (by simp [lt_nid hwl])
  ·repeat with_reducible refine awp_assoc ?_
   refine awp_sr fun K hK=>?_;simp [gw];apply hK;clear hK K;refine awp_seq_k fun K hK=>?_;refine awp_condF rfl (by simp) ?_;refine awp_exit ?_;simp
   rw [List.take_length] at hi
   exact hrest (fun h=>by rw [posN_no hi] at h;omega) _ _ _ _ _ _
end Go.Proofs.YtgeehnbbhnpimaaGreat
namespace Go.Proofs.YtgeehnbbhnpimaaGreat
open Go Go.Abs Go.Proofs
set_option maxRecDepth 20000
attribute [local simp] aOps wantedA aStep aop aLoad aStore aBin aUn aFieldAddr aField aIndexAddr aIndex aLen aBuild aFill aAlloc aAppend aBuildSlice litRows newRows isMut isOwn isNilS nilsW bytesR tokW tokAV tokL ret readC splice aeval isLit isLate AV.celled AV.one AV.ofValue Value.oneCell' Value.cells intOp strOp get_nid upd_nid awp aEnd aResults aResult Det unord isCall isNext
attribute [local simp] low_take low_strs low_comp low_tcomp wkEs_refl' WkBs WkEnv WkB WkL WkE WkO ABlock.low lowO lowL lowR AV.low cellsL_eq Ty.low low_map Ty.cells_length Ty.cells_one
attribute [local simp] low_bind
inductive TopR (up:List Nat):Nat→Nat→Prop where
 | here {i:Nat}:upAt up i=i→TopR up i i
 | step {i r:Nat}:¬ upAt up i=i→TopR up (upAt up i) r→TopR up i r
theorem TopR.fix {up:List Nat} {i r:Nat} (h:TopR up i r):upAt up r=r:=by
 induction h with
 | here h=>exact h
 | step _ _ ih=>exact ih
theorem TopR.unique {up:List Nat} {i r r':Nat} (h:TopR up i r) (h':TopR up i r'):r=r':=by
 induction h with
 | here h =>
  cases h' with
  | here _=>rfl
  | step h2 _=>exact absurd h h2
 | step h1 _ ih =>
  cases h' with
  | here h2=>exact absurd h2 h1
  | step _ h3=>exact ih h3
noncomputable def topOf (up:List Nat) (i:Nat):Nat:=open Classical in if h:∃ r,TopR up i r then h.choose else i
theorem topOf_eq {up:List Nat} {i r:Nat} (h:TopR up i r):topOf up i=r:=by
 unfold topOf
 have he:∃ r,TopR up i r:=⟨r,h⟩
 rw [dif_pos he]
 exact he.choose_spec.unique h
structure WfU (n:Nat) (up:List Nat):Prop where
 len:up.length=n
 lt:∀ i,i < n→upAt up i < n
 top:∀ i,i < n→∃ r,TopR up i r
theorem WfU.topR {n:Nat} {up:List Nat} (h:WfU n up) {i:Nat} (hi:i < n):TopR up i (topOf up i):=by
 obtain ⟨r,hr⟩:=h.top i hi
 rw [topOf_eq hr];exact hr
theorem WfU.top_lt {n:Nat} {up:List Nat} (h:WfU n up) {i:Nat} (hi:i < n):topOf up i < n:=by
 have:∀ {i r},TopR up i r→i < n→r < n:=by
  intro i r hr
  induction hr with
  | here _=>exact fun h=>h
  | step _ _ ih=>exact fun hi=>ih (h.lt _ hi)
 exact this (h.topR hi) hi
theorem WfU.top_fix {n:Nat} {up:List Nat} (h:WfU n up) {i:Nat} (hi:i < n):upAt up (topOf up i)=topOf up i:=(h.topR hi).fix
theorem upAt_set {up:List Nat} {i k:Nat} (hi:i < up.length) (j:Nat):upAt (up.set i k) j=if j=i then k else upAt up j:=by
 unfold upAt
 simp only [List.getD_eq_getElem?_getD,List.getElem?_set]
 by_cases h:j=i
 ·subst h;simp [hi]
 ·have h':¬ i=j:=fun e=>h e.symm
  simp [h,h']
theorem TopR.set {up:List Nat} {i k j r:Nat} (hi:i < up.length) (h1:upAt up i=i) (h2:upAt up k=k) (hne:¬ i=k) (h:TopR up j r):TopR (up.set i k) j (if r=i then k else r):=by
 have hk:TopR (up.set i k) k k:=.here (by rw [upAt_set hi,if_neg (fun e=>hne e.symm)];exact h2)
 induction h with
 | @here j hj =>
  by_cases hji:j=i
  ·subst hji
   rw [if_pos rfl]
   refine .step (by rw [upAt_set hi,if_pos rfl];exact fun e=>hne e.symm) ?_
   rw [upAt_set hi,if_pos rfl];exact hk
  ·rw [if_neg hji]
   exact .here (by rw [upAt_set hi,if_neg hji];exact hj)
 | @step j r hj _ ih =>
  have hji:¬ j=i:=fun e=>hj (by rw [e];exact h1)
  refine .step (by rw [upAt_set hi,if_neg hji];exact hj) ?_
  rw [upAt_set hi,if_neg hji];exact ih
theorem WfU.set {n:Nat} {up:List Nat} (h:WfU n up) {i k:Nat} (hi:i < n) (hk:k < n) (h1:upAt up i=i) (h2:upAt up k=k) (hne:¬ i=k):WfU n (up.set i k):=by
 have hi':i < up.length:=by rw [h.len];exact hi
 refine ⟨by simp [h.len],fun j hj=>?_,fun j hj=>⟨_,(h.topR hj).set hi' h1 h2 hne⟩⟩
 rw [upAt_set hi']
 split
 ·exact hk
 ·exact h.lt j hj
theorem topOf_set {n:Nat} {up:List Nat} (h:WfU n up) {i k j:Nat} (hi:i < n) (h1:upAt up i=i) (h2:upAt up k=k) (hne:¬ i=k) (hj:j < n):topOf (up.set i k) j=if topOf up j=i then k else topOf up j :=
 topOf_eq ((h.topR hj).set (by rw [h.len];exact hi) h1 h2 hne)
theorem upIt_shift (up:List Nat) (i:Nat):∀ k,upIt up i (k+1)=upIt up (upAt up i) k
 | 0=>rfl
 | k+1=>by
  show upAt up (upIt up i (k+1))=upAt up (upIt up (upAt up i) k)
  rw [upIt_shift up i k]
theorem TopR.steps {up:List Nat} {m i r:Nat} (h:TopR up i r) (hlt:∀ j,j < m→upAt up j < m):i < m→∃ n,upIt up i n=r∧(∀ k,k≤n→upIt up i k < m)∧(∀ k,k < n→¬ upIt up i (k+1)=upIt up i k)∧upIt up i (n+1)=upIt up i n:=by
 induction h with
 | here h=>exact fun hi=>⟨0,rfl,fun k hk=>by
                           obtain rfl:k=0:=by omega
                           exact hi,fun k hk=>by omega,h⟩
 | @step i r h1 _ ih =>
  intro hi
  obtain ⟨n,h2,h3,h4,h5⟩:=ih (hlt i hi)
  refine ⟨n+1,by rw [upIt_shift];exact h2,fun k hk=>?_,fun k hk=>?_,by rw [upIt_shift up i (n+1),upIt_shift up i n];exact h5⟩
  ·cases k with
   | zero=>exact hi
   | succ k=>rw [upIt_shift];exact h3 k (by omega)
  ·cases k with
   | zero=>exact h1
   | succ k=>rw [upIt_shift up i (k+1),upIt_shift up i k];exact h4 k (by omega)
theorem top_of (wi ni ai ui:Nat) (S:TmS) {n:Nat} (hw:WfU n S.up) (i:Nat) (hi:i < n) (H:AHeap) (hH:Holds H (tmB wi ni ai ui S)) :
  ACalls Tryz.prog 108 [.ref wi 0,nV i] H (nV (topOf S.up i)) H:=by
 obtain ⟨m,h1,h2,h3,h4⟩:=(hw.topR hi).steps hw.lt hi
 rw [←h1]
 exact tmTop_c wi ni ai ui S i m (fun k hk=>by rw [hw.len];exact h2 k hk) h3 h4 H hH
def vrAt (nm:List ByteArray) (i:Nat):Bool:=headP smallB (nm.getD i ByteArray.empty)
noncomputable def tjF (nm:List ByteArray) (ar:List (List Nat)):Nat→List (Nat × Nat)→List Nat→Bool→Option (List Nat × Bool)
 | 0,_,_,_=>none
 | f+1,todo,up,ok=>match todo.getLast? with
  | none=>some (up,ok)
  | some p =>
   if topOf up p.1=topOf up p.2 then tjF nm ar f todo.dropLast up ok
   else if vrAt nm (topOf up p.1)=true then tjF nm ar f todo.dropLast (up.set (topOf up p.1) (topOf up p.2)) ok
   else if vrAt nm (topOf up p.2)=true then tjF nm ar f todo.dropLast (up.set (topOf up p.2) (topOf up p.1)) ok
   else if nm.getD (topOf up p.1) ByteArray.empty=nm.getD (topOf up p.2) ByteArray.empty∧(ar.getD (topOf up p.1) []).length=(ar.getD (topOf up p.2) []).length then
    tjF nm ar f (todo.dropLast++(ar.getD (topOf up p.1) []).zip (ar.getD (topOf up p.2) [])) (up.set (topOf up p.1) (topOf up p.2)) ok
   else tjF nm ar f todo.dropLast up false
def potU (ar:List (List Nat)) (up:List Nat):Nat:=(((List.range up.length).filter fun i=>upAt up i == i).map fun i=>(ar.getD i []).length).sum
theorem sum_filter_set {n:Nat} {p q:Nat→Bool} {g:Nat→Nat} {i:Nat} (hi:i < n) (hp:p i=true) (hq:q i=false) (ho:∀ j,j≠i→q j=p j):(((List.range n).filter q).map g).sum+g i=(((List.range n).filter p).map g).sum:=by
 induction n with
 | zero=>omega
 | succ n ih =>
  rw [List.range_succ,List.filter_append,List.filter_append,List.map_append,List.map_append,List.sum_append,List.sum_append]
  by_cases h:i=n
  ·subst h
   have e:(List.range i).filter q=(List.range i).filter p:=List.filter_congr fun j hj=>ho j (by have:=List.mem_range.1 hj;omega)
   rw [e]
   simp [hp,hq]
  ·have:=ih (by omega)
   have e:q n=p n:=ho n (fun e=>h e.symm)
   simp only [List.filter_cons,List.filter_nil,e]
   omega
theorem potU_set {ar:List (List Nat)} {up:List Nat} {i k:Nat} (hi:i < up.length) (h1:upAt up i=i) (hne:¬ i=k):potU ar (up.set i k)+(ar.getD i []).length=potU ar up:=by
 unfold potU
 rw [List.length_set]
 refine sum_filter_set (g:=fun i=>(ar.getD i []).length) hi (by simp [h1]) ?_ fun j hj=>?_
 ·simp only [beq_eq_false_iff_ne,ne_eq]
  rw [upAt_set hi,if_pos rfl];exact fun e=>hne e.symm
 ·rw [upAt_set hi,if_neg hj]
theorem tjF_fuel {n:Nat} (nm:List ByteArray) (ar:List (List Nat)) (hA:∀ i,i < n→∀ j∈ar.getD i [],j < n):∀ (f:Nat) (todo:List (Nat × Nat)) (up:List Nat) (ok:Bool),WfU n up→(∀ p∈todo,p.1 < n∧p.2 < n)→todo.length+potU ar up < f→∃ r,tjF nm ar f todo up ok=some r:=by
 intro f
 induction f with
 | zero=>intro todo up ok _ _ h;omega
 | succ f ih =>
  intro todo up ok hw ht hf
  rw [tjF]
  cases hl:todo.getLast? with
  | none=>exact ⟨_,rfl⟩
  | some p =>
   have hp:=ht p (List.mem_of_getLast? hl)
   have hne:todo≠[]:=by intro e;rw [e] at hl;simp at hl
   have hdl:todo.dropLast.length+1=todo.length:=by
    rw [List.length_dropLast]
    have:=List.length_pos_iff.2 hne;omega
   have ht':∀ q∈todo.dropLast,q.1 < n∧q.2 < n:=fun q hq=>ht q (List.dropLast_subset _ hq)
   have l1:=hw.top_lt hp.1
   have l2:=hw.top_lt hp.2
   have f1:=hw.top_fix hp.1
   have f2:=hw.top_fix hp.2
   simp only
   generalize topOf up p.1=i at *
   generalize topOf up p.2=k at *
   split
   ·exact ih _ _ _ hw ht' (by omega)
   ·rename_i hik
    have w1:=hw.set l1 l2 f1 f2 hik
    have w2:=hw.set l2 l1 f2 f1 (fun e=>hik e.symm)
    have p1:=potU_set (ar:=ar) (by rw [hw.len];exact l1) f1 hik
    have p2:=potU_set (ar:=ar) (by rw [hw.len];exact l2) f2 (fun e=>hik e.symm)
    split
    ·exact ih _ _ _ w1 ht' (by omega)
    ·split
     ·exact ih _ _ _ w2 ht' (by omega)
     ·split
      ·rename_i hc
       refine ih _ _ _ w1 (fun q hq=>?_) ?_
       ·rcases List.mem_append.1 hq with hq | hq
        ·exact ht' q hq
        ·have:=List.of_mem_zip hq
         exact ⟨hA i l1 _ this.1,hA k l2 _ this.2⟩
       ·rw [List.length_append,List.length_zip]
        omega
      ·exact ih _ _ _ hw ht' (by omega)
def pairC (p:Nat × Nat):List AV:=[nV p.1,nV p.2]
theorem Wk.vecView (i n:Nat):Wk (.vec i n) (.view i n n):=fun K w x ⟨a,cap,e,h1,h2,h3,h4⟩=>⟨a,cap,e,Nat.le_refl _,h1,h2,h3,h4⟩
section
variable {wi ni ai ui:Nat} {H:AHeap}
theorem tm_up2 (hne:ND wi ni ai ui) (h2:ui < H.next) (S:TmS) (up:List Nat) (hl:up.length=S.up.length) (bs:List ABlock) :
  (HL (puts H (tmB wi ni ai ui S)) bs).upd ui (.tok S.up.length 1 (some (up.map fun i=>[nV i])))=HL (puts H (tmB wi ni ai ui { S with up:=up })) bs:=by
 have hn:=hne
 simp only [List.nodup_cons,List.mem_cons,List.not_mem_nil,or_false,not_or] at hn
 obtain ⟨⟨a1,a2,a3⟩,⟨a4,a5⟩,a6,_⟩:=hn
 rw [upd_lt (by rw [tm_next];exact h2),upd_puts (by simp [tmB]) (by simpa [tmB] using hne)]
 simp only [tmB,List.map_cons,List.map_nil,a1,a2,a3,a4,a5,a6,Ne.symm a1,Ne.symm a2,Ne.symm a3,Ne.symm a4,Ne.symm a5,Ne.symm a6,if_true,if_false,hl]
end
theorem set_nats (up:List Nat) (i k:Nat):(up.map fun i=>[nV i]).set i [nV k]=(up.set i k).map fun i=>[nV i]:=by rw [List.map_set]
theorem awp_rk {P:Program} {md:Nat→Abs.Mode} {n0:Nat} {L:List Nat} {Q:AExit→Env→AHeap→Prop} {env:Env} {H:AHeap} {id:Nat} {ops:List Oper} (h:∀ K:Env→AHeap→Prop,(∀ env H,Q .normal env H→K env H) →
  aOps P md ops.toArray (fun env H=>K (Env.ofL (L.map fun t=>(t,env t))) H) ops env H):awp P md n0 L (.region id ops.toArray false) Q env H:=awp_region (h _ fun _ _ h=>h)
structure JoinOk (S:TmS) (n:Nat):Prop where
 nm:S.nm.length=n
 ar:S.ar.length=n
 sz:n < 1099511627776
 one:∀ s∈S.nm,1≤s.size
 inn:∀ i,i < n→∀ j∈S.ar.getD i [],j < n
 few:∀ i,i < n→(S.ar.getD i []).length < 1099511627776
set_option maxHeartbeats 4000000 in
theorem tmJoin_c (wi ni ai ui:Nat) (hne:ND wi ni ai ui) (S:TmS) (n:Nat) (hS:JoinOk S n) (hw:WfU n S.up) (hpot:potU S.ar S.up < 1099511627776) (a b:Nat) (ha:a < n) (hb:b < n) (f:Nat) (r:List Nat × Bool) (hr:tjF S.nm S.ar f [(a,b)] S.up true=some r) (H:AHeap) (hH:Holds H (tmB wi ni ai ui S)) :
  ACalls Tryz.prog 106 [.ref wi 0,nV a,nV b] H (boolV r.2) (puts H (tmB wi ni ai ui { S with up:=r.1 })):=by
 have hself:puts H (tmB wi ni ai ui S)=H:=puts_self hH
 have hnw:¬ wi=ni∧¬ wi=ai∧¬ wi=ui:=by have:=hne;simp only [List.nodup_cons,List.mem_cons,List.not_mem_nil,or_false,not_or] at this;exact this.1
 obtain ⟨gw0,gn0,ga0,gu0,_⟩:=id hH
 refine acalls_walk (fun d=>if d=16 then .own else if d=137 then .lit else .imm) [0,1,2,6,7,8,9,10,11,12,19,41,44,54,95,112] Tryz.mixed Tryz.func106 rfl rfl rfl (by decide) (fun hcl hlow=>?_)
 have hwl:wi < H.next:=(hcl _ _ gw0).1
 have hnl:ni < H.next:=(hcl _ _ gn0).1
 have hal:ai < H.next:=(hcl _ _ ga0).1
 have hul:ui < H.next:=(hcl _ _ gu0).1
 have hcc:=fun S=>tm_closed (S:=S) hcl hwl hnl hal hul
 have hnx:∀ S,(puts H (tmB wi ni ai ui S)).next=H.next:=fun S=>tm_next S
 have g1:=fun S bs=>tm_gw (H:=H) hne hwl S bs
 have g4:=fun S bs=>tm_gu (H:=H) hne hul S bs
 have hh:∀ S bs,Holds (HL (puts H (tmB wi ni ai ui S)) bs) (tmB wi ni ai ui S):=fun S bs=>(holds_HL (fun p hp=>(tmB_low (n:=(puts H (tmB wi ni ai ui S)).next) (by rw [hnx];exact hwl) (by rw [hnx];exact hnl) (by rw [hnx];exact hal) (by rw [hnx];exact hul) S p hp).1)).2 (tm_holds hne S)
 refine awp_sr fun K hK=>?_;simp;apply hK;clear hK K;refine awp_sr fun K hK=>?_;simp;apply hK;clear hK K;refine awp_sr fun K hK=>?_;simp;apply hK;clear hK K;refine awp_seq_k fun K0 hK0=>?_;refine awp_block ?_
 refine awp_loop (fun m env H'=>∃ (todo:List (Nat × Nat)) (rows:List (List AV)) (up:List Nat) (ok:Bool),tjF S.nm S.ar m todo up ok=some r∧WfU n up∧(∀ p∈todo,p.1 < n∧p.2 < n)∧todo.length+potU S.ar up < 2199023255552 ∧
   rows.take todo.length=todo.map pairC∧(∀ x∈rows,x.length=2∧x.all (·.one)=true)∧(∀ k,lowR k rows)∧todo.length≤rows.length ∧
   env=Env.ofL [(0,.ref wi 0),(7,boolV ok),(8,.view (nid H.next 0) rows.length todo.length)]∧H'=HL (puts H (tmB wi ni ai ui { S with up:=up })) [.tok rows.length 2 (some rows)])
  f (env2:=Env.ofL [(0,.ref wi 0),(7,boolV true),(8,.view (nid H.next 0) 1 1)]) (H2:=HL (puts H (tmB wi ni ai ui S)) [.tok 1 2 (some [[nV a,nV b]])])
  (by rw [hself];exact weak_HL hcl rfl (by simp;exact WkR.refl _) (by simp [lt_nid hwl,Wk.vecView])) ⟨[(a,b)],[pairC (a,b)],S.up,true,hr,hw,by simp [ha,hb],by simp;omega,rfl,by simp [pairC],fun k=>⟨⟨trivial,trivial,trivial⟩,trivial⟩,by simp,rfl,rfl⟩ ?_
 clear hr
 rintro m env H' ⟨todo,rows,up,ok,hr,hw,ht,hsz,htake,hrow,hlowr,hle,rfl,rfl⟩
 cases m with
 | zero=>simp [tjF] at hr
 | succ m =>
 rw [tjF] at hr
 cases hl:todo.getLast? with
 | none =>
  obtain rfl:todo=[]:=by simpa using hl
  rw [hl] at hr
  simp only [Option.some.injEq] at hr
  subst hr
  repeat with_reducible refine awp_assoc ?_
  refine awp_sr fun K hK=>?_;simp;apply hK;clear hK K;refine awp_seq_k fun K hK=>?_;refine awp_condF rfl (by simp) ?_;refine awp_exit ?_;simp
  refine hK0 _ _ ?_
  clear hK0
  refine awp_sr fun K hK=>?_;simp;apply hK;clear hK K;simp [reset_all (hcc _)]
 | some p =>
  rw [hl] at hr
  simp only at hr
  have hp:=ht p (List.mem_of_getLast? hl)
  have hnil:todo≠[]:=by intro e;rw [e] at hl;simp at hl
  have hpos:0 < todo.length:=List.length_pos_iff.2 hnil
  have hdl:todo.dropLast.length=todo.length - 1:=List.length_dropLast
  have ht':∀ q∈todo.dropLast,q.1 < n∧q.2 < n:=fun q hq=>ht q (List.dropLast_subset _ hq)
  have hlast:rows[todo.length - 1]?=some (pairC p):=by
   have h1:(rows.take todo.length)[todo.length - 1]?=some (pairC p):=by
    rw [htake,List.getElem?_map,←List.getLast?_eq_getElem?,hl];rfl
   rwa [List.getElem?_take_of_lt (by omega)] at h1
  have hx1:(todo.length:Int) - 1=((todo.length - 1:Nat):Int):=by omega
  have hw1:IntKind.i64.wrap ((todo.length:Int) - 1)=((todo.length - 1:Nat):Int):=by rw [hx1,wrap64 (by omega) (by omega)]
  have ht1:(0:Int) < todo.length:=by omega
  have ht2:todo.length - 1 < todo.length:=by omega
  have hrl:∀ x∈rows,x.length=2:=fun x hx=>(hrow x hx).1
  repeat with_reducible refine awp_assoc ?_
  refine awp_sr fun K hK=>?_;simp [hpos];apply hK;clear hK K;refine awp_seq_k fun K hK=>?_;refine awp_condT rfl (by simp [hpos]) ?_;refine awp_skip ?_;apply hK;clear hK K;refine awp_block ?_;refine awp_sr fun K hK=>?_;refine aOps_split 4 fun K hK=>?_;simp [hw1];apply hK;clear hK K;refine aOps_split 1 fun K hK=>?_;simp [hnx,ht2];apply hK;clear hK K;refine aOps_split 1 fun K hK=>?_;simp [hnx,hlast,pairC]
  refine ⟨hrl,hK _ _ ?_⟩
  clear hK K;simp [hnx];apply hK
  clear hK
  have t1:((todo.length - 1:Nat):Int)≤todo.length:=by omega
  refine awp_sr fun K hK=>?_;refine aOps_split 4 fun K hK=>?_;simp [hw1];apply hK;clear hK K;refine aOps_split 1 fun K hK=>?_;simp [hw1,t1,aSlice,bnd];apply hK;clear hK K;simp;apply hK
  clear hK
  have c1:=fun bs=>top_of wi ni ai ui { S with up:=up } hw p.1 hp.1 _ (hh { S with up:=up } bs)
  have c2:=fun bs=>top_of wi ni ai ui { S with up:=up } hw p.2 hp.2 _ (hh { S with up:=up } bs)
  have l1:=hw.top_lt hp.1
  have l2:=hw.top_lt hp.2
  have f1:=hw.top_fix hp.1
  have f2:=hw.top_fix hp.2
  refine awp_sdc [] [[],[0],[0],[],[0,1,2,3],[0,1,2,3,4],[0,1,2,3,4],[],[],[]] (by kernel_rfl) (by rfl) fun K hK=>?_;refine aCalm_pre 3 (by rfl) fun K hK=>?_;simp [hnx];apply hK;clear hK K;refine aCalm_call0 (c1 _) (by first | rfl | simp) rfl rfl rfl (by first | (simp;done) | rfl) ?_;refine aCalm_pre 3 (by rfl) fun K hK=>?_;simp [hnx];apply hK;clear hK K;refine aCalm_call0 (c2 _) (by first | rfl | simp) rfl rfl rfl (by first | (simp;done) | rfl) ?_;refine aCalm_pre 2 (by rfl) fun K hK=>?_;simp;apply hK;clear hK K;refine aCalm_end ?_;simp;apply hK;clear hK K;simp only at c1 c2
  generalize topOf up p.1=i at *
  generalize topOf up p.2=k at *
  have hdtake:rows.take todo.dropLast.length=todo.dropLast.map pairC:=by
   have h1:=congrArg List.dropLast htake
   rw [List.dropLast_eq_take,List.take_take,List.length_take,←List.map_dropLast] at h1
   rw [hdl,←h1]
   congr 1;omega
  have hcont:∀ (todo':List (Nat × Nat)) (up':List Nat) (ok':Bool) (rows':List (List AV)) (lenv:List (Nat × AV)) (bs:List ABlock),tjF S.nm S.ar m todo' up' ok'=some r→WfU n up'→(∀ p∈todo',p.1 < n∧p.2 < n)→todo'.length+potU S.ar up' < 2199023255552 →
    rows'.take todo'.length=todo'.map pairC→(∀ x∈rows',x.length=2∧x.all (·.one)=true)→(∀ k,lowR k rows')→todo'.length≤rows'.length →
    WkEnv (nid H.next 1) (Env.ofL lenv) [(0,.ref wi 0),(7,boolV ok'),(8,.view (nid H.next 0) rows'.length todo'.length)] →
    ∃ k env2 H2,Weak H.next (Env.ofL lenv) (HL (puts H (tmB wi ni ai ui { S with up:=up' })) (.tok rows'.length 2 (some rows')::bs)) env2 H2∧k < m+1 ∧
     ∃ (todo:List (Nat × Nat)) (rows:List (List AV)) (up:List Nat) (ok:Bool),tjF S.nm S.ar k todo up ok=some r∧WfU n up∧(∀ p∈todo,p.1 < n∧p.2 < n)∧todo.length+potU S.ar up < 2199023255552 ∧
      rows.take todo.length=todo.map pairC∧(∀ x∈rows,x.length=2∧x.all (·.one)=true)∧(∀ k,lowR k rows)∧todo.length≤rows.length ∧
      env2=Env.ofL [(0,.ref wi 0),(7,boolV ok),(8,.view (nid H.next 0) rows.length todo.length)]∧H2=HL (puts H (tmB wi ni ai ui { S with up:=up })) [.tok rows.length 2 (some rows)]:=by
   intro todo' up' ok' rows' lenv bs h1 h2 h3 h4 h5 h6 h7 h8 h9
   exact ⟨m,_,_,weak_HL (hcc _) (hnx _) (bs':=[.tok rows'.length 2 (some rows')]) (l':=[(0,.ref wi 0),(7,boolV ok'),(8,.view (nid H.next 0) rows'.length todo'.length)]) (by simp [h7,WkR.refl]) h9,by omega,todo',rows',up',ok',h1,h2,h3,h4,h5,h6,h7,h8,rfl,rfl⟩
  by_cases hik:i=k
  ·subst hik
   rw [if_pos rfl] at hr
   repeat with_reducible refine awp_assoc ?_
   refine awp_sr fun K hK=>?_;simp;apply hK;clear hK K;refine awp_seq_k fun K hK=>?_;refine awp_condT rfl (by simp) ?_
   exact awp_exit (hcont todo.dropLast up ok rows _ _ hr hw ht' (by omega) hdtake hrow hlowr (by omega) (by simp [lt_nid hwl,hdl]))
  rw [if_neg hik] at hr
  have hik':¬ ((i:Nat):Int)=(k:Int):=by omega
  have p1:=potU_set (ar:=S.ar) (by rw [hw.len];exact l1) f1 hik
  have p2:=potU_set (ar:=S.ar) (by rw [hw.len];exact l2) f2 (fun e=>hik e.symm)
  have w1:=hw.set l1 l2 f1 f2 hik
  have w2:=hw.set l2 l1 f2 f1 (fun e=>hik e.symm)
  obtain ⟨si,hsi⟩:∃ s,S.nm[i]?=some s:=⟨_,List.getElem?_eq_getElem (by rw [hS.nm];exact l1)⟩
  obtain ⟨sk,hsk⟩:∃ s,S.nm[k]?=some s:=⟨_,List.getElem?_eq_getElem (by rw [hS.nm];exact l2)⟩
  have ei:S.nm.getD i ByteArray.empty=si:=by rw [List.getD_eq_getElem?_getD,hsi];rfl
  have ek:S.nm.getD k ByteArray.empty=sk:=by rw [List.getD_eq_getElem?_getD,hsk];rfl
  have cv1:=fun bs=>tmVar_c wi ni ai ui { S with up:=up } i si hsi (hS.one _ (List.mem_of_getElem? hsi)) _ (hh { S with up:=up } bs)
  have cv2:=fun bs=>tmVar_c wi ni ai ui { S with up:=up } k sk hsk (hS.one _ (List.mem_of_getElem? hsk)) _ (hh { S with up:=up } bs)
  have hil:i < up.length:=by rw [hw.len];exact l1
  have hkl:k < up.length:=by rw [hw.len];exact l2
  have hor:=one_rows up
  have hgi:=upAt_get hil
  have hgk:=upAt_get hkl
  have us:∀ (x y:Nat) bs,(HL (puts H (tmB wi ni ai ui { S with up:=up })) bs).upd ui (.tok up.length 1 (some ((up.map fun i=>[nV i]).set x [nV y])))=HL (puts H (tmB wi ni ai ui { S with up:=up.set x y })) bs:=fun x y bs=>by
   rw [set_nats];exact tm_up2 hne hul { S with up:=up } (up.set x y) (by simp) bs
  repeat with_reducible refine awp_assoc ?_
  refine awp_sr fun K hK=>?_;simp [hik'];apply hK;clear hK K;refine awp_seq_k fun K hK=>?_;refine awp_condF rfl (by simp) ?_;refine awp_skip ?_;apply hK;clear hK K
  unfold vrAt at hr
  rw [ei,ek] at hr
  repeat with_reducible refine awp_assoc ?_
  refine awp_sr fun K hK=>?_;refine aOps_split 2 fun K hK=>?_;simp;apply hK;clear hK K;refine aOps_call (cv1 _) (by first | rfl | simp) rfl rfl (by first | (simp;done) | rfl) ?_;simp;apply hK;clear hK K
  cases hv1:headP smallB si
  rotate_left
  ·rw [hv1,if_pos rfl] at hr
   refine awp_seq_k fun K hK=>?_;refine awp_condT rfl (by simp [hv1]) ?_;refine awp_sr fun K hK=>?_;refine aOps_split 4 fun K hK=>?_;simp [g1];apply hK;clear hK K;refine aOps_split 3 fun K hK=>?_;simp [hil];apply hK;clear hK K;simp [g4,hil,hor,hgi,us];apply hK;clear hK K
   exact awp_exit (hcont todo.dropLast (up.set i k) ok rows _ _ hr w1 ht' (by omega) hdtake hrow hlowr (by omega) (by simp [lt_nid hwl,hdl]))
  rw [hv1,if_neg (by simp)] at hr
  refine awp_seq_k fun K hK=>?_;refine awp_condF rfl (by simp [hv1]) ?_;refine awp_skip ?_;apply hK;clear hK K;repeat with_reducible refine awp_assoc ?_
  refine awp_sr fun K hK=>?_;refine aOps_split 2 fun K hK=>?_;simp;apply hK;clear hK K;refine aOps_call (cv2 _) (by first | rfl | simp) rfl rfl (by first | (simp;done) | rfl) ?_;simp;apply hK;clear hK K
  cases hv2:headP smallB sk
  rotate_left
  ·rw [hv2,if_pos rfl] at hr
   refine awp_seq_k fun K hK=>?_;refine awp_condT rfl (by simp [hv2]) ?_;refine awp_sr fun K hK=>?_;refine aOps_split 4 fun K hK=>?_;simp [g1];apply hK;clear hK K;refine aOps_split 3 fun K hK=>?_;simp [hkl];apply hK;clear hK K;simp [g4,hkl,hor,hgk,us];apply hK;clear hK K
   exact awp_exit (hcont todo.dropLast (up.set k i) ok rows _ _ hr w2 ht' (by omega) hdtake hrow hlowr (by omega) (by simp [lt_nid hwl,hdl]))
  rw [hv2,if_neg (by simp)] at hr
  refine awp_seq_k fun K hK=>?_;refine awp_condF rfl (by simp [hv2]) ?_;refine awp_skip ?_;apply hK;clear hK K
  obtain ⟨ai',hai⟩:∃ s,S.ar[i]?=some s:=⟨_,List.getElem?_eq_getElem (by rw [hS.ar];exact l1)⟩
  obtain ⟨ak',hak⟩:∃ s,S.ar[k]?=some s:=⟨_,List.getElem?_eq_getElem (by rw [hS.ar];exact l2)⟩
  have eai:S.ar.getD i []=ai':=by rw [List.getD_eq_getElem?_getD,hai];rfl
  have eak:S.ar.getD k []=ak':=by rw [List.getD_eq_getElem?_getD,hak];rfl
  have hfa:=hS.few i l1
  have hfk:=hS.few k l2
  have hia:=hS.inn i l1
  have hka:=hS.inn k l2
  rw [eai] at hfa hia p1
  rw [eak] at hfk hka p2
  rw [eai,eak] at hr
  repeat with_reducible refine awp_assoc ?_
  refine awp_sdc [] [[],[],[],[],[0,1,2,3],[0],[0,1],[0,1,2,3,4,5,6],[0,1,2,3,4,5,6],[0,1,2,3,4,5,6],[0,1,2,3,4,5,6],[0,1,2,3,4,5,6,7,8,9,10],[0,1,2,3,4,5,6,7],[0,1,2,3,4,5,6,7,8],[0,1,2,7,8,9],[0,1,2,3,4,7,8,9,10,11],[0,1,2,3,4,5,7,8,9,10,11,12],[0,1,2,3,4,5,7,8,9,10,11,12],[0,1,2,3,4,5,7,8,9,10,11,12],[0,1,2,3,4,5,7,8,9,10,11,12],[0,1,2,3,4,5,7,8,9,10,11,12,16,17,18,19],[0,1,2,3,4,5,7,8,9,10,11,12,16],[0,1,2,3,4,5,7,8,9,10,11,12,16,17],[0,1,2,3,4,5,7,8,9,10,11,12,16,17,18],[0,1,2,3,4,5,7,8,9,10,11,12,16,17,18,19,20,21,22,23],[0,1,2,3,4,5,7,8,9,10,11,12,16,17,18,19,20,21,22,23],[0,1,2,3,4,5,7,8,9,10,11,12,16,17,18,19,20,21,22,23],[0,1,2,3,4,5,7,8,9,10,11,12,16,17,18,19,20,21,22,23],[0,1,2,3,4,5,7,8,9,10,11,12,16,17,18,19,20,21,22,23,24,25,26,27],[0,1,2,3,4,5,7,8,9,10,11,12,16,17,18,19,20,21,22,23,24],[0,1,2,3,4,5,7,8,9,10,11,12,16,17,18,19,20,21,22,23,24,25],[0,1,2,3,4,5,7,8,9,10,11,12,16,17,18,19,20,21,22,23,24,25,26],[0,1,2,3,4,5,7,8,9,10,11,12,16,17,18,19,20,24,25,26,27,28],[0,1,2,3,4,5,7,8,9,10,11,12,16,17,18,19,20,21,24,25,26,27,28,29]] (by kernel_rfl) (by rfl) fun K hK=>?_
  suffices hk2:∀ c:Bool,c=decide (¬ (si=sk∧ai'.length=ak'.length))→K (Env.ofL [(0,.ref wi 0),(1,.undef),(2,.undef),(6,.undef),(7,boolV ok),(8,.view (nid H.next 0) rows.length (todo.length - 1)),(9,.ref (nid H.next 1) 0),(10,nV i),(11,nV k),(12,.undef),(19,boolV true),(41,boolV false),(44,boolV false),(54,boolV false),(95,boolV c),(112,.undef)])
    (HL (puts H (tmB wi ni ai ui { S with up:=up })) [.tok rows.length 2 (some rows),.cells [nV p.1,nV p.2]]) by
   by_cases hss:si=sk
   ·have hss':¬ ¬ si=sk:=fun h=>h hss
    refine aCalm_pre 4 (by rfl) fun K hK=>?_;simp [g1];apply hK;clear hK K;refine aCalm_pre 3 (by rfl) fun K hK=>?_;simp [hsi];apply hK;clear hK K;refine aCalm_pre 4 (by rfl) fun K hK=>?_;simp [g1];apply hK;clear hK K;refine aCalm_pre 3 (by rfl) fun K hK=>?_;simp [hsk];apply hK;clear hK K;refine aCalm_pre 5 (by rfl) fun K hK=>?_;simp [g1,hss];apply hK;clear hK K;refine aCalm_pre 3 (by rfl) fun K hK=>?_;simp [g1,hai];apply hK;clear hK K;refine aCalm_pre 3 (by rfl) fun K hK=>?_;simp [hai,argV];apply hK;clear hK K;refine aCalm_pre 3 (by rfl) fun K hK=>?_;simp [g1];apply hK;clear hK K;refine aCalm_pre 3 (by rfl) fun K hK=>?_;simp [hak];apply hK;clear hK K
    by_cases hll:ai'.length=ak'.length
    ·refine aCalm_pre 3 (by rfl) fun K hK=>?_;simp [hak,argV,hll];apply hK;clear hK K;refine aCalm_end ?_;simp
     exact hk2 false (by simp [hss,hll])
    ·have hll':¬ ((ai'.length:Nat):Int)=(ak'.length:Int):=by omega
     refine aCalm_pre 3 (by rfl) fun K hK=>?_;simp [hak,argV,hll'];apply hK;clear hK K;refine aCalm_end ?_;simp
     exact hk2 true (by simp [hll])
   ·refine aCalm_pre 4 (by rfl) fun K hK=>?_;simp [g1];apply hK;clear hK K;refine aCalm_pre 3 (by rfl) fun K hK=>?_;simp [hsi];apply hK;clear hK K;refine aCalm_pre 4 (by rfl) fun K hK=>?_;simp [g1];apply hK;clear hK K;refine aCalm_pre 3 (by rfl) fun K hK=>?_;simp [hsk];apply hK;clear hK K;refine aCalm_pre 5 (by rfl) fun K hK=>?_;simp [hss];apply hK;clear hK K;refine aCalm_pre 8 (by rfl) fun K hK=>?_;simp;apply hK;clear hK K;refine aCalm_pre 7 (by rfl) fun K hK=>?_;simp;apply hK;clear hK K;refine aCalm_end ?_;simp
    exact hk2 true (by simp [hss])
  intro c hcd
  apply hK;clear hK K
  cases c
  rotate_left
  ·have hno:¬ (si=sk∧ai'.length=ak'.length):=of_decide_eq_true hcd.symm
   rw [if_neg hno] at hr
   refine awp_seq_k fun K hK=>?_;refine awp_condT rfl (by simp) ?_;refine awp_sr fun K hK=>?_;simp;apply hK;clear hK K
   exact awp_exit (hcont todo.dropLast up false rows _ _ hr hw ht' (by omega) hdtake hrow hlowr (by omega) (by simp [lt_nid hwl,hdl]))
  have hyes:si=sk∧ai'.length=ak'.length:=Decidable.byContradiction fun h=>by have:=of_decide_eq_false hcd.symm;exact this h
  rw [if_pos hyes] at hr
  obtain ⟨_,hlen⟩:=hyes
  refine awp_seq_k fun K hK=>?_;refine awp_condF rfl (by simp) ?_;refine awp_skip ?_;apply hK;clear hK K;refine awp_sr fun K hK=>?_;refine aOps_split 4 fun K hK=>?_;simp [g1];apply hK;clear hK K;refine aOps_split 3 fun K hK=>?_;simp [hil];apply hK;clear hK K;simp [g4,hil,hor,hgi,us];apply hK;clear hK K;refine awp_sr fun K hK=>?_;simp;apply hK;clear hK K;refine awp_block ?_
  refine awp_loop (fun m2 env H'=>∃ (j:Nat) (rows':List (List AV)),m2=ai'.length - j∧j≤ai'.length∧rows'.take (todo.dropLast++(ai'.zip ak').take j).length=(todo.dropLast++(ai'.zip ak').take j).map pairC∧(∀ x∈rows',x.length=2∧x.all (·.one)=true)∧(∀ k,lowR k rows')∧(todo.dropLast++(ai'.zip ak').take j).length≤rows'.length ∧
    env=Env.ofL [(0,.ref wi 0),(7,boolV ok),(8,.view (nid H.next 0) rows'.length (todo.dropLast++(ai'.zip ak').take j).length),(10,nV i),(11,nV k),(12,intV (j:Int))]∧H'=HL (puts H (tmB wi ni ai ui { S with up:=up.set i k })) [.tok rows'.length 2 (some rows')])
   ai'.length (env2:=Env.ofL [(0,.ref wi 0),(7,boolV ok),(8,.view (nid H.next 0) rows.length todo.dropLast.length),(10,nV i),(11,nV k),(12,intV 0)]) (H2:=HL (puts H (tmB wi ni ai ui { S with up:=up.set i k })) [.tok rows.length 2 (some rows)])
   (weak_HL (hcc _) (hnx _) (by simp [hlowr,WkR.refl]) (by simp [lt_nid hwl,hdl])) ⟨0,rows,by omega,Nat.zero_le _,by simpa using hdtake,hrow,hlowr,by simp;omega,by simp,rfl⟩ ?_
  rintro m2 env H' ⟨j,rows',rfl,hj,h5,h6,h7,h8,rfl,rfl⟩
  by_cases hjl:j < ai'.length
  ·have hjk:j < ak'.length:=by omega
   have hz:(ai'.zip ak')[j]?=some (ai'[j],ak'[j]):=by
    rw [List.getElem?_zip_eq_some];exact ⟨List.getElem?_eq_getElem hjl,List.getElem?_eq_getElem hjk⟩
   have htk:(ai'.zip ak').take (j+1)=(ai'.zip ak').take j++[(ai'[j],ak'[j])]:=take_one hz
   have hjl':(j:Int) < ai'.length:=by omega
   have hj5:((ai'.zip ak').take j).length=j:=by rw [List.length_take,List.length_zip];omega
   have hx1:ai'[j]?=some ai'[j]:=List.getElem?_eq_getElem hjl
   have hx2:ak'[j]?=some ak'[j]:=List.getElem?_eq_getElem hjk
   generalize ai'[j]=x1 at hx1 hz htk
   generalize ak'[j]=x2 at hx2 hz htk
   have hlen2:(todo.dropLast++(ai'.zip ak').take (j+1)).length=(todo.dropLast++(ai'.zip ak').take j).length+1:=by rw [htk];simp only [List.length_append,List.length_singleton];omega
   have hmap2:(todo.dropLast++(ai'.zip ak').take (j+1)).map pairC=(todo.dropLast++(ai'.zip ak').take j).map pairC++[pairC (x1,x2)]:=by rw [htk,←List.append_assoc,List.map_append];rfl
   have hbig:(todo.dropLast++(ai'.zip ak').take j).length < 4398046511104:=by rw [List.length_append,hj5];omega
   have hTr:∃ rows2:List (List AV),rows2.take ((todo.dropLast++(ai'.zip ak').take j).length+1)=(todo.dropLast++(ai'.zip ak').take j).map pairC++[pairC (x1,x2)]∧(∀ x∈rows2,x.length=2∧x.all (·.one)=true)∧(∀ k,lowR k rows2)∧(todo.dropLast++(ai'.zip ak').take j).length+1≤rows2.length ∧
     (
     (rows2=rows'.take (todo.dropLast++(ai'.zip ak').take j).length++[pairC (x1,x2)]++rows'.drop ((todo.dropLast++(ai'.zip ak').take j).length+1)∧(todo.dropLast++(ai'.zip ak').take j).length+1≤rows'.length∧rows2.length=rows'.length) ∨
     (rows2=rows'++[pairC (x1,x2)]∧(todo.dropLast++(ai'.zip ak').take j).length=rows'.length∧rows2.length=rows'.length+1)):=by
    generalize todo.dropLast++(ai'.zip ak').take j=T at *
    have hP:(pairC (x1,x2)).length=2∧(pairC (x1,x2)).all (·.one)=true:=⟨rfl,rfl⟩
    have hPl:∀ k,lowR k [pairC (x1,x2)]:=fun k=>⟨⟨trivial,trivial,trivial⟩,trivial⟩
    by_cases hN:T.length+1≤rows'.length
    ·refine ⟨rows'.take T.length++[pairC (x1,x2)]++rows'.drop (T.length+1),?_,fun x hx=>?_,fun k=>?_,?_,.inl ⟨rfl,hN,?_⟩⟩
     ·rw [h5,List.take_append_of_le_length (by simp),List.take_of_length_le (by simp)]
     ·simp only [List.mem_append,List.mem_singleton] at hx
      rcases hx with (hx | rfl) | hx
      ·exact h6 x (List.mem_of_mem_take hx)
      ·exact hP
      ·exact h6 x (List.mem_of_mem_drop hx)
     ·exact (lowR_append _ _ _).2 ⟨(lowR_append _ _ _).2 ⟨lowR_take _ (h7 k),hPl k⟩,((lowR_append k (rows'.take (T.length+1)) _).1 (by rw [List.take_append_drop];exact h7 k)).2⟩
     ·simp;omega
     ·simp;omega
    ·have hN2:T.length=rows'.length:=by omega
     refine ⟨rows'++[pairC (x1,x2)],?_,fun x hx=>?_,fun k=>(lowR_append _ _ _).2 ⟨h7 k,hPl k⟩,by simp;omega,.inr ⟨rfl,hN2,by simp⟩⟩
     ·rw [←h5,hN2,List.take_of_length_le (by simp),List.take_length]
     ·simp only [List.mem_append,List.mem_singleton] at hx
      rcases hx with hx | rfl
      ·exact h6 x hx
      ·exact hP
   obtain ⟨rows2,r5,r6,r7,r8,hTc⟩:=hTr
   have hdone:∀ (lenv:List (Nat × AV)),WkEnv (nid H.next 1) (Env.ofL lenv) [(0,.ref wi 0),(7,boolV ok),(8,.view (nid H.next 0) rows2.length ((todo.dropLast++(ai'.zip ak').take j).length+1)),(10,nV i),(11,nV k),(12,intV ((j+1:Nat):Int))] →
     ∃ k_1 env2 H2,Weak H.next (Env.ofL lenv) (HL (puts H (tmB wi ni ai ui { S with up:=up.set i k })) [.tok rows2.length 2 (some rows2)]) env2 H2∧k_1 < ai'.length - j ∧
      ∃ (j:Nat) (rows':List (List AV)),k_1=ai'.length - j∧j≤ai'.length∧rows'.take (todo.dropLast++(ai'.zip ak').take j).length=(todo.dropLast++(ai'.zip ak').take j).map pairC∧(∀ x∈rows',x.length=2∧x.all (·.one)=true)∧(∀ k,lowR k rows')∧(todo.dropLast++(ai'.zip ak').take j).length≤rows'.length ∧
       env2=Env.ofL [(0,.ref wi 0),(7,boolV ok),(8,.view (nid H.next 0) rows'.length (todo.dropLast++(ai'.zip ak').take j).length),(10,nV i),(11,nV k),(12,intV (j:Int))]∧H2=HL (puts H (tmB wi ni ai ui { S with up:=up.set i k })) [.tok rows'.length 2 (some rows')]:=by
    intro lenv h9
    exact ⟨ai'.length - (j+1),_,_,weak_HL (hcc _) (hnx _) (bs':=[.tok rows2.length 2 (some rows2)]) (by simp [r7,WkR.refl]) h9,by omega,j+1,rows2,rfl,by omega,by rw [hlen2,hmap2];exact r5,r6,r7,by rw [hlen2];exact r8,by rw [hlen2],rfl⟩
   generalize todo.dropLast++(ai'.zip ak').take j=T at *
   repeat with_reducible refine awp_assoc ?_
   refine awp_sr fun K hK=>?_;refine aOps_split 5 fun K hK=>?_;simp [g1];apply hK;clear hK K;refine aOps_split 3 fun K hK=>?_;simp [hai,argV];apply hK;clear hK K;simp [hjl];apply hK;clear hK K;refine awp_seq_k fun K hK=>?_;refine awp_condT rfl (by simp [hjl]) ?_;refine awp_skip ?_;apply hK;clear hK K;refine awp_seq_k fun K2 hK2=>?_;refine awp_block ?_
   have hnwi:∀ i,¬ wi=nid H.next i:=fun i=>by unfold nid;omega
   have hnui:∀ i,¬ ui=nid H.next i:=fun i=>by unfold nid;omega
   refine awp_drawf 0 23 (fun G=>G.upd (nid H.next 0) (.tok rows2.length 2 (some rows2))) [] [[],[0],[0],[0],[0],[0,1,2,3,4],[0,1],[0,1,2],[0,1,2,3,4,5,6,7],[0,1,2,3],[0,1,2,3,4,5],[0,1,2,3,4,5,6,7,8,9,10],[0,1,2,3,4,5,6,7,8,9,10],[0,1,2,3,4,5,6,7,8,9,10],[0,1,2,3,4,5,6,7,8,9,10],[0,1,2,3,4,5,6,7,8,9,10,11,12,13,14],[0,1,2,3,4,5,6,7,8,9,10,11],[0,1,2,3,4,5,6,7,8,9,10,11,12],[0,1,2,3,4,5,6,7,8,9,10,11,12,13,14,15,16,17],[0,1,2,3,4,5,6,7,8,9,10,11,12,13],[0,1,2,3,4,5,6,7,8,9,10,11,12,13,14,15],[0,1,2,3,4,5,6,11,12,13,14,15,16],[0,1,2,3,4,5,6,7,8,11,12,13,14,15,16,17,18],[1,2,3,4,5,6,7,8,9,11,12,13,14,15,16,17,18,19],[]] (by kernel_rfl) (by rfl) (by rfl) ?_
   simp only [holes]
   refine fLex_pre (nid H.next 0) 5 (fun G i h=>upd_off G i h) (by rfl) fun K2 hK2=>?_
   simp [oOps,offs,AV.off,Op.operands,Call.operands,regM,litOp,isReg,isLit,noTok,g1,hnwi]
   refine hK2 _ ?_
   clear hK2 K2
   refine fLex_pre (nid H.next 0) 3 (fun G i h=>upd_off G i h) (by rfl) fun K2 hK2=>?_
   simp [oOps,offs,AV.off,Op.operands,Call.operands,regM,litOp,isReg,isLit,noTok,hai,argV]
   refine hK2 _ ?_
   clear hK2 K2
   refine fLex_pre (nid H.next 0) 3 (fun G i h=>upd_off G i h) (by rfl) fun K2 hK2=>?_
   simp [oOps,offs,AV.off,Op.operands,Call.operands,regM,litOp,isReg,isLit,noTok,hx1]
   refine hK2 _ ?_
   clear hK2 K2
   refine fLex_pre (nid H.next 0) 4 (fun G i h=>upd_off G i h) (by rfl) fun K2 hK2=>?_
   simp [oOps,offs,AV.off,Op.operands,Call.operands,regM,litOp,isReg,isLit,noTok,g1,hnwi]
   refine hK2 _ ?_
   clear hK2 K2
   refine fLex_pre (nid H.next 0) 3 (fun G i h=>upd_off G i h) (by rfl) fun K2 hK2=>?_
   simp [oOps,offs,AV.off,Op.operands,Call.operands,regM,litOp,isReg,isLit,noTok,hak,argV]
   refine hK2 _ ?_
   clear hK2 K2
   refine fLex_pre (nid H.next 0) 3 (fun G i h=>upd_off G i h) (by rfl) fun K2 hK2=>?_
   simp [oOps,offs,AV.off,Op.operands,Call.operands,regM,litOp,isReg,isLit,noTok,hx2]
   refine hK2 _ ?_
   clear hK2 K2
   refine fLex_pre (nid H.next 0) 2 (fun G i h=>upd_off G i h) (by rfl) fun K2 hK2=>?_
   simp [oOps,offs,AV.off,Op.operands,Call.operands,regM,litOp,isReg,isLit,noTok]
   refine hK2 _ ?_
   clear hK2 K2
   refine fLex_self (v:=.view (nid H.next 0) rows2.length (T.length+1)) rfl rfl ?_ (by simp) ?_
   ·rcases hTc with ⟨e1,e2,e3⟩ | ⟨e1,e2,e3⟩
    ·simp [Det,hnx]
     refine ⟨by omega,fun r hr=>⟨(h6 r hr).1,by have:=(h6 r hr).2;simpa using this⟩,by omega,?_⟩
     rw [if_pos e2]
     refine ⟨e3.symm,?_⟩
     rw [e3,e1]
     simp [pairC]
    ·simp [Det,hnx]
     refine ⟨by omega,fun r hr=>⟨(h6 r hr).1,by have:=(h6 r hr).2;simpa using this⟩,by omega,?_⟩
     rw [if_neg (by omega)]
     refine ⟨e2,⟨e3.symm,e2.symm⟩,?_⟩
     rw [e3,e1]
     simp [pairC]
   refine fLex_pre (nid H.next 0) 1 (fun G i h=>upd_off G i h) (by rfl) fun K2 hK2=>?_
   simp [oOps,offs,AV.off,Op.operands,Call.operands,regM,litOp,isReg,isLit,noTok]
   refine hK2 _ ?_
   clear hK2 K2
   refine fLex_end ?_
   simp [hnx]
   refine hK2 _ _ ?_
   clear hK2
   refine awp_rk fun K hK=>?_;simp [wrap_succ (show j < 4611686018427387904 by omega)]
   exact hK _ _ (hdone _ (by simp [lt_nid hwl]))
  ·obtain rfl:j=ai'.length:=by omega
   have hz:(ai'.zip ak').take ai'.length=ai'.zip ak':=List.take_of_length_le (by rw [List.length_zip];omega)
   rw [hz] at h5 h8 ⊢
   repeat with_reducible refine awp_assoc ?_
   refine awp_sr fun K hK=>?_;refine aOps_split 5 fun K hK=>?_;simp [g1];apply hK;clear hK K;refine aOps_split 3 fun K hK=>?_;simp [hai,argV];apply hK;clear hK K;simp;apply hK;clear hK K;refine awp_seq_k fun K hK=>?_;refine awp_condF rfl (by simp) ?_;refine awp_exit ?_
   refine hcont (todo.dropLast++ai'.zip ak') (up.set i k) ok rows' _ _ hr w1 (fun q hq=>?_) (by rw [List.length_append,List.length_zip];omega) h5 h6 h7 h8 (by simp [lt_nid hwl])
   rcases List.mem_append.1 hq with hq | hq
   ·exact ht' q hq
   ·have:=List.of_mem_zip hq
    exact ⟨hia _ this.1,hka _ this.2⟩
end Go.Proofs.YtgeehnbbhnpimaaGreat
namespace Go.Proofs.YtgeehnbbhnpimaaGreat
open Go Go.Abs Go.Proofs
set_option maxRecDepth 20000
attribute [local simp] aOps wantedA aStep aop aLoad aStore aBin aUn aFieldAddr aField aIndexAddr aIndex aLen aBuild aFill aAlloc aAppend aBuildSlice litRows newRows isMut isOwn isNilS nilsW bytesR tokW tokAV tokL ret readC splice aeval isLit isLate AV.celled AV.one AV.ofValue Value.oneCell' Value.cells intOp strOp get_nid upd_nid awp aEnd aResults aResult Det unord isCall isNext
attribute [local simp] low_take low_strs low_comp low_tcomp wkEs_refl' WkBs WkEnv WkB WkL WkE WkO ABlock.low lowO lowL lowR AV.low cellsL_eq Ty.low low_map Ty.cells_length Ty.cells_one
attribute [local simp] low_bind
def mxN:Nat:=1099511627776
structure HS where
 sz:List Nat
 dp:List Nat
 dn:List Bool
section
variable (τ:Nat→Nat)
def argScan (st:HS):List Nat→Nat→Nat→Option (Nat × Nat)
 | [],s,d=>some (s,d)
 | a::l,s,d=>if st.dn.getD (τ a) false=true then argScan st l (min (s+st.sz.getD (τ a) 0) mxN) (max d (st.dp.getD (τ a) 0)) else none
def nodeH (ar:List (List Nat)) (up:List Nat) (st:HS) (i:Nat):HS × Bool :=
 if upAt up i=i∧st.dn.getD i false=false then (match argScan τ st (ar.getD i []) 1 0 with
  | some (s,d)=>(⟨st.sz.set i s,st.dp.set i (d+1),st.dn.set i true⟩,true)
  | none=>(st,false))
 else (st,false)
def roundH (ar:List (List Nat)) (up:List Nat) (st:HS):Nat→HS × Bool
 | 0=>(st,false)
 | k+1=>((nodeH τ ar up (roundH ar up st k).1 k).1,(roundH ar up st k).2 || (nodeH τ ar up (roundH ar up st k).1 k).2)
def iterH (ar:List (List Nat)) (up:List Nat) (n:Nat):Nat→HS→HS
 | 0,st=>st
 | r+1,st=>if (roundH τ ar up st n).2=true then iterH ar up n r (roundH τ ar up st n).1 else (roundH τ ar up st n).1
def heightsS (ar:List (List Nat)) (up:List Nat) (n:Nat):HS:=iterH τ ar up n (n+1) ⟨List.replicate n 0,List.replicate n 0,List.replicate n false⟩
def heightsOk (up:List Nat) (st:HS) (n:Nat):Bool:=(List.range n).all fun i=>!(upAt up i == i) || st.dn.getD i false
def cntT (l:List Bool):Nat:=(l.filter id).length
structure HOk (n:Nat) (st:HS):Prop where
 sz:st.sz.length=n
 dp:st.dp.length=n
 dn:st.dn.length=n
 mx:∀ i,st.sz.getD i 0≤mxN
 md:∀ i,st.dp.getD i 0≤cntT st.dn
variable {τ}
theorem cntT_le (l:List Bool):cntT l≤l.length:=List.length_filter_le _ _
theorem cntT_set:∀ {l:List Bool} {i:Nat},i < l.length→l.getD i false=false→cntT (l.set i true)=cntT l+1
 | [],i,h,_=>by simp at h
 | b::l,0,_,h=>by
  simp only [List.getD_cons_zero] at h
  subst h
  simp [cntT]
 | b::l,i+1,hi,h=>by
  have:=cntT_set (l:=l) (i:=i) (by simpa using hi) (by simpa using h)
  unfold cntT at this ⊢
  simp only [List.set_cons_succ,List.filter_cons]
  split
  ·simp only [List.length_cons,this]
  ·exact this
theorem getD_set {α:Type} (l:List α) (i j:Nat) (x d:α) (hi:i < l.length):(l.set i x).getD j d=if j=i then x else l.getD j d:=by
 simp only [List.getD_eq_getElem?_getD,List.getElem?_set]
 by_cases h:j=i
 ·subst h;simp [hi]
 ·have h':¬ i=j:=fun e=>h e.symm
  simp [h,h']
theorem argScan_le (st:HS) {n:Nat} (hst:HOk n st):∀ (l:List Nat) (s d:Nat),s≤mxN→d≤cntT st.dn→∀ p,argScan τ st l s d=some p→p.1≤mxN∧p.2≤cntT st.dn
 | [],s,d,hs,hd,p,h=>by simp only [argScan,Option.some.injEq] at h;subst h;exact ⟨hs,hd⟩
 | a::l,s,d,hs,hd,p,h=>by
  simp only [argScan] at h
  split at h
  ·exact argScan_le st hst l _ _ (Nat.min_le_right _ _) (Nat.max_le.2 ⟨hd,hst.md _⟩) p h
  ·cases h
theorem nodeH_ok {ar:List (List Nat)} {up:List Nat} {n i:Nat} {st:HS} (hst:HOk n st) (hi:i < n):HOk n (nodeH τ ar up st i).1:=by
 unfold nodeH
 split
 ·rename_i hc
  split
  ·rename_i s d he
   have hb:=argScan_le st hst _ _ _ (by unfold mxN;omega) (Nat.zero_le _) _ he
   have hcnt:=cntT_set (l:=st.dn) (by rw [hst.dn];exact hi) hc.2
   refine ⟨by simp [hst.sz],by simp [hst.dp],by simp [hst.dn],fun j=>?_,fun j=>?_⟩
   ·rw [getD_set _ _ _ _ _ (by rw [hst.sz];exact hi)]
    split
    ·exact hb.1
    ·exact hst.mx j
   ·simp only [hcnt]
    rw [getD_set _ _ _ _ _ (by rw [hst.dp];exact hi)]
    split
    ·have:=hb.2;simp only at this ⊢;omega
    ·have:=hst.md j;omega
  ·exact hst
 ·exact hst
theorem roundH_ok {ar:List (List Nat)} {up:List Nat} {n:Nat} {st:HS} (hst:HOk n st):∀ k,k≤n→HOk n (roundH τ ar up st k).1
 | 0,_=>hst
 | k+1,h=>nodeH_ok (roundH_ok hst k (by omega)) (by omega)
theorem hok0 (n:Nat):HOk n ⟨List.replicate n 0,List.replicate n 0,List.replicate n false⟩ :=
 ⟨by simp,by simp,by simp,fun i=>by simp only [List.getD_eq_getElem?_getD,List.getElem?_replicate];split <;> simp,fun i=>by simp only [List.getD_eq_getElem?_getD,List.getElem?_replicate];split <;> simp⟩
end
end Go.Proofs.YtgeehnbbhnpimaaGreat
