/- The reference's least general type. -/
import Derived.Test.YtgeehnbbhnpimaaGreatMR4
import Derived.Test.YtgeehnbbhnpimaaGreatME
set_option linter.unusedVariables false
set_option linter.unusedSimpArgs false
namespace Go.Proofs.YtgeehnbbhnpimaaGreat
open Go Go.Abs Go.Proofs
set_option maxRecDepth 20000
attribute [local simp] aOps wantedA aStep aop aLoad aStore aBin aUn aFieldAddr aField aIndexAddr aIndex aLen aBuild aFill aAlloc aAppend aBuildSlice litRows newRows isMut isOwn isNilS nilsW bytesR tokW tokAV tokL ret readC splice aeval isLit isLate AV.celled AV.one AV.ofValue Value.oneCell' Value.cells intOp strOp get_nid upd_nid awp aEnd aResults aResult Det unord isCall isNext
attribute [local simp] low_take low_strs low_comp low_tcomp wkEs_refl' WkBs WkEnv WkB WkL WkE WkO ABlock.low lowO lowL lowR AV.low cellsL_eq Ty.low low_map Ty.cells_length Ty.cells_one
attribute [local simp] low_bind
abbrev PairsL:=List (Ty × Ty)
def posP:PairsL→Ty→Ty→Nat
 | [],_,_=>0
 | q::L,a,b=>if eqT q.1 a && eqT q.2 b then 0 else posP L a b+1
def addP (L:PairsL) (a b:Ty):PairsL:=if posP L a b < L.length then L else L++[(a,b)]
mutual
def cmT:Ty→Ty→PairsL→Ty × PairsL
 | .mk n l,b,L=>if headP smallB n=false∧b.isVar=false∧n=b.name∧l.length=b.args.length then (.mk n (cmL l b.args L).1,(cmL l b.args L).2)
   else (.mk (letS (posP L (.mk n l) b)) [],addP L (.mk n l) b)
def cmL:List Ty→List Ty→PairsL→List Ty × PairsL
 | p::ps,t::ts,L=>((cmT p t L).1::(cmL ps ts (cmT p t L).2).1,(cmL ps ts (cmT p t L).2).2)
 | _,_,L=>([],L)
end
theorem cmL_append (a b c d:List Ty) (h:a.length=c.length) (L:PairsL):cmL (a++b) (c++d) L=((cmL a c L).1++(cmL b d (cmL a c L).2).1,(cmL b d (cmL a c L).2).2):=by
 induction a generalizing c L with
 | nil=>cases c with
  | nil=>simp [cmL]
  | cons=>simp at h
 | cons p ps ih=>cases c with
  | nil=>simp at h
  | cons t ts =>
   simp only [List.cons_append,cmL]
   rw [ih ts (by simpa using h)]
theorem cmL_take {l l':List Ty} {k:Nat} {x y:Ty} (hl:l.length=l'.length) (hx:l[k]?=some x) (hy:l'[k]?=some y) (L:PairsL) :
  cmL (l.take (k+1)) (l'.take (k+1)) L=((cmL (l.take k) (l'.take k) L).1++[(cmT x y (cmL (l.take k) (l'.take k) L).2).1],(cmT x y (cmL (l.take k) (l'.take k) L).2).2):=by
 rw [take_one hx,take_one hy,cmL_append _ _ _ _ (by simp [hl])]
 simp [cmL]
theorem cmL_len:∀ (l l':List Ty) (L:PairsL),l.length=l'.length→(cmL l l' L).1.length=l.length
 | [],l',L,_=>by simp [cmL]
 | p::ps,[],L,h=>by simp at h
 | p::ps,t::ts,L,h=>by simp only [cmL,List.length_cons];rw [cmL_len ps ts _ (by simpa using h)]
theorem addP_len (L:PairsL) (a b:Ty):(addP L a b).length≤L.length+1:=by
 unfold addP;split
 ·omega
 ·simp
mutual
theorem cmT_grow:∀ (a b:Ty) (L:PairsL),(cmT a b L).2.length≤L.length+a.cnt
 | .mk n l,b,L=>by
  have hc:(Ty.mk n l).cnt=(nodesL l).length+1:=by simp [Ty.cnt,Ty.nodes]
  rw [cmT]
  split
  ·have:=cmL_grow l b.args L;simp only;omega
  ·have:=addP_len L (.mk n l) b;simp only;omega
theorem cmL_grow:∀ (l l':List Ty) (L:PairsL),(cmL l l' L).2.length≤L.length+(nodesL l).length
 | [],_,L=>by simp [cmL]
 | p::ps,[],L=>by simp [cmL]
 | p::ps,t::ts,L=>by
  have h1:=cmT_grow p t L
  have h2:=cmL_grow ps ts (cmT p t L).2
  simp only [cmL,nodesL,List.length_append]
  unfold Ty.cnt at h1
  omega
end
def bndP (L:PairsL):Prop:=∀ q∈L,q.1.cnt < 1099511627776∧q.2.cnt < 1099511627776
theorem addP_bnd {L:PairsL} {a b:Ty} (h:bndP L) (ha:a.cnt < 1099511627776) (hb:b.cnt < 1099511627776):bndP (addP L a b):=by
 unfold addP;split
 ·exact h
 ·intro q hq
  rcases List.mem_append.1 hq with hq | hq
  ·exact h q hq
  ·simp only [List.mem_singleton] at hq;subst hq;exact ⟨ha,hb⟩
theorem arg_cnt {n:ByteArray} {l:List Ty} {x:Ty} (h:x∈l):x.cnt < (Ty.mk n l).cnt:=by
 obtain ⟨k,hk⟩:=List.getElem?_of_mem h
 have h1:x.cnt≤(nodesL l).length:=cnt_mem hk
 have h2:(Ty.mk n l).cnt=(nodesL l).length+1:=by simp [Ty.cnt,Ty.nodes]
 omega
mutual
theorem cmT_bnd:∀ (a b:Ty) (L:PairsL),bndP L→a.cnt < 1099511627776→b.cnt < 1099511627776→bndP (cmT a b L).2
 | .mk n l,.mk n' l',L,h,ha,hb=>by
  rw [cmT]
  split
  ·exact cmL_bnd l l' L h (fun x hx=>by have:=arg_cnt (n:=n) hx;omega) (fun x hx=>by have:=arg_cnt (n:=n') hx;omega)
  ·exact addP_bnd h ha hb
theorem cmL_bnd:∀ (l l':List Ty) (L:PairsL),bndP L→(∀ x∈l,x.cnt < 1099511627776)→(∀ x∈l',x.cnt < 1099511627776)→bndP (cmL l l' L).2
 | [],_,L,h,_,_=>by simp only [cmL];exact h
 | p::ps,[],L,h,_,_=>by simp only [cmL];exact h
 | p::ps,t::ts,L,h,h1,h2=>by
  simp only [cmL]
  exact cmL_bnd ps ts _ (cmT_bnd p t L h (h1 p (by simp)) (h2 t (by simp))) (fun x hx=>h1 x (by simp [hx])) (fun x hx=>h2 x (by simp [hx]))
end
theorem posP_at {L:PairsL} {k:Nat} {a b:Ty} {q:Ty × Ty} (h:∀ q∈L.take k,(eqT q.1 a && eqT q.2 b)=false) (hq:L[k]?=some q) (he:(eqT q.1 a && eqT q.2 b)=true):posP L a b=k:=by
 induction L generalizing k with
 | nil=>simp at hq
 | cons p L ih =>
  cases k with
  | zero=>simp only [List.getElem?_cons_zero,Option.some.injEq] at hq;subst hq;simp [posP,he]
  | succ k =>
   have h1:=h p (by simp)
   rw [posP,h1]
   simp only [Bool.false_eq_true,if_false]
   rw [ih (fun q hq=>h q (by simp only [List.take_succ_cons,List.mem_cons];exact .inr hq)) (by simpa using hq)]
theorem posP_no {L:PairsL} {a b:Ty} (h:∀ q∈L,(eqT q.1 a && eqT q.2 b)=false):posP L a b=L.length:=by
 induction L with
 | nil=>rfl
 | cons p L ih =>
  rw [posP,h p (by simp)]
  simp only [Bool.false_eq_true,if_false]
  rw [ih fun q hq=>h q (by simp [hq])];rfl
def pB (wi ai bi:Nat) (L:PairsL):List (Nat × ABlock) :=
 [(wi,.cells [.vec ai L.length,.vec bi L.length]),(ai,.tok L.length 2 (some (L.map fun q=>q.1.cells))),(bi,.tok L.length 2 (some (L.map fun q=>q.2.cells)))]
set_option maxHeartbeats 4000000 in
theorem rcommon_c (wi ai bi:Nat) (hne:wi≠ai∧wi≠bi∧ai≠bi):∀ (a b:Ty) (L:PairsL) (H:AHeap),a.cnt < 1099511627776→b.cnt < 1099511627776→bndP L→L.length+a.cnt < 4294967296→Holds H (pB wi ai bi L) →
  ACalls Tryz.prog 77 [.ref wi 0,a.enc,b.enc] H (cmT a b L).1.enc (puts H (pB wi ai bi (cmT a b L).2)):=by
 intro a
 induction a using Ty.ind with
 | h n l ih =>
 intro b L H ha hb hL hsz hH
 have hcnt:(Ty.mk n l).cnt=(nodesL l).length+1:=by simp [Ty.cnt,Ty.nodes]
 have hll:=nodesL_len l
 have hva:=rIsVar_c (.mk n l)
 have hvb:=rIsVar_c b
 have hself:puts H (pB wi ai bi L)=H:=puts_self hH
 obtain ⟨hw,hA,hB,_⟩:=hH
 have he:cmT (.mk n l) b L=if headP smallB n=false∧b.isVar=false∧n=b.name∧l.length=b.args.length then (.mk n (cmL l b.args L).1,(cmL l b.args L).2)
   else (.mk (letS (posP L (.mk n l) b)) [],addP L (.mk n l) b):=by rw [cmT]
 generalize cmT (.mk n l) b L=res at he ⊢
 have hsame1:=fun (k:Nat) (q:Ty × Ty) (h:L[k]?=some q)=>same_c q.1 (.mk n l) (by have:=(hL q (List.mem_of_getElem? h)).1;omega)
 have hsame2:=fun (k:Nat) (q:Ty × Ty) (h:L[k]?=some q)=>same_c q.2 b (by have:=(hL q (List.mem_of_getElem? h)).2;omega)
 obtain ⟨bn,bl⟩:=b
 have eb1:(Ty.mk bn bl).name=bn:=rfl
 have eb2:(Ty.mk bn bl).args=bl:=rfl
 have eb3:(Ty.mk n l).isVar=headP smallB n:=rfl
 rw [eb1,eb2,←eb3] at he
 simp only [enc_mk] at hva hvb hsame1 hsame2
 refine acalls_walk (fun d=>if d=37 then .nilv 2 else if d=9 then .late else if d=102 then .lit else if d=113 then .lit else .imm) [0,1,2,4,5,6,7,8,9,10,34,42,70,92] Tryz.mixed Tryz.func77 rfl rfl rfl (by decide) (fun hcl hlow=>?_)
 simp only [enc_mk]
 have hwl:wi < H.next:=(hcl _ _ hw).1
 have hal:ai < H.next:=(hcl _ _ hA).1
 have hbl:bi < H.next:=(hcl _ _ hB).1
 have gw:∀ bs,(HL H bs).get wi=some (.cells [.vec ai L.length,.vec bi L.length]):=fun bs=>by rw [get_lt hwl];exact hw
 have gA:∀ bs,(HL H bs).get ai=some (.tok L.length 2 (some (L.map fun q=>q.1.cells))):=fun bs=>by rw [get_lt hal];exact hA
 have gB:∀ bs,(HL H bs).get bi=some (.tok L.length 2 (some (L.map fun q=>q.2.cells))):=fun bs=>by rw [get_lt hbl];exact hB
 have r2:∀ q:Ty,q.cells.length=2:=Ty.cells_length
 refine awp_sr fun K hK=>?_;simp;apply hK;clear hK K;repeat with_reducible refine awp_assoc ?_
 refine awp_sr fun K hK=>?_
 suffices hk:∀ c:Bool,c=decide ((Ty.mk n l).isVar=false∧(Ty.mk bn bl).isVar=false∧n=bn∧l.length=bl.length) →
   K (Env.ofL [(0,.ref wi 0),(1,.agg [strV n,.slice (l.map Ty.cells) none]),(2,.agg [strV bn,.slice (bl.map Ty.cells) none]),(4,.ref (nid H.next 0) 0),(5,.ref (nid H.next 1) 0),(6,.ref (nid H.next 2) 0),(7,.undef),(8,.undef),(9,.undef),(10,.undef),(34,boolV c),(42,.undef),(70,.undef),(92,.undef)])
    (HL H [.cells [strV n,.slice (l.map Ty.cells) none],.cells [strV bn,.slice (bl.map Ty.cells) none],.cells [strV ByteArray.empty,.v (.slice none 0 0)]]) by
  cases hv:(Ty.mk n l).isVar
  rotate_left
  ·refine aOps_split 1 fun K hK=>?_;simp;apply hK;clear hK K;refine aOps_call (hva _) (by first | rfl | simp) rfl rfl (by first | (simp;done) | rfl) ?_;refine aOps_split 6 fun K hK=>?_;simp [hv];apply hK;clear hK K;refine aOps_split 8 fun K hK=>?_;simp;apply hK;clear hK K;simp
   exact hk false (by simp [hv])
  ·refine aOps_split 1 fun K hK=>?_;simp;apply hK;clear hK K;refine aOps_call (hva _) (by first | rfl | simp) rfl rfl (by first | (simp;done) | rfl) ?_;refine aOps_split 3 fun K hK=>?_;simp [hv];apply hK;clear hK K;refine aOps_call (hvb _) (by first | rfl | simp) rfl rfl (by first | (simp;done) | rfl) ?_
   cases hv2:(Ty.mk bn bl).isVar
   rotate_left
   ·refine aOps_split 3 fun K hK=>?_;simp;apply hK;clear hK K;refine aOps_split 7 fun K hK=>?_;simp;apply hK;clear hK K;simp
    exact hk false (by simp [hv2])
   ·by_cases hn:n=bn
    ·subst hn
     refine aOps_split 3 fun K hK=>?_;simp;apply hK;clear hK K;refine aOps_split 7 fun K hK=>?_;simp;apply hK;clear hK K
     by_cases hlen:l.length=bl.length
     ·simp [hlen]
      exact hk true (by simp [hv,hv2,hlen])
     ·have hlen':¬ (l.length:Int)=bl.length:=by omega
      simp [hlen']
      exact hk false (by simp [hlen])
    ·refine aOps_split 3 fun K hK=>?_;simp;apply hK;clear hK K;refine aOps_split 7 fun K hK=>?_;simp [hn];apply hK;clear hK K;simp
     exact hk false (by simp [hn])
 have hcl':∀ L,(puts H (pB wi ai bi L)).Closed:=fun L=>closed_puts hcl (by
  intro p hp
  simp only [pB,List.mem_cons,List.not_mem_nil,or_false] at hp
  rcases hp with rfl | rfl | rfl
  ·exact ⟨hwl,by simp [hal,hbl]⟩
  ·exact ⟨hal,lowR_map fun q _=>q.1.low _⟩
  ·exact ⟨hbl,lowR_map fun q _=>q.2.low _⟩)
 intro c hcd
 apply hK;clear hK K
 cases c
 rotate_left
 ·obtain ⟨hv,hv2,rfl,hlen⟩:=of_decide_eq_true hcd.symm
  rw [if_pos ⟨hv,hv2,rfl,hlen⟩] at he
  refine awp_seq_k fun K hK=>?_;refine awp_condT rfl (by simp) ?_;refine awp_sr fun K hK=>?_;simp;apply hK;clear hK K;repeat with_reducible refine awp_assoc ?_
  refine awp_sr fun K hK=>?_;simp;apply hK;clear hK K
  have hlt:∀ L,∀ p∈pB wi ai bi L,p.1 < H.next:=by
   intro L p hp
   simp only [pB,List.mem_cons,List.not_mem_nil,or_false] at hp
   rcases hp with rfl | rfl | rfl
   ·exact hwl
   ·exact hal
   ·exact hbl
  have hnd:∀ L,((pB wi ai bi L).map (·.1)).Nodup:=fun L=>by simp [pB,hne]
  have hpp:∀ L L',puts (puts H (pB wi ai bi L)) (pB wi ai bi L')=puts H (pB wi ai bi L'):=fun L L'=>puts_puts rfl (hnd L)
  refine awp_seq_k fun K hK=>?_;refine awp_block ?_
  refine awp_up l.length (fun k=>Env.ofL [(0,.ref wi 0),(4,.ref (nid H.next 0) 0),(5,.ref (nid H.next 1) 0),(6,.ref (nid H.next 2) 0),(7,.ref (nid H.next 4) 0),(8,intV k)])
   (fun k=>HL (puts H (pB wi ai bi (cmL (l.take k) (bl.take k) L).2)) [.cells [strV n,.slice (l.map Ty.cells) none],.cells [strV n,.slice (bl.map Ty.cells) none],.cells [strV ByteArray.empty,.v (.slice none 0 0)],.tok k 2 none,.cells [strV n,.slice ((cmL (l.take k) (bl.take k) L).1.map Ty.cells) (some (nid H.next 3))]])
   (fun k=>True) (by simp only [List.take_zero,cmL,hself];exact weak_HL hcl rfl (by simp) (by simp [lt_nid hwl])) trivial (fun k hk _=>?_) (fun _=>?_)
  ·obtain ⟨x,hx⟩:∃ x,l[k]?=some x:=⟨_,List.getElem?_eq_getElem hk⟩
   obtain ⟨y,hy⟩:∃ y,bl[k]?=some y:=⟨_,List.getElem?_eq_getElem (by omega)⟩
   have hxa:=arg_cnt (n:=n) (List.mem_of_getElem? hx)
   have hya:=arg_cnt (n:=n) (List.mem_of_getElem? hy)
   have e1:=cmL_take hlen hx hy L
   have hbk:=cmL_bnd (l.take k) (bl.take k) L hL (fun x hx=>by have:=arg_cnt (n:=n) (List.mem_of_mem_take hx);omega) (fun x hx=>by have:=arg_cnt (n:=n) (List.mem_of_mem_take hx);omega)
   have hgk:=cmL_grow (l.take k) (bl.take k) L
   have hnk:(nodesL (l.take k)).length+x.cnt≤(nodesL l).length:=by
    have h1:=congrArg List.length (nodesL_take hx)
    have h2:nodesL l=nodesL (l.take (k+1))++nodesL (l.drop (k+1)):=by rw [←nodesL_append,List.take_append_drop]
    have h3:=congrArg List.length h2
    rw [List.length_append] at h1 h3;simp only [Ty.cnt];omega
   have hlk:(cmL (l.take k) (bl.take k) L).1.length=k:=by rw [cmL_len _ _ _ (by simp [hlen])];simp;omega
   generalize cmL (l.take k) (bl.take k) L=rk at e1 hbk hgk hlk ⊢
   generalize cmL (l.take (k+1)) (bl.take (k+1)) L=rk' at e1 ⊢
   subst e1
   obtain ⟨us,Lk⟩:=rk
   simp only at hbk hgk hlk ⊢
   have hc:=fun bs=>ih x (List.mem_of_getElem? hx) y Lk (HL (puts H (pB wi ai bi Lk)) ([.cells [strV n,.slice (l.map Ty.cells) none],.cells [strV n,.slice (bl.map Ty.cells) none],.cells [strV ByteArray.empty,.v (.slice none 0 0)],.tok k 2 none,.cells [strV n,.slice (us.map Ty.cells) (some (nid H.next 3))]]++bs))
    (by omega) (by omega) hbk (by omega) ((holds_HL (by simpa using hlt Lk)).2 (puts_holds _ (hnd _)))
   have hph:∀ L1 L2 bs,puts (HL (puts H (pB wi ai bi L1)) bs) (pB wi ai bi L2)=HL (puts H (pB wi ai bi L2)) bs:=fun L1 L2 bs=>by rw [puts_HL (by simpa using hlt L2),hpp]
   simp only [hph] at hc
   generalize cmT x y Lk=rc at hc ⊢
   obtain ⟨⟨un,ul⟩,L'⟩:=rc
   obtain ⟨xn,xl⟩:=x
   obtain ⟨yn,yl⟩:=y
   simp only [enc_mk] at hc ⊢
   have hnx:∀ L,(puts H (pB wi ai bi L)).next=H.next:=fun L=>puts_next _ _
   repeat with_reducible refine awp_assoc ?_
   refine awp_sr fun K hK=>?_;simp [hk];apply hK;clear hK K;refine awp_seq_k fun K hK=>?_;refine awp_condT rfl (by simp) ?_;refine awp_skip ?_;apply hK;clear hK K;refine awp_seq_k fun K hK=>?_;refine awp_block ?_
   refine awp_sdf 1 12 (fillAt (nid H.next 5) [strV ByteArray.empty,.v (.slice none 0 0)]) [11,13] [[],[0],[0],[0,1,2],[0],[0],[0,1,2,3,4,5],[0,1,2,3,4,5],[0,1,2,3,4,5,6,7],[0,1,2,3,4,5],[0,1,2,3,4,5],[1,6],[0,1,2,3,4,5,6,7,8,9,10,11],[]] (by kernel_rfl) (by rfl) (by rfl) fun K hK=>?_
   simp only [holes,alloc_HL,List.cons_append,List.nil_append]
   refine fLex_pre (nid H.next 5) 11 (fun G i h=>fillAt_off G i h) (by rfl) fun K2 hK2=>?_
   have hw5:¬ wi=nid H.next 5:=by unfold nid;omega
   simp [oOps,offs,AV.off,Op.operands,hnx,hw5,hx,hy,Ty.cells]
   refine hK2 _ ?_
   clear hK2 K2
   have hfa:∀ L bs,bs.length=5→fillAt (nid H.next 5) [strV ByteArray.empty,.v (.slice none 0 0)] (HL (puts H (pB wi ai bi L)) (bs++[.hole]))=HL (puts H (pB wi ai bi L)) (bs++[.cells [strV ByteArray.empty,.v (.slice none 0 0)]]):=fun L bs hb=>by
    unfold fillAt
    rw [get_nid (hnx L),List.getElem?_append_right (by omega),hb]
    simp only [Nat.sub_self,List.getElem?_cons_zero]
    rw [upd_nid (hnx L) (by simp [hb]),List.set_append_right _ _ (by omega),hb]
    rfl
   refine fLex_calle (hc [.hole]) (by
    have h1:=hfa Lk [.cells [strV n,.slice (l.map Ty.cells) none],.cells [strV n,.slice (bl.map Ty.cells) none],.cells [strV ByteArray.empty,.v (.slice none 0 0)],.tok k 2 none,.cells [strV n,.slice (us.map Ty.cells) (some (nid H.next 3))]] rfl
    have h2:=hfa L' [.cells [strV n,.slice (l.map Ty.cells) none],.cells [strV n,.slice (bl.map Ty.cells) none],.cells [strV ByteArray.empty,.v (.slice none 0 0)],.tok k 2 none,.cells [strV n,.slice (us.map Ty.cells) (some (nid H.next 3))]] rfl
    simp only [List.cons_append,List.nil_append] at h1 h2 hc ⊢
    rw [h1,h2]
    exact hc _) rfl rfl rfl rfl rfl rfl (by simp) ?_
   refine fLex_self (v:=.ref (nid H.next 5) 0) rfl rfl (det_late rfl rfl rfl (by simp;rfl) rfl (by simp [hnx])) ?_ ?_
   ·intro p hp hu
    simp only [List.mem_singleton] at hp
    subst hp
    exact det_late rfl rfl rfl (by simp;rfl) rfl (by simp [hnx])
   refine fLex_effA rfl rfl rfl rfl rfl rfl fun K2 hK2=>?_
   simp [fillAt,hnx]
   refine hK2 _ _ (by simp [fillAt,hnx]) (by simp [unord]) ?_
   clear hK2 K2
   refine fLex_end ?_
   simp [fillAt,hnx];apply hK;clear hK K;refine awp_region ?_;simp [hnx,hlk]
   refine ⟨by omega,hK _ _ ?_⟩
   clear hK K;refine awp_region ?_;simp [wrap_succ (show k < 4611686018427387904 by omega)]
   refine weak_HL (hcl' L') (by simp) (by simp [lt_nid hwl,Ty.cells]) (by simp [lt_nid hwl,Ty.cells])
  ·rw [List.take_of_length_le (Nat.le_refl _),List.take_of_length_le (by omega)]
   repeat with_reducible refine awp_assoc ?_
   refine awp_sr fun K hK=>?_;simp;apply hK;clear hK K;refine awp_seq_k fun K hK=>?_;refine awp_condF rfl (by simp) ?_;refine awp_exit ?_;simp;clear hK K;apply hK;clear hK K
   have hcc:=hcl' (cmL l bl L).2
   have hnn:(puts H (pB wi ai bi (cmL l bl L).2)).next=H.next:=puts_next _ _
   refine awp_sr fun K hK=>?_;simp [hnn];apply hK;clear hK K
   rw [he]
   simp [Ty.cells,enc_mk]
   exact ⟨Wk.agg (by simp),reset_all hcc⟩
 ·have hcd':=of_decide_eq_false hcd.symm
  rw [if_neg hcd'] at he
  refine awp_seq_k fun K hK=>?_;refine awp_condF rfl (by simp) ?_;refine awp_skip ?_;apply hK;clear hK K;repeat with_reducible refine awp_assoc ?_
  refine awp_sr fun K hK=>?_;simp;apply hK;clear hK K;refine awp_seq_k fun K hK=>?_;refine awp_block ?_
  refine awp_up L.length (fun k=>Env.ofL [(0,.ref wi 0),(4,.ref (nid H.next 0) 0),(5,.ref (nid H.next 1) 0),(6,.ref (nid H.next 2) 0),(10,intV k)]) (fun k=>HL (H) [.cells [strV n,.slice (l.map Ty.cells) none],.cells [strV bn,.slice (bl.map Ty.cells) none],.cells [strV ByteArray.empty,.v (.slice none 0 0)]]) (fun k=>∀ q∈L.take k,(eqT q.1 (.mk n l) && eqT q.2 (.mk bn bl))=false) (weak_HL (hcl) (by simp) ?_ ?_) ?_ (fun k hk hi=>?_) (fun hi=>?_)
  ·simp [lt_nid hwl]
  ·simp [lt_nid hwl]
  ·simp
  ·obtain ⟨q,hq⟩:∃ q,L[k]?=some q:=⟨_,List.getElem?_eq_getElem hk⟩
   have h1:=hsame1 k q hq
   have h2:=hsame2 k q hq
   obtain ⟨⟨q1,m1⟩,⟨q2,m2⟩⟩:=q
   simp only [enc_mk] at h1 h2
   have hqq:∀ q∈(L.map fun q=>q.1.cells),q.length=2:=by
    intro r hr
    obtain ⟨u,_,rfl⟩:=List.mem_map.1 hr
    exact r2 _
   have hqq2:∀ q∈(L.map fun q=>q.2.cells),q.length=2:=by
    intro r hr
    obtain ⟨u,_,rfl⟩:=List.mem_map.1 hr
    exact r2 _
   repeat with_reducible refine awp_assoc ?_
   refine awp_sr fun K hK=>?_;simp [gw,hk];apply hK;clear hK K;refine awp_seq_k fun K hK=>?_;refine awp_condT rfl (by simp) ?_;refine awp_skip ?_;apply hK;clear hK K;refine awp_seq_k fun K hK=>?_;refine awp_block ?_;refine awp_sdc [] [[],[],[],[],[0,1,2,3],[0],[0,1],[0,1,2,3,4,5,6],[0,1,2],[0,1,2,3,4],[0,1,2,3,4,5],[0,1,2,3,4,5],[0,1,2,3,4,5],[0,1,2,3,4,5],[0,1,2,3,4,5,10,11,12,13],[0,1,2,3,4,5,10],[0,1,2,3,4,5,10,11],[0,1,2,3,4,5,10,11,12,13,14,15,16],[0,1,2,3,4,5,10,11,12],[0,1,2,3,4,5,10,11,12,13,14]] (by kernel_rfl) (by rfl) fun K hK=>?_
   have hqk:L[k]=(Ty.mk q1 m1,Ty.mk q2 m2):=by rw [List.getElem?_eq_getElem hk] at hq;simpa using hq
   have hr1:∀ (r:List AV) (x x_1:Ty),(x,x_1)∈L→x.cells=r→r.length=2:=fun r x y _ h=>by rw [←h];exact r2 x
   have hr2:∀ (r:List AV) (x x_1:Ty),(x,x_1)∈L→x_1.cells=r→r.length=2:=fun r x y _ h=>by rw [←h];exact r2 y
   refine aCalm_pre 4 (by rfl) fun K hK=>?_;simp [gw];apply hK;clear hK K;refine aCalm_pre 4 (by rfl) fun K hK=>?_;simp [gA,hqk,hk,Ty.cells]
   refine ⟨hr1,hK _ _ ?_⟩
   clear hK K;refine aCalm_call0 (h1 _) (by first | rfl | simp) rfl rfl rfl (by first | (simp;done) | rfl) ?_
   suffices hk2:∀ c:Bool,c=(eqT (Ty.mk q1 m1) (.mk n l) && eqT (Ty.mk q2 m2) (.mk bn bl)) →
     K (Env.ofL [(0,.ref wi 0),(1,.undef),(2,.undef),(4,.ref (nid H.next 0) 0),(5,.ref (nid H.next 1) 0),(6,.ref (nid H.next 2) 0),(7,.undef),(8,.undef),(9,.undef),(10,intV k),(34,.undef),(42,.undef),(70,boolV true),(92,boolV c)])
      (HL H [.cells [strV n,.slice (l.map Ty.cells) none],.cells [strV bn,.slice (bl.map Ty.cells) none],.cells [strV ByteArray.empty,.v (.slice none 0 0)]]) by
    cases hv1:eqT (Ty.mk q1 m1) (.mk n l)
    ·refine aCalm_pre 9 (by rfl) fun K hK=>?_;simp;apply hK;clear hK K;refine aCalm_skip (by simp) ?_;refine aCalm_pre 1 (by rfl) fun K hK=>?_;simp;apply hK;clear hK K;refine aCalm_end ?_;simp
     exact hk2 false (by simp [hv1])
    ·refine aCalm_pre 9 (by rfl) fun K2 hK2=>?_;simp [gw,gB,hqk,hk,Ty.cells]
     refine ⟨hr2,hK2 _ _ ?_⟩
     clear hK2 K2
     refine aCalm_call0 (h2 _) (by first | rfl | simp) rfl rfl rfl (by first | (simp;done) | rfl) ?_;refine aCalm_pre 1 (by rfl) fun K hK=>?_;simp;apply hK;clear hK K;refine aCalm_end ?_;simp
     exact hk2 _ (by simp [hv1])
   intro c hcd
   apply hK;clear hK K
   cases c
   ·refine awp_condF rfl (by simp) ?_;refine awp_skip ?_;apply hK;clear hK K;refine awp_region ?_;simp [wrap_succ (show k < 4611686018427387904 by omega)]
    refine ⟨fun a b hy=>?_,?_⟩
    ·rw [take_one hq] at hy
     simp only [List.mem_append,List.mem_singleton,Prod.mk.injEq] at hy
     rcases hy with hy | ⟨rfl,rfl⟩
     ·have:=hi (a,b) hy;simpa using this
     ·have:=hcd.symm;simpa using this
    ·refine weak_HL (hcl) (by simp) (by simp [lt_nid hwl]) (by simp [lt_nid hwl])
   ·refine awp_condT rfl (by simp) ?_
    have hpos:=posP_at hi hq hcd.symm
    have hnn:=normalName_c k (by omega)
    have hadd:addP L (.mk n l) (.mk bn bl)=L:=by unfold addP;rw [hpos,if_pos hk]
    rw [hpos,hadd] at he
    rw [he]
    refine awp_sr fun K hK=>?_;refine aOps_split 1 fun K hK=>?_;simp;apply hK;clear hK K;refine aOps_call (hnn _) (by first | rfl | simp) rfl rfl (by first | (simp;done) | rfl) ?_;simp;apply hK;clear hK K;simp [Ty.cells,enc_mk,hself]
    exact ⟨Wk.agg ⟨.refl _,Wk.nilSlice,trivial⟩,reset_all hcl⟩
  ·repeat with_reducible refine awp_assoc ?_
   refine awp_sr fun K hK=>?_;simp [gw];apply hK;clear hK K;refine awp_seq_k fun K hK=>?_;refine awp_condF rfl (by simp) ?_;refine awp_exit ?_;simp;clear hK K;apply hK;clear hK K
   rw [List.take_length] at hi
   have hpos:=posP_no hi
   have hadd:addP L (.mk n l) (.mk bn bl)=L++[(.mk n l,.mk bn bl)]:=by unfold addP;rw [hpos,if_neg (by omega)]
   rw [hpos,hadd] at he
   rw [he]
   refine awp_sdf 0 9 (fun G=>G.upd ai (.tok (L.length+1) 2 (some ((L.map fun q=>q.1.cells)++[(Ty.mk n l).cells])))) [7,12] [[],[],[],[],[0,1,2,3],[0,4],[0,1,2,3,4,5],[],[],[],[8,9],[8,9],[8,9]] (by kernel_rfl) (by rfl) (by rfl) fun K hK=>?_
   simp only [holes]
   have hwa:¬ wi=ai:=hne.1
   have hna:∀ i,¬ nid H.next i=ai:=fun i=>by unfold nid;omega
   have hrow:∀ (r:List AV),r∈(L.map fun q=>q.1.cells)→r.length=2∧r.all (·.one)=true:=by
    intro r hr
    obtain ⟨u,_,rfl⟩:=List.mem_map.1 hr
    exact ⟨r2 _,u.1.cells_one⟩
   refine fLex_pre (ai) 7 (fun G i h=>upd_off G i h) (by rfl) fun K2 hK2=>?_
   simp [oOps,offs,AV.off,Op.operands,Call.operands,regM,litOp,isReg,isLit,noTok,hwa,hna,gw]
   refine hK2 _ ?_
   clear hK2 K2
   have hone:∀ (x:Ty),∀ a∈x.cells,a.one=true:=fun x=>by have:=x.cells_one;simpa only [List.all_eq_true] using this
   have hc1:∀ (X:AHeap) (b c B:ABlock),((X.upd ai b).upd wi c).upd ai B=(X.upd ai B).upd wi c:=fun X b c B=>by rw [upd_comm hne.1,upd_upd]
   have hl1:∀ (r:List AV),(r∈(L.map fun q=>q.1.cells)∨r.length=2)→r.length=2:=fun r hr=>hr.elim (fun h=>(hrow r h).1) id
   refine fLex_eff rfl rfl rfl rfl rfl fun K2 hK2=>?_
   simp [gA]
   refine ⟨by omega,fun r x y _ h=>by rw [←h];exact ⟨r2 x,by simpa using hone x⟩,hK2 _ _ (fun h=>by cases h) (by simp) ?_⟩
   clear hK2 K2
   refine fLex_pre (ai) 1 (fun G i h=>upd_off G i h) (by rfl) fun K2 hK2=>?_
   simp [oOps,offs,AV.off,Op.operands,Call.operands,regM,litOp,isReg,isLit,noTok]
   refine hK2 _ ?_
   clear hK2 K2
   refine fLex_self (v:=.undef) rfl rfl ?_ ?_ ?_
   ·simp [Det]
    exact ⟨fun r hr=>by
     rcases hr with ⟨u,_,rfl⟩ | rfl
     ·exact r2 u
     ·rfl,by simp [Ty.cells]⟩
   ·intro p hp hu
    simp only [List.mem_singleton] at hp
    subst hp
    revert hu;simp [unord]
   refine fLex_pre (ai) 2 (fun G i h=>upd_off G i h) (by rfl) fun K2 hK2=>?_
   simp [oOps,offs,AV.off,Op.operands,Call.operands,regM,litOp,isReg,isLit,noTok,hwa]
   refine hK2 _ ?_
   clear hK2 K2
   refine fLex_eff rfl rfl rfl rfl rfl fun K2 hK2=>?_
   simp [gw,get_upd_ne hne.1]
   have hgl:∀ b bs,((HL H bs).upd ai b).get wi=some (.cells [.vec ai L.length,.vec bi L.length]):=fun b bs=>by rw [get_upd_ne hne.1];exact gw bs
   have hga:∀ X b c,((AHeap.upd X ai b).upd wi c).get ai=some b:=fun X b c=>by rw [get_upd_ne (Ne.symm hne.1)];exact get_upd_self
   refine hK2 _ _ (fun _=>?_) ?_ ?_
   ·simp [Det,hgl,hc1]
   ·intro c hc hu
    simp only [List.mem_singleton] at hc
    subst hc
    simp [Det,hga,hc1,Ty.cells]
    intro r hr
    rcases hr with ⟨u,_,rfl⟩ | rfl
    ·exact r2 u
    ·rfl
   clear hK2 K2
   refine fLex_end ?_
   simp [hc1];apply hK;clear hK K
   rw [upd_lt hal,upd_lt (by exact hwl)]
   generalize hH2:(H.upd ai (.tok (L.length+1) 2 (some ((L.map fun q=>q.1.cells)++[(Ty.mk n l).cells])))).upd wi (.cells [.vec ai (L.length+1),.vec bi L.length])=H2
   have hn2:H2.next=H.next:=by subst hH2;rfl
   have gw2:∀ bs,(HL H2 bs).get wi=some (.cells [.vec ai (L.length+1),.vec bi L.length]):=fun bs=>by
    rw [get_lt (by rw [hn2];exact hwl)];subst hH2;exact get_upd_self
   have gB2:∀ bs,(HL H2 bs).get bi=some (.tok L.length 2 (some (L.map fun q=>q.2.cells))):=fun bs=>by
    rw [get_lt (by rw [hn2];exact hbl)];subst hH2;rw [get_upd_ne (Ne.symm hne.2.1),get_upd_ne (Ne.symm hne.2.2)];exact hB
   have hnb:∀ i,¬ nid H.next i=bi:=fun i=>by unfold nid;omega
   have hwb:¬ wi=bi:=hne.2.1
   have hc2:∀ (X:AHeap) (b c B:ABlock),((X.upd bi b).upd wi c).upd bi B=(X.upd bi B).upd wi c:=fun X b c B=>by rw [upd_comm hne.2.1,upd_upd]
   have hgl2:∀ b bs,((HL H2 bs).upd bi b).get wi=some (.cells [.vec ai (L.length+1),.vec bi L.length]):=fun b bs=>by rw [get_upd_ne hne.2.1];exact gw2 bs
   have hga2:∀ X b c,((AHeap.upd X bi b).upd wi c).get bi=some b:=fun X b c=>by rw [get_upd_ne (Ne.symm hne.2.1)];exact get_upd_self
   refine awp_sdf 0 9 (fun G=>G.upd bi (.tok (L.length+1) 2 (some ((L.map fun q=>q.2.cells)++[(Ty.mk bn bl).cells])))) [7,12] [[],[],[],[],[0,1,2,3],[0,4],[0,1,2,3,4,5],[],[],[],[8,9],[8,9],[8,9]] (by kernel_rfl) (by rfl) (by rfl) fun K hK=>?_
   simp only [holes]
   refine fLex_pre (bi) 7 (fun G i h=>upd_off G i h) (by rfl) fun K2 hK2=>?_
   simp [oOps,offs,AV.off,Op.operands,Call.operands,regM,litOp,isReg,isLit,noTok,hwb,hnb,gw2,hn2]
   refine hK2 _ ?_
   clear hK2 K2
   refine fLex_eff rfl rfl rfl rfl rfl fun K2 hK2=>?_
   simp [gB2]
   refine ⟨by omega,fun r x y _ h=>by rw [←h];exact ⟨r2 y,by simpa using hone y⟩,hK2 _ _ (fun h=>by cases h) (by simp) ?_⟩
   clear hK2 K2
   refine fLex_pre (bi) 1 (fun G i h=>upd_off G i h) (by rfl) fun K2 hK2=>?_
   simp [oOps,offs,AV.off,Op.operands,Call.operands,regM,litOp,isReg,isLit,noTok]
   refine hK2 _ ?_
   clear hK2 K2
   refine fLex_self (v:=.undef) rfl rfl ?_ ?_ ?_
   ·simp [Det]
    exact ⟨fun r hr=>by
     rcases hr with ⟨u,v,hv,rfl⟩ | rfl
     ·exact r2 _
     ·rfl,by simp [Ty.cells]⟩
   ·intro p hp hu
    simp only [List.mem_singleton] at hp
    subst hp
    revert hu;simp [unord]
   refine fLex_pre (bi) 2 (fun G i h=>upd_off G i h) (by rfl) fun K2 hK2=>?_
   simp [oOps,offs,AV.off,Op.operands,Call.operands,regM,litOp,isReg,isLit,noTok,hwb]
   refine hK2 _ ?_
   clear hK2 K2
   refine fLex_eff rfl rfl rfl rfl rfl fun K2 hK2=>?_
   simp [gw2,get_upd_ne hne.2.1]
   refine hK2 _ _ (fun _=>?_) ?_ ?_
   ·simp [Det,hgl2,hc2]
   ·intro c hc hu
    simp only [List.mem_singleton] at hc
    subst hc
    simp [Det,hga2,hc2,Ty.cells]
    intro r hr
    rcases hr with ⟨u,v,hv,rfl⟩ | rfl
    ·exact r2 _
    ·rfl
   clear hK2 K2
   refine fLex_end ?_
   simp [hc2];apply hK;clear hK K
   rw [upd_lt (by rw [hn2];exact hbl),upd_lt (by show wi < H2.next;rw [hn2];exact hwl)]
   have hfin:(H2.upd bi (.tok (L.length+1) 2 (some ((L.map fun q=>q.2.cells)++[(Ty.mk bn bl).cells])))).upd wi (.cells [.vec ai (L.length+1),.vec bi (L.length+1)])=puts H (pB wi ai bi (L++[(.mk n l,.mk bn bl)])):=by
    subst hH2
    simp only [pB,puts,List.length_append,List.length_singleton,List.map_append,List.map_cons,List.map_nil]
    rw [upd_comm (i:=wi) (j:=bi) hne.2.1,upd_upd,upd_comm (i:=bi) (j:=wi) (Ne.symm hne.2.1),upd_comm (i:=ai) (j:=wi) (Ne.symm hne.1)]
   rw [hfin]
   have hcc:=hcl' (L++[(.mk n l,.mk bn bl)])
   have hnx:(puts H (pB wi ai bi (L++[(.mk n l,.mk bn bl)]))).next=H.next:=puts_next _ _
   have gw3:∀ bs,(HL (puts H (pB wi ai bi (L++[(.mk n l,.mk bn bl)]))) bs).get wi=some (.cells [.vec ai (L++[(Ty.mk n l,Ty.mk bn bl)]).length,.vec bi (L++[(Ty.mk n l,Ty.mk bn bl)]).length]):=fun bs=>by
    rw [get_lt (by rw [hnx];exact hwl)]
    have hh:=puts_holds (H:=H) (pB wi ai bi (L++[(.mk n l,.mk bn bl)])) (by simp [pB,hne])
    exact hh.1
   generalize puts H (pB wi ai bi (L++[(.mk n l,.mk bn bl)]))=H3 at hcc hnx gw3 ⊢
   have hnn:=normalName_c L.length (by omega)
   have hw1:IntKind.i64.wrap (L.length:Int)=(L.length:Int):=by rw [wrap64 (by omega) (by omega)]
   refine awp_sr fun K hK=>?_;refine aOps_split 5 fun K hK=>?_;simp [gw3];apply hK;clear hK K;refine aOps_split 1 fun K hK=>?_;simp [hw1];apply hK;clear hK K;refine aOps_call (hnn _) (by first | rfl | simp) rfl rfl (by first | (simp;done) | rfl) ?_;simp [hnx];apply hK;clear hK K;simp [Ty.cells,enc_mk,hnx]
   exact ⟨Wk.agg ⟨.refl _,Wk.nilSlice,trivial⟩,reset_all hcc⟩
def comR (a b:Ty):Ty × Int:=if a.valid=0 then (if b.valid=0 then ((cmT a b []).1,0) else (zeroTy,b.valid)) else (zeroTy,a.valid)
theorem rCommon_c (a b:Ty) (H:AHeap):ACalls Tryz.prog 34 [a.enc,b.enc] H (.tuple [(comR a b).1.enc,intV (comR a b).2]) H:=by
 have hva:=rValidate_c a
 have hvb:=rValidate_c b
 have hm:=fun (h1:a.valid=0) (h2:b.valid=0) (wi ai bi:Nat) (hne:wi≠ai∧wi≠bi∧ai≠bi) (H:AHeap)=>rcommon_c wi ai bi hne a b [] H (by have:=large_cnt (Ty.not_large h1);omega) (by have:=large_cnt (Ty.not_large h2);omega) (fun q hq=>by cases hq) (by have:=large_cnt (Ty.not_large h1);simp;omega)
 have he:comR a b=if a.valid=0 then (if b.valid=0 then ((cmT a b []).1,0) else (zeroTy,b.valid)) else (zeroTy,a.valid):=rfl
 generalize comR a b=res at he ⊢
 generalize cmT a b []=r at hm he
 obtain ⟨⟨rn,rl⟩,L⟩:=r
 obtain ⟨n,l⟩:=a
 obtain ⟨tn,tl⟩:=b
 simp only [enc_mk] at hm hva hvb
 refine acalls_walk (fun d=>if d=21 then .nils [(2,true),(2,true)] else .imm) [0,1,2,3,4,5,6,7,8,12,18] Tryz.mixed Tryz.func34 rfl rfl rfl (by decide) (fun hcl hlow=>?_)
 simp only [enc_mk];refine awp_sr fun K hK=>?_;simp;apply hK;clear hK K;repeat with_reducible refine awp_assoc ?_
 refine awp_sr fun K hK=>?_;refine aOps_split 1 fun K hK=>?_;simp;apply hK;clear hK K;refine aOps_call (hva _) (by first | rfl | simp) rfl rfl (by first | (simp;done) | rfl) ?_;simp;apply hK;clear hK K
 by_cases h1:(Ty.mk n l).valid=0
 rotate_left
 ·rw [if_neg h1] at he
  repeat with_reducible refine awp_assoc ?_
  refine awp_sr fun K hK=>?_;simp [h1];apply hK;clear hK K;refine awp_seq_k fun K hK=>?_;refine awp_condT rfl (by simp [h1]) ?_;refine awp_sr fun K hK=>?_;simp;apply hK;clear hK K
  rw [he]
  simp [reset_all hcl,zeroTy,enc_mk]
  exact Wk.tuple ⟨Wk.agg ⟨.refl _,Wk.nilSlice,trivial⟩,.refl _,trivial⟩
 rw [if_pos h1] at he
 repeat with_reducible refine awp_assoc ?_
 refine awp_sr fun K hK=>?_;simp [h1];apply hK;clear hK K;refine awp_seq_k fun K hK=>?_;refine awp_condF rfl (by simp) ?_;refine awp_skip ?_;apply hK;clear hK K;repeat with_reducible refine awp_assoc ?_
 refine awp_sr fun K hK=>?_;refine aOps_split 1 fun K hK=>?_;simp;apply hK;clear hK K;refine aOps_call (hvb _) (by first | rfl | simp) rfl rfl (by first | (simp;done) | rfl) ?_;simp;apply hK;clear hK K
 by_cases h2:(Ty.mk tn tl).valid=0
 rotate_left
 ·rw [if_neg h2] at he
  repeat with_reducible refine awp_assoc ?_
  refine awp_sr fun K hK=>?_;simp [h2];apply hK;clear hK K;refine awp_seq_k fun K hK=>?_;refine awp_condT rfl (by simp [h2]) ?_;refine awp_sr fun K hK=>?_;simp;apply hK;clear hK K
  rw [he]
  simp [reset_all hcl,zeroTy,enc_mk]
  exact Wk.tuple ⟨Wk.agg ⟨.refl _,Wk.nilSlice,trivial⟩,.refl _,trivial⟩
 rw [if_pos h2] at he
 repeat with_reducible refine awp_assoc ?_
 refine awp_sr fun K hK=>?_;simp [h2];apply hK;clear hK K;refine awp_seq_k fun K hK=>?_;refine awp_condF rfl (by simp) ?_;refine awp_skip ?_;apply hK;clear hK K;refine awp_sr fun K hK=>?_;simp;apply hK;clear hK K
 have hc:=hm h1 h2 (nid H.next 5) (nid H.next 3) (nid H.next 4) (by unfold nid;omega) (HL H [.cells [strV n,.slice (l.map Ty.cells) none],.cells [strV tn,.slice (tl.map Ty.cells) none],.cells [strV ByteArray.empty,.v (.slice none 0 0)],.tok 0 2 (some []),.tok 0 2 (some []),.cells [.vec (nid H.next 3) 0,.vec (nid H.next 4) 0]])
  (by simp [pB,Holds])
 simp [pB,puts] at hc;refine awp_sr fun K hK=>?_;refine aOps_split 2 fun K hK=>?_;simp;apply hK;clear hK K;refine aOps_call (hc) (by first | rfl | simp) rfl rfl (by first | (simp;done) | rfl) ?_;simp;apply hK;clear hK K
 rw [he]
 simp [enc_mk]
 exact reset_all hcl
theorem namesAll_c (ts:List Ty) (hg:∀ t∈ts,t.good=true) (hsz:(nodesL ts).length < 1099511627776) (H:AHeap):ACalls Tryz.prog 104 [.slice (ts.map Ty.cells) none] H (strs (namesL ts) none) H:=by
 have hll:=nodesL_len ts
 refine acalls_walk (fun d=>if d=3 then .nilv 1 else .imm) [0,2,3,4,8] Tryz.mixed Tryz.func104 rfl rfl rfl (by decide) (fun hcl hlow=>?_)
 refine awp_sr fun K hK=>?_;simp;apply hK;clear hK K;refine awp_sr fun K hK=>?_;simp;apply hK;clear hK K;repeat with_reducible refine awp_assoc ?_
 refine awp_sr fun K hK=>?_;simp;apply hK;clear hK K;refine awp_seq_k fun K hK=>?_;refine awp_block ?_
 refine awp_up ts.length (fun k=>Env.ofL [(0,.slice (ts.map Ty.cells) none),(3,strs (namesL (ts.take k)) (some (nid H.next 0))),(4,intV k)]) (fun k=>HL (H) [.tok (namesL (ts.take k)).length 1 none]) (fun k=>True) (weak_HL (hcl) (by simp) ?_ ?_) ?_ (fun k hk hi=>?_) (fun hi=>?_)
 ·simp [namesL,nodesL,strs]
 ·simp [namesL,nodesL,strs]
 ·trivial
 ·obtain ⟨x,hx⟩:∃ x,ts[k]?=some x:=⟨_,List.getElem?_eq_getElem hk⟩
  have e1:namesL (ts.take (k+1))=x.nodes.foldl nameStep (namesL (ts.take k)):=by unfold namesL;rw [nodesL_take hx,List.foldl_append]
  have hnk:(nodesL (ts.take k)).length+x.cnt≤(nodesL ts).length:=by
   have h1:=congrArg List.length (nodesL_take hx)
   have h2:nodesL ts=nodesL (ts.take (k+1))++nodesL (ts.drop (k+1)):=by rw [←nodesL_append,List.take_append_drop]
   have h3:=congrArg List.length h2
   rw [List.length_append] at h1 h3;simp only [Ty.cnt];omega
  have hle:=names_len (ts.take k)
  rw [e1]
  have hc:=rnames_c x (hg _ (List.mem_of_getElem? hx)) (namesL (ts.take k)) (nid H.next 0) (HL H [.tok (namesL (ts.take k)).length 1 none]) (by omega) (by simp)
  generalize namesL (ts.take k)=out at hc ⊢
  generalize x.nodes.foldl nameStep out=out' at hc ⊢
  obtain ⟨xn,xl⟩:=x
  simp only [enc_mk] at hc;simp at hc;repeat with_reducible refine awp_assoc ?_
  refine awp_sr fun K hK=>?_;simp [hk];apply hK;clear hK K;refine awp_seq_k fun K hK=>?_;refine awp_condT rfl (by simp) ?_;refine awp_skip ?_;apply hK;clear hK K;refine awp_seq_k fun K hK=>?_;refine awp_block ?_;refine awp_region ?_;refine aOps_split 5 fun K hK=>?_;simp [hx,Ty.cells];apply hK;clear hK K;refine aOps_call (hc) (by first | rfl | simp) rfl rfl (by first | (simp;done) | rfl) ?_;simp;apply hK;clear hK K;refine awp_region ?_;simp [wrap_succ (show k < 4611686018427387904 by omega)]
  refine weak_HL (hcl) (by simp) (by simp) (by simp)
 ·rw [List.take_length]
  repeat with_reducible refine awp_assoc ?_
  refine awp_sr fun K hK=>?_;simp;apply hK;clear hK K;refine awp_seq_k fun K hK=>?_;refine awp_condF rfl (by simp) ?_;refine awp_exit ?_;simp;clear hK K;apply hK;clear hK K;refine awp_sr fun K hK=>?_;simp;apply hK;clear hK K;simp [reset_all hcl]
end Go.Proofs.YtgeehnbbhnpimaaGreat
namespace Go.Proofs.YtgeehnbbhnpimaaGreat
open Go Go.Abs Go.Proofs
set_option maxRecDepth 20000
attribute [local simp] aOps wantedA aStep aop aLoad aStore aBin aUn aFieldAddr aField aIndexAddr aIndex aLen aBuild aFill aAlloc aAppend aBuildSlice litRows newRows isMut isOwn isNilS nilsW bytesR tokW tokAV tokL ret readC splice aeval isLit isLate AV.celled AV.one AV.ofValue Value.oneCell' Value.cells intOp strOp get_nid upd_nid awp aEnd aResults aResult Det unord isCall isNext
attribute [local simp] low_take low_strs low_comp low_tcomp wkEs_refl' WkBs WkEnv WkB WkL WkE WkO ABlock.low lowO lowL lowR AV.low cellsL_eq Ty.low low_map Ty.cells_length Ty.cells_one
inductive PR where
 | ok (t:Ty) (k:Nat)
 | bad (k:Nat)
def PR.at:PR→Nat
 | .ok _ k=>k
 | .bad k=>k
def arwS:ByteArray:=⟨#[45,62]⟩
section
variable (hd:Nat→ByteArray) (nx:Nat→Nat)
mutual
def pAlone:Nat→Nat→Option PR
 | 0,_=>none
 | f+1,k=>if (smallN (hd k) || greatN (hd k))=true then some (.ok (.mk (hd k) []) (nx k))
  else if hd k=opS then (match pWhole f (nx k) with
   | none=>none
   | some (.bad k')=>some (.bad k')
   | some (.ok t k')=>if hd k'=clS then some (.ok t (nx k')) else some (.bad k'))
  else some (.bad k)
def pArgs:Nat→ByteArray→List Ty→Nat→Option PR
 | 0,_,_,_=>none
 | f+1,n,acc,k=>if (smallN (hd k) || greatN (hd k) || decide (hd k=opS))=true then (match pAlone f k with
   | none=>none
   | some (.bad k')=>some (.bad k')
   | some (.ok t k')=>pArgs f n (acc++[t]) k')
  else some (.ok (.mk n acc) k)
def pWhole:Nat→Nat→Option PR
 | 0,_=>none
 | f+1,k=>match (if greatN (hd k)=true then pArgs f (hd k) [] (nx k) else pAlone f k) with
  | none=>none
  | some (.bad k')=>some (.bad k')
  | some (.ok a k')=>if hd k'=arwS then (match pWhole f (nx k') with
    | none=>none
    | some (.bad k2)=>some (.bad k2)
    | some (.ok b k2)=>some (.ok (.mk arrowN [a,b]) k2))
   else some (.ok a k')
end
theorem rd_le {B:Nat} (hB:∀ k,k≤B→nx k≤B):∀ (f:Nat),(∀ k r,k≤B→pAlone hd nx f k=some r→r.at≤B)∧(∀ n acc k r,k≤B→pArgs hd nx f n acc k=some r→r.at≤B)∧(∀ k r,k≤B→pWhole hd nx f k=some r→r.at≤B):=by
 intro f
 induction f with
 | zero=>exact ⟨fun k r _ h=>by simp [pAlone] at h,fun n acc k r _ h=>by simp [pArgs] at h,fun k r _ h=>by simp [pWhole] at h⟩
 | succ f ih =>
  obtain ⟨h1,h2,h3⟩:=ih
  refine ⟨fun k r hk h=>?_,fun n acc k r hk h=>?_,fun k r hk h=>?_⟩
  ·rw [pAlone] at h
   split at h
   ·simp only [Option.some.injEq] at h;subst h;exact hB k hk
   ·split at h
    ·split at h
     ·cases h
     ·rename_i k' hw
      simp only [Option.some.injEq] at h;subst h
      exact h3 _ _ (hB k hk) hw
     ·rename_i t k' hw
      have hk':k'≤B:=h3 _ _ (hB k hk) hw
      split at h
      ·simp only [Option.some.injEq] at h;subst h;exact hB _ hk'
      ·simp only [Option.some.injEq] at h;subst h;exact hk'
    ·simp only [Option.some.injEq] at h;subst h;exact hk
  ·rw [pArgs] at h
   split at h
   ·split at h
    ·cases h
    ·rename_i k' hw
     simp only [Option.some.injEq] at h;subst h
     exact h1 _ _ hk hw
    ·rename_i t k' hw
     exact h2 _ _ _ _ (h1 _ _ hk hw) h
   ·simp only [Option.some.injEq] at h;subst h;exact hk
  ·rw [pWhole] at h
   have hin:∀ r,(if greatN (hd k)=true then pArgs hd nx f (hd k) [] (nx k) else pAlone hd nx f k)=some r→r.at≤B:=by
    intro r hr
    split at hr
    ·exact h2 _ _ _ _ (hB k hk) hr
    ·exact h1 _ _ hk hr
   split at h
   ·cases h
   ·rename_i k' hw
    simp only [Option.some.injEq] at h;subst h
    exact hin _ hw
   ·rename_i a k' hw
    have hk':k'≤B:=hin _ hw
    split at h
    ·split at h
     ·cases h
     ·rename_i k2 hw2
      simp only [Option.some.injEq] at h;subst h
      exact h3 _ _ (hB _ hk') hw2
     ·rename_i b k2 hw2
      simp only [Option.some.injEq] at h;subst h
      have:k2≤B:=h3 _ _ (hB _ hk') hw2
      exact this
    ·simp only [Option.some.injEq] at h;subst h;exact hk'
end
def hdR (s:ByteArray) (k:Nat):ByteArray:=s.extract (spN s k) (endN s (spN s k))
def nxR (s:ByteArray) (k:Nat):Nat:=endN s (spN s k)
def rdS (s:ByteArray) (k:Nat) (bad:Bool):ABlock:=rdC s (spN s k) (endN s (spN s k)) bad
theorem spN_le {s:ByteArray} {k:Nat} (h:k≤s.size):k≤spN s k∧spN s k≤s.size:=by
 have:=(tw_at (p:=isSp) (l:=(byt s).drop k)).1
 simp only [List.length_drop,byt_len] at this
 unfold spN;omega
theorem endN_le {s:ByteArray} {j:Nat} (h:j≤s.size):j≤endN s j∧endN s j≤s.size∧(j < s.size→j < endN s j):=by
 unfold endN
 split
 ·rename_i hj
  have:s.size≤j:=by rw [←byt_len];exact List.getElem?_eq_none_iff.1 hj
  omega
 ·rename_i c hc
  have hlt:j < s.size:=by
   rw [←byt_len];exact (List.getElem?_eq_some_iff.1 hc).1
  split
  ·have:=(tw_at (p:=tailB) (l:=(byt s).drop (j+1))).1
   simp only [List.length_drop,byt_len] at this
   omega
  ·split
   ·rename_i h1
    obtain ⟨_,d,hd,_⟩:=h1
    have:j+1 < s.size:=by rw [←byt_len];exact (List.getElem?_eq_some_iff.1 hd).1
    omega
   ·omega
theorem nxR_le {s:ByteArray} {k:Nat} (h:k≤s.size):nxR s k≤s.size:=(endN_le (spN_le h).2).2.1
def resE:PR→AV
 | .ok t _=>t.enc
 | .bad _=>zeroTy.enc
def resB (s:ByteArray):PR→ABlock
 | .ok _ k=>rdS s k false
 | .bad k=>rdS s k true
end Go.Proofs.YtgeehnbbhnpimaaGreat
namespace Go.Proofs.YtgeehnbbhnpimaaGreat
open Go Go.Abs Go.Proofs
set_option maxRecDepth 20000
attribute [local simp] aOps wantedA aStep aop aLoad aStore aBin aUn aFieldAddr aField aIndexAddr aIndex aLen aBuild aFill aAlloc aAppend aBuildSlice litRows newRows isMut isOwn isNilS nilsW bytesR tokW tokAV tokL ret readC splice aeval isLit isLate AV.celled AV.one AV.ofValue Value.oneCell' Value.cells intOp strOp get_nid upd_nid awp aEnd aResults aResult Det unord isCall isNext
attribute [local simp] low_take low_strs low_comp low_tcomp wkEs_refl' WkBs WkEnv WkB WkL WkE WkO ABlock.low lowO lowL lowR AV.low cellsL_eq Ty.low low_map Ty.cells_length Ty.cells_one
attribute [local simp] low_bind
section
variable {ri:Nat} {s:ByteArray}
theorem token_c {k:Nat} (hk:k≤s.size) {bad:Bool} {H:AHeap} (hH:H.get ri=some (rdS s k bad)):ACalls Tryz.prog 96 [.ref ri 0] H (strV (hdR s k)) H:=by
 have h1:=spN_le hk
 have h2:=endN_le h1.2
 have e:hdR s k=s.extract (spN s k) (endN s (spN s k)):=rfl
 rw [e]
 unfold rdS rdC at hH
 generalize spN s k=a at *
 generalize endN s a=b at *
 refine acalls_walk (fun _=>.imm) [0,2] Tryz.mixed Tryz.func96 rfl rfl rfl (by decide) (fun hcl hlow=>?_)
 have hrl:ri < H.next:=(hcl _ _ hH).1
 have g:∀ bs,(HL H bs).get ri=some (.cells [strV s,intV (a:Int),intV (b:Int),boolV bad]):=fun bs=>by rw [get_lt hrl];exact hH
 refine awp_sr fun K hK=>?_;simp;apply hK;clear hK K;refine awp_sdc [] [[],[],[],[],[0,1,2,3],[0,1,2,3],[0,1,2,3],[0,1,2,3],[0,1,2,3,4,5,6,7],[0,1,2,3,4,5,6,7],[0,1,2,3,4,5,6,7],[0,1,2,3,4,5,6,7],[0,4,8],[]] (by kernel_rfl) (by rfl) fun K hK=>?_;refine aCalm_pre 4 (by rfl) fun K hK=>?_;simp [g];apply hK;clear hK K;refine aCalm_pre 4 (by rfl) fun K hK=>?_;simp [g];apply hK;clear hK K;refine aCalm_pre 4 (by rfl) fun K hK=>?_;simp [g];apply hK;clear hK K
 have t1:(a:Int)≤b:=by omega
 have t2:(b:Int)≤s.size:=by omega
 refine aCalm_pre 2 (by rfl) fun K hK=>?_;simp [t1,t2,aSlice,bnd];apply hK;clear hK K;refine aCalm_end ?_;simp;apply hK;clear hK K;simp [reset_all hcl]
theorem step_c {k:Nat} (hs:s.size < 1152921504606846976) (hk:k≤s.size) {bad:Bool} {H:AHeap} (hH:H.get ri=some (rdS s k bad)):ACalls Tryz.prog 100 [.ref ri 0] H (.tuple []) (H.upd ri (rdS s (nxR s k) bad)):=by
 have h1:=spN_le hk
 have h2:=endN_le h1.2
 have hn:=fun H hH=>next_c ri (nxR s k) (spN s k) (endN s (spN s k)) s bad (nxR_le hk) hs H hH
 have e:nxR s k=endN s (spN s k):=rfl
 have e2:rdC s (spN s (nxR s k)) (endN s (spN s (nxR s k))) bad=rdS s (nxR s k) bad:=rfl
 rw [e2] at hn
 unfold rdS rdC at hH
 have hB:∀ n,(rdS s (nxR s k) bad).low n:=fun n=>⟨trivial,trivial,trivial,trivial,trivial⟩
 generalize rdS s (nxR s k) bad=B at *
 generalize nxR s k=k2 at *
 subst e
 refine acalls_walk (fun _=>.imm) [0] Tryz.mixed Tryz.func100 rfl rfl rfl (by decide) (fun hcl hlow=>?_)
 have hrl:ri < H.next:=(hcl _ _ hH).1
 have g:∀ bs,(HL H bs).get ri=some (.cells [strV s,intV (spN s k:Int),intV (endN s (spN s k):Int),boolV bad]):=fun bs=>by rw [get_lt hrl];exact hH
 refine awp_region ?_;refine aOps_split 5 fun K hK=>?_;simp [g];apply hK;clear hK K;refine aOps_call (hn _ (by rw [g];rfl)) (by first | rfl | simp) rfl rfl (by first | (simp;done) | rfl) ?_;simp [upd_lt hrl]
 exact reset_all (closed_upd hcl hrl (hB _))
theorem rd_low (k:Nat) (bad:Bool) (n:Nat):(rdS s k bad).low n:=⟨trivial,trivial,trivial,trivial,trivial⟩
theorem isArg_c {k:Nat} (hk:k≤s.size) {bad:Bool} {H:AHeap} (hH:H.get ri=some (rdS s k bad)) :
  ACalls Tryz.prog 99 [.ref ri 0] H (boolV (smallN (hdR s k) || greatN (hdR s k) || decide (hdR s k=opS))) H:=by
 have ht:=fun H hH=>token_c (ri:=ri) (bad:=bad) (H:=H) hk hH
 generalize hdR s k=w at ht ⊢
 have h1:=rSmallN_c w
 have h2:=rGreatN_c w
 generalize rdS s k bad=B at hH ht
 refine acalls_walk (fun _=>.imm) [0,2,3] Tryz.mixed Tryz.func99 rfl rfl rfl (by decide) (fun hcl hlow=>?_)
 have hrl:ri < H.next:=(hcl _ _ hH).1
 refine awp_sr fun K hK=>?_;simp;apply hK;clear hK K;refine awp_sr fun K hK=>?_;refine aOps_split 1 fun K hK=>?_;simp;apply hK;clear hK K;refine aOps_call (ht _ (by rw [get_lt hrl];exact hH)) (by first | rfl | simp) rfl rfl (by first | (simp;done) | rfl) ?_;simp;apply hK;clear hK K;refine awp_sr fun K hK=>?_
 suffices hk:∀ c:Bool,c=(smallN w || greatN w || decide (w=opS))→K (Env.ofL [(0,.ref ri 0),(2,boolV c),(3,strV w)]) (HL H []) by
  refine aOps_split 1 fun K hK=>?_;simp;apply hK;clear hK K;refine aOps_call (h1 _) (by first | rfl | simp) rfl rfl (by first | (simp;done) | rfl) ?_
  cases e1:smallN w
  ·refine aOps_split 2 fun K hK=>?_;simp;apply hK;clear hK K;refine aOps_call (h2 _) (by first | rfl | simp) rfl rfl (by first | (simp;done) | rfl) ?_
   cases e2:greatN w
   ·by_cases e3:w=opS
    ·have e4:w=⟨#[40]⟩:=e3
     refine aOps_split 5 fun K hK=>?_;simp [e4];apply hK;clear hK K;simp
     rw [←e4]
     exact hk _ (by simp [e1,e2,e3])
    ·have e4:¬ w=⟨#[40]⟩:=e3
     refine aOps_split 5 fun K hK=>?_;simp [e4];apply hK;clear hK K;simp
     exact hk _ (by simp [e1,e2,e3])
   ·refine aOps_split 5 fun K hK=>?_;simp;apply hK;clear hK K;simp
    exact hk _ (by simp [e1,e2])
  ·refine aOps_split 5 fun K hK=>?_;simp;apply hK;clear hK K;refine aOps_split 3 fun K hK=>?_;simp;apply hK;clear hK K;simp
   exact hk _ (by simp [e1])
 intro c hcd
 apply hK;clear hK K
 rw [hcd]
 simp [reset_all hcl]
end
end Go.Proofs.YtgeehnbbhnpimaaGreat
