/- The reference's answers are the program's: application, normal form, matching. -/
import Derived.Test.YtgeehnbbhnpimaaGreatMS2
import Derived.Test.YtgeehnbbhnpimaaGreatMP2
set_option linter.unusedVariables false
set_option linter.unusedSimpArgs false
namespace Go.Proofs.YtgeehnbbhnpimaaGreat
open Go Go.Abs Go.Proofs
mutual
theorem dep_depth:∀ t:Ty,t.dep=t.depth
 | .mk n l=>by rw [Ty.dep,Ty.depth,dep_depthL l]
theorem dep_depthL:∀ l:List Ty,depL l=depthL l
 | []=>by rw [depL,depthL]
 | t::l=>by rw [depL,depthL,dep_depth t,dep_depthL l]
end
theorem apply_same (l:TyM) (t:Ty):applyS l t=applyV l t:=by
 unfold applyS applyV
 by_cases h1:substV l=0
 rotate_left
 ·rw [if_neg h1,if_neg h1]
 by_cases h2:t.valid=0
 rotate_left
 ·rw [if_pos h1,if_pos h1,if_neg h2,if_neg h2]
 rw [if_pos h1,if_pos h1,if_pos h2,if_pos h2,dep_depth]
 by_cases h:(putT l t).large=true
 ·have h2:¬ ((putT l t).cnt≤200∧(putT l t).depth≤40):=fun k=>by rw [(large_iff _).2 k] at h;cases h
  rw [if_pos (by omega),if_pos h]
 ·have h2:=(large_iff _).1 (by simpa using h)
  rw [if_neg (by omega),if_neg h]
theorem putS_perm (m:TyM) (b:ByteArray × Ty):(putS m b).Perm (b::m):=by
 unfold putS
 refine List.perm_middle.trans ?_
 rw [List.take_append_drop]
theorem foldS_perm (L m:TyM):(L.foldl putS m).Perm (L++m):=by
 induction L generalizing m with
 | nil=>exact .refl _
 | cons b L ih=>exact (ih (putS m b)).trans (((putS_perm m b).append_left L).trans List.perm_middle)
mutual
theorem put_ext {m m':TyM} (h:∀ s,lookT m s=lookT m' s):∀ t:Ty,putT m t=putT m' t
 | .mk n l=>by rw [putT,putT,h,put_extL h l]
theorem put_extL {m m':TyM} (h:∀ s,lookT m s=lookT m' s):∀ l:List Ty,putL m l=putL m' l
 | []=>by rw [putL,putL]
 | t::l=>by rw [putL,putL,put_ext h t,put_extL h l]
end
theorem norm_same (t:Ty):normS t=normM t:=by
 unfold normS normM
 split
 ·rw [show t.nodes.foldl nameStep []=namesL [t] by unfold namesL;rw [nodesL_one]]
  refine put_ext (fun s=>?_) t
  have hp:=foldS_perm (renM (namesL [t])) []
  rw [List.append_nil] at hp
  have hn:((renM (namesL [t])).map (·.1)).Nodup:=by rw [renM_keys];exact names_nodup _
  exact (lookT_perm hn hp.symm s).symm
 ·rfl
theorem putS_ins:∀ {m:TyM} {b:ByteArray × Ty},(∀ q∈m,b.1≠q.1)→putS m b=insM b m
 | [],b,_=>rfl
 | p::m,b,h=>by
  have ih:=putS_ins (m:=m) (b:=b) fun q hq=>h q (by simp [hq])
  have hne:=h p (by simp)
  rw [insM]
  unfold putS at ih ⊢
  rw [posS]
  rcases ltS_total b.1 p.1 with h1 | h1 | h1
  ·have h2:ltB p.1 b.1=false:=by
    rw [Bool.eq_false_iff];intro h2
    have:=ltS_trans h1 h2
    rw [ltS_irrefl] at this;cases this
   rw [h2,if_neg (by simp),if_pos h1];rfl
  ·exact absurd h1 hne
  ·have h2:¬ ltS b.1 p.1=true:=fun h2=>by
    have:=ltS_trans h1 h2
    rw [ltS_irrefl] at this;cases this
   rw [show ltB p.1 b.1=true from h1,if_pos rfl,if_neg h2,List.take_succ_cons,List.drop_succ_cons,List.cons_append,ih]
theorem lookT_nokey {m:TyM} {s:ByteArray} (h:lookT m s=none):∀ q∈m,s≠q.1:=fun q hq e=>lookG_none_iff.1 (show lookG m s=none from h) (List.mem_map.2 ⟨q,hq,e.symm⟩)
mutual
theorem me_mat:∀ (p t:Ty) (m m':TyM),(m.map (·.1)).Nodup→m'.Perm m→Asc m'→(meT p t m').1=(matT p t m).1∧((matT p t m).1=true→(meT p t m').2.Perm (matT p t m).2∧Asc (meT p t m').2)
 | .mk n l,t,m,m',hn,hp,ha=>by
  have hl:=lookT_perm hn hp.symm n
  rw [meT,matT]
  by_cases hv:headP smallB n=true
  ·rw [if_pos hv,if_pos hv,←hl]
   cases hk:lookT m n with
   | some x=>exact ⟨rfl,fun _=>⟨hp,ha⟩⟩
   | none =>
    refine ⟨rfl,fun _=>⟨(putS_perm m' (n,t)).trans ((hp.cons _).trans (List.perm_append_singleton _ _).symm),?_⟩⟩
    have hne:=lookT_nokey (hl ▸ hk:lookT m' n=none)
    show Asc (putS m' (n,t))
    rw [putS_ins (b:=(n,t)) hne]
    exact insM_asc ha hne
  ·rw [if_neg hv,if_neg hv]
   split
   ·exact me_matL l t.args m m' hn hp ha
   ·exact ⟨rfl,fun h=>by cases h⟩
theorem me_matL:∀ (p t:List Ty) (m m':TyM),(m.map (·.1)).Nodup→m'.Perm m→Asc m'→(meL p t m').1=(matL p t m).1∧((matL p t m).1=true→(meL p t m').2.Perm (matL p t m).2∧Asc (meL p t m').2)
 | p::ps,t::ts,m,m',hn,hp,ha=>by
  obtain ⟨h1,h2⟩:=me_mat p t m m' hn hp ha
  rw [meL,matL,h1]
  by_cases hb:(matT p t m).1=true
  ·rw [if_pos hb,if_pos hb]
   obtain ⟨h3,h4⟩:=h2 hb
   exact me_matL ps ts _ _ (matT_nodup p t m hn) h3 h4
  ·rw [if_neg hb,if_neg hb]
   exact ⟨rfl,fun h=>by cases h⟩
 | [],t,m,m',hn,hp,ha=>by
  simp only [meL,matL];exact ⟨trivial,fun _=>⟨hp,ha⟩⟩
 | _::_,[],m,m',hn,hp,ha=>by
  simp only [meL,matL];exact ⟨trivial,fun _=>⟨hp,ha⟩⟩
end
theorem allV_pair (a b:Ty):allV [a,b]=if a.valid=0 then b.valid else a.valid:=by
 simp only [allV]
 split
 ·split
  ·rename_i h;exact h.symm
  ·rfl
 ·rfl
theorem meet_same (p t:Ty):meetV p t=matchV p t:=by
 obtain ⟨h1,h2⟩:=me_mat p t [] [] List.nodup_nil (.refl _) .nil
 unfold meetV matchV
 rw [allV_pair]
 by_cases hp:p.valid=0
 rotate_left
 ·rw [if_neg hp,if_neg hp,if_neg hp]
 by_cases ht:t.valid=0
 rotate_left
 ·rw [if_pos hp,if_pos hp,if_neg ht,if_neg ht]
 rw [if_pos hp,if_pos hp,if_pos ht,if_pos ht,h1]
 by_cases hb:(matT p t []).1=true
 ·rw [if_pos hb,if_pos hb]
  obtain ⟨h3,h4⟩:=h2 hb
  rw [sortM_eq (matT_nodup p t [] List.nodup_nil) h3 h4]
 ·rw [if_neg hb,if_neg hb]
def metAt (k:Nat) (L:PairsL):Met:=(L.zipIdx k).map fun p=>(keyN p.1.1 p.1.2,vN p.2)
def GoodP (L:PairsL):Prop:=∀ q∈L,q.1.good=true∧q.2.good=true
theorem metAt_len (k:Nat) (L:PairsL):(metAt k L).length=L.length:=by simp [metAt]
theorem metAt_app (L:PairsL) (a b:Ty):metAt 0 (L++[(a,b)])=metAt 0 L++[(keyN a b,vN L.length)]:=by
 simp [metAt,List.zipIdx_append]
theorem posP_le:∀ (L:PairsL) (a b:Ty),posP L a b≤L.length
 | [],_,_=>Nat.le_refl _
 | q::L,a,b=>by
  have:=posP_le L a b
  rw [posP];split
  ·simp
  ·simp;exact this
theorem look_metAt:∀ (L:PairsL) (k:Nat) (a b:Ty),GoodP L→a.good=true→b.good=true→lookG (metAt k L) (keyN a b)=if posP L a b < L.length then some (vN (k+posP L a b)) else none
 | [],k,a,b,_,_,_=>by simp [metAt,lookG,posP]
 | q::L,k,a,b,hL,ha,hb=>by
  have ih:=look_metAt L (k+1) a b (fun q hq=>hL q (by simp [hq])) ha hb
  obtain ⟨g1,g2⟩:=hL q (by simp)
  have e:metAt k (q::L)=(keyN q.1 q.2,vN k)::metAt (k+1) L:=by simp [metAt,List.zipIdx_cons]
  rw [e,lookG_cons,ih,posP]
  by_cases h:q.1=a∧q.2=b
  ·obtain ⟨rfl,rfl⟩:=h
   rw [if_pos rfl,show (eqT q.1 q.1 && eqT q.2 q.2)=true by simp [eqT_iff],if_pos rfl]
   simp
  ·have h2:¬ keyN a b=keyN q.1 q.2:=fun hk=>by
    obtain ⟨e1,e2⟩:=key_inj ha hb g1 g2 hk
    exact h ⟨e1.symm,e2.symm⟩
   have h3:¬ (eqT q.1 a && eqT q.2 b)=true:=by simpa [eqT_iff] using h
   rw [if_neg h2,if_neg h3]
   simp only [List.length_cons,Nat.add_lt_add_iff_right]
   split
   ·rw [show k+1+posP L a b=k+(posP L a b+1) by omega]
   ·rfl
theorem vN_nodup (K:Nat):((List.range K).map vN).Nodup:=by
 refine List.Pairwise.map _ (fun a b h e=>h (vN_inj e)) List.nodup_range
theorem put_vN {K i:Nat} (h:i < K):putT (renM ((List.range K).map vN)) (.mk (vN i) [])=.mk (letS i) []:=by
 have hl:=renM_look (vN_nodup K) (i:=i) (s:=vN i) (by simp [h])
 have hv:headP smallB (vN i)=true:=vN_vr i
 rw [putT,if_pos hv,hl]
theorem step_con {n:ByteArray} {l:List Ty} (h:vr n=false) (out:List ByteArray):nameStep out (.mk n l)=out:=by
 unfold nameStep Ty.isVar
 rw [if_neg (by show ¬ vr n=true;simp [h])]
theorem step_var {s:ByteArray} (h:vr s=true) (out:List ByteArray):nameStep out (.mk s [])=if memS s out then out else out++[s]:=by
 unfold nameStep;exact if_pos h
theorem step_vN (k i:Nat) (h:i≤k):nameStep ((List.range k).map vN) (.mk (vN i) [])=(List.range (max k (i+1))).map vN:=by
 rw [step_var (vN_vr i)]
 by_cases hi:i < k
 ·have hm:memS (vN i) ((List.range k).map vN)=true:=memS_iff.2 (List.mem_map_of_mem (List.mem_range.2 hi))
  rw [if_pos hm,Nat.max_eq_left (by omega)]
 ·obtain rfl:i=k:=by omega
  have hm:¬ memS (vN i) ((List.range i).map vN)=true:=fun hm=>by
   obtain ⟨j,hj,e⟩:=List.mem_map.1 (memS_iff.1 hm)
   have:=vN_inj e
   have:=List.mem_range.1 hj
   omega
  rw [if_neg hm,Nat.max_eq_right (by omega),List.range_succ,List.map_append]
  rfl
structure CC (L L':PairsL) (m':Met) (x y:List Ty):Prop where
 met:m'=metAt 0 L'
 gd:GoodP L'
 le:L.length≤L'.length
 ren:∀ K,L'.length≤K→putL (renM ((List.range K).map vN)) x=y
 nms:(nodesL x).foldl nameStep ((List.range L.length).map vN)=(List.range L'.length).map vN
theorem cmT_con {n m:ByteArray} {l k:List Ty} {L:PairsL} (h:headP smallB n=false∧(Ty.mk m k).isVar=false∧n=m∧l.length=k.length):cmT (.mk n l) (.mk m k) L=(.mk n (cmL l k L).1,(cmL l k L).2):=by
 rw [cmT];exact if_pos h
theorem cmT_var {n m:ByteArray} {l k:List Ty} {L:PairsL} (h:¬ (headP smallB n=false∧(Ty.mk m k).isVar=false∧n=m∧l.length=k.length)):cmT (.mk n l) (.mk m k) L=(.mk (letS (posP L (.mk n l) (.mk m k))) [],addP L (.mk n l) (.mk m k)):=by
 rw [cmT];exact if_neg h
mutual
theorem com_cm:∀ (a b:Ty) (L:PairsL),a.good=true→b.good=true→GoodP L→CC L (cmT a b L).2 (comT a b (metAt 0 L)).2 [(comT a b (metAt 0 L)).1] [(cmT a b L).1]
 | .mk n l,.mk m k,L,ha,hb,hL=>by
  rw [comT]
  by_cases hc:n=m∧l.length=k.length∧headP smallB n=false
  ·have hc2:headP smallB n=false∧(Ty.mk m k).isVar=false∧n=m∧l.length=k.length:=⟨hc.2.2,by rw [←hc.1];exact hc.2.2,hc.1,hc.2.1⟩
   rw [if_pos hc,cmT_con hc2]
   have h:=com_cmL l k L ((good_mk _ _).1 ha).2 ((good_mk _ _).1 hb).2 hL
   refine ⟨h.met,h.gd,h.le,fun K hK=>?_,?_⟩
   ·rw [putL,putL,putT,if_neg (by rw [hc.2.2];simp),h.ren K hK]
   ·simp only [nodesL,Ty.nodes,List.append_nil,List.foldl_cons]
    rw [step_con hc.2.2];exact h.nms
  ·have hc2:¬ (headP smallB n=false∧(Ty.mk m k).isVar=false∧n=m∧l.length=k.length):=fun h=>hc ⟨h.2.2.1,h.2.2.2,h.1⟩
   rw [if_neg hc,cmT_var hc2,look_metAt L 0 _ _ hL ha hb]
   have hle:=posP_le L (.mk n l) (.mk m k)
   unfold addP
   by_cases hp:posP L (.mk n l) (.mk m k) < L.length
   ·rw [if_pos hp,if_pos hp]
    simp only [Nat.zero_add]
    refine ⟨rfl,hL,Nat.le_refl _,fun K hK=>?_,?_⟩
    ·rw [putL,putL,put_vN (by omega)]
    ·simp only [nodesL,Ty.nodes,List.append_nil,List.foldl_cons,List.foldl_nil]
     rw [step_vN _ _ (by omega),Nat.max_eq_left (by omega)]
   ·obtain e:posP L (.mk n l) (.mk m k)=L.length:=by omega
    rw [if_neg hp,if_neg hp,e,metAt_len]
    refine ⟨(metAt_app _ _ _).symm,?_,by simp,fun K hK=>?_,?_⟩
    ·intro q hq
     rcases List.mem_append.1 hq with hq | hq
     ·exact hL q hq
     ·simp at hq;subst hq;exact ⟨ha,hb⟩
    ·rw [putL,putL,put_vN (by simp at hK;omega)]
    ·simp only [nodesL,Ty.nodes,List.append_nil,List.foldl_cons,List.foldl_nil]
     rw [step_vN _ _ (by omega),Nat.max_eq_right (by omega)]
     simp
theorem com_cmL:∀ (a b:List Ty) (L:PairsL),(∀ t∈a,t.good=true)→(∀ t∈b,t.good=true)→GoodP L→CC L (cmL a b L).2 (comL a b (metAt 0 L)).2 (comL a b (metAt 0 L)).1 (cmL a b L).1
 | a::xs,b::ys,L,ha,hb,hL=>by
  have h1:=com_cm a b L (ha a (by simp)) (hb b (by simp)) hL
  have h2:=com_cmL xs ys (cmT a b L).2 (fun t ht=>ha t (by simp [ht])) (fun t ht=>hb t (by simp [ht])) h1.gd
  rw [comL,cmL,h1.met]
  refine ⟨h2.met,h2.gd,Nat.le_trans h1.le h2.le,fun K hK=>?_,?_⟩
  ·have r1:=h1.ren K (Nat.le_trans h2.le hK)
   rw [putL,putL] at r1
   rw [putL,h2.ren K hK]
   have:=(List.cons.inj r1).1
   rw [this]
  ·have n1:=h1.nms
   simp only [nodesL,List.append_nil] at n1;simp only [nodesL]
   rw [List.foldl_append,n1,h2.nms]
 | [],b,L,ha,hb,hL=>by
  simp only [comL,cmL]
  exact ⟨rfl,hL,Nat.le_refl _,fun _ _=>rfl,rfl⟩
 | _::_,[],L,ha,hb,hL=>by
  simp only [comL,cmL]
  exact ⟨rfl,hL,Nat.le_refl _,fun _ _=>rfl,rfl⟩
end
theorem common_same (a b:Ty):comR a b=commonV a b:=by
 unfold comR commonV
 rw [allV_pair]
 by_cases hp:a.valid=0
 rotate_left
 ·rw [if_neg hp,if_neg hp,if_neg hp]
 by_cases ht:b.valid=0
 rotate_left
 ·rw [if_pos hp,if_pos hp,if_neg ht,if_neg ht]
 rw [if_pos hp,if_pos hp,if_pos ht,if_pos ht]
 have h:=com_cm a b [] ((valid_iff a).1 hp).2 ((valid_iff b).1 ht).2 (fun q hq=>by cases hq)
 have hm:metAt 0 []=[]:=rfl
 rw [hm] at h
 have hn:namesL [(comT a b []).1]=(List.range (cmT a b []).2.length).map vN:=h.nms
 have hr:=h.ren _ (Nat.le_refl _)
 rw [putL,putL] at hr
 rw [hn,(List.cons.inj hr).1]
theorem sub_id:∀ t:Ty,t.good=true→sub (fun s=>.mk s []) t=t:=by
 intro t
 induction t using Ty.ind with
 | h n l ih =>
 intro hg
 obtain ⟨h1,h2⟩:=(good_mk n l).1 hg
 by_cases hv:vr n=true
 ·rw [sub_var hv,(node_var h1 hv).1]
 ·rw [sub_con (by simpa using hv)]
  congr 1
  conv=>rhs;rw [←List.map_id l]
  exact List.map_congr_left fun t ht=>ih t ht (h2 t ht)
section
variable {ρ:Sub} {ν:ByteArray→ByteArray} {vs:List ByteArray} (hρ:∀ s∈vs,ρ s=.mk (ν s) []) (hinj:∀ s∈vs,∀ r∈vs,ν s=ν r→s=r) (hvr:∀ s∈vs,vr (ν s)=true)
include hρ hinj hvr
theorem memS_map {s:ByteArray} {out:List ByteArray} (hs:s∈vs) (ho:∀ x∈out,x∈vs):memS (ν s) (out.map ν)=memS s out:=by
 have _:=hρ
 have _:=hvr
 rw [Bool.eq_iff_iff,memS_iff,memS_iff]
 constructor
 ·intro h
  obtain ⟨x,hx,e⟩:=List.mem_map.1 h
  rw [←hinj x (ho x hx) s hs e];exact hx
 ·exact fun h=>List.mem_map_of_mem h
mutual
theorem names_ren:∀ t:Ty,t.good=true→VA (·∈vs) t→∀ out:List ByteArray,(∀ x∈out,x∈vs)→(sub ρ t).nodes.foldl nameStep (out.map ν)=(t.nodes.foldl nameStep out).map ν∧∀ x∈t.nodes.foldl nameStep out,x∈vs
 | .mk n l,hg,hva,out,ho=>by
  obtain ⟨h1,h2⟩:=(good_mk n l).1 hg
  by_cases hv:vr n=true
  ·obtain ⟨rfl,_⟩:=node_var h1 hv
   have hn:=(VA_var hv).1 hva
   rw [sub_var hv,hρ n hn]
   simp only [Ty.nodes,nodesL,List.foldl_cons,List.foldl_nil]
   rw [step_var (hvr n hn),step_var hv,memS_map hρ hinj hvr hn ho]
   by_cases hm:memS n out=true
   ·rw [if_pos hm,if_pos hm];exact ⟨rfl,ho⟩
   ·rw [if_neg hm,if_neg hm]
    refine ⟨by simp,fun x hx=>?_⟩
    rcases List.mem_append.1 hx with hx | hx
    ·exact ho x hx
    ·simp at hx;subst hx;exact hn
  ·have hv':vr n=false:=by simpa using hv
   rw [sub_con hv']
   simp only [Ty.nodes,List.foldl_cons]
   rw [step_con hv',step_con hv',←subL_eq]
   exact names_renL l h2 ((VAL_iff).2 ((VA_con hv').1 hva)) out ho
theorem names_renL:∀ l:List Ty,(∀ t∈l,t.good=true)→VAL (·∈vs) l→∀ out:List ByteArray,(∀ x∈out,x∈vs)→(nodesL (subL ρ l)).foldl nameStep (out.map ν)=((nodesL l).foldl nameStep out).map ν∧∀ x∈(nodesL l).foldl nameStep out,x∈vs
 | [],_,_,out,ho=>by
  have _:=hρ
  have _:=hinj
  have _:=hvr
  exact ⟨rfl,ho⟩
 | t::l,hg,hva,out,ho=>by
  have hva':=VAL_iff.1 hva
  obtain ⟨a1,a2⟩:=names_ren t (hg t (by simp)) (hva' t (by simp)) out ho
  obtain ⟨b1,b2⟩:=names_renL l (fun t ht=>hg t (by simp [ht])) (VAL_iff.2 fun t ht=>hva' t (by simp [ht])) _ a2
  rw [subL]
  simp only [nodesL]
  rw [List.foldl_append,List.foldl_append,a1]
  exact ⟨b1,b2⟩
end
end
theorem renL_at {vs fr:List ByteArray} {i:Nat} {s:ByteArray} (h:vs[i]?=some s):(renL vs fr vs.length)[i]?=some (s,varT (pickN fr i s)):=by
 have hi:=(List.getElem?_eq_some_iff.1 h).1
 unfold renL
 rw [List.getElem?_map,List.getElem?_range hi]
 simp only [Option.map_some,renAt]
 rw [List.getD_eq_getElem?_getD,h];rfl
theorem renL_keys (vs fr:List ByteArray):(renL vs fr vs.length).map (·.1)=vs:=by
 refine List.ext_getElem? fun i=>?_
 rw [List.getElem?_map]
 cases h:vs[i]? with
 | none =>
  rw [List.getElem?_eq_none (by rw [renL_len];exact List.getElem?_eq_none_iff.1 h)];rfl
 | some s=>rw [renL_at h];rfl
theorem renames_facts (t:Ty) (fr:List ByteArray) (hv:t.valid=0) (ha:Apart (renL (varsR t) fr (varsR t).length)) :
  (putT (renL (varsR t) fr (varsR t).length) t).valid=0∧normM (putT (renL (varsR t) fr (varsR t).length) t)=normM t∧(matchV t (putT (renL (varsR t) fr (varsR t).length) t)).2=0∧(matchV (putT (renL (varsR t) fr (varsR t).length) t) t).2=0:=by
 have evs:varsR t=namesL [t]:=by unfold varsR;rw [if_pos hv]
 rw [evs] at ha ⊢
 obtain ⟨hl,hg⟩:=(valid_iff t).1 hv
 have hnd:=names_nodup [t]
 have hsm:=names_small (l:=[t]) (by simpa using hg)
 have hva:VA (·∈namesL [t]) t:=VA_names [t] t (by simp)
 generalize evn:namesL [t]=vs at *
 have hk:=renL_keys vs fr
 have hat:=fun i s (h:vs[i]?=some s)=>renL_at (fr:=fr) h
 have hml:=renL_len vs fr vs.length
 generalize renL vs fr vs.length=m at *
 have hlook:∀ i s,vs[i]?=some s→lookT m s=some (varT (pickN fr i s)):=fun i s h =>
  lookG_nodup (m:=m) (by rw [hk];exact hnd) (List.mem_of_getElem? (hat i s h))
 have hps:∀ i s,vs[i]?=some s→smallN (pickN fr i s)=true:=fun i s h=>by
  unfold pickN
  split
  ·split
   ·assumption
   ·exact hsm s (List.mem_of_getElem? h)
  ·exact hsm s (List.mem_of_getElem? h)
 rw [put_sub m t hg]
 have hρ:∀ i s,vs[i]?=some s→lsub m s=.mk (pickN fr i s) []:=fun i s h=>by unfold lsub;rw [hlook i s h];rfl
 have hν:∀ s∈vs,lsub m s=.mk (lsub m s).name []:=fun s hs=>by
  obtain ⟨i,hi⟩:=List.getElem?_of_mem hs
  rw [hρ i s hi];rfl
 have hνs:∀ s∈vs,smallN (lsub m s).name=true:=fun s hs=>by
  obtain ⟨i,hi⟩:=List.getElem?_of_mem hs
  rw [hρ i s hi];exact hps i s hi
 have hinj:∀ s∈vs,∀ r∈vs,(lsub m s).name=(lsub m r).name→s=r:=by
  intro s hs r hr e
  obtain ⟨i,hi⟩:=List.getElem?_of_mem hs
  obtain ⟨j,hj⟩:=List.getElem?_of_mem hr
  rw [hρ i s hi,hρ j r hj] at e
  rcases Nat.lt_trichotomy i j with h | rfl | h
  ·exact absurd e (ha i j _ _ h (hat i s hi) (hat j r hj))
  ·rw [hi] at hj;exact Option.some.inj hj
  ·exact absurd e.symm (ha j i _ _ h (hat j r hj) (hat i s hi))
 have hout:∀ s,s ∉ vs→lsub m s=.mk s []:=fun s hs=>by
  unfold lsub
  rw [show lookT m s=none from lookG_none_iff.2 (by rw [hk];exact hs)];rfl
 generalize lsub m=ρ at *
 have hleaf:∀ s,∃ n,ρ s=.mk n []:=fun s=>by
  by_cases hs:s∈vs
  ·exact ⟨_,hν s hs⟩
  ·exact ⟨_,hout s hs⟩
 have hgood:∀ s,smallN s=true→(ρ s).good=true:=fun s hsm=>by
  by_cases hs:s∈vs
  ·rw [hν s hs];exact (good_mk _ _).2 ⟨node_small (hνs s hs),by simp⟩
  ·rw [hout s hs];exact (good_mk _ _).2 ⟨node_small hsm,by simp⟩
 have hle:=leaf_le hleaf t
 have hlt:=(large_iff t).1 hl
 have hg':=sub_good hgood t hg
 have hv':(sub ρ t).valid=0:=(valid_iff _).2 ⟨(large_iff _).2 ⟨by omega,by omega⟩,hg'⟩
 have hvr:∀ s∈vs,vr (ρ s).name=true:=fun s hs=>smallN_vr (hνs s hs)
 refine ⟨hv',?_,(match_iff _ _).2 ⟨hv,hv',ρ,rfl⟩,(match_iff _ _).2 ⟨hv',hv,?_⟩⟩
 ·have hn:=(names_ren (ν:=fun s=>(ρ s).name) hν hinj hvr t hg hva [] (by simp)).1
  have e1:t.nodes.foldl nameStep []=vs:=by rw [←evn];unfold namesL;rw [nodesL_one]
  rw [e1,List.map_nil] at hn
  have e2:namesL [sub ρ t]=vs.map fun s=>(ρ s).name:=by unfold namesL;rw [nodesL_one];exact hn
  unfold normM
  rw [if_pos hv',if_pos hv,e2,evn,put_sub _ _ hg',put_sub _ _ hg,sub_sub]
  refine sub_congr t (VA_mono (fun s hs=>?_) t hva)
  obtain ⟨i,hi⟩:=List.getElem?_of_mem hs
  rw [hν s hs,sub_var (hvr s hs)]
  have n2:(vs.map fun s=>(ρ s).name).Nodup:=by rw [←e2];exact names_nodup _
  have l2:=renM_look n2 (i:=i) (s:=(ρ s).name) (by rw [List.getElem?_map,hi];rfl)
  have l1:=renM_look hnd hi
  unfold lsub
  rw [l1,l2];rfl
 ·classical
  refine ⟨fun u=>if h:∃ s,s∈vs∧(ρ s).name=u then .mk h.choose [] else .mk u [],?_⟩
  rw [sub_sub]
  refine (sub_congr t (VA_mono (fun s hs=>?_) t hva)).trans (sub_id t hg)
  rw [hν s hs,sub_var (hvr s hs)]
  have hex:∃ r,r∈vs∧(ρ r).name=(ρ s).name:=⟨s,hs,rfl⟩
  rw [dif_pos hex]
  have hc:=hex.choose_spec
  rw [hinj _ hc.1 s hs hc.2]
end Go.Proofs.YtgeehnbbhnpimaaGreat
