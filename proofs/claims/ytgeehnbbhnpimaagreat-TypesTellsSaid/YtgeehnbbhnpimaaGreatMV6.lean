/- The reference's substitution is normal. -/
import Derived.Test.YtgeehnbbhnpimaaGreatMV5
set_option linter.unusedVariables false
set_option linter.unusedSimpArgs false
namespace Go.Proofs.YtgeehnbbhnpimaaGreat
open Go Go.Abs Go.Proofs
section
variable {S:TmS} {T:List Ty} (hN:Nod S T) {up:List Nat} (hR:RefOk S up) {vs:List ByteArray} {ids:List Nat} {names:List ByteArray} (hM:Named S T up vs ids names) (hA:∀ i,i < S.nm.length→∃ t f,treeF (topOf up) S.nm S.ar names f i=some t) (hsm:∀ s∈vs,smallN s=true) (hnd:vs.Nodup)
include hN hR hM
theorem id_at {k j:Nat} (hk:ids[k]?=some j):j < S.nm.length∧∃ v,vs[k]?=some v∧T[j]?=some (varT v):=by
 have _:=hR
 have h1:=hM.at_ k j hk
 have hkl:k < vs.length:=by rw [hM.len];exact (List.getElem?_eq_some_iff.1 hk).1
 rw [List.getElem?_eq_getElem hkl] at h1
 exact ⟨by rw [←hN.len];exact (List.getElem?_eq_some_iff.1 h1).1,_,List.getElem?_eq_getElem hkl,h1⟩
include hsm
theorem thR_id {k j:Nat} {s:ByteArray} (hk:ids[k]?=some j) (hs:vs[k]?=some s):thR S up names s=treeOf (topOf up) S.nm S.ar names j:=by
 obtain ⟨h1,v,h2,h3⟩:=id_at hN hR hM hk
 rw [hs] at h2
 obtain rfl:=Option.some.inj h2
 have hv:(varT s).isVar=true:=smallN_vr (hsm s (List.mem_of_getElem? hs))
 obtain ⟨h4,h5⟩:=var_pos hN h3 hv
 have h4:posN S.nm s < S.nm.length:=h4
 have h5:posN S.nm s=j:=h5
 unfold thR
 rw [if_pos h4,h5]
include hnd hA
theorem own_name {i:Nat} (hi:i < S.nm.length) (hv:vrAt S.nm (topOf up i)=true):Own vs (thR S up names) (names.getD (topOf up i) ByteArray.empty)∧smallN (names.getD (topOf up i) ByteArray.empty)=true:=by
 obtain ⟨k,v,j,h1,h2,h3,h4,h5⟩:=hM.nm i hi hv
 rw [h4]
 have hvm:=List.mem_of_getElem? h1
 refine ⟨⟨hvm,?_,fun a b u ha hb hu=>?_⟩,hsm v hvm⟩
 ·rw [thR_id hN hR hM hsm h2 h1,treeOf_var (by rw [h3];exact hv),h3,h4]
 ·have hak:a=k:=(List.getElem?_inj (List.getElem?_eq_some_iff.1 ha).1 hnd).1 (ha.trans h1.symm)
  obtain ⟨jb,hjb⟩:∃ j,ids[b]?=some j:=⟨_,List.getElem?_eq_getElem (by rw [←hM.len];exact (List.getElem?_eq_some_iff.1 hb).1)⟩
  obtain ⟨hjl,_⟩:=id_at hN hR hM hjb
  rw [thR_id hN hR hM hsm hjb hb] at hu
  by_cases hvb:vrAt S.nm (topOf up jb)=true
  ·rw [treeOf_var hvb,Ty.mk.injEq] at hu
   obtain ⟨k2,v2,j2,g1,g2,g3,g4,g5⟩:=hM.nm jb hjl hvb
   rw [g4] at hu
   obtain rfl:=hu.1
   have e:k2=k:=(List.getElem?_inj (List.getElem?_eq_some_iff.1 g1).1 hnd).1 (g1.trans h1.symm)
   subst e
   rw [h2] at g2
   obtain rfl:=Option.some.inj g2
   refine Classical.byContradiction fun hlt=>?_
   exact h5 b jb (by omega) hjb (g3.symm.trans h3)
  ·exfalso
   rw [treeOf_con hvb (hA jb hjl),Ty.mk.injEq] at hu
   refine hvb ?_
   unfold vrAt
   rw [hu.1]
   exact smallN_vr (hsm v hvm)
theorem tree_rng:∀ (f i:Nat) (t:Ty),i < S.nm.length→treeF (topOf up) S.nm S.ar names f i=some t→VA (Own vs (thR S up names)) t∧t.good=true:=by
 intro f
 induction f using Nat.strongRecOn with
 | _ f ih =>
 intro i t hi ht
 have htop:=hR.wf.top_lt hi
 cases f with
 | zero=>simp [treeF] at ht
 | succ f =>
 rw [treeF] at ht
 by_cases hv:vrAt S.nm (topOf up i)=true
 ·rw [if_pos hv] at ht
  obtain rfl:=Option.some.inj ht
  obtain ⟨h1,h2⟩:=own_name hN hR hM hA hsm hnd hi hv
  exact ⟨(VA_var (smallN_vr h2)).2 h1,(good_mk _ _).2 ⟨node_small h2,by simp⟩⟩
 ·rw [if_neg hv] at ht
  cases hl:treeFL (topOf up) S.nm S.ar names f (S.ar.getD (topOf up i) []) with
  | none=>rw [hl] at ht;cases ht
  | some l =>
   rw [hl] at ht
   have ht:Ty.mk (S.nm.getD (topOf up i) ByteArray.empty) l=t:=Option.some.inj ht
   obtain ⟨h1,h2⟩:=treeFL_at _ _ _ _ hl
   obtain ⟨t1,b1,b2,b3,b4,b5⟩:=nod_node hN htop
   have hvn:vr (S.nm.getD (topOf up i) ByteArray.empty)=false:=by
    show headP smallB _=false
    unfold vrAt at hv;simpa using hv
   have hall:∀ x∈l,VA (Own vs (thR S up names)) x∧x.good=true:=by
    intro x hx
    obtain ⟨m,hm⟩:=List.getElem?_of_mem hx
    have hml:=(List.getElem?_eq_some_iff.1 hm).1
    obtain ⟨j,hj⟩:∃ j,(S.ar.getD (topOf up i) [])[m]?=some j:=⟨_,List.getElem?_eq_getElem (by omega)⟩
    obtain ⟨y,g,e1,e2,e3⟩:=h2 m j hj
    rw [hm] at e1
    obtain rfl:=Option.some.inj e1
    exact ih g (by omega) j x (Nat.lt_trans (nod_arg hN htop j (List.mem_of_getElem? hj)) htop) e3
   rw [←ht]
   refine ⟨(VA_con hvn).2 fun x hx=>(hall x hx).1,(good_mk _ _).2 ⟨?_,fun x hx=>(hall x hx).2⟩⟩
   obtain ⟨n1,l1⟩:=t1
   rw [b3]
   rw [node_len (l:=l) (l':=l1) (by rw [h1,b4];rfl)]
   exact ((good_mk n1 l1).1 b2).1
end
end Go.Proofs.YtgeehnbbhnpimaaGreat
namespace Go.Proofs.YtgeehnbbhnpimaaGreat
open Go Go.Abs Go.Proofs
theorem ref_norm {S:TmS} {T:List Ty} (hN:Nod S T) {up:List Nat} (hR:RefOk S up) {vs:List ByteArray} {ids:List Nat} {names:List ByteArray} (hM:Named S T up vs ids names) (hA:∀ i,i < S.nm.length→∃ t f,treeF (topOf up) S.nm S.ar names f i=some t) (hsm:∀ s∈vs,smallN s=true) (hnd:vs.Nodup)
  {a b:Ty} {x y:Nat} (hx:T[x]?=some a) (hy:T[y]?=some b) (he:topOf up x=topOf up y) (hev:∀ ρ:Sub,sub ρ a=sub ρ b→∀ i,i < S.nm.length→valN (Vl.sub ρ) T (upAt up i)=valN (Vl.sub ρ) T i):NormS vs a b (thR S up names):=by
 have hat:∀ s∈vs,∃ j t f,j < S.nm.length∧T[j]?=some (varT s)∧treeF (topOf up) S.nm S.ar names f j=some t∧thR S up names s=t:=by
  intro s hs
  obtain ⟨k,hk⟩:=List.getElem?_of_mem hs
  obtain ⟨j,hj⟩:∃ j,ids[k]?=some j:=⟨_,List.getElem?_eq_getElem (by rw [←hM.len];exact (List.getElem?_eq_some_iff.1 hk).1)⟩
  obtain ⟨h1,v,h2,h3⟩:=id_at hN hR hM hj
  rw [hk] at h2
  obtain rfl:=Option.some.inj h2
  obtain ⟨t,f,ht⟩:=hA j h1
  exact ⟨j,t,f,h1,h3,ht,by rw [thR_id hN hR hM hsm hj hk,treeOf_eq ht]⟩
 refine ⟨ref_sol hN hR hA hx hy he,fun ρ hρ s hs=>?_,fun s hs=>?_,fun s hs=>?_⟩
 ·obtain ⟨j,t,f,h1,h2,h3,h4⟩:=hat s hs
  have hl:=hev ρ hρ
  have hm:=ref_most hN hR hA hl (fun i hi hv=>by
   obtain ⟨k,v,jj,g1,g2,g3,g4,g5⟩:=hM.nm i hi hv
   obtain ⟨q1,v',q2,q3⟩:=id_at hN hR hM g2
   rw [g1] at q2
   obtain rfl:=Option.some.inj q2
   have hvr:vr v=true:=smallN_vr (hsm v (List.mem_of_getElem? g1))
   obtain ⟨t',ht'⟩:∃ t,T[i]?=some t:=⟨_,List.getElem?_eq_getElem (by rw [hN.len];exact hi)⟩
   rw [g4]
   refine ⟨hvr,t',ht',?_⟩
   have k1:=val_top hl hR.wf (hR.wf.topR q1) q1
   have k2:=val_top hl hR.wf (hR.wf.topR hi) hi
   rw [g3,k2] at k1
   unfold valN at k1
   rw [ht',q3] at k1
   have k3:sub ρ t'=sub ρ (varT v):=Option.some.inj k1
   rw [k3]
   exact (sub_var hvr).symm) f j (varT s) t h2 h3
  rw [h4,hm]
  exact sub_var (smallN_vr (hsm s hs))
 ·obtain ⟨j,t,f,h1,h2,h3,h4⟩:=hat s hs
  rw [h4]
  exact (tree_rng hN hR hM hA hsm hnd f j t h1 h3).1
 ·obtain ⟨j,t,f,h1,h2,h3,h4⟩:=hat s hs
  rw [h4]
  exact (tree_rng hN hR hM hA hsm hnd f j t h1 h3).2
mutual
theorem VA_sub {P Q:ByteArray→Prop} {θ:Sub} (h:∀ v,Q v→VA P (θ v)):∀ t:Ty,VA Q t→VA P (sub θ t)
 | .mk n l,hq=>by
  by_cases hv:vr n=true
  ·rw [sub_var hv];exact h n ((VA_var hv).1 hq)
  ·have hv':vr n=false:=by simpa using hv
   rw [sub_con hv',←subL_eq]
   exact (VA_con hv').2 (VAL_iff.1 (VAL_sub h l (VAL_iff.2 ((VA_con hv').1 hq))))
theorem VAL_sub {P Q:ByteArray→Prop} {θ:Sub} (h:∀ v,Q v→VA P (θ v)):∀ l:List Ty,VAL Q l→VAL P (subL θ l)
 | [],_=>by rw [subL];exact VAL_iff.2 fun t ht=>by cases ht
 | t::l,hq=>by
  have hq':=VAL_iff.1 hq
  rw [subL]
  refine VAL_iff.2 fun x hx=>?_
  rcases List.mem_cons.1 hx with rfl | hx
  ·exact VA_sub h t (hq' t (by simp))
  ·exact VAL_iff.1 (VAL_sub h l (VAL_iff.2 fun y hy=>hq' y (by simp [hy]))) x hx
end
section
variable {ns:List ByteArray} {subs:List Ty} {c:Cl}
theorem top_rank (hn:ns.Nodup) (hw:WF ns subs c):∀ (j:Nat) (u r:ByteArray),lookG (rankL ns) u=some j→topR c u r→∃ i,lookG (rankL ns) r=some i∧i≤j:=by
 intro j
 induction j using Nat.strongRecOn with
 | _ j ih =>
 intro u r hu hr
 have hun:u∈ns:=(rank_get hn).1 ⟨j,hu⟩
 obtain ⟨u',hu'⟩:=lookG_some_of (m:=c.up) (s:=u) (by rw [hw.keys];exact hun)
 obtain ⟨h1,h2⟩:=hw.up u u' hu'
 by_cases e:u'=u
 ·subst e
  have:=(topR_self hu').unique hr
  subst this
  exact ⟨j,hu,Nat.le_refl _⟩
 ·obtain ⟨i,j',h3,h4,h5⟩:=h2.resolve_left e
  rw [hu] at h4
  obtain rfl:=Option.some.inj h4
  have hr':topR c u' r:=by
   obtain ⟨r',q1,_⟩:=topR_ex hn hw h1
   have:topR c u r':=by
    obtain ⟨f0,h⟩:=q1
    exact Ev.succ ⟨f0,fun f hf=>by simp only [topF,hu',if_neg e];exact h f hf⟩
   rw [←this.unique hr];exact q1
  obtain ⟨k,k1,k2⟩:=ih i h5 u' r h3 hr'
  exact ⟨k,k1,by omega⟩
theorem best_rng (hvs:∀ s∈ns,vr s=true) (hn:ns.Nodup) (hS:SubsOk ns subs) (hw:WF ns subs c) (hacc:∀ s∈ns,∀ r,topR c s r→AccE c r) {θ:Sub} (hb:Best ns c θ):∀ s∈ns,VA (Own ns θ) (θ s):=by
 have key:∀ r,AccE c r→topR c r r→r∈ns→VA (Own ns θ) (θ r):=by
  intro r hr
  induction hr with
  | intro r _ ih =>
   intro htop hrn
   cases hk:lookT c.is r with
   | none =>
    rw [hb.leaf r hk htop]
    refine (VA_var (hvs r hrn)).2 ⟨hrn,hb.leaf r hk htop,fun i j u hi hj hu=>?_⟩
    have hun:=List.mem_of_getElem? hj
    obtain ⟨r',q1,q2,q3,_⟩:=topR_ex hn hw hun
    rw [hb.top u hun r' q1] at hu
    have e:r'=r:=by
     cases hk':lookT c.is r' with
     | none =>
      rw [hb.leaf r' hk' (topR_self q3),Ty.mk.injEq] at hu
      exact hu.1
     | some t =>
      rw [hb.node r' t hk',sub_nm (hw.is r' t hk').2.2,Ty.mk.injEq] at hu
      exfalso
      have h2:=(hw.is r' t hk').2.2
      unfold Ty.isVar at h2
      rw [hu.1] at h2
      have h3:=hvs r hrn
      unfold vr at h3
      rw [h3] at h2;cases h2
    subst e
    obtain ⟨ju,hju⟩:=(rank_get hn).2 hun
    obtain ⟨ir,hir,hle⟩:=top_rank hn hw ju u r' hju q1
    have e1:i=ir:=(List.getElem?_inj (List.getElem?_eq_some_iff.1 hi).1 hn).1 (hi.trans (rank_at hir).symm)
    have e2:j=ju:=(List.getElem?_inj (List.getElem?_eq_some_iff.1 hj).1 hn).1 (hj.trans (rank_at hju).symm)
    omega
   | some t =>
    have hti:=hw.is r t hk
    rw [hb.node r t hk]
    refine VA_sub (Q:=(·∈namesL [t])) (fun v hv=>?_) t (VA_names [t] t (by simp))
    have hvn:=names_in hS hti.2.1 hv
    obtain ⟨r',q1,q2,q3,_⟩:=topR_ex hn hw hvn
    rw [hb.top v hvn r' q1]
    exact ih r' ⟨t,v,hk,hv,q1⟩ (topR_self q3) q2
 intro s hs
 obtain ⟨r,q1,q2,q3,_⟩:=topR_ex hn hw hs
 rw [hb.top s hs r q1]
 exact key r (hacc s hs r q1) (topR_self q3) q2
end
end Go.Proofs.YtgeehnbbhnpimaaGreat
namespace Go.Proofs.YtgeehnbbhnpimaaGreat
open Go Go.Abs Go.Proofs
theorem prog_facts (a b:Ty) (ha:a.valid=0) (hb:b.valid=0):∃ m e rb c subs,URun a b m e∧Post (namesL [a,b]) subs (cl0 (namesL [a,b])) c rb (EX a b) (EN a b)∧(rb=false→m=[]∧e=8) ∧
  (rb=true→(e=10∧m=[]∧∀ θ:Sub,sub θ a≠sub θ b)∨∃ θ:Sub,NormS (namesL [a,b]) a b θ∧((sub θ a).large=true→m=[]∧e=3) ∧
   ((sub θ a).large=false→e=0∧Asc m∧∀ s,(s∈namesL [a,b]∧θ s≠.mk s []→lookT m s=some (θ s))∧(¬ (s∈namesL [a,b]∧θ s≠.mk s [])→lookT m s=none))):=by
 classical
 have h0:allV [a,b]=0:=allV_nil.2 ⟨ha,hb⟩
 obtain ⟨hal,hag⟩:=(valid_iff a).1 ha
 obtain ⟨hbl,hbg⟩:=(valid_iff b).1 hb
 have has:=(large_iff a).1 hal
 have hbs:=(large_iff b).1 hbl
 have hn:=names_nodup [a,b]
 have hnl:=names_len [a,b]
 have hva:=VA_names [a,b] a (by simp)
 have hvb:=VA_names [a,b] b (by simp)
 have hvs:=names_small (l:=[a,b]) (by intro t ht;simp at ht;rcases ht with rfl | rfl <;> assumption)
 have hnl2:(nodesL [a,b]).length=a.cnt+b.cnt:=by simp [nodesL,Ty.cnt]
 have hmem:∀ s∈namesL [a,b],s∈namesL [a]∨s∈namesL [b]:=by
  intro s hs
  obtain ⟨x,hx,h1,h2⟩:=names_mem.1 hs
  rcases mem_nodesL.1 hx with ⟨t,ht,hxt⟩
  simp at ht
  rcases ht with rfl | rfl
  ·exact .inl (names_mem.2 ⟨x,by simpa [nodesL] using hxt,h1,h2⟩)
  ·exact .inr (names_mem.2 ⟨x,by simpa [nodesL] using hxt,h1,h2⟩)
 generalize hns:namesL [a,b]=ns at *
 have hVAn:∀ t:Ty,VA (·∈ns) t→t.good=true→∀ x∈t.nodes,VA (·∈ns) x:=by
  intro t
  induction t using Ty.ind with
  | h n l ih =>
  intro hva hg x hx
  have hg':=(good_mk n l).1 hg
  simp only [Ty.nodes,List.mem_cons] at hx
  rcases hx with rfl | hx
  ·exact hva
  ·by_cases hv:vr n=true
   ·obtain ⟨rfl,_⟩:=node_var hg'.1 hv
    simp [nodesL] at hx
   ·obtain ⟨z,hz,h⟩:=mem_nodesL.1 hx
    exact ih z hz ((VA_con (by simpa using hv)).1 hva z hz) (hg'.2 z hz) x h
 have harg:∀ t x y:Ty,x∈t.nodes→y∈x.args→y∈t.nodes:=by
  intro t x y hx hy
  obtain ⟨n,l⟩:=x
  refine node_trans hx ?_
  simp only [Ty.nodes,List.mem_cons]
  exact .inr (mem_nodesL.2 ⟨y,hy,self_node y⟩)
 have hS:SubsOk ns (a.nodes++b.nodes):=by
  refine ⟨fun t ht=>?_,fun t ht=>?_,fun t ht x hx=>?_⟩
  ·rcases List.mem_append.1 ht with ht | ht
   ·exact good_node hag ht
   ·exact good_node hbg ht
  ·rcases List.mem_append.1 ht with ht | ht
   ·exact hVAn a hva hag t ht
   ·exact hVAn b hvb hbg t ht
  ·rcases List.mem_append.1 ht with ht | ht
   ·exact List.mem_append_left _ (harg a t x ht hx)
   ·exact List.mem_append_right _ (harg b t x ht hx)
 have hw0:WF ns (a.nodes++b.nodes) (cl0 ns):=wf0 hn
 generalize hsubs:a.nodes++b.nodes=subs at *
 have hasub:a∈subs:=by rw [←hsubs];exact List.mem_append_left _ (self_node a)
 have hbsub:b∈subs:=by rw [←hsubs];exact List.mem_append_right _ (self_node b)
 obtain ⟨rb,c,⟨f,hun⟩,hpost⟩:=un_run hn hS _ a hasub b hbsub (cl0 ns) hw0 (Nat.le_refl _)
 have hun:=hun f (Nat.le_refl _)
 have hw:=hpost.wf
 cases rb with
 | false =>
  exact ⟨[],8,false,c,subs,.inr ⟨h0,f,false,c,by rw [hns];exact hun,fun _=>⟨rfl,rfl⟩,fun h=>(by cases h)⟩,hpost,fun _=>⟨rfl,rfl⟩,fun h=>(by cases h)⟩
 | true =>
 have hsol:∀ θ,sub θ a=sub θ b→Sol c θ:=fun θ h=>hpost.yes rfl Ty (Vl.sub θ) (sol0 ns θ) h
 obtain ⟨lb,hlo,hcyc,hacc⟩:=loops_run hn hS hw
 cases lb with
 | true =>
  refine ⟨[],10,true,c,subs,.inr ⟨h0,f,true,c,by rw [hns];exact hun,fun h=>(by cases h),fun _=>⟨true,hlo,fun _=>⟨rfl,rfl⟩,fun h=>(by cases h)⟩⟩,hpost,fun h=>(by cases h),fun _=>.inl ⟨rfl,rfl,fun θ h=>?_⟩⟩
  obtain ⟨x,hx⟩:=hcyc rfl
  exact absurd (path_no_sol hn hS hw (hsol _ h) hx) (Nat.lt_irrefl _)
 | false =>
 have hacc:=hacc rfl
 obtain ⟨θ,hbest⟩:=best_ex hn hS hw hacc
 have hsolθ:=hbest.sol hn hw
 have hgθ:=best_good hvs hn hS hw hacc hbest
 have hvr:∀ s∈ns,vr s=true:=fun s hs=>smallN_vr (hvs s hs)
 have hmost:∀ ρ,Sol c ρ→∀ t:Ty,t.good=true→sub ρ (sub θ t)=sub ρ t:=by
  intro ρ hρ t ht
  rw [sub_sub]
  refine sub_congr t (VA_nodes t fun x hx hxv=>?_)
  rcases Best.most hvr hn hS hw hacc hbest hρ x.name with h | h
  ·exact h
  ·obtain ⟨n,l⟩:=x
   change vr n=true at hxv
   change vr n=false at h
   rw [hxv] at h;cases h
 have heq:sub θ a=sub θ b:=by
  have key:∀ n,MetN subs n c θ:=by
   intro n
   induction n with
   | zero=>intro x _ t _ _;show tr 0 _=tr 0 _;simp [tr]
   | succ n ih =>
    obtain ⟨_,_,h3⟩:=hpost.deep rfl n θ (hsolθ.solN n) ih
    intro x hx t ht hk
    rcases h3 x hx t ht hk with h | h
    ·simp [cl0] at h
    ·exact h
  exact EqN.all fun n=>(hpost.deep rfl n θ (hsolθ.solN n) (key n)).2.1
 have hnorm:NormS ns a b θ:=⟨heq,fun ρ hρ s hs=>by
   have h:=hmost ρ (hsol ρ hρ) (.mk s []) ((good_mk _ _).2 ⟨node_small (hvs s hs),by simp⟩)
   rw [sub_var (hvr s hs),sub_var (hvr s hs)] at h
   exact h,best_rng hvr hn hS hw hacc hbest,fun s hs=>hgθ s (hvs s hs)⟩
 have hga:=sub_good hgθ a hag
 obtain ⟨g,hg⟩:=whole_ev hn hS hw hacc a (hS.vars a hasub)
 have hg:=hg g (Nat.le_refl _) 0
 cases hwh:wholeF c g a 0 with
 | none=>rw [hwh] at hg;cases hg
 | some q =>
 obtain ⟨x,n'⟩:=q
 obtain ⟨k,rfl,_,_,hk1,hk2⟩:=(whole_val hn hS hw hbest g).1 a 0 x n' hag (hS.vars a hasub) (by decide) hwh
 by_cases hbig:200 < (k:Int)∨x.large=true
 ·refine ⟨[],3,true,c,subs,.inr ⟨h0,f,true,c,by rw [hns];exact hun,fun h=>(by cases h),fun _=>⟨false,hlo,fun h=>(by cases h),fun _=>⟨g,x,k,hwh,fun _=>⟨rfl,rfl⟩,fun h=>absurd hbig h⟩⟩⟩,hpost,fun h=>(by cases h),fun _=>.inr ⟨θ,hnorm,fun _=>⟨rfl,rfl⟩,fun h4=>?_⟩⟩
  exfalso
  have h5:=(large_iff _).1 h4
  have h6:=hk2 (by omega)
  obtain ⟨h7,h8⟩:=hk1 h6
  rcases hbig with hbig | hbig
  ·rw [h7] at h8;omega
  ·rw [h7,h4] at hbig;cases hbig
 ·have hk200:k≤200:=by
   have:=not_or.1 hbig;omega
  obtain ⟨h7,h8⟩:=hk1 (by omega)
  have hxl:(sub θ a).large=false:=by
   have:=(not_or.1 hbig).2
   rw [←h7];simpa using this
  have hcs:=(large_iff _).1 hxl
  have hin:∀ s∈ns,θ s∈(sub θ a).nodes:=by
   intro s hs
   rcases hmem s hs with h | h
   ·exact (name_sub hag h).1
   ·rw [heq];exact (name_sub hbg h).1
  have hsz:∀ s∈ns,(θ s).cnt≤200∧(θ s).depth≤40:=fun s hs=>by have:=node_cnt (hin s hs);omega
  have hT:∀ s,∃ r,s∈ns→topR c s r:=by
   intro s
   by_cases hs:s∈ns
   ·obtain ⟨r,hr,_⟩:=topR_ex hn hw hs;exact ⟨r,fun _=>hr⟩
   ·exact ⟨s,fun h=>absurd h hs⟩
  have hTT:∃ T:ByteArray→ByteArray,∀ s∈ns,topR c s (T s):=⟨fun s=>(hT s).choose,fun s hs=>(hT s).choose_spec hs⟩
  obtain ⟨T,hT⟩:=hTT
  obtain ⟨g2,hg2⟩:=common_bound (p:=fun s f=>topF c.up f s=some (T s)∧∃ N:Int,wholeF c f (.mk s []) 0=some (θ s,N)) ns (by
   intro s hs
   obtain ⟨f1,h1⟩:=hT s hs
   obtain ⟨f2,h2⟩:=whole_ev hn hS hw hacc (.mk s []) ((VA_var (hvr s hs)).2 hs)
   refine ⟨max f1 f2,fun f hf=>⟨h1 f (by omega),?_⟩⟩
   have h3:=h2 f (by omega) 0
   cases hq:wholeF c f (.mk s []) 0 with
   | none=>rw [hq] at h3;cases h3
   | some q =>
    obtain ⟨y,N⟩:=q
    obtain ⟨k,_,_,_,j1,j2⟩:=(whole_val hn hS hw hbest f).1 (.mk s []) 0 y N ((good_mk _ _).2 ⟨node_small (hvs s hs),by simp⟩) ((VA_var (hvr s hs)).2 hs) (by decide) hq
    have h4:=hsz s hs
    rw [sub_var (hvr s hs)] at j1 j2
    obtain ⟨h5,_⟩:=j1 (j2 (by omega))
    exact ⟨N,by rw [h5]⟩)
  have hN:∃ N:ByteArray→Int,∀ s∈ns,wholeF c g2 (.mk s []) 0=some (θ s,N s) :=
   ⟨fun s=>if h:s∈ns then (hg2 s h).2.choose else 0,fun s hs=>by simp only [dif_pos hs];exact (hg2 s hs).2.choose_spec⟩
  obtain ⟨N,hN⟩:=hN
  generalize hL:((c.up.map (·.1)).filter fun s=>keepU c s (T s)).map (fun s=>(s,θ s))=L
  have hLk:L.map (·.1)=ns.filter fun s=>keepU c s (T s):=by
   rw [←hL,List.map_map,hw.keys];exact List.map_id _
  have hLn:(L.map (·.1)).Nodup:=by rw [hLk];exact hn.filter _
  have hLl:∀ s,lookT L s=if s∈ns∧keepU c s (T s)=true then some (θ s) else none:=by
   intro s
   by_cases hs:s∈ns∧keepU c s (T s)=true
   ·rw [if_pos hs]
    refine lookG_nodup hLn (p:=(s,θ s)) ?_
    rw [←hL,hw.keys]
    exact List.mem_map.2 ⟨s,List.mem_filter.2 hs,rfl⟩
   ·rw [if_neg hs]
    refine lookT_none fun hm=>hs ?_
    rw [hLk] at hm
    exact List.mem_filter.1 hm
  have hkeep:∀ s∈ns,keepU c s (T s)=false→θ s=.mk s []:=by
   intro s hs h
   unfold keepU at h
   simp only [Bool.or_eq_false_iff,Bool.not_eq_false',decide_eq_true_eq] at h
   obtain ⟨e,h⟩:=h
   have htop:=hT s hs
   rw [←e] at htop
   cases hk:lookT c.is s with
   | none=>exact hbest.leaf s hk htop
   | some t =>
    rw [hk] at h
    simp only [decide_eq_false_iff_not] at h
    have hti:=hw.is s t hk
    have:=hS.good t hti.2.1
    obtain ⟨tn,tl⟩:=t
    exact absurd (node_name ((good_mk tn tl).1 this).1) h
  have hkeep2:∀ s∈ns,keepU c s (T s)=true→θ s≠.mk s []:=by
   intro s hs h e
   have hown:=hnorm.rng s hs
   obtain ⟨q2,q3,_⟩:=topR_in hn hw hs (hT s hs)
   have htop:=hbest.top s hs _ (hT s hs)
   cases hk:lookT c.is (T s) with
   | some t =>
    rw [htop,hbest.node _ t hk,sub_nm (hw.is _ t hk).2.2,Ty.mk.injEq] at e
    have h2:=(hw.is _ t hk).2.2
    unfold Ty.isVar at h2
    rw [e.1] at h2
    have h3:=hvr s hs
    unfold vr at h3
    rw [h3] at h2;cases h2
   | none =>
    rw [htop,hbest.leaf _ hk (topR_self q3),Ty.mk.injEq] at e
    have e1:T s=s:=e.1
    unfold keepU at h
    rw [e1] at hk h
    rw [hk] at h
    simp at h
  have hLasc:=sortM_asc hLn
  have hupl:c.up.length≤1000000:=by
   have:(c.up.map (·.1)).length=ns.length:=by rw [hw.keys]
   rw [List.length_map] at this
   omega
  refine ⟨sortM L,0,true,c,subs,.inr ⟨h0,f,true,c,by rw [hns];exact hun,fun h=>(by cases h),fun _=>⟨false,hlo,fun h=>(by cases h),fun _=>⟨g,x,k,hwh,fun h=>absurd h hbig,fun _=>⟨⟨T,θ,g2,N,hupl,by rw [hw.keys];exact hn,
   fun s hs=>(hg2 s (by rwa [hw.keys] at hs)).1,fun s hs=>hN s (by rwa [hw.keys] at hs),by rw [hL]⟩,rfl⟩⟩⟩⟩,hpost,fun h=>(by cases h),fun _=>.inr ⟨θ,hnorm,fun h=>(by rw [hxl] at h;cases h),fun _=>⟨rfl,hLasc,fun s=>?_⟩⟩⟩
  rw [←lookT_perm hLn (sortM_perm L).symm,hLl]
  constructor
  ·rintro ⟨hs,hne⟩
   cases hk:keepU c s (T s) with
   | true=>rw [if_pos ⟨hs,rfl⟩]
   | false=>exact absurd (hkeep s hs hk) hne
  ·intro hno
   refine if_neg fun h=>hno ⟨h.1,hkeep2 s h.1 h.2⟩
end Go.Proofs.YtgeehnbbhnpimaaGreat
