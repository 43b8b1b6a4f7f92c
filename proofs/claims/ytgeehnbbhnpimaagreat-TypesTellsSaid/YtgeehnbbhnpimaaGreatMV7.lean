/- The reference's list of bindings. -/
import Derived.Test.YtgeehnbbhnpimaaGreatMV6
set_option linter.unusedVariables false
set_option linter.unusedSimpArgs false
namespace Go.Proofs.YtgeehnbbhnpimaaGreat
open Go Go.Abs Go.Proofs
theorem outS_facts:∀ (vs:List ByteArray) (ts:List Ty) (out:TyM),vs.length=ts.length→vs.Nodup→(∀ q∈out,q.1 ∉ vs)→Asc out→Asc (outS vs ts out)∧(outS vs ts out).Perm (out++(vs.zip ts).filter fun p=>!eqT p.2 (varT p.1))
 | [],[],out,_,_,_,ha=>by rw [outS];exact ⟨ha,by simp⟩;all_goals simp
 | [],_::_,_,h,_,_,_=>by simp at h
 | _::_,[],_,h,_,_,_=>by simp at h
 | s::vs,t::ts,out,hl,hn,ho,ha=>by
  obtain ⟨hn1,hn2⟩:=List.nodup_cons.1 hn
  rw [outS,List.zip_cons_cons]
  by_cases he:eqT t (varT s)=true
  ·rw [if_pos he,List.filter_cons_of_neg (by simp [he])]
   exact outS_facts vs ts out (by simpa using hl) hn2 (fun q hq h=>ho q hq (by simp [h])) ha
  ·have hne:∀ q∈out,s≠q.1:=fun q hq e=>ho q hq (by simp [←e])
   have hins:=putS_ins (b:=(s,t)) hne
   rw [if_neg he,List.filter_cons_of_pos (by simpa using he)]
   obtain ⟨h1,h2⟩:=outS_facts vs ts (putS out (s,t)) (by simpa using hl) hn2 (fun q hq h=>by
    rcases List.mem_cons.1 ((putS_perm out (s,t)).subset hq) with rfl | hq
    ·exact hn1 h
    ·exact ho q hq (by simp [h])) (by rw [hins];exact insM_asc ha hne)
   refine ⟨h1,h2.trans ?_⟩
   exact ((putS_perm out (s,t)).append_right _).trans List.perm_middle.symm
theorem zip_self_map (θ:Sub):∀ vs:List ByteArray,vs.zip (vs.map θ)=vs.map fun s=>(s,θ s)
 | []=>rfl
 | s::vs=>by simp only [List.map_cons,List.zip_cons_cons,zip_self_map θ vs]
theorem unify_valid (a b:Ty) (ha:a.valid=0) (hb:b.valid=0):∃ m e r ts,URun a b m e∧uRes a b r ts=(m,e)∧UOk a b r ts∧∀ p∈m,p.2.cnt≤200:=by
 classical
 obtain ⟨hal,hag⟩:=(valid_iff a).1 ha
 obtain ⟨hbl,hbg⟩:=(valid_iff b).1 hb
 have has:=(large_iff a).1 hal
 have hbs:=(large_iff b).1 hbl
 have hsm:∀ s∈uVars a b,smallN s=true:=names_small (l:=[a,b]) (by intro t ht;simp at ht;rcases ht with rfl | rfl <;> assumption)
 have hnd:(uVars a b).Nodup:=names_nodup [a,b]
 have hvr:∀ s∈uVars a b,vr s=true:=fun s hs=>smallN_vr (hsm s hs)
 have hne:∀ s∈uVars a b,s≠ByteArray.empty:=fun s hs e=>by have:=hsm s hs;rw [e] at this;exact absurd this (by decide)
 obtain ⟨T,hN,hTa,hTb,hids,hvn⟩:=u_nods a b hag hbg
 have hnl2:(nodesL [a,b]).length=a.cnt+b.cnt:=by simp [nodesL,Ty.cnt]
 have hz:(uS a b).nm.length < 1000000:=by have:=u_len a b;omega
 obtain ⟨hjo,hpot⟩:=u_join hN hz
 have hxl:(uA a b).1 < (uS a b).nm.length:=by rw [←hN.len];exact (List.getElem?_eq_some_iff.1 hTa).1
 have hyl:(uB a b).1 < (uS a b).nm.length:=by rw [←hN.len];exact (List.getElem?_eq_some_iff.1 hTb).1
 obtain ⟨f,r,hr⟩:=u_run hN hxl hyl
 obtain ⟨hwf,hrok⟩:=ref_ok hN hxl hyl hr
 have hlen:(uVars a b).length=(uSeed a b).1.length:=by unfold uSeed;rw [addL_len,List.length_map]
 have hidl:∀ i∈(uSeed a b).1,i < (uS a b).nm.length:=by
  intro i hi
  obtain ⟨k,hk⟩:=List.getElem?_of_mem hi
  have h1:=hids k i hk
  have hkl:k < (uVars a b).length:=by rw [hlen];exact (List.getElem?_eq_some_iff.1 hk).1
  rw [List.getElem?_eq_getElem hkl] at h1
  rw [←hN.len];exact (List.getElem?_eq_some_iff.1 h1).1
 have hw0:WfU (uS a b).nm.length (uS a b).up:=by rw [hN.up];exact wf_range _
 obtain ⟨m,e,rb,c,subs,hrun,hpost,hno,hyes⟩:=prog_facts a b ha hb
 have hcl:=clash_same (names_nodup [a,b]) hpost hN hTa hTb hr
 have hz0:zeroTy.cnt=1:=by rw [zeroTy,cnt_mk];rfl
 have hrest:(r.2=true→heightsOk r.1 (heightsS (topOf r.1) (uS a b).ar r.1 (uS a b).nm.length) (uS a b).nm.length=true→¬ ((heightsS (topOf r.1) (uS a b).ar r.1 (uS a b).nm.length).sz.getD (topOf r.1 (uA a b).1) 0 > 200∨(heightsS (topOf r.1) (uS a b).ar r.1 (uS a b).nm.length).dp.getD (topOf r.1 (uA a b).1) 0 > 40)→False)→UOk a b r (List.replicate (uSeed a b).1.length zeroTy):=fun hf =>
  ⟨hag,hbg,has.1,hbs.1,hjo,hw0,hpot,hxl,hyl,hidl,⟨f,hr⟩,hwf,heights_still.1,by simp,fun t ht=>by rw [(List.mem_replicate.1 ht).2,hz0];decide,fun h1 h2 h3=>(hf h1 h2 h3).elim⟩
 cases rb with
 | false =>
  obtain ⟨rfl,rfl⟩:=hno rfl
  refine ⟨[],8,r,_,hrun,?_,hrest (fun h1 _ _=>by rw [hcl] at h1;cases h1),by simp⟩
  unfold uRes;rw [if_pos hcl]
 | true =>
 obtain ⟨hR,htop⟩:=hrok hcl
 have hM:=named_of hN hR hne hlen hids hvn
 have hcl':¬ r.2=false:=by rw [hcl];simp
 rcases hyes rfl with ⟨rfl,rfl,hns⟩ | ⟨θ,hnorm,hbig,hsml⟩
 ·have hh:heightsOk r.1 (heightsS (topOf r.1) (uS a b).ar r.1 (uS a b).nm.length) (uS a b).nm.length=false:=by
   cases hh:heightsOk r.1 (heightsS (topOf r.1) (uS a b).ar r.1 (uS a b).nm.length) (uS a b).nm.length with
   | false=>rfl
   | true =>
    exfalso
    refine hns _ (ref_sol (names:=[]) hN hR (fun i hi=>?_) hTa hTb htop)
    obtain ⟨t,f,h,_⟩:=all_trees hN hwf [] hh hi
    exact ⟨t,f,h⟩
  refine ⟨[],10,r,_,hrun,?_,hrest (fun _ h2 _=>by rw [hh] at h2;cases h2),by simp⟩
  unfold uRes;rw [if_neg hcl',if_pos hh]
 ·have hev:∀ ρ:Sub,sub ρ a=sub ρ b→∀ i,i < (uS a b).nm.length→valN (Vl.sub ρ) T (upAt r.1 i)=valN (Vl.sub ρ) T i:=fun ρ hρ=>(ref_ev hN hTa hTb hr (Vl.sub ρ) hρ).2
  have hh:=heights_fin hN hwf (hev θ hnorm.sol)
  have hA:∀ i,i < (uS a b).nm.length→∃ t f,treeF (topOf r.1) (uS a b).nm (uS a b).ar (uTab a b r) f i=some t:=fun i hi=>by
   obtain ⟨t,f,h,_⟩:=all_trees hN hwf (uTab a b r) hh hi
   exact ⟨t,f,h⟩
  have hrn:=ref_norm hN hR hM hA hsm hnd hTa hTb htop hev
  have hun:=norm_unique hvr hnorm hrn
  have hsa:sub θ a=treeOf (topOf r.1) (uS a b).nm (uS a b).ar (uTab a b r) (uA a b).1:=by
   rw [←ref_sub hN hR hA _ a hTa]
   exact sub_congr a (VA_mono (fun v hv=>hun v hv) a (VA_names [a,b] a (by simp)))
  obtain ⟨t,ft,ht,hsz,hdp⟩:=all_trees hN hwf (uTab a b r) hh hxl
  rw [treeOf_eq ht] at hsa
  have hcond:((heightsS (topOf r.1) (uS a b).ar r.1 (uS a b).nm.length).sz.getD (topOf r.1 (uA a b).1) 0 > 200∨(heightsS (topOf r.1) (uS a b).ar r.1 (uS a b).nm.length).dp.getD (topOf r.1 (uA a b).1) 0 > 40)↔(sub θ a).large=true:=by
   rw [hsz,hdp,hsa,dep_depth]
   have hl:=large_iff t
   have hm:mxN=1099511627776:=rfl
   cases hq:t.large with
   | true =>
    have:¬ (t.cnt≤200∧t.depth≤40):=fun k=>by rw [hl.2 k] at hq;cases hq
    exact ⟨fun _=>rfl,fun _=>by omega⟩
   | false =>
    have:=hl.1 hq
    exact ⟨fun h=>by omega,fun h=>by cases h⟩
  have hhf:¬ heightsOk r.1 (heightsS (topOf r.1) (uS a b).ar r.1 (uS a b).nm.length) (uS a b).nm.length=false:=by rw [hh];simp
  cases hlg:(sub θ a).large with
  | true =>
   obtain ⟨rfl,rfl⟩:=hbig hlg
   refine ⟨[],3,r,_,hrun,?_,hrest (fun _ _ h3=>h3 (hcond.2 hlg)),by simp⟩
   unfold uRes;rw [if_neg hcl',if_neg hhf,if_pos (hcond.2 hlg)]
  | false =>
   obtain ⟨rfl,hasc,hlook⟩:=hsml hlg
   have hcn:¬ ((heightsS (topOf r.1) (uS a b).ar r.1 (uS a b).nm.length).sz.getD (topOf r.1 (uA a b).1) 0 > 200∨(heightsS (topOf r.1) (uS a b).ar r.1 (uS a b).nm.length).dp.getD (topOf r.1 (uA a b).1) 0 > 40):=fun h=>by have:=hcond.1 h;rw [hlg] at this;cases this
   have hls:=(large_iff _).1 hlg
   have hsmall:∀ s∈uVars a b,(θ s).cnt≤200:=by
    intro s hs
    obtain ⟨x,hx,h1,h2⟩:=names_mem.1 hs
    rcases mem_nodesL.1 hx with ⟨t',ht',hxt⟩
    simp at ht'
    rcases ht' with rfl | rfl
    ·have:=node_cnt (name_sub (θ:=θ) hag (names_mem.2 ⟨x,by simpa [nodesL] using hxt,h1,h2⟩)).1
     omega
    ·have:=node_cnt (name_sub (θ:=θ) hbg (names_mem.2 ⟨x,by simpa [nodesL] using hxt,h1,h2⟩)).1
     rw [←hnorm.sol] at this
     omega
   have hml:m=outS (uVars a b) ((uVars a b).map θ) []:=by
    obtain ⟨o1,o2⟩:=outS_facts (uVars a b) ((uVars a b).map θ) [] (by simp) hnd (by simp) .nil
    rw [List.nil_append,zip_self_map] at o2
    have hk:((outS (uVars a b) ((uVars a b).map θ) []).map (·.1)).Nodup:=by
     refine (o2.map _).nodup_iff.2 ?_
     refine (List.Sublist.map _ List.filter_sublist).nodup ?_
     rw [List.map_map]
     show ((uVars a b).map id).Nodup
     rw [List.map_id];exact hnd
    refine asc_ext hasc o1 fun s=>?_
    by_cases hc:s∈uVars a b∧θ s≠.mk s []
    ·rw [(hlook s).1 hc]
     refine (lookG_nodup hk (p:=(s,θ s)) (o2.symm.subset (List.mem_filter.2 ⟨List.mem_map_of_mem hc.1,?_⟩))).symm
     have:¬ eqT (θ s) (varT s)=true:=fun h=>hc.2 ((eqT_iff _ _).1 h)
     simpa using this
    ·rw [(hlook s).2 hc]
     refine (lookG_none_iff.2 fun hm=>hc ?_).symm
     obtain ⟨p,hp,rfl⟩:=List.mem_map.1 hm
     obtain ⟨hp1,hp2⟩:=List.mem_filter.1 (o2.subset hp)
     obtain ⟨s',hs',rfl⟩:=List.mem_map.1 hp1
     refine ⟨hs',fun h=>?_⟩
     have he:eqT (θ s') (varT s')=true:=(eqT_iff _ _).2 h
     simp [he] at hp2
   refine ⟨m,0,r,(uVars a b).map θ,hrun,?_,⟨hag,hbg,has.1,hbs.1,hjo,hw0,hpot,hxl,hyl,hidl,⟨f,hr⟩,hwf,heights_still.1,by rw [List.length_map];exact hlen,fun t ht=>?_,fun _ _ _ j i hj=>?_⟩,fun p hp=>?_⟩
   ·unfold uRes;rw [if_neg hcl',if_neg hhf,if_neg hcn,←hml]
   ·obtain ⟨s,hs,rfl⟩:=List.mem_map.1 ht
    have:=hsmall s hs;omega
   ·obtain ⟨s,hs⟩:∃ s,(uVars a b)[j]?=some s:=⟨_,List.getElem?_eq_getElem (by rw [hlen];exact (List.getElem?_eq_some_iff.1 hj).1)⟩
    obtain ⟨t',f',h'⟩:=hA i (hidl i (List.mem_of_getElem? hj))
    refine ⟨t',f',?_,h'⟩
    rw [List.getElem?_map,hs,Option.map_some,hun s (List.mem_of_getElem? hs),thR_id hN hR hM hsm hj hs]
    exact congrArg some (treeOf_eq h')
   ·obtain ⟨_,o2⟩:=outS_facts (uVars a b) ((uVars a b).map θ) [] (by simp) hnd (by simp) .nil
    rw [List.nil_append,zip_self_map] at o2
    rw [hml] at hp
    obtain ⟨s',hs',rfl⟩:=List.mem_map.1 (List.mem_filter.1 (o2.subset hp)).1
    exact hsmall s' hs'
theorem unify_same (a b:Ty):∃ m e r ts,URun a b m e∧uniV a b r ts=(m,e)∧(a.valid=0→b.valid=0→UOk a b r ts)∧∀ p∈m,p.2.cnt≤200:=by
 by_cases ha:a.valid=0
 ·by_cases hb:b.valid=0
  ·obtain ⟨m,e,r,ts,h1,h2,h3,h4⟩:=unify_valid a b ha hb
   exact ⟨m,e,r,ts,h1,by unfold uniV;rw [if_pos ha,if_pos hb,h2],fun _ _=>h3,h4⟩
  ·have hv:allV [a,b]=b.valid:=by rw [allV_pair,if_pos ha]
   exact ⟨[],b.valid,([],true),[],.inl ⟨by rw [hv];exact hb,rfl,hv.symm⟩,by unfold uniV;rw [if_pos ha,if_neg hb],fun _ h=>absurd h hb,by simp⟩
 ·have hv:allV [a,b]=a.valid:=by rw [allV_pair,if_neg ha]
  exact ⟨[],a.valid,([],true),[],.inl ⟨by rw [hv];exact ha,rfl,hv.symm⟩,by unfold uniV;rw [if_neg ha],fun h=>absurd h ha,by simp⟩
theorem zero_cnt:zeroTy.cnt=1:=by rw [zeroTy,cnt_mk];rfl
theorem valid_cntV {t:Ty} (h:t.valid=0):t.cnt≤200:=((large_iff t).1 ((valid_iff t).1 h).1).1
theorem normM_cnt (t:Ty):(normM t).cnt≤200:=by
 unfold normM
 split
 ·rename_i h
  rw [put_sub _ t ((valid_iff t).1 h).2]
  exact Nat.le_trans (leaf_le (ren_leaf _) t).1 (valid_cntV h)
 ·rw [zero_cnt];decide
theorem parseR_cnt (s:ByteArray):(parseR s).1.cnt≤200:=by
 have hz:=zero_cnt
 unfold parseR
 split
 ·simp only;omega
 ·split
  ·simp only;omega
  ·split
   ·simp only;omega
   ·split
    ·rename_i h;exact valid_cntV h
    ·simp only;omega
theorem applyV_cnt2 (l:TyM) (t:Ty):(applyV l t).1.cnt≤200:=by
 by_cases h:(applyV l t).2=0
 ·exact applyV_cnt h
 ·have hz:=zero_cnt
  unfold applyV at h ⊢
  split
  ·split
   ·split
    ·simp only;omega
    ·rename_i h1 h2 h3;rw [if_pos h1,if_pos h2,if_neg h3] at h;exact absurd rfl h
   ·simp only;omega
  ·simp only;omega
theorem vars_len (t:Ty):(varsR t).length≤200:=by
 unfold varsR
 split
 ·rename_i h
  have:=varsR_len t h
  unfold namesL;rw [nodesL_one];exact this
 ·simp
end Go.Proofs.YtgeehnbbhnpimaaGreat
