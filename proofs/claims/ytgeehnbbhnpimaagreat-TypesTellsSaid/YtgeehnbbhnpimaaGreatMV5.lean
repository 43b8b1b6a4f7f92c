/- The trees of the reference's classes solve it. -/
import Derived.Test.YtgeehnbbhnpimaaGreatMV4
set_option linter.unusedVariables false
set_option linter.unusedSimpArgs false
namespace Go.Proofs.YtgeehnbbhnpimaaGreat
open Go Go.Abs Go.Proofs
section
variable (τ:Nat→Nat) (nm:List ByteArray) (ar:List (List Nat)) (names:List ByteArray)
open Classical in
noncomputable def treeOf (i:Nat):Ty:=if h:∃ t f,treeF τ nm ar names f i=some t then h.choose else zeroTy
variable {τ nm ar names}
theorem treeOf_eq {f i:Nat} {t:Ty} (h:treeF τ nm ar names f i=some t):treeOf τ nm ar names i=t:=by
 have he:∃ t f,treeF τ nm ar names f i=some t:=⟨t,f,h⟩
 unfold treeOf
 rw [dif_pos he]
 obtain ⟨g,hg⟩:=he.choose_spec
 have h1:=tree_le h (Nat.le_max_left f g)
 rw [tree_le hg (Nat.le_max_right f g)] at h1
 exact Option.some.inj h1
theorem treeOf_top {i k:Nat} (h:τ i=τ k):treeOf τ nm ar names i=treeOf τ nm ar names k:=by
 have e:∀ f,treeF τ nm ar names f i=treeF τ nm ar names f k:=fun f=>by
  cases f with
  | zero=>simp [treeF]
  | succ f=>rw [treeF,treeF,h]
 by_cases he:∃ t f,treeF τ nm ar names f i=some t
 ·obtain ⟨t,f,h⟩:=he
  rw [treeOf_eq h,treeOf_eq (by rw [←e];exact h)]
 ·have he':¬ ∃ t f,treeF τ nm ar names f k=some t:=fun ⟨t,f,h⟩=>he ⟨t,f,by rw [e];exact h⟩
  unfold treeOf
  rw [dif_neg he,dif_neg he']
theorem treeOf_var {i:Nat} (hv:vrAt nm (τ i)=true):treeOf τ nm ar names i=.mk (names.getD (τ i) ByteArray.empty) []:=treeOf_eq (f:=1) (by rw [treeF,if_pos hv])
theorem treeOf_con {i:Nat} (hv:¬ vrAt nm (τ i)=true) (he:∃ t f,treeF τ nm ar names f i=some t):treeOf τ nm ar names i=.mk (nm.getD (τ i) ByteArray.empty) ((ar.getD (τ i) []).map (treeOf τ nm ar names)):=by
 obtain ⟨t,f,h⟩:=he
 rw [treeOf_eq h]
 cases f with
 | zero=>simp [treeF] at h
 | succ f =>
  rw [treeF,if_neg hv] at h
  cases hl:treeFL τ nm ar names f (ar.getD (τ i) []) with
  | none=>rw [hl] at h;cases h
  | some l =>
   rw [hl] at h
   have e:Ty.mk (nm.getD (τ i) ByteArray.empty) l=t:=Option.some.inj h
   rw [←e]
   congr 1
   obtain ⟨h1,h2⟩:=treeFL_at _ _ _ _ hl
   refine List.ext_getElem? fun j=>?_
   rw [List.getElem?_map]
   cases hj:(ar.getD (τ i) [])[j]? with
   | none =>
    rw [List.getElem?_eq_none (by rw [h1];exact List.getElem?_eq_none_iff.1 hj)];rfl
   | some k =>
    obtain ⟨u,g,e1,_,e3⟩:=h2 j k hj
    rw [e1,Option.map_some,treeOf_eq e3]
end
noncomputable def thR (S:TmS) (up:List Nat) (names:List ByteArray):Sub:=fun s=>if posN S.nm s < S.nm.length then treeOf (topOf up) S.nm S.ar names (posN S.nm s) else .mk s []
theorem ref_sub {S:TmS} {T:List Ty} (hN:Nod S T) {up:List Nat} (hR:RefOk S up) {names:List ByteArray} (hA:∀ i,i < S.nm.length→∃ t f,treeF (topOf up) S.nm S.ar names f i=some t):∀ (i:Nat) (t:Ty),T[i]?=some t→sub (thR S up names) t=treeOf (topOf up) S.nm S.ar names i:=by
 intro i
 induction i using Nat.strongRecOn with
 | _ i ih =>
 intro t ht
 have hi:i < S.nm.length:=by rw [←hN.len];exact (List.getElem?_eq_some_iff.1 ht).1
 by_cases hv:t.isVar=true
 ·obtain ⟨h1,h2⟩:=var_pos hN ht hv
  rw [sub_vr hv]
  unfold thR
  rw [if_pos h1,h2]
 ·have hv':t.isVar=false:=by simpa using hv
  have hl:=hR.wf.top_lt hi
  obtain ⟨t1,a1,_,a3,a4,a5⟩:=nod_node hN hi
  rw [ht] at a1
  obtain rfl:=Option.some.inj a1
  have vi:¬ vrAt S.nm i=true:=by unfold vrAt;rw [a3];exact hv
  have vr':¬ vrAt S.nm (topOf up i)=true:=fun h=>vi (hR.var i hi h)
  obtain ⟨e1,e2,e3⟩:=hR.con i _ hi hl vi vr' (hR.wf.top_top hi).symm
  rw [sub_nm hv',treeOf_con vr' (hA i hi),←e1,a3]
  congr 1
  refine List.ext_getElem? fun m=>?_
  rw [List.getElem?_map,List.getElem?_map]
  cases hm:(S.ar.getD i [])[m]? with
  | none =>
   have hml:=List.getElem?_eq_none_iff.1 hm
   rw [List.getElem?_eq_none (by omega),List.getElem?_eq_none (by omega)];rfl
  | some x =>
   have hml:=(List.getElem?_eq_some_iff.1 hm).1
   obtain ⟨y,hy⟩:∃ y,(S.ar.getD (topOf up i) [])[m]?=some y:=⟨_,List.getElem?_eq_getElem (by omega)⟩
   obtain ⟨z,hz⟩:∃ z,t.args[m]?=some z:=⟨_,List.getElem?_eq_getElem (by omega)⟩
   have hx:=a5 m x hm
   rw [hz] at hx
   rw [hy,hz]
   simp only [Option.map_some,Option.some.injEq]
   rw [ih x hx.1 z hx.2]
   exact treeOf_top (e3 m x y hm hy)
theorem ref_sol {S:TmS} {T:List Ty} (hN:Nod S T) {up:List Nat} (hR:RefOk S up) {names:List ByteArray} (hA:∀ i,i < S.nm.length→∃ t f,treeF (topOf up) S.nm S.ar names f i=some t) {a b:Ty} {i k:Nat} (ha:T[i]?=some a) (hb:T[k]?=some b) (he:topOf up i=topOf up k):sub (thR S up names) a=sub (thR S up names) b:=by
 rw [ref_sub hN hR hA i a ha,ref_sub hN hR hA k b hb]
 exact treeOf_top he
theorem ref_most {S:TmS} {T:List Ty} (hN:Nod S T) {up:List Nat} (hR:RefOk S up) {names:List ByteArray} (hA:∀ i,i < S.nm.length→∃ t f,treeF (topOf up) S.nm S.ar names f i=some t) {ρ:Sub} (hl:∀ i,i < S.nm.length→valN (Vl.sub ρ) T (upAt up i)=valN (Vl.sub ρ) T i)
  (hv:∀ i,i < S.nm.length→vrAt S.nm (topOf up i)=true→vr (names.getD (topOf up i) ByteArray.empty)=true∧∃ t,T[i]?=some t∧ρ (names.getD (topOf up i) ByteArray.empty)=sub ρ t):∀ (f i:Nat) (t u:Ty),T[i]?=some t→treeF (topOf up) S.nm S.ar names f i=some u→sub ρ u=sub ρ t:=by
 intro f
 induction f using Nat.strongRecOn with
 | _ f ih =>
 intro i t u ht hu
 have hi:i < S.nm.length:=by rw [←hN.len];exact (List.getElem?_eq_some_iff.1 ht).1
 have htop:=hR.wf.top_lt hi
 cases f with
 | zero=>simp [treeF] at hu
 | succ f =>
 rw [treeF] at hu
 by_cases hvt:vrAt S.nm (topOf up i)=true
 ·rw [if_pos hvt] at hu
  obtain rfl:=Option.some.inj hu
  obtain ⟨h1,t',h2,h3⟩:=hv i hi hvt
  rw [ht] at h2
  obtain rfl:=Option.some.inj h2
  rw [sub_var h1,h3]
 ·rw [if_neg hvt] at hu
  cases hls:treeFL (topOf up) S.nm S.ar names f (S.ar.getD (topOf up i) []) with
  | none=>rw [hls] at hu;cases hu
  | some l =>
   rw [hls] at hu
   have hu:Ty.mk (S.nm.getD (topOf up i) ByteArray.empty) l=u:=Option.some.inj hu
   obtain ⟨t1,b1,b2,b3,b4,b5⟩:=nod_node hN htop
   have e:sub ρ t1=sub ρ t:=by
    have:=val_top hl hR.wf (hR.wf.topR hi) hi
    unfold valN at this
    rw [b1,ht] at this
    exact Option.some.inj this
   have hvn:vr (S.nm.getD (topOf up i) ByteArray.empty)=false:=by
    show headP smallB _=false
    unfold vrAt at hvt;simpa using hvt
   have hv1:t1.isVar=false:=by
    unfold vrAt at hvt;rw [b3] at hvt;show headP smallB t1.name=false;simpa using hvt
   obtain ⟨h1,h2⟩:=treeFL_at _ _ _ _ hls
   rw [←hu,←e,sub_nm hv1,sub_con hvn,b3]
   congr 1
   refine List.ext_getElem? fun m=>?_
   rw [List.getElem?_map,List.getElem?_map]
   cases hm:(S.ar.getD (topOf up i) [])[m]? with
   | none =>
    have hml:=List.getElem?_eq_none_iff.1 hm
    rw [List.getElem?_eq_none (by omega),List.getElem?_eq_none (by omega)]
   | some x =>
    obtain ⟨w,g,e1,e2,e3⟩:=h2 m x hm
    have hml:=(List.getElem?_eq_some_iff.1 hm).1
    obtain ⟨z,hz⟩:∃ z,t1.args[m]?=some z:=⟨_,List.getElem?_eq_getElem (by omega)⟩
    have hx:=(b5 m x hm).2
    rw [hz] at hx
    rw [e1,hz]
    simp only [Option.map_some,Option.some.injEq]
    exact ih g (by omega) x z w hx e3
end Go.Proofs.YtgeehnbbhnpimaaGreat
namespace Go.Proofs.YtgeehnbbhnpimaaGreat
open Go Go.Abs Go.Proofs
def firstN (τ:Nat→Nat) (r:Nat):List (ByteArray × Nat)→ByteArray
 | []=>ByteArray.empty
 | p::l=>if τ p.2=r then p.1 else firstN τ r l
theorem nameTab_at (τ:Nat→Nat):∀ (vs:List ByteArray) (is:List Nat) (tab:List ByteArray) (r:Nat),(∀ s∈vs,s≠ByteArray.empty)→vs.length=is.length→(∀ i∈is,τ i < tab.length)→r < tab.length →
  (nameTab τ vs is tab).getD r ByteArray.empty=if tab.getD r ByteArray.empty=ByteArray.empty then firstN τ r (vs.zip is) else tab.getD r ByteArray.empty
 | [],is,tab,r,_,_,_,_=>by
  have e:nameTab τ [] is tab=tab:=by cases is <;> rfl
  rw [e]
  simp only [List.zip_nil_left,firstN]
  split
  ·assumption
  ·rfl
 | _::_,[],_,_,_,h,_,_=>by simp at h
 | s::vs,i::is,tab,r,hs,hl,hi,hr=>by
  have hs0:=hs s (by simp)
  have hi0:=hi i (by simp)
  rw [nameTab,List.zip_cons_cons,firstN]
  by_cases hc:tab.getD (τ i) ByteArray.empty=ByteArray.empty
  ·rw [if_pos hc,nameTab_at τ vs is _ r (fun s h=>hs s (by simp [h])) (by simpa using hl) (fun j hj=>by rw [List.length_set];exact hi j (by simp [hj])) (by rw [List.length_set];exact hr),getD_set _ _ _ _ _ hi0]
   by_cases e:r=τ i
   ·subst e
    rw [if_pos rfl,if_neg hs0,if_pos hc,if_pos rfl]
   ·rw [if_neg e,if_neg (show ¬ τ i=r from fun h=>e h.symm)]
  ·rw [if_neg hc,nameTab_at τ vs is _ r (fun s h=>hs s (by simp [h])) (by simpa using hl) (fun j hj=>hi j (by simp [hj])) hr]
   by_cases e:τ i=r
   ·subst e
    rw [if_neg hc,if_neg hc]
   ·rw [if_neg e]
theorem firstN_at {τ:Nat→Nat} {r:Nat}:∀ {l:List (ByteArray × Nat)},(∃ p∈l,τ p.2=r)→∃ (k:Nat) (p:ByteArray × Nat),l[k]?=some p∧τ p.2=r∧firstN τ r l=p.1∧∀ (j:Nat) (q:ByteArray × Nat),j < k→l[j]?=some q→τ q.2≠r
 | [],h=>by obtain ⟨p,hp,_⟩:=h;cases hp
 | p::l,h=>by
  rw [firstN]
  by_cases e:τ p.2=r
  ·rw [if_pos e];exact ⟨0,p,rfl,e,rfl,fun j q hj=>absurd hj (Nat.not_lt_zero j)⟩
  ·rw [if_neg e]
   obtain ⟨k,q,h1,h2,h3,h4⟩:=firstN_at (l:=l) (by
    obtain ⟨q,hq,hr⟩:=h
    rcases List.mem_cons.1 hq with rfl | hq
    ·exact absurd hr e
    ·exact ⟨q,hq,hr⟩)
   refine ⟨k+1,q,by simpa using h1,h2,h3,fun j q' hj hq'=>?_⟩
   cases j with
   | zero=>simp only [List.getElem?_cons_zero,Option.some.injEq] at hq';subst hq';exact e
   | succ j=>exact h4 j q' (by omega) (by simpa using hq')
def Own (ns:List ByteArray) (θ:Sub) (v:ByteArray):Prop:=v∈ns∧θ v=.mk v []∧∀ (i j:Nat) (u:ByteArray),ns[i]?=some v→ns[j]?=some u→θ u=.mk v []→i≤j
structure NormS (ns:List ByteArray) (a b:Ty) (θ:Sub):Prop where
 sol:sub θ a=sub θ b
 most:∀ ρ:Sub,sub ρ a=sub ρ b→∀ s∈ns,sub ρ (θ s)=ρ s
 rng:∀ s∈ns,VA (Own ns θ) (θ s)
 good:∀ s∈ns,(θ s).good=true
theorem own_same {ns:List ByteArray} {a b:Ty} {θ θ':Sub} (hvr:∀ s∈ns,vr s=true) (h:NormS ns a b θ) (h':NormS ns a b θ') {v:ByteArray} (hv:Own ns θ v):θ' v=.mk v []:=by
 obtain ⟨h1,h2,h3⟩:=hv
 have e:=h'.most θ h.sol v h1
 rw [h2] at e
 have hr:=h'.rng v h1
 have hg:=h'.good v h1
 have hq:∀ t:Ty,θ' v=t→t=.mk v []:=by
  rintro ⟨w,l⟩ ht
  rw [ht] at e hr hg
  by_cases hw:vr w=true
  ·obtain ⟨rfl,_⟩:=node_var ((good_mk w l).1 hg).1 hw
   obtain ⟨g1,g2,g3⟩:=(VA_var hw).1 hr
   rw [sub_var hw] at e
   obtain ⟨i,hi⟩:=List.getElem?_of_mem h1
   obtain ⟨j,hj⟩:=List.getElem?_of_mem g1
   have k1:=h3 i j w hi hj e
   have k2:=g3 j i v hj hi ht
   have:i=j:=by omega
   subst this
   rw [hi] at hj
   rw [Option.some.inj hj]
  ·exfalso
   rw [sub_con (by simpa using hw),Ty.mk.injEq] at e
   rw [e.1] at hw
   exact hw (hvr v h1)
 exact hq _ rfl
theorem norm_unique {ns:List ByteArray} {a b:Ty} {θ θ':Sub} (hvr:∀ s∈ns,vr s=true) (h:NormS ns a b θ) (h':NormS ns a b θ'):∀ s∈ns,θ s=θ' s:=by
 intro s hs
 rw [←h.most θ' h'.sol s hs]
 have e:sub θ' (θ s)=sub (fun v=>.mk v []) (θ s):=sub_congr _ (VA_mono (fun v hv=>own_same hvr h h' hv) _ (h.rng s hs))
 rw [e,sub_id _ (h.good s hs)]
theorem u_nods (a b:Ty) (ha:a.good=true) (hb:b.good=true):∃ T,Nod (uS a b) T∧T[(uA a b).1]?=some a∧T[(uB a b).1]?=some b∧(∀ (k i:Nat),(uSeed a b).1[k]?=some i→T[i]?=(uVars a b)[k]?.map varT)∧∀ t∈T,t.isVar=true→t.name∈uVars a b:=by
 have hsm:=names_small (l:=[a,b]) (by intro t ht;simp at ht;rcases ht with rfl | rfl <;> assumption)
 obtain ⟨T1,h1,h2,n1⟩:=addL_nod ((uVars a b).map varT) Tm0 [] nod0 (by
  intro t ht
  obtain ⟨s,hs,rfl⟩:=List.mem_map.1 ht
  exact (good_mk _ _).2 ⟨node_small (hsm s hs),by simp⟩)
 rw [List.nil_append] at h1
 obtain ⟨T2,h3,h4,n2⟩:=addT_nod a _ _ h1 ha
 obtain ⟨T3,h5,h6,n3⟩:=addT_nod b _ _ h3 hb
 refine ⟨_,h5,?_,h6,fun k i hk=>?_,fun t ht hv=>?_⟩
 ·show (T1++T2++T3)[(addT a (addL ((uVars a b).map varT) Tm0).2).1]?=some a
  rw [List.getElem?_append_left (List.getElem?_eq_some_iff.1 h4).1];exact h4
 ·have h7:=h2 k i hk
  rw [List.nil_append,List.getElem?_map] at h7
  have hkl:k < (uVars a b).length:=by
   have:=(List.getElem?_eq_some_iff.1 hk).1
   unfold uSeed at this
   rw [addL_len,List.length_map] at this;exact this
  have hi:i < T1.length:=by
   rw [List.getElem?_eq_getElem hkl] at h7
   exact (List.getElem?_eq_some_iff.1 h7).1
  rw [List.append_assoc,List.getElem?_append_left hi];exact h7
 ·rcases List.mem_append.1 ht with ht | ht
  ·rcases List.mem_append.1 ht with ht | ht
   ·obtain ⟨x,hx,h⟩:=mem_nodesL.1 (n1 t ht)
    obtain ⟨s,hs,rfl⟩:=List.mem_map.1 hx
    simp only [varT,Ty.nodes,nodesL,List.mem_singleton] at h
    subst h;exact hs
   ·exact names_mem.2 ⟨t,mem_nodesL.2 ⟨a,by simp,n2 t ht⟩,hv,rfl⟩
  ·exact names_mem.2 ⟨t,mem_nodesL.2 ⟨b,by simp,n3 t ht⟩,hv,rfl⟩
structure Named (S:TmS) (T:List Ty) (up:List Nat) (vs:List ByteArray) (ids:List Nat) (names:List ByteArray):Prop where
 len:vs.length=ids.length
 at_:∀ (k i:Nat),ids[k]?=some i→T[i]?=vs[k]?.map varT
 nm:∀ i,i < S.nm.length→vrAt S.nm (topOf up i)=true→∃ (k:Nat) (v:ByteArray) (j:Nat),vs[k]?=some v∧ids[k]?=some j∧topOf up j=topOf up i∧names.getD (topOf up i) ByteArray.empty=v∧∀ (k' j':Nat),k' < k→ids[k']?=some j'→topOf up j'≠topOf up i
theorem named_of {S:TmS} {T:List Ty} (hN:Nod S T) {up:List Nat} (hR:RefOk S up) {vs:List ByteArray} {ids:List Nat} (hne:∀ s∈vs,s≠ByteArray.empty) (hl:vs.length=ids.length) (hids:∀ (k i:Nat),ids[k]?=some i→T[i]?=vs[k]?.map varT) (hvn:∀ t∈T,t.isVar=true→t.name∈vs) :
  Named S T up vs ids (nameTab (topOf up) vs ids (List.replicate S.nm.length ByteArray.empty)):=by
 have hidl:∀ (k i:Nat),ids[k]?=some i→i < S.nm.length∧∃ v,vs[k]?=some v∧T[i]?=some (varT v):=by
  intro k i hk
  have h1:=hids k i hk
  have hkl:k < vs.length:=by rw [hl];exact (List.getElem?_eq_some_iff.1 hk).1
  rw [List.getElem?_eq_getElem hkl] at h1
  exact ⟨by rw [←hN.len];exact (List.getElem?_eq_some_iff.1 h1).1,_,List.getElem?_eq_getElem hkl,h1⟩
 refine ⟨hl,hids,fun i hi hv=>?_⟩
 have hlt:=hR.wf.top_lt hi
 have hat:=nameTab_at (topOf up) vs ids (List.replicate S.nm.length ByteArray.empty) (topOf up i) hne hl (fun j hj=>by
  obtain ⟨k,hk⟩:=List.getElem?_of_mem hj
  rw [List.length_replicate]
  exact hR.wf.top_lt (hidl k j hk).1) (by rw [List.length_replicate];exact hlt)
 rw [if_pos (by rw [List.getD_eq_getElem?_getD,List.getElem?_replicate,if_pos hlt];rfl)] at hat
 obtain ⟨t,b1,b2,b3,_⟩:=nod_node hN hlt
 have htv:t.isVar=true:=by unfold vrAt at hv;rw [b3] at hv;exact hv
 obtain ⟨k0,hk0⟩:=List.getElem?_of_mem (hvn t (List.mem_of_getElem? b1) htv)
 have hk0l:=(List.getElem?_eq_some_iff.1 hk0).1
 obtain ⟨j0,hj0⟩:∃ j,ids[k0]?=some j:=⟨_,List.getElem?_eq_getElem (by omega)⟩
 obtain ⟨_,v0,w1,w2⟩:=hidl k0 j0 hj0
 rw [hk0] at w1
 obtain rfl:=Option.some.inj w1
 have hvv:(varT t.name).isVar=true:=htv
 have e0:j0=topOf up i:=hN.uniq _ _ _ t w2 b1 hvv htv rfl
 obtain ⟨k,p,h1,h2,h3,h4⟩:=firstN_at (τ:=topOf up) (r:=topOf up i) (l:=vs.zip ids) ⟨(t.name,j0),List.mem_of_getElem? (List.getElem?_zip_eq_some.2 ⟨hk0,hj0⟩),by show topOf up j0=_;rw [e0];exact hR.wf.top_top hi⟩
 obtain ⟨v,j⟩:=p
 obtain ⟨g1,g2⟩:=List.getElem?_zip_eq_some.1 h1
 refine ⟨k,v,j,g1,g2,h2,by rw [hat,h3],fun k' j' hlt' hj'=>?_⟩
 obtain ⟨_,v',x1,_⟩:=hidl k' j' hj'
 exact h4 k' (v',j') hlt' (List.getElem?_zip_eq_some.2 ⟨x1,hj'⟩)
end Go.Proofs.YtgeehnbbhnpimaaGreat
