/- Where the reference finds no clash, infinite trees solve it. -/
import Derived.Test.YtgeehnbbhnpimaaGreatMV3
set_option linter.unusedVariables false
set_option linter.unusedSimpArgs false
namespace Go.Proofs.YtgeehnbbhnpimaaGreat
open Go Go.Abs Go.Proofs
theorem nod0:Nod Tm0 []:=⟨rfl,rfl,rfl,fun i t h=>by simp at h,fun i j t u h=>by simp at h⟩
theorem upAt_range {n i:Nat}:upAt (List.range n) i=i:=by
 unfold upAt
 rw [List.getD_eq_getElem?_getD]
 by_cases h:i < n
 ·rw [List.getElem?_range h];rfl
 ·rw [List.getElem?_eq_none (by simpa using h)];rfl
theorem topOf_range {n i:Nat}:topOf (List.range n) i=i:=topOf_eq (.here upAt_range)
theorem wf_range (n:Nat):WfU n (List.range n):=⟨by simp,fun i h=>by rw [upAt_range];exact h,fun i h=>⟨i,.here upAt_range⟩⟩
structure RefOk (S:TmS) (up:List Nat):Prop where
 wf:WfU S.nm.length up
 var:∀ i,i < S.nm.length→vrAt S.nm (topOf up i)=true→vrAt S.nm i=true
 con:∀ i k,i < S.nm.length→k < S.nm.length→¬ vrAt S.nm i=true→¬ vrAt S.nm k=true→topOf up i=topOf up k→Like S.nm S.ar (fun x y=>topOf up x=topOf up y) i k
theorem ref_ok {S:TmS} {T:List Ty} (hN:Nod S T) {a0 b0 f:Nat} (ha:a0 < S.nm.length) (hb:b0 < S.nm.length) {r:List Nat × Bool} (hr:tjF S.nm S.ar f [(a0,b0)] S.up true=some r):WfU S.nm.length r.1∧(r.2=true→RefOk S r.1∧topOf r.1 a0=topOf r.1 b0):=by
 have hw:WfU S.nm.length S.up:=by rw [hN.up];exact wf_range _
 have hA:∀ i,i < S.nm.length→∀ j∈S.ar.getD i [],j < S.nm.length:=fun i hi j hj=>Nat.lt_trans (nod_arg hN hi j hj) hi
 have ht:∀ p∈[(a0,b0)],p.1 < S.nm.length∧p.2 < S.nm.length:=by intro p hp;simp at hp;subst hp;exact ⟨ha,hb⟩
 have hwf:=(tj_ind hA (fun _ _ _=>True) (fun _ _ _ _ _ _ _ _ _=>⟨fun _=>trivial,fun _ _=>trivial,fun _ _ _=>trivial,fun _ _ _ _=>trivial,fun _ _ _ _=>trivial⟩) f _ _ _ r hw ht hr trivial).2
 obtain ⟨h1,h2⟩:=tj_closed hA (a0:=a0) (b0:=b0) hw ht hr (fun i hi h=>by rw [hN.up,topOf_range] at h;exact h) (fun i k hi hk vi vk e=>by
  rw [hN.up,topOf_range,topOf_range] at e
  subst e
  refine ⟨rfl,rfl,fun m x y hx hy=>?_⟩
  rw [hx] at hy
  obtain rfl:=Option.some.inj hy
  have:=hA i hi x (List.mem_of_getElem? hx)
  exact .top this this rfl) (.todo (by simp))
 refine ⟨hwf,fun h=>?_⟩
 obtain ⟨h3,h4⟩:=h2 h
 exact ⟨⟨hwf,h1,h3⟩,h4⟩
section
variable (S:TmS) (up:List Nat)
noncomputable def appR:Nat→Nat→Ty
 | 0,i=>.mk (S.nm.getD (topOf up i) ByteArray.empty) []
 | n+1,i=>if vrAt S.nm (topOf up i)=true then .mk (S.nm.getD (topOf up i) ByteArray.empty) [] else .mk (S.nm.getD (topOf up i) ByteArray.empty) ((S.ar.getD (topOf up i) []).map (appR n))
theorem appR_top (n:Nat) {i k:Nat} (h:topOf up i=topOf up k):appR S up n i=appR S up n k:=by
 cases n with
 | zero=>simp only [appR,h]
 | succ n=>simp only [appR,h]
theorem appR_coh:∀ (n i:Nat),EqN n (appR S up n i) (appR S up (n+1) i):=by
 intro n
 induction n with
 | zero=>intro i;exact EqN.zero _ _
 | succ n ih =>
  intro i
  rw [appR,appR]
  by_cases hv:vrAt S.nm (topOf up i)=true
  ·rw [if_pos hv,if_pos hv];exact EqN.refl _ _
  ·rw [if_neg hv,if_neg hv]
   unfold EqN
   rw [tr_succ,tr_succ,List.map_map,List.map_map]
   congr 1
   exact List.map_congr_left fun j _=>ih j
noncomputable def subR (n:Nat):Sub:=fun s=>if posN S.nm s < S.nm.length then appR S up n (posN S.nm s) else .mk s []
theorem subR_coh:Coh (subR S up):=by
 intro n s
 unfold subR
 split
 ·exact appR_coh S up n _
 ·exact EqN.refl _ _
end
theorem var_pos {S:TmS} {T:List Ty} (hN:Nod S T) {i:Nat} {t:Ty} (ht:T[i]?=some t) (hv:t.isVar=true):posN S.nm t.name < S.nm.length∧posN S.nm t.name=i:=by
 obtain ⟨h1,h2,_⟩:=hN.at_ i t ht
 have hlt:=posN_mem (List.mem_of_getElem? h2)
 refine ⟨hlt,?_⟩
 obtain ⟨u,hu⟩:∃ u,T[posN S.nm t.name]?=some u:=⟨_,List.getElem?_eq_getElem (by rw [hN.len];exact hlt)⟩
 obtain ⟨_,g2,_⟩:=hN.at_ _ u hu
 rw [posN_get hlt] at g2
 have e:t.name=u.name:=Option.some.inj g2
 refine hN.uniq _ _ u t hu ht ?_ hv e.symm
 unfold Ty.isVar at hv ⊢
 rw [←e];exact hv
theorem ref_app {S:TmS} {T:List Ty} (hN:Nod S T) {up:List Nat} (hR:RefOk S up):∀ (n i:Nat) (t:Ty),T[i]?=some t→EqN n (sub (subR S up n) t) (appR S up n i):=by
 intro n
 induction n with
 | zero=>intro i t _;exact EqN.zero _ _
 | succ n ih =>
  intro i t ht
  have hi:i < S.nm.length:=by rw [←hN.len];exact (List.getElem?_eq_some_iff.1 ht).1
  by_cases hv:t.isVar=true
  ·obtain ⟨h1,h2⟩:=var_pos hN ht hv
   rw [sub_vr hv]
   unfold subR
   rw [if_pos h1,h2];exact EqN.refl _ _
  ·have hv':t.isVar=false:=by simpa using hv
   have hl:=hR.wf.top_lt hi
   obtain ⟨t1,a1,_,a3,a4,a5⟩:=nod_node hN hi
   rw [ht] at a1
   obtain rfl:=Option.some.inj a1
   have vi:¬ vrAt S.nm i=true:=by unfold vrAt;rw [a3];exact hv
   have vr':¬ vrAt S.nm (topOf up i)=true:=fun h=>vi (hR.var i hi h)
   obtain ⟨e1,e2,e3⟩:=hR.con i _ hi hl vi vr' (hR.wf.top_top hi).symm
   rw [sub_nm hv',appR,if_neg vr']
   unfold EqN
   rw [tr_succ,tr_succ,List.map_map,List.map_map,←e1,a3]
   congr 1
   refine List.ext_getElem? fun m=>?_
   rw [List.getElem?_map,List.getElem?_map]
   cases hm:(S.ar.getD i [])[m]? with
   | none =>
    have hml:=List.getElem?_eq_none_iff.1 hm
    rw [List.getElem?_eq_none (by omega),List.getElem?_eq_none (by omega)];rfl
   | some x =>
    have hml:=(List.getElem?_eq_some_iff.1 hm).1
    obtain ⟨y,hy⟩:∃ y,(S.ar.getD (topOf up i) [])[m]?=some y:=⟨_,List.getElem?_eq_getElem (by omega)⟩
    obtain ⟨z,hz⟩:∃ z,t.args[m]?=some z:=⟨_,List.getElem?_eq_getElem (by omega)⟩
    have hx:=(a5 m x hm).2
    rw [hz] at hx
    rw [hy,hz]
    simp only [Option.map_some,Function.comp_apply,Option.some.injEq]
    have k1:EqN n (sub (subR S up (n+1)) z) (sub (subR S up n) z):=(sub_eqN n z (subR_coh S up n)).symm
    have k2:=ih x z hx
    rw [appR_top S up n (e3 m x y hm hy)] at k2
    exact k1.trans k2
theorem ref_inf {S:TmS} {T:List Ty} (hN:Nod S T) {up:List Nat} (hR:RefOk S up) {a b:Ty} {i k:Nat} (ha:T[i]?=some a) (hb:T[k]?=some b) (he:topOf up i=topOf up k):∃ (V:Type) (ρ:Vl V),ρ.ev a=ρ.ev b :=
 ⟨_,cohV (subR S up) (subR_coh S up),by
  funext n
  have h1:=ref_app hN hR n i a ha
  have h2:=ref_app hN hR n k b hb
  rw [←appR_top S up n he] at h2
  exact h1.trans h2.symm⟩
end Go.Proofs.YtgeehnbbhnpimaaGreat
namespace Go.Proofs.YtgeehnbbhnpimaaGreat
open Go Go.Abs Go.Proofs
theorem u_len (a b:Ty):(uS a b).nm.length≤(nodesL [a,b]).length+a.cnt+b.cnt:=by
 have h1:=addL_grow ((uVars a b).map varT) Tm0
 have h2:=addT_grow a (uSeed a b).2
 have h3:=addT_grow b (uA a b).2
 have h4:(nodesL ((uVars a b).map varT)).length=(uVars a b).length:=by
  have:∀ (l:List ByteArray),(nodesL (l.map varT)).length=l.length:=by
   intro l;induction l with
   | nil=>rfl
   | cons x l ih=>simp [nodesL,varT,Ty.nodes,ih]
  exact this _
 have h5:=names_len [a,b]
 have h0:Tm0.nm.length=0:=rfl
 have e1:uSeed a b=addL ((uVars a b).map varT) Tm0:=rfl
 have e2:uA a b=addT a (uSeed a b).2:=rfl
 have e3:uS a b=(addT b (uA a b).2).2:=rfl
 have e4:uVars a b=namesL [a,b]:=rfl
 rw [e3]
 rw [←e1] at h1
 rw [←e2] at h2
 rw [h4,e4] at h1
 omega
theorem sum_leB {l:List Nat} {B:Nat} (h:∀ x∈l,x≤B):l.sum≤l.length * B:=by
 induction l with
 | nil=>simp
 | cons x l ih =>
  have h1:=h x (by simp)
  have h2:=ih fun y hy=>h y (by simp [hy])
  rw [List.sum_cons,List.length_cons,Nat.add_mul];omega
theorem u_args {S:TmS} {T:List Ty} (hN:Nod S T) (i:Nat):(S.ar.getD i []).length≤8:=by
 by_cases hi:i < S.nm.length
 ·obtain ⟨t,_,h2,_,h4,_⟩:=nod_node hN hi
  obtain ⟨n,l⟩:=t
  rw [h4]
  exact node_args ((good_mk n l).1 h2).1
 ·rw [List.getD_eq_getElem?_getD,List.getElem?_eq_none (by rw [hN.ar];omega)];simp
theorem u_join {S:TmS} {T:List Ty} (hN:Nod S T) (hz:S.nm.length < 1000000):JoinOk S S.nm.length∧potU S.ar S.up < 1099511627776:=by
 refine ⟨⟨rfl,hN.ar,by omega,fun s hs=>?_,fun i hi j hj=>Nat.lt_trans (nod_arg hN hi j hj) hi,fun i hi=>by have:=u_args hN i;omega⟩,?_⟩
 ·obtain ⟨i,hi⟩:=List.getElem?_of_mem hs
  have hlt:=(List.getElem?_eq_some_iff.1 hi).1
  obtain ⟨t,_,h2,h3,_⟩:=nod_node hN hlt
  rw [List.getD_eq_getElem?_getD,hi] at h3
  have h3:s=t.name:=h3
  obtain ⟨n,l⟩:=t
  have:=node_name ((good_mk n l).1 h2).1
  rw [h3];exact this
 ·unfold potU
  have h1:=sum_leB (l:=(((List.range S.up.length).filter fun i=>upAt S.up i == i).map fun i=>(S.ar.getD i []).length)) (B:=8) (by
   intro x hx
   obtain ⟨i,_,rfl⟩:=List.mem_map.1 hx
   exact u_args hN i)
  have h2:(((List.range S.up.length).filter fun i=>upAt S.up i == i).map fun i=>(S.ar.getD i []).length).length≤S.up.length:=by
   rw [List.length_map]
   exact Nat.le_trans (List.length_filter_le _ _) (by simp)
  have h3:S.up.length=S.nm.length:=by rw [hN.up,List.length_range]
  omega
theorem u_run {S:TmS} {T:List Ty} (hN:Nod S T) {x y:Nat} (hx:x < S.nm.length) (hy:y < S.nm.length):∃ f r,tjF S.nm S.ar f [(x,y)] S.up true=some r:=by
 have hw:WfU S.nm.length S.up:=by rw [hN.up];exact wf_range _
 exact ⟨_,tjF_fuel S.nm S.ar (fun i hi j hj=>Nat.lt_trans (nod_arg hN hi j hj) hi) (1+potU S.ar S.up+1) [(x,y)] S.up true hw (by intro p hp;simp at hp;subst hp;exact ⟨hx,hy⟩) (by simp)⟩
theorem ref_ev {S:TmS} {T:List Ty} (hN:Nod S T) {x y f:Nat} {a b:Ty} (hx:T[x]?=some a) (hy:T[y]?=some b) {r:List Nat × Bool} (hr:tjF S.nm S.ar f [(x,y)] S.up true=some r) {V:Type} (ρ:Vl V) (he:ρ.ev a=ρ.ev b):r.2=true∧∀ i,i < S.nm.length→valN ρ T (upAt r.1 i)=valN ρ T i:=by
 have hw:WfU S.nm.length S.up:=by rw [hN.up];exact wf_range _
 have lx:x < S.nm.length:=by rw [←hN.len];exact (List.getElem?_eq_some_iff.1 hx).1
 have ly:y < S.nm.length:=by rw [←hN.len];exact (List.getElem?_eq_some_iff.1 hy).1
 refine tj_ev hN ρ hw (by intro p hp;simp at hp;subst hp;exact ⟨lx,ly⟩) hr (fun i _=>by rw [hN.up,upAt_range]) (fun p hp=>?_)
 simp at hp;subst hp
 unfold valN
 simp only [hx,hy,Option.map_some,he]
theorem clash_same {ns:List ByteArray} {subs:List Ty} (hn:ns.Nodup) {a b:Ty} {c:Cl} {rb:Bool} (hp:Post ns subs (cl0 ns) c rb (EX a b) (EN a b)) {S:TmS} {T:List Ty} (hN:Nod S T) {x y f:Nat} (hx:T[x]?=some a) (hy:T[y]?=some b) {r:List Nat × Bool} (hr:tjF S.nm S.ar f [(x,y)] S.up true=some r):r.2=rb:=by
 have lx:x < S.nm.length:=by rw [←hN.len];exact (List.getElem?_eq_some_iff.1 hx).1
 have ly:y < S.nm.length:=by rw [←hN.len];exact (List.getElem?_eq_some_iff.1 hy).1
 cases rb with
 | true =>
  obtain ⟨V,ρ,he⟩:=prog_inf hn hp
  exact (ref_ev hN hx hy hr ρ he).1
 | false =>
  cases h2:r.2 with
  | false=>rfl
  | true =>
   obtain ⟨h3,h4⟩:=(ref_ok hN lx ly hr).2 h2
   obtain ⟨V,ρ,he⟩:=ref_inf hN h3 hx hy h4
   exact absurd (prog_no hp ρ he) (by simp)
section
variable {τ:Nat→Nat} {ar:List (List Nat)} {up:List Nat} {n:Nat}
theorem nodeH_step {st:HS} {i:Nat} (hst:HOk n st) (hi:i < n):((nodeH τ ar up st i).2=true→cntT st.dn < cntT (nodeH τ ar up st i).1.dn)∧((nodeH τ ar up st i).2=false→(nodeH τ ar up st i).1=st∧(upAt up i=i→st.dn.getD i false=false→argScan τ st (ar.getD i []) 1 0=none)):=by
 unfold nodeH
 by_cases hc:upAt up i=i∧st.dn.getD i false=false
 ·rw [if_pos hc]
  cases hs:argScan τ st (ar.getD i []) 1 0 with
  | none=>exact ⟨fun h=>(by cases h),fun _=>⟨rfl,fun _ _=>rfl⟩⟩
  | some p =>
   obtain ⟨s,d⟩:=p
   refine ⟨fun _=>?_,fun h=>by cases h⟩
   simp only
   rw [cntT_set (by rw [hst.dn];exact hi) hc.2];omega
 ·rw [if_neg hc]
  exact ⟨fun h=>(by cases h),fun _=>⟨rfl,fun h1 h2=>absurd ⟨h1,h2⟩ hc⟩⟩
theorem roundH_step {st:HS} (hst:HOk n st):∀ k,k≤n→cntT st.dn≤cntT (roundH τ ar up st k).1.dn∧((roundH τ ar up st k).2=true→cntT st.dn < cntT (roundH τ ar up st k).1.dn)∧((roundH τ ar up st k).2=false→(roundH τ ar up st k).1=st∧∀ i,i < k→upAt up i=i→st.dn.getD i false=false→argScan τ st (ar.getD i []) 1 0=none)
 | 0,_=>⟨Nat.le_refl _,fun h=>(by cases h),fun _=>⟨rfl,fun i h=>absurd h (Nat.not_lt_zero i)⟩⟩
 | k+1,hk=>by
  obtain ⟨a1,a2,a3⟩:=roundH_step hst k (by omega)
  have hok:=roundH_ok (τ:=τ) (ar:=ar) (up:=up) hst k (by omega)
  obtain ⟨b1,b2⟩:=nodeH_step (τ:=τ) (ar:=ar) (up:=up) hok (show k < n by omega)
  rw [roundH]
  simp only
  have hb:cntT (roundH τ ar up st k).1.dn≤cntT (nodeH τ ar up (roundH τ ar up st k).1 k).1.dn:=by
   cases h:(nodeH τ ar up (roundH τ ar up st k).1 k).2 with
   | true=>exact Nat.le_of_lt (b1 h)
   | false=>rw [(b2 h).1];exact Nat.le_refl _
  refine ⟨Nat.le_trans a1 hb,fun h=>?_,fun h=>?_⟩
  ·rcases Bool.or_eq_true _ _ ▸ h with h | h
   ·exact Nat.lt_of_lt_of_le (a2 h) hb
   ·exact Nat.lt_of_le_of_lt a1 (b1 h)
  ·rw [Bool.or_eq_false_iff] at h
   obtain ⟨c1,c2⟩:=a3 h.1
   obtain ⟨d1,d2⟩:=b2 h.2
   refine ⟨by rw [d1,c1],fun i hi h1 h2=>?_⟩
   by_cases e:i < k
   ·exact c2 i e h1 h2
   ·obtain rfl:i=k:=by omega
    rw [c1] at d2
    exact d2 h1 h2
def Still (τ:Nat→Nat) (ar:List (List Nat)) (up:List Nat) (n:Nat) (st:HS):Prop:=∀ i,i < n→upAt up i=i→st.dn.getD i false=false→argScan τ st (ar.getD i []) 1 0=none
theorem iterH_still:∀ (r:Nat) (st:HS),HOk n st→n < cntT st.dn+r→HOk n (iterH τ ar up n r st)∧Still τ ar up n (iterH τ ar up n r st)
 | 0,st,hst,h=>by
  have:=cntT_le st.dn
  rw [hst.dn] at this;omega
 | r+1,st,hst,h=>by
  obtain ⟨_,a2,a3⟩:=roundH_step (τ:=τ) (ar:=ar) (up:=up) hst n (Nat.le_refl _)
  have hok:=roundH_ok (τ:=τ) (ar:=ar) (up:=up) hst n (Nat.le_refl _)
  rw [iterH]
  by_cases hc:(roundH τ ar up st n).2=true
  ·rw [if_pos hc]
   exact iterH_still r _ hok (by have:=a2 hc;omega)
  ·rw [if_neg hc]
   obtain ⟨c1,c2⟩:=a3 (by simpa using hc)
   rw [c1]
   exact ⟨hst,c2⟩
theorem heights_still:HOk n (heightsS τ ar up n)∧Still τ ar up n (heightsS τ ar up n):=iterH_still (n+1) _ (hok0 n) (by omega)
theorem argScan_none {st:HS}:∀ {l:List Nat} {s d:Nat},argScan τ st l s d=none→∃ a∈l,st.dn.getD (τ a) false=false
 | [],s,d,h=>by simp [argScan] at h
 | a::l,s,d,h=>by
  rw [argScan] at h
  by_cases hc:st.dn.getD (τ a) false=true
  ·rw [if_pos hc] at h
   obtain ⟨x,h1,h2⟩:=argScan_none h
   exact ⟨x,List.mem_cons_of_mem _ h1,h2⟩
  ·exact ⟨a,List.mem_cons_self,by simpa using hc⟩
end
theorem arg_small {θ:Sub} {t z:Ty} (hv:t.isVar=false) {k:Nat} (hz:t.args[k]?=some z):(sub θ z).cnt < (sub θ t).cnt:=by
 rw [sub_nm hv,cnt_mk]
 have h1:sub θ z∈t.args.map (sub θ):=List.mem_map_of_mem (List.mem_of_getElem? hz)
 have:=(mem_cnt h1).1
 omega
theorem heights_fin {S:TmS} {T:List Ty} (hN:Nod S T) {up:List Nat} (hw:WfU S.nm.length up) {θ:Sub} (hl:∀ i,i < S.nm.length→valN (Vl.sub θ) T (upAt up i)=valN (Vl.sub θ) T i):heightsOk up (heightsS (topOf up) S.ar up S.nm.length) S.nm.length=true:=by
 obtain ⟨_,hst⟩:=heights_still (τ:=topOf up) (ar:=S.ar) (up:=up) (n:=S.nm.length)
 generalize heightsS (topOf up) S.ar up S.nm.length=st at *
 have key:∀ (m i:Nat) (t:Ty),i < S.nm.length→T[i]?=some t→(sub θ t).cnt=m→upAt up i=i→st.dn.getD i false=true:=by
  intro m
  induction m using Nat.strongRecOn with
  | _ m ih =>
  intro i t hi ht hm hr
  cases hd:st.dn.getD i false with
  | true=>rfl
  | false =>
   exfalso
   obtain ⟨a,ha,hda⟩:=argScan_none (hst i hi hr hd)
   obtain ⟨k,hk⟩:=List.getElem?_of_mem ha
   obtain ⟨t',a1,a2,a3,a4,a5⟩:=nod_node hN hi
   rw [ht] at a1
   obtain rfl:=Option.some.inj a1
   obtain ⟨hai,hT⟩:=a5 k a hk
   have hkl:k < t.args.length:=by rw [←a4];exact (List.getElem?_eq_some_iff.1 hk).1
   obtain ⟨z,hz⟩:∃ z,t.args[k]?=some z:=⟨_,List.getElem?_eq_getElem hkl⟩
   rw [hz] at hT
   have hv:t.isVar=false:=by
    cases hv:t.isVar with
    | false=>rfl
    | true =>
     obtain ⟨n,l⟩:=t
     have:=(node_var ((good_mk n l).1 a2).1 hv).1
     subst this
     simp [Ty.args] at hkl
   have han:a < S.nm.length:=Nat.lt_trans hai hi
   have hlt:=hw.top_lt han
   have htv:=val_top hl hw (hw.topR han) han
   obtain ⟨u,hu⟩:∃ u,T[topOf up a]?=some u:=⟨_,List.getElem?_eq_getElem (by rw [hN.len];exact hlt)⟩
   have e:sub θ u=sub θ z:=by
    unfold valN at htv
    rw [hu,hT] at htv
    exact Option.some.inj htv
   have hc:=arg_small (θ:=θ) hv hz
   rw [hm,←e] at hc
   have:=ih _ hc _ u hlt hu rfl (hw.top_fix han)
   rw [hda] at this;cases this
 unfold heightsOk
 rw [List.all_eq_true]
 intro i hi
 have hi':=List.mem_range.1 hi
 by_cases hr:upAt up i=i
 ·obtain ⟨t,ht⟩:∃ t,T[i]?=some t:=⟨_,List.getElem?_eq_getElem (by rw [hN.len];exact hi')⟩
  rw [key _ i t hi' ht rfl hr];simp
 ·simp [hr]
end Go.Proofs.YtgeehnbbhnpimaaGreat
namespace Go.Proofs.YtgeehnbbhnpimaaGreat
open Go Go.Abs Go.Proofs
section
variable {τ:Nat→Nat} {nm:List ByteArray} {ar:List (List Nat)} {names:List ByteArray}
theorem tree_mono:∀ f:Nat,(∀ i t,treeF τ nm ar names f i=some t→treeF τ nm ar names (f+1) i=some t)∧(∀ l ts,treeFL τ nm ar names f l=some ts→treeFL τ nm ar names (f+1) l=some ts):=by
 intro f
 induction f with
 | zero=>exact ⟨fun i t h=>by simp [treeF] at h,fun l ts h=>by simp [treeFL] at h⟩
 | succ f ih =>
  obtain ⟨h1,h2⟩:=ih
  refine ⟨fun i t h=>?_,fun l ts h=>?_⟩
  ·rw [treeF] at h ⊢
   by_cases hv:vrAt nm (τ i)=true
   ·rw [if_pos hv] at h ⊢;exact h
   ·rw [if_neg hv] at h ⊢
    cases hl:treeFL τ nm ar names f (ar.getD (τ i) []) with
    | none=>rw [hl] at h;cases h
    | some l=>rw [hl] at h;rw [h2 _ _ hl];exact h
  ·cases l with
   | nil=>simp only [treeFL] at h ⊢;exact h
   | cons a l =>
    simp only [treeFL] at h ⊢
    cases ha:treeF τ nm ar names f a with
    | none=>rw [ha] at h;cases h
    | some t =>
     cases hl:treeFL τ nm ar names f l with
     | none=>rw [ha,hl] at h;cases h
     | some ts=>rw [ha,hl] at h;rw [h1 _ _ ha,h2 _ _ hl];exact h
theorem tree_le {f g i:Nat} {t:Ty} (h:treeF τ nm ar names f i=some t) (hfg:f≤g):treeF τ nm ar names g i=some t:=by
 induction hfg with
 | refl=>exact h
 | step _ ih=>exact (tree_mono _).1 _ _ ih
theorem treeL_le {f g:Nat} {l:List Nat} {ts:List Ty} (h:treeFL τ nm ar names f l=some ts) (hfg:f≤g):treeFL τ nm ar names g l=some ts:=by
 induction hfg with
 | refl=>exact h
 | step _ ih=>exact (tree_mono _).2 _ _ ih
theorem tree_top {i:Nat} (h:τ (τ i)=τ i) (f:Nat):treeF τ nm ar names f i=treeF τ nm ar names f (τ i):=by
 cases f with
 | zero=>simp [treeF]
 | succ f=>rw [treeF,treeF,h]
variable {up:List Nat} {n:Nat}
def HT (τ:Nat→Nat) (nm:List ByteArray) (ar:List (List Nat)) (names:List ByteArray) (up:List Nat) (n:Nat) (st:HS):Prop:=∀ i,i < n→upAt up i=i→st.dn.getD i false=true→∃ t f,treeF τ nm ar names f i=some t∧st.sz.getD i 0=min t.cnt mxN∧st.dp.getD i 0=t.dep
structure TopOk (τ:Nat→Nat) (nm:List ByteArray) (ar:List (List Nat)) (up:List Nat) (n:Nat):Prop where
 lt:∀ i,i < n→τ i < n
 fix:∀ i,i < n→upAt up (τ i)=τ i
 self:∀ i,i < n→upAt up i=i→τ i=i
 inn:∀ i,i < n→∀ j∈ar.getD i [],j < n
 leaf:∀ i,i < n→vrAt nm i=true→ar.getD i []=[]
theorem argScan_tree (hO:TopOk τ nm ar up n) {st:HS} (hT:HT τ nm ar names up n st):∀ (l:List Nat) (s d s' d':Nat),(∀ j∈l,j < n)→s≤mxN→argScan τ st l s d=some (s',d')→∃ ts f,treeFL τ nm ar names f l=some ts∧s'=min (s+(nodesL ts).length) mxN∧d'=max d (depL ts)
 | [],s,d,s',d',_,hs,h=>by
  simp only [argScan,Option.some.injEq,Prod.mk.injEq] at h
  obtain ⟨rfl,rfl⟩:=h
  exact ⟨[],1,by simp [treeFL],by simp only [nodesL,List.length_nil];omega,by simp [depL]⟩
 | a::l,s,d,s',d',hl,hs,h=>by
  rw [argScan] at h
  by_cases hc:st.dn.getD (τ a) false=true
  rotate_left
  ·rw [if_neg hc] at h;cases h
  rw [if_pos hc] at h
  have ha:=hl a (by simp)
  obtain ⟨t,f1,h1,h2,h3⟩:=hT _ (hO.lt a ha) (hO.fix a ha) hc
  obtain ⟨ts,f2,g1,g2,g3⟩:=argScan_tree hO hT l _ _ _ _ (fun j hj=>hl j (by simp [hj])) (Nat.min_le_right _ _) h
  refine ⟨t::ts,max f1 f2+1,?_,?_,?_⟩
  ·rw [←tree_top (hO.self _ (hO.lt a ha) (hO.fix a ha))] at h1
   simp only [treeFL,tree_le h1 (Nat.le_max_left f1 f2),treeL_le g1 (Nat.le_max_right f1 f2)]
  ·rw [g2,h2,nodesL_cons];omega
  ·rw [g3,h3,depL];omega
theorem nodeH_tree (hO:TopOk τ nm ar up n) {st:HS} (hok:HOk n st) (hT:HT τ nm ar names up n st) {i:Nat} (hi:i < n):HT τ nm ar names up n (nodeH τ ar up st i).1:=by
 unfold nodeH
 by_cases hc:upAt up i=i∧st.dn.getD i false=false
 rotate_left
 ·rw [if_neg hc];exact hT
 rw [if_pos hc]
 cases hs:argScan τ st (ar.getD i []) 1 0 with
 | none=>exact hT
 | some p =>
  obtain ⟨s,d⟩:=p
  intro j hj hr hd
  simp only at hd ⊢
  rw [getD_set _ _ _ _ _ (by rw [hok.dn];exact hi)] at hd
  rw [getD_set _ _ _ _ _ (by rw [hok.sz];exact hi),getD_set _ _ _ _ _ (by rw [hok.dp];exact hi)]
  by_cases e:j=i
  ·subst e
   rw [if_pos rfl,if_pos rfl]
   obtain ⟨ts,f,g1,g2,g3⟩:=argScan_tree hO hT _ _ _ _ _ (hO.inn j hi) (by decide) hs
   have hself:=hO.self j hi hr
   by_cases hv:vrAt nm j=true
   ·have he:=hO.leaf j hi hv
    rw [he] at hs
    simp only [argScan,Option.some.injEq,Prod.mk.injEq] at hs
    obtain ⟨rfl,rfl⟩:=hs
    refine ⟨.mk (names.getD j ByteArray.empty) [],1,?_,?_,?_⟩
    ·rw [treeF,hself,if_pos hv]
    ·rw [cnt_mk];rfl
    ·simp [Ty.dep,depL]
   ·refine ⟨.mk (nm.getD j ByteArray.empty) ts,f+1,?_,?_,?_⟩
    ·rw [treeF,hself,if_neg hv,g1]
    ·rw [cnt_mk,g2];omega
    ·rw [g3,Ty.dep];omega
  ·rw [if_neg e] at hd
   rw [if_neg e,if_neg e]
   exact hT j hj hr hd
theorem roundH_tree (hO:TopOk τ nm ar up n) {st:HS} (hok:HOk n st) (hT:HT τ nm ar names up n st):∀ k,k≤n→HT τ nm ar names up n (roundH τ ar up st k).1
 | 0,_=>hT
 | k+1,hk=>by
  rw [roundH]
  exact nodeH_tree hO (roundH_ok hok k (by omega)) (roundH_tree hO hok hT k (by omega)) (by omega)
theorem iterH_tree (hO:TopOk τ nm ar up n):∀ (r:Nat) {st:HS},HOk n st→HT τ nm ar names up n st→HT τ nm ar names up n (iterH τ ar up n r st)
 | 0,st,_,hT=>hT
 | r+1,st,hok,hT=>by
  have h1:=roundH_ok (τ:=τ) (ar:=ar) (up:=up) hok n (Nat.le_refl _)
  have h2:=roundH_tree hO hok hT n (Nat.le_refl _)
  rw [iterH]
  split
  ·exact iterH_tree hO r h1 h2
  ·exact h2
theorem heights_tree (hO:TopOk τ nm ar up n):HT τ nm ar names up n (heightsS τ ar up n):=by
 refine iterH_tree hO _ (hok0 n) fun i hi _ hd=>?_
 simp only at hd
 rw [List.getD_eq_getElem?_getD,List.getElem?_replicate,if_pos hi] at hd
 cases hd
end
theorem top_ok {S:TmS} {T:List Ty} (hN:Nod S T) {up:List Nat} (hw:WfU S.nm.length up):TopOk (topOf up) S.nm S.ar up S.nm.length:=by
 refine ⟨fun i hi=>hw.top_lt hi,fun i hi=>hw.top_fix hi,fun i hi h=>topOf_eq (.here h),fun i hi j hj=>Nat.lt_trans (nod_arg hN hi j hj) hi,fun i hi hv=>?_⟩
 obtain ⟨t,_,h2,h3,h4,_⟩:=nod_node hN hi
 obtain ⟨n,l⟩:=t
 have hv':vr n=true:=by unfold vrAt at hv;rw [h3] at hv;exact hv
 have:=(node_var ((good_mk n l).1 h2).1 hv').1
 subst this
 exact List.eq_nil_of_length_eq_zero h4
theorem all_trees {S:TmS} {T:List Ty} (hN:Nod S T) {up:List Nat} (hw:WfU S.nm.length up) (names:List ByteArray) (hok:heightsOk up (heightsS (topOf up) S.ar up S.nm.length) S.nm.length=true) {i:Nat} (hi:i < S.nm.length):∃ t f,treeF (topOf up) S.nm S.ar names f i=some t∧(heightsS (topOf up) S.ar up S.nm.length).sz.getD (topOf up i) 0=min t.cnt mxN∧(heightsS (topOf up) S.ar up S.nm.length).dp.getD (topOf up i) 0=t.dep:=by
 have hO:=top_ok hN hw
 have hT:=heights_tree (names:=names) hO
 unfold heightsOk at hok
 rw [List.all_eq_true] at hok
 have hl:=hw.top_lt hi
 have h1:=hok (topOf up i) (List.mem_range.2 hl)
 rw [hw.top_fix hi] at h1
 obtain ⟨t,f,g1,g2,g3⟩:=hT _ hl (hw.top_fix hi) (by simpa using h1)
 exact ⟨t,f,by rw [tree_top (hw.top_top hi)];exact g1,g2,g3⟩
end Go.Proofs.YtgeehnbbhnpimaaGreat
