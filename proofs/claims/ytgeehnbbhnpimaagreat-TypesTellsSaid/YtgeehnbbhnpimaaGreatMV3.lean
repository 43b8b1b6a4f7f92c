/- Infinite trees as rows of finite ones; where the program's classes do not clash, such trees solve them. -/
import Derived.Test.YtgeehnbbhnpimaaGreatMV2
set_option linter.unusedVariables false
set_option linter.unusedSimpArgs false
namespace Go.Proofs.YtgeehnbbhnpimaaGreat
open Go Go.Abs Go.Proofs
theorem EqN.zero (x y:Ty):EqN 0 x y:=by unfold EqN;simp [tr]
theorem sub_eqN {θ ρ:Sub}:∀ (n:Nat) (x:Ty),(∀ s,EqN n (θ s) (ρ s))→EqN n (sub θ x) (sub ρ x)
 | 0,_,_=>EqN.zero _ _
 | n+1,.mk nm l,h=>by
  by_cases hv:vr nm=true
  ·rw [sub_var hv,sub_var hv];exact h nm
  ·have hv':vr nm=false:=by simpa using hv
   unfold EqN
   rw [sub_con hv',sub_con hv',tr_succ,tr_succ,List.map_map,List.map_map]
   congr 1
   exact List.map_congr_left fun x _=>sub_eqN n x fun s=>(h s).mono (Nat.le_succ n)
theorem con_eqN {θ ρ:Sub} (n:Nat) {x:Ty} (hx:x.isVar=false) (h:∀ s,EqN n (θ s) (ρ s)):EqN (n+1) (sub θ x) (sub ρ x):=by
 unfold EqN
 rw [sub_nm hx,sub_nm hx,tr_succ,tr_succ,List.map_map,List.map_map]
 congr 1
 exact List.map_congr_left fun x _=>sub_eqN n x h
def Coh (Θ:Nat→Sub):Prop:=∀ n s,EqN n (Θ n s) (Θ (n+1) s)
def cohV (Θ:Nat→Sub) (h:Coh Θ):Vl (Nat→Ty) where
 va:=fun s n=>tr n (Θ n s)
 ev:=fun x n=>tr n (sub (Θ n) x)
 vr:=fun t ht=>by funext n;rw [sub_vr ht]
 inj:=fun x y hx hy he=>by
  have h1:∀ n,x.name=y.name∧x.args.map (fun z=>tr n (sub (Θ n) z))=y.args.map (fun z=>tr n (sub (Θ n) z)):=by
   intro n
   have hn:tr (n+1) (sub (Θ (n+1)) x)=tr (n+1) (sub (Θ (n+1)) y):=congrFun he (n+1)
   rw [sub_nm hx,sub_nm hy,tr_succ,tr_succ,Ty.mk.injEq,List.map_map,List.map_map] at hn
   refine ⟨hn.1,?_⟩
   have e:∀ z:Ty,tr n (sub (Θ n) z)=tr n (sub (Θ (n+1)) z):=fun z=>sub_eqN n z (h n)
   simp only [e]
   exact hn.2
  refine ⟨(h1 0).1,?_⟩
  have hl:x.args.length=y.args.length:=by have:=congrArg List.length (h1 0).2;simpa using this
  refine List.ext_getElem (by simpa using hl) fun i hi hi2=>?_
  rw [List.getElem_map,List.getElem_map]
  funext n
  have h2:=congrArg (fun l=>l[i]?) (h1 n).2
  simp only [List.length_map] at hi hi2;simp only [List.getElem?_map,List.getElem?_eq_getElem hi,List.getElem?_eq_getElem hi2,Option.map_some,Option.some.injEq] at h2
  exact h2
section
variable {ns:List ByteArray} {subs:List Ty}
theorem deep_eq {a b:Ty} {c:Cl} (hp:Post ns subs (cl0 ns) c true (EX a b) (EN a b)) {n:Nat} {θ:Sub} (hs:SolN n c θ):EqN n (sub θ a) (sub θ b):=by
 have key:∀ k,k≤n→MetN subs k c θ:=by
  intro k
  induction k with
  | zero=>intro _ x _ t _ _;exact EqN.zero _ _
  | succ k ih =>
   intro hk
   obtain ⟨_,_,h3⟩:=hp.deep rfl k θ (hs.mono (by omega)) (ih (by omega))
   intro x hx t ht hm
   rcases h3 x hx t ht hm with h | h
   ·simp [cl0] at h
   ·exact h
 exact (hp.deep rfl n θ hs (key n (Nat.le_refl _))).2.1
open Classical in
noncomputable def topS (c:Cl) (s:ByteArray):ByteArray:=if h:∃ r,topR c s r then h.choose else s
theorem topS_eq {c:Cl} {s r:ByteArray} (h:topR c s r):topS c s=r:=by
 have he:∃ r,topR c s r:=⟨r,h⟩
 unfold topS
 rw [dif_pos he]
 exact he.choose_spec.unique h
noncomputable def appP (c:Cl):Nat→Sub
 | 0,s=>.mk (topS c s) []
 | n+1,s=>match lookT c.is (topS c s) with
  | some t=>sub (appP c n) t
  | none=>.mk (topS c s) []
theorem appP_coh {c:Cl} (hw:WF ns subs c):Coh (appP c):=by
 intro n
 induction n with
 | zero=>intro s;exact EqN.zero _ _
 | succ n ih =>
  intro s
  rw [appP,appP]
  cases hk:lookT c.is (topS c s) with
  | none=>exact EqN.refl _ _
  | some t=>exact con_eqN n (hw.is _ _ hk).2.2 ih
theorem appP_sol (hn:ns.Nodup) {c:Cl} (hw:WF ns subs c) (n:Nat):SolN n c (appP c n):=by
 constructor
 ·intro s u hu
  have hs:s∈ns:=by
   rw [←hw.keys]
   refine Classical.byContradiction fun h=>?_
   rw [lookG_none_iff.2 h] at hu;cases hu
  obtain ⟨hun,_⟩:=hw.up s u hu
  have e:topS c s=topS c u:=by
   by_cases e:u=s
   ·rw [e]
   ·obtain ⟨r,hr,_⟩:=topR_ex hn hw hun
    rw [topS_eq hr]
    refine topS_eq (Ev.succ ?_)
    obtain ⟨f0,h⟩:=hr
    exact ⟨f0,fun f hf=>by simp only [topF,hu,if_neg e];exact h f hf⟩
  have e2:appP c n s=appP c n u:=by
   cases n with
   | zero=>simp only [appP,e]
   | succ n=>simp only [appP,e]
  rw [e2];exact EqN.refl _ _
 ·intro s t hk
  have hi:=hw.is s t hk
  have e:topS c s=s:=topS_eq (topR_self hi.1)
  cases n with
  | zero=>exact EqN.zero _ _
  | succ n =>
   have e2:appP c (n+1) s=sub (appP c n) t:=by rw [appP,e,hk]
   rw [e2]
   exact con_eqN n hi.2.2 (appP_coh hw n)
theorem prog_inf (hn:ns.Nodup) {a b:Ty} {c:Cl} (hp:Post ns subs (cl0 ns) c true (EX a b) (EN a b)):∃ (V:Type) (ρ:Vl V),ρ.ev a=ρ.ev b :=
 ⟨_,cohV (appP c) (appP_coh hp.wf),by funext n;exact deep_eq hp (appP_sol hn hp.wf n)⟩
theorem solV0 (ns:List ByteArray) {V:Type} (ρ:Vl V):SolV (cl0 ns) ρ:=by
 refine ⟨fun s u h=>?_,fun s t h=>by simp [cl0,lookT] at h⟩
 have:=lookG_mem h
 unfold cl0 upL at this
 simp only [List.mem_map,Prod.mk.injEq] at this
 obtain ⟨q,_,rfl,rfl⟩:=this
 rfl
theorem prog_no {a b:Ty} {c:Cl} {r:Bool} (hp:Post ns subs (cl0 ns) c r (EX a b) (EN a b)) {V:Type} (ρ:Vl V) (h:ρ.ev a=ρ.ev b):r=true:=by
 cases r with
 | true=>rfl
 | false=>exact absurd h (hp.no rfl V ρ (solV0 _ ρ))
end
end Go.Proofs.YtgeehnbbhnpimaaGreat
namespace Go.Proofs.YtgeehnbbhnpimaaGreat
open Go Go.Abs Go.Proofs
theorem posN_get:∀ {l:List ByteArray} {n:ByteArray},posN l n < l.length→l[posN l n]?=some n
 | [],n,h=>by simp [posN] at h
 | x::l,n,h=>by
  rw [posN] at h ⊢
  by_cases e:x=n
  ·rw [if_pos e];simp [e]
  ·rw [if_neg e] at h ⊢
   simp only [List.getElem?_cons_succ]
   exact posN_get (by simpa using h)
theorem posN_mem:∀ {l:List ByteArray} {n:ByteArray},n∈l→posN l n < l.length
 | [],n,h=>by cases h
 | x::l,n,h=>by
  rw [posN]
  by_cases e:x=n
  ·rw [if_pos e];simp
  ·rw [if_neg e]
   have:=posN_mem (l:=l) (n:=n) (by rcases List.mem_cons.1 h with h | h;exact absurd h.symm e;exact h)
   simp;exact this
structure Nod (S:TmS) (T:List Ty):Prop where
 ar:S.ar.length=S.nm.length
 up:S.up=List.range S.nm.length
 len:T.length=S.nm.length
 at_:∀ (i:Nat) (t:Ty),T[i]?=some t→t.good=true∧S.nm[i]?=some t.name∧∃ l,S.ar[i]?=some l∧l.length=t.args.length∧∀ (k j:Nat),l[k]?=some j→j < i∧T[j]?=t.args[k]?
 uniq:∀ (i j:Nat) (t u:Ty),T[i]?=some t→T[j]?=some u→t.isVar=true→u.isVar=true→t.name=u.name→i=j
theorem nod_push {S:TmS} {T:List Ty} (h:Nod S T) {n:ByteArray} {l:List Ty} {args:List Nat} (hg:(Ty.mk n l).good=true) (hl:args.length=l.length) (ha:∀ (k j:Nat),args[k]?=some j→T[j]?=l[k]?) (hv:(Ty.mk n l).isVar=true→n ∉ S.nm):Nod (S.push n args) (T++[.mk n l])∧(T++[.mk n l])[S.up.length]?=some (.mk n l):=by
 have hlen:=h.len
 have har:=h.ar
 have hul:S.up.length=T.length:=by rw [h.up,List.length_range,hlen]
 have hold:∀ (i:Nat) (t:Ty),(T++[Ty.mk n l])[i]?=some t→(i < T.length∧T[i]?=some t)∨(i=T.length∧t=.mk n l):=by
  intro i t hi
  by_cases hlt:i < T.length
  ·rw [List.getElem?_append_left hlt] at hi;exact .inl ⟨hlt,hi⟩
  ·rw [List.getElem?_append_right (by omega)] at hi
   cases hz:i - T.length with
   | zero=>rw [hz] at hi;simp at hi;exact .inr ⟨by omega,hi.symm⟩
   | succ m=>rw [hz] at hi;simp at hi
 refine ⟨⟨by simp [TmS.push,har],?_,by simp [TmS.push,hlen],fun i t hi=>?_,fun i j t u hi hj ht hu e=>?_⟩,?_⟩
 ·simp only [TmS.push,List.length_append,List.length_singleton,List.range_succ]
  rw [hul,hlen,←h.up]
 ·rcases hold i t hi with ⟨hlt,h1⟩ | ⟨rfl,rfl⟩
  ·obtain ⟨a1,a2,l',a3,a4,a5⟩:=h.at_ i t h1
   refine ⟨a1,?_,l',?_,a4,fun k j hk=>?_⟩
   ·simp only [TmS.push];rw [List.getElem?_append_left (by omega)];exact a2
   ·simp only [TmS.push];rw [List.getElem?_append_left (by omega)];exact a3
   ·obtain ⟨b1,b2⟩:=a5 k j hk
    exact ⟨b1,by rw [List.getElem?_append_left (by omega)];exact b2⟩
  ·refine ⟨hg,?_,args,?_,hl,fun k j hk=>?_⟩
   ·simp only [TmS.push];rw [List.getElem?_append_right (by omega),show T.length - S.nm.length=0 by omega];rfl
   ·simp only [TmS.push];rw [List.getElem?_append_right (by omega),show T.length - S.ar.length=0 by omega];rfl
   ·have h2:=ha k j hk
    have hk2:k < l.length:=by rw [←hl];exact (List.getElem?_eq_some_iff.1 hk).1
    have h3:j < T.length:=by
     rw [List.getElem?_eq_getElem hk2] at h2
     exact (List.getElem?_eq_some_iff.1 h2).1
    exact ⟨h3,by rw [List.getElem?_append_left h3];exact h2⟩
 ·rcases hold i t hi with ⟨hlt,h1⟩ | ⟨rfl,rfl⟩
  ·rcases hold j u hj with ⟨hlt2,h2⟩ | ⟨rfl,rfl⟩
   ·exact h.uniq i j t u h1 h2 ht hu e
   ·have:=(h.at_ i t h1).2.1
    rw [e] at this
    exact absurd (List.mem_of_getElem? this) (hv hu)
  ·rcases hold j u hj with ⟨hlt2,h2⟩ | ⟨rfl,rfl⟩
   ·have:=(h.at_ j u h2).2.1
    rw [←e] at this
    exact absurd (List.mem_of_getElem? this) (hv ht)
   ·rfl
 ·rw [hul,List.getElem?_append_right (Nat.le_refl _),Nat.sub_self];rfl
mutual
theorem addT_nod:∀ (t:Ty) (S:TmS) (T:List Ty),Nod S T→t.good=true→∃ T',Nod (addT t S).2 (T++T')∧(T++T')[(addT t S).1]?=some t∧∀ x∈T',x∈t.nodes
 | .mk n l,S,T,h,hg=>by
  obtain ⟨hg1,hg2⟩:=(good_mk n l).1 hg
  rw [addT]
  by_cases hc:headP smallB n=true∧posN S.nm n < S.nm.length
  ·rw [if_pos hc]
   refine ⟨[],by simpa using h,?_,fun x hx=>by cases hx⟩
   simp only [List.append_nil]
   obtain ⟨u,hu⟩:∃ u,T[posN S.nm n]?=some u:=⟨_,List.getElem?_eq_getElem (by rw [h.len];exact hc.2)⟩
   obtain ⟨a1,a2,_⟩:=h.at_ _ u hu
   rw [posN_get hc.2] at a2
   obtain ⟨m,k⟩:=u
   obtain rfl:n=m:=by simpa [Ty.name] using a2
   obtain ⟨rfl,_⟩:=node_var ((good_mk n k).1 a1).1 hc.1
   obtain ⟨rfl,_⟩:=node_var hg1 hc.1
   exact hu
  ·rw [if_neg hc]
   obtain ⟨T',h1,h2,h3⟩:=addL_nod l S T h hg2
   have hp:=nod_push h1 (n:=n) (l:=l) (args:=(addL l S).1) hg (addL_len l S) (fun k j hk=>h2 k j hk) (fun hv hm=>by
    have hv':headP smallB n=true:=hv
    obtain ⟨rfl,_⟩:=node_var hg1 hv'
    simp only [addL] at hm
    exact hc ⟨hv',posN_mem hm⟩)
   refine ⟨T'++[.mk n l],?_,?_,fun x hx=>?_⟩
   ·rw [←List.append_assoc];exact hp.1
   ·rw [←List.append_assoc];exact hp.2
   ·simp only [Ty.nodes]
    rcases List.mem_append.1 hx with hx | hx
    ·exact List.mem_cons_of_mem _ (h3 x hx)
    ·simp at hx;subst hx;exact List.mem_cons_self
theorem addL_nod:∀ (l:List Ty) (S:TmS) (T:List Ty),Nod S T→(∀ t∈l,t.good=true)→∃ T',Nod (addL l S).2 (T++T')∧(∀ (k i:Nat),(addL l S).1[k]?=some i→(T++T')[i]?=l[k]?)∧∀ x∈T',x∈nodesL l
 | [],S,T,h,_=>⟨[],by simpa [addL] using h,fun k i hk=>by simp [addL] at hk,fun x hx=>by cases hx⟩
 | t::ts,S,T,h,hg=>by
  obtain ⟨T1,a1,a2,a3⟩:=addT_nod t S T h (hg t (by simp))
  obtain ⟨T2,b1,b2,b3⟩:=addL_nod ts (addT t S).2 (T++T1) a1 (fun t ht=>hg t (by simp [ht]))
  refine ⟨T1++T2,?_,fun k i hk=>?_,fun x hx=>?_⟩
  ·rw [addL,←List.append_assoc];exact b1
  ·rw [addL] at hk
   rw [←List.append_assoc]
   cases k with
   | zero =>
    simp only [List.getElem?_cons_zero,Option.some.injEq] at hk
    subst hk
    rw [List.getElem?_append_left (List.getElem?_eq_some_iff.1 a2).1,a2];rfl
   | succ k =>
    simp only [List.getElem?_cons_succ] at hk ⊢
    exact b2 k i hk
  ·simp only [nodesL]
   rcases List.mem_append.1 hx with hx | hx
   ·exact List.mem_append_left _ (a3 x hx)
   ·exact List.mem_append_right _ (b3 x hx)
end
theorem last_split {α:Type}:∀ {l:List α} {p:α},l.getLast?=some p→l=l.dropLast++[p]
 | [],p,h=>by simp at h
 | [x],p,h=>by simp at h;simp [h]
 | x::y::l,p,h=>by
  have:=last_split (l:=y::l) (p:=p) (by simpa [List.getLast?_cons_cons] using h)
  rw [List.dropLast_cons_cons,List.cons_append,←this]
theorem tj_ind {n:Nat} {nm:List ByteArray} {ar:List (List Nat)} (hA:∀ i,i < n→∀ j∈ar.getD i [],j < n) (P:List (Nat × Nat)→List Nat→Bool→Prop)
  (h:∀ (todo:List (Nat × Nat)) (p:Nat × Nat) (up:List Nat) (ok:Bool),WfU n up→(∀ q∈todo,q.1 < n∧q.2 < n)→p.1 < n→p.2 < n→P (todo++[p]) up ok →
   (topOf up p.1=topOf up p.2→P todo up ok) ∧
   (¬ topOf up p.1=topOf up p.2→vrAt nm (topOf up p.1)=true→P todo (up.set (topOf up p.1) (topOf up p.2)) ok) ∧
   (¬ topOf up p.1=topOf up p.2→¬ vrAt nm (topOf up p.1)=true→vrAt nm (topOf up p.2)=true→P todo (up.set (topOf up p.2) (topOf up p.1)) ok) ∧
   (¬ topOf up p.1=topOf up p.2→¬ vrAt nm (topOf up p.1)=true→¬ vrAt nm (topOf up p.2)=true→nm.getD (topOf up p.1) ByteArray.empty=nm.getD (topOf up p.2) ByteArray.empty∧(ar.getD (topOf up p.1) []).length=(ar.getD (topOf up p.2) []).length→P (todo++(ar.getD (topOf up p.1) []).zip (ar.getD (topOf up p.2) [])) (up.set (topOf up p.1) (topOf up p.2)) ok) ∧
   (¬ topOf up p.1=topOf up p.2→¬ vrAt nm (topOf up p.1)=true→¬ vrAt nm (topOf up p.2)=true→¬ (nm.getD (topOf up p.1) ByteArray.empty=nm.getD (topOf up p.2) ByteArray.empty∧(ar.getD (topOf up p.1) []).length=(ar.getD (topOf up p.2) []).length)→P todo up false)) :
  ∀ (f:Nat) (todo:List (Nat × Nat)) (up:List Nat) (ok:Bool) (r:List Nat × Bool),WfU n up→(∀ p∈todo,p.1 < n∧p.2 < n)→tjF nm ar f todo up ok=some r→P todo up ok→P [] r.1 r.2∧WfU n r.1:=by
 intro f
 induction f with
 | zero=>intro todo up ok r _ _ hr;simp [tjF] at hr
 | succ f ih =>
  intro todo up ok r hw ht hr hP
  rw [tjF] at hr
  cases hl:todo.getLast? with
  | none =>
   rw [hl] at hr
   simp only [Option.some.injEq] at hr
   subst hr
   rw [List.getLast?_eq_none_iff.1 hl] at hP
   exact ⟨hP,hw⟩
  | some p =>
   rw [hl] at hr
   simp only at hr
   have hp:=ht p (List.mem_of_getLast? hl)
   have ht':∀ q∈todo.dropLast,q.1 < n∧q.2 < n:=fun q hq=>ht q (List.dropLast_subset _ hq)
   rw [last_split hl] at hP
   obtain ⟨h1,h2,h3,h4,h5⟩:=h _ p up ok hw ht' hp.1 hp.2 hP
   have l1:=hw.top_lt hp.1
   have l2:=hw.top_lt hp.2
   have f1:=hw.top_fix hp.1
   have f2:=hw.top_fix hp.2
   generalize topOf up p.1=i at *
   generalize topOf up p.2=k at *
   by_cases hik:i=k
   ·rw [if_pos hik] at hr;exact ih _ _ _ _ hw ht' hr (h1 hik)
   rw [if_neg hik] at hr
   have w1:=hw.set l1 l2 f1 f2 hik
   have w2:=hw.set l2 l1 f2 f1 (fun e=>hik e.symm)
   by_cases v1:vrAt nm i=true
   ·rw [if_pos v1] at hr;exact ih _ _ _ _ w1 ht' hr (h2 hik v1)
   rw [if_neg v1] at hr
   by_cases v2:vrAt nm k=true
   ·rw [if_pos v2] at hr;exact ih _ _ _ _ w2 ht' hr (h3 hik v1 v2)
   rw [if_neg v2] at hr
   by_cases hc:nm.getD i ByteArray.empty=nm.getD k ByteArray.empty∧(ar.getD i []).length=(ar.getD k []).length
   ·rw [if_pos hc] at hr
    refine ih _ _ _ _ w1 (fun q hq=>?_) hr (h4 hik v1 v2 hc)
    rcases List.mem_append.1 hq with hq | hq
    ·exact ht' q hq
    ·obtain ⟨q1,q2⟩:=q
     have:=List.of_mem_zip hq
     exact ⟨hA i l1 q1 this.1,hA k l2 q2 this.2⟩
   ·rw [if_neg hc] at hr;exact ih _ _ _ _ hw ht' hr (h5 hik v1 v2 hc)
section
variable {S:TmS} {T:List Ty} (hN:Nod S T)
include hN
theorem nod_node {i:Nat} (hi:i < S.nm.length):∃ t,T[i]?=some t∧t.good=true∧S.nm.getD i ByteArray.empty=t.name∧(S.ar.getD i []).length=t.args.length∧∀ (k j:Nat),(S.ar.getD i [])[k]?=some j→j < i∧T[j]?=t.args[k]?:=by
 obtain ⟨t,ht⟩:∃ t,T[i]?=some t:=⟨_,List.getElem?_eq_getElem (by rw [hN.len];exact hi)⟩
 obtain ⟨h1,h2,l,h3,h4,h5⟩:=hN.at_ i t ht
 have e1:S.nm.getD i ByteArray.empty=t.name:=by rw [List.getD_eq_getElem?_getD,h2];rfl
 have e2:S.ar.getD i []=l:=by rw [List.getD_eq_getElem?_getD,h3];rfl
 exact ⟨t,ht,h1,e1,by rw [e2];exact h4,by rw [e2];exact h5⟩
theorem nod_arg {i:Nat} (hi:i < S.nm.length):∀ j∈S.ar.getD i [],j < i:=by
 obtain ⟨t,_,_,_,_,h⟩:=nod_node hN hi
 intro j hj
 obtain ⟨k,hk⟩:=List.getElem?_of_mem hj
 exact (h k j hk).1
def valN {V:Type} (ρ:Vl V) (T:List Ty) (i:Nat):Option V:=T[i]?.map ρ.ev
omit hN in
theorem val_top {V:Type} {ρ:Vl V} {n:Nat} {up:List Nat} (hl:∀ i,i < n→valN ρ T (upAt up i)=valN ρ T i) (hw:WfU n up) {i r:Nat} (h:TopR up i r):i < n→valN ρ T r=valN ρ T i:=by
 induction h with
 | here _=>exact fun _=>rfl
 | step _ _ ih=>exact fun hi=>(ih (hw.lt _ hi)).trans (hl _ hi)
theorem tj_ev {V:Type} (ρ:Vl V) {f:Nat} {todo:List (Nat × Nat)} {up:List Nat} {ok:Bool} {r:List Nat × Bool} (hw:WfU S.nm.length up) (ht:∀ p∈todo,p.1 < S.nm.length∧p.2 < S.nm.length) (hr:tjF S.nm S.ar f todo up ok=some r)
  (hl:∀ i,i < S.nm.length→valN ρ T (upAt up i)=valN ρ T i) (hp:∀ p∈todo,valN ρ T p.1=valN ρ T p.2):r.2=ok∧∀ i,i < S.nm.length→valN ρ T (upAt r.1 i)=valN ρ T i:=by
 have key:=tj_ind (n:=S.nm.length) (nm:=S.nm) (ar:=S.ar) (fun i hi j hj=>Nat.lt_trans (nod_arg hN hi j hj) hi)
  (fun todo up ok'=>ok'=ok∧(∀ i,i < S.nm.length→valN ρ T (upAt up i)=valN ρ T i)∧∀ p∈todo,valN ρ T p.1=valN ρ T p.2) ?_ f todo up ok r hw ht hr ⟨rfl,hl,hp⟩
 ·exact ⟨key.1.1,key.1.2.1⟩
 ·intro todo p up ok' hw ht hp1 hp2 ⟨h1,h2,h3⟩
  have h4:=h3 p (by simp)
  have h5:∀ q∈todo,valN ρ T q.1=valN ρ T q.2:=fun q hq=>h3 q (by simp [hq])
  have t1:=val_top h2 hw (hw.topR hp1) hp1
  have t2:=val_top h2 hw (hw.topR hp2) hp2
  have l1:=hw.top_lt hp1
  have l2:=hw.top_lt hp2
  generalize topOf up p.1=i at *
  generalize topOf up p.2=k at *
  have hik:valN ρ T i=valN ρ T k:=t1.trans (h4.trans t2.symm)
  have hset:∀ {i k:Nat},i < S.nm.length→valN ρ T i=valN ρ T k→∀ j,j < S.nm.length→valN ρ T (upAt (up.set i k) j)=valN ρ T j:=by
   intro i k hi he j hj
   rw [upAt_set (by rw [hw.len];exact hi)]
   by_cases e:j=i
   ·rw [if_pos e,e];exact he.symm
   ·rw [if_neg e];exact h2 j hj
  obtain ⟨ti,a1,a2,a3,a4,a5⟩:=nod_node hN l1
  obtain ⟨tk,b1,b2,b3,b4,b5⟩:=nod_node hN l2
  have hev:ρ.ev ti=ρ.ev tk:=by
   unfold valN at hik;rw [a1,b1] at hik;exact Option.some.inj hik
  have hinj:¬ vrAt S.nm i=true→¬ vrAt S.nm k=true→ti.name=tk.name∧ti.args.map ρ.ev=tk.args.map ρ.ev:=by
   intro v1 v2
   refine ρ.inj ti tk ?_ ?_ hev
   ·unfold vrAt at v1;rw [a3] at v1;show headP smallB ti.name=false;simpa using v1
   ·unfold vrAt at v2;rw [b3] at v2;show headP smallB tk.name=false;simpa using v2
  refine ⟨fun _=>⟨h1,h2,h5⟩,fun _ _=>⟨h1,hset l1 hik,h5⟩,fun _ _ _=>⟨h1,hset l2 hik.symm,h5⟩,fun _ v1 v2 hc=>⟨h1,hset l1 hik,fun q hq=>?_⟩,fun _ v1 v2 hc=>?_⟩
  ·rcases List.mem_append.1 hq with hq | hq
   ·exact h5 q hq
   ·obtain ⟨e1,e2⟩:=hinj v1 v2
    obtain ⟨m,hm⟩:=List.getElem?_of_mem hq
    rw [List.getElem?_zip_eq_some] at hm
    have x1:=(a5 m _ hm.1).2
    have x2:=(b5 m _ hm.2).2
    unfold valN
    rw [x1,x2,←List.getElem?_map,←List.getElem?_map,e2]
  ·exfalso
   obtain ⟨e1,e2⟩:=hinj v1 v2
   refine hc ⟨by rw [a3,b3];exact e1,?_⟩
   have:=congrArg List.length e2
   simp only [List.length_map] at this
   omega
end
end Go.Proofs.YtgeehnbbhnpimaaGreat
namespace Go.Proofs.YtgeehnbbhnpimaaGreat
open Go Go.Abs Go.Proofs
inductive Conn (n:Nat) (todo:List (Nat × Nat)) (up:List Nat):Nat→Nat→Prop where
 | top {x y:Nat}:x < n→y < n→topOf up x=topOf up y→Conn n todo up x y
 | todo {x y:Nat}:(x,y)∈todo→Conn n todo up x y
 | symm {x y:Nat}:Conn n todo up x y→Conn n todo up y x
 | trans {x y z:Nat}:Conn n todo up x y→Conn n todo up y z→Conn n todo up x z
theorem Conn.mono {n:Nat} {todo todo':List (Nat × Nat)} {p:Nat × Nat} {up up':List Nat} {x y:Nat} (h:Conn n (todo++[p]) up x y) (h1:∀ x y,x < n→y < n→topOf up x=topOf up y→topOf up' x=topOf up' y) (h2:∀ q∈todo,q∈todo') (h3:Conn n todo' up' p.1 p.2):Conn n todo' up' x y:=by
 induction h with
 | top hx hy h=>exact .top hx hy (h1 _ _ hx hy h)
 | todo h =>
  rcases List.mem_append.1 h with h | h
  ·exact .todo (h2 _ h)
  ·simp only [List.mem_singleton] at h
   rw [←h] at h3;exact h3
 | symm _ ih=>exact ih.symm
 | trans _ _ i1 i2=>exact i1.trans i2
theorem Conn.nil {n:Nat} {up:List Nat} {x y:Nat} (h:Conn n [] up x y):topOf up x=topOf up y:=by
 induction h with
 | top _ _ h=>exact h
 | todo h=>cases h
 | symm _ ih=>exact ih.symm
 | trans _ _ i1 i2=>exact i1.trans i2
structure Like (nm:List ByteArray) (ar:List (List Nat)) (E:Nat→Nat→Prop) (i k:Nat):Prop where
 nm:nm.getD i ByteArray.empty=nm.getD k ByteArray.empty
 len:(ar.getD i []).length=(ar.getD k []).length
 arg:∀ (m x y:Nat),(ar.getD i [])[m]?=some x→(ar.getD k [])[m]?=some y→E x y
theorem Like.symm {nm:List ByteArray} {ar:List (List Nat)} {E:Nat→Nat→Prop} {i k:Nat} (hE:∀ x y,E x y→E y x) (h:Like nm ar E i k):Like nm ar E k i :=
 ⟨h.nm.symm,h.len.symm,fun m x y hx hy=>hE _ _ (h.arg m y x hy hx)⟩
theorem Like.trans {nm:List ByteArray} {ar:List (List Nat)} {E:Nat→Nat→Prop} {i k j:Nat} (hE:∀ x y z,E x y→E y z→E x z) (h:Like nm ar E i k) (g:Like nm ar E k j):Like nm ar E i j :=
 ⟨h.nm.trans g.nm,h.len.trans g.len,fun m x y hx hy=>by
  have hm:=(List.getElem?_eq_some_iff.1 hx).1
  have hz:(ar.getD k [])[m]?=some _:=List.getElem?_eq_getElem (by rw [←h.len];exact hm)
  exact hE _ _ _ (h.arg m x _ hx hz) (g.arg m _ y hz hy)⟩
theorem Like.mono {nm:List ByteArray} {ar:List (List Nat)} {E E':Nat→Nat→Prop} {i k:Nat} (hE:∀ x y,E x y→E' x y) (h:Like nm ar E i k):Like nm ar E' i k :=
 ⟨h.nm,h.len,fun m x y hx hy=>hE _ _ (h.arg m x y hx hy)⟩
theorem WfU.top_top {n:Nat} {up:List Nat} (hw:WfU n up) {i:Nat} (hi:i < n):topOf up (topOf up i)=topOf up i:=topOf_eq (.here (hw.top_fix hi))
theorem tj_closed {n:Nat} {nm:List ByteArray} {ar:List (List Nat)} (hA:∀ i,i < n→∀ j∈ar.getD i [],j < n) {a0 b0:Nat} {f:Nat} {todo:List (Nat × Nat)} {up:List Nat} {ok:Bool} {r:List Nat × Bool} (hw:WfU n up) (ht:∀ p∈todo,p.1 < n∧p.2 < n) (hr:tjF nm ar f todo up ok=some r)
  (hR:∀ i,i < n→vrAt nm (topOf up i)=true→vrAt nm i=true) (hC:∀ i k,i < n→k < n→¬ vrAt nm i=true→¬ vrAt nm k=true→topOf up i=topOf up k→Like nm ar (Conn n todo up) i k) (hS:Conn n todo up a0 b0) :
  (∀ i,i < n→vrAt nm (topOf r.1 i)=true→vrAt nm i=true)∧(r.2=true→(∀ i k,i < n→k < n→¬ vrAt nm i=true→¬ vrAt nm k=true→topOf r.1 i=topOf r.1 k→Like nm ar (fun x y=>topOf r.1 x=topOf r.1 y) i k)∧topOf r.1 a0=topOf r.1 b0):=by
 have key:=tj_ind (n:=n) (nm:=nm) (ar:=ar) hA
  (fun todo up ok=>(∀ i,i < n→vrAt nm (topOf up i)=true→vrAt nm i=true)∧(ok=true→(∀ i k,i < n→k < n→¬ vrAt nm i=true→¬ vrAt nm k=true→topOf up i=topOf up k→Like nm ar (Conn n todo up) i k)∧Conn n todo up a0 b0)) ?_ f todo up ok r hw ht hr ⟨hR,fun _=>⟨hC,hS⟩⟩
 ·obtain ⟨⟨k1,k2⟩,_⟩:=key
  refine ⟨k1,fun h=>?_⟩
  obtain ⟨k3,k4⟩:=k2 h
  exact ⟨fun i k hi hk vi vk e=>(k3 i k hi hk vi vk e).mono fun x y h=>h.nil,k4.nil⟩
 ·intro todo p up ok hw ht hp1 hp2 ⟨h1,h2⟩
  have l1:=hw.top_lt hp1
  have l2:=hw.top_lt hp2
  have f1:=hw.top_fix hp1
  have f2:=hw.top_fix hp2
  have tt:=fun (j:Nat) (hj:j < n)=>hw.top_top hj
  have ts:=fun (i k j:Nat) (hi:i < n) (g1:upAt up i=i) (g2:upAt up k=k) (hne:¬ i=k) (hj:j < n)=>topOf_set hw hi g1 g2 hne hj
  have hvar:∀ i k:Nat,i < n→k < n→upAt up i=i→upAt up k=k→¬ i=k→vrAt nm i=true→(topOf up p.1=i∧topOf up p.2=k∨topOf up p.2=i∧topOf up p.1=k) →
    (∀ j,j < n→vrAt nm (topOf (up.set i k) j)=true→vrAt nm j=true)∧(ok=true→(∀ x y,x < n→y < n→¬ vrAt nm x=true→¬ vrAt nm y=true→topOf (up.set i k) x=topOf (up.set i k) y→Like nm ar (Conn n todo (up.set i k)) x y)∧Conn n todo (up.set i k) a0 b0):=by
   intro i k hi hk g1 g2 hne vi hpp
   have hmono:∀ x y,x < n→y < n→topOf up x=topOf up y→topOf (up.set i k) x=topOf (up.set i k) y:=fun x y hx hy e=>by rw [ts i k x hi g1 g2 hne hx,ts i k y hi g1 g2 hne hy,e]
   have hpc:Conn n todo (up.set i k) p.1 p.2:=by
    refine .top hp1 hp2 ?_
    rw [ts i k _ hi g1 g2 hne hp1,ts i k _ hi g1 g2 hne hp2]
    rcases hpp with ⟨e1,e2⟩ | ⟨e1,e2⟩
    ·rw [if_pos e1,if_neg (by rw [e2];exact fun e=>hne e.symm),e2]
    ·rw [if_pos e1,if_neg (by rw [e2];exact fun e=>hne e.symm),e2]
   refine ⟨fun j hj hv=>?_,fun hok=>?_⟩
   ·rw [ts i k j hi g1 g2 hne hj] at hv
    by_cases e:topOf up j=i
    ·exact h1 j hj (by rw [e];exact vi)
    ·rw [if_neg e] at hv;exact h1 j hj hv
   ·obtain ⟨c1,c2⟩:=h2 hok
    refine ⟨fun x y hx hy vx vy e=>?_,c2.mono hmono (fun q hq=>hq) hpc⟩
    have ex:¬ topOf up x=i:=fun e=>vx (h1 x hx (by rw [e];exact vi))
    have ey:¬ topOf up y=i:=fun e=>vy (h1 y hy (by rw [e];exact vi))
    rw [ts i k x hi g1 g2 hne hx,ts i k y hi g1 g2 hne hy,if_neg ex,if_neg ey] at e
    exact (c1 x y hx hy vx vy e).mono fun _ _ h=>h.mono hmono (fun q hq=>hq) hpc
  refine ⟨fun e=>⟨h1,fun hok=>?_⟩,fun hne v1=>hvar _ _ l1 l2 f1 f2 hne v1 (.inl ⟨rfl,rfl⟩),fun hne v1 v2=>hvar _ _ l2 l1 f2 f1 (fun e=>hne e.symm) v2 (.inr ⟨rfl,rfl⟩),fun hne v1 v2 hc=>?_,fun _ _ _ _=>⟨h1,fun h=>by cases h⟩⟩
  ·obtain ⟨c1,c2⟩:=h2 hok
   have hpc:Conn n todo up p.1 p.2:=.top hp1 hp2 e
   exact ⟨fun x y hx hy vx vy e=>(c1 x y hx hy vx vy e).mono fun _ _ h=>h.mono (fun _ _ _ _ e=>e) (fun q hq=>hq) hpc,c2.mono (fun _ _ _ _ e=>e) (fun q hq=>hq) hpc⟩
  ·have e1:topOf up p.1=topOf up p.1:=rfl
   have e2:topOf up p.2=topOf up p.2:=rfl
   generalize hi:topOf up p.1=i at *
   generalize hk:topOf up p.2=k at *
   have hmono:∀ x y,x < n→y < n→topOf up x=topOf up y→topOf (up.set i k) x=topOf (up.set i k) y:=fun x y hx hy e=>by rw [ts i k x l1 f1 f2 hne hx,ts i k y l1 f1 f2 hne hy,e]
   have hpc:Conn n (todo++(ar.getD i []).zip (ar.getD k [])) (up.set i k) p.1 p.2:=by
    refine .top hp1 hp2 ?_
    rw [ts i k _ l1 f1 f2 hne hp1,ts i k _ l1 f1 f2 hne hp2,hi,hk,if_pos rfl,if_neg (fun e=>hne e.symm)]
   have hcm:∀ {x y},Conn n (todo++[p]) up x y→Conn n (todo++(ar.getD i []).zip (ar.getD k [])) (up.set i k) x y:=fun h=>h.mono hmono (fun q hq=>List.mem_append_left _ hq) hpc
   refine ⟨fun j hj hv=>?_,fun hok=>?_⟩
   ·rw [ts i k j l1 f1 f2 hne hj] at hv
    by_cases e:topOf up j=i
    ·rw [if_pos e] at hv;exact absurd hv v2
    ·rw [if_neg e] at hv;exact h1 j hj hv
   ·obtain ⟨c1,c2⟩:=h2 hok
    refine ⟨fun x y hx hy vx vy e=>?_,hcm c2⟩
    have hik:Like nm ar (Conn n (todo++(ar.getD i []).zip (ar.getD k [])) (up.set i k)) i k:=⟨hc.1,hc.2,fun m x y hx hy=>.todo (List.mem_append_right _ (List.mem_of_getElem? (List.getElem?_zip_eq_some.2 ⟨hx,hy⟩)))⟩
    have hto:∀ x,x < n→¬ vrAt nm x=true→Like nm ar (Conn n (todo++(ar.getD i []).zip (ar.getD k [])) (up.set i k)) x (topOf up x):=fun x hx vx =>
     (c1 x _ hx (hw.top_lt hx) vx (fun h=>vx (h1 x hx h)) (tt x hx).symm).mono fun _ _ h=>hcm h
    have hS:∀ x y,Conn n (todo++(ar.getD i []).zip (ar.getD k [])) (up.set i k) x y→Conn n (todo++(ar.getD i []).zip (ar.getD k [])) (up.set i k) y x:=fun _ _ h=>h.symm
    have hT:∀ x y z,Conn n (todo++(ar.getD i []).zip (ar.getD k [])) (up.set i k) x y→Conn n (todo++(ar.getD i []).zip (ar.getD k [])) (up.set i k) y z→Conn n (todo++(ar.getD i []).zip (ar.getD k [])) (up.set i k) x z:=fun _ _ _ h g=>h.trans g
    have lx:=hto x hx vx
    have ly:=(hto y hy vy).symm hS
    rw [ts i k x l1 f1 f2 hne hx,ts i k y l1 f1 f2 hne hy] at e
    by_cases ex:topOf up x=i
    ·rw [if_pos ex] at e
     rw [ex] at lx
     by_cases ey:topOf up y=i
     ·rw [ey] at ly;exact lx.trans hT ly
     ·rw [if_neg ey] at e
      rw [←e] at ly
      exact (lx.trans hT hik).trans hT ly
    ·rw [if_neg ex] at e
     by_cases ey:topOf up y=i
     ·rw [if_pos ey] at e
      rw [e] at lx
      rw [ey] at ly
      exact (lx.trans hT (hik.symm hS)).trans hT ly
     ·rw [if_neg ey] at e
      rw [e] at lx
      exact lx.trans hT ly
end Go.Proofs.YtgeehnbbhnpimaaGreat
