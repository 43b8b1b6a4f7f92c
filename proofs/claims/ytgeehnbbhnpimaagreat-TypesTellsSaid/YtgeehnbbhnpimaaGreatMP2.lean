/- Classes made equal: that it ends, and what is solved behind it. -/
import Derived.Test.YtgeehnbbhnpimaaGreatMP1
set_option linter.unusedVariables false
set_option linter.unusedSimpArgs false
namespace Go.Proofs.YtgeehnbbhnpimaaGreat
open Go Go.Abs Go.Proofs
mutual
def tr:Nat→Ty→Ty
 | 0,_=>.mk ByteArray.empty []
 | n+1,.mk nm l=>.mk nm (trL n l)
def trL:Nat→List Ty→List Ty
 | _,[]=>[]
 | n,t::ts=>tr n t::trL n ts
end
theorem trL_eq (n:Nat) (l:List Ty):trL n l=l.map (tr n):=by
 induction l with
 | nil=>simp [trL]
 | cons t ts ih=>simp [trL,ih]
theorem tr_succ (n:Nat) (nm:ByteArray) (l:List Ty):tr (n+1) (.mk nm l)=.mk nm (l.map (tr n)):=by rw [tr,trL_eq]
def EqN (n:Nat) (x y:Ty):Prop:=tr n x=tr n y
theorem tr_tr:∀ {m n:Nat} (x:Ty),m≤n→tr m (tr n x)=tr m x
 | 0,_,_,_=>by simp [tr]
 | m+1,0,_,h=>by omega
 | m+1,n+1,.mk nm l,h=>by
  rw [tr_succ,tr_succ,tr_succ,List.map_map]
  congr 1
  exact List.map_congr_left fun x _=>tr_tr x (by omega)
theorem EqN.mono {m n:Nat} {x y:Ty} (h:m≤n) (he:EqN n x y):EqN m x y:=by
 unfold EqN at he ⊢;rw [←tr_tr x h,he,tr_tr y h]
mutual
theorem tr_deep:∀ (n:Nat) (x:Ty),x.depth≤n→tr n x=x
 | 0,x,h=>by have:=x.depth_pos;omega
 | n+1,.mk nm l,h=>by
  rw [tr,trL_deep n l (by simp only [Ty.depth] at h;omega)]
theorem trL_deep:∀ (n:Nat) (l:List Ty),depthL l≤n→trL n l=l
 | _,[],_=>by simp [trL]
 | n,t::ts,h=>by simp only [depthL] at h;rw [trL,tr_deep n t (by omega),trL_deep n ts (by omega)]
end
theorem EqN.all {x y:Ty} (h:∀ n,EqN n x y):x=y:=by
 have:=h (max x.depth y.depth)
 unfold EqN at this
 rwa [tr_deep _ x (by omega),tr_deep _ y (by omega)] at this
theorem EqN.refl (n:Nat) (x:Ty):EqN n x x:=rfl
theorem EqN.trans {n:Nat} {x y z:Ty} (h:EqN n x y) (k:EqN n y z):EqN n x z:=Eq.trans h k
theorem EqN.symm {n:Nat} {x y:Ty} (h:EqN n x y):EqN n y x:=Eq.symm h
section
variable {α:Type}
theorem putG_keys {m:List (ByteArray × α)} {s:ByteArray} {t:α} (h:(lookG m s).isSome=true):(putG m s t).map (·.1)=m.map (·.1):=by
 induction m with
 | nil=>simp [lookG] at h
 | cons p m ih =>
  rw [lookG_cons] at h
  by_cases hs:s=p.1
  ·simp [putG,hs]
  ·simp only [hs,if_false] at h;simp [putG,hs,ih h]
theorem lookG_none_iff {m:List (ByteArray × α)} {s:ByteArray}:lookG m s=none↔s ∉ m.map (·.1):=by
 refine ⟨fun h hm=>?_,lookG_none⟩
 obtain ⟨p,hp,rfl⟩:=List.mem_map.1 hm
 unfold lookG at h
 simp only [Option.map_eq_none_iff,List.find?_eq_none,decide_eq_true_eq] at h
 exact h p hp rfl
theorem lookG_some_of {m:List (ByteArray × α)} {s:ByteArray} (h:s∈m.map (·.1)):∃ t,lookG m s=some t:=by
 cases hl:lookG m s with
 | some t=>exact ⟨t,rfl⟩
 | none=>exact absurd h (lookG_none_iff.1 hl)
theorem delG_keys (m:List (ByteArray × α)) (s:ByteArray):((delG m s).map (·.1)).Sublist (m.map (·.1)):=by
 induction m with
 | nil=>simp [delG]
 | cons p m ih =>
  simp only [delG]
  split
  ·simp
  ·simpa using ih.cons_cons p.1
theorem lookG_del {m:List (ByteArray × α)} (hn:(m.map (·.1)).Nodup) (s r:ByteArray):lookG (delG m s) r=if r=s then none else lookG m r:=by
 induction m with
 | nil=>simp [delG,lookG]
 | cons p m ih =>
  simp only [List.map_cons,List.nodup_cons] at hn;simp only [delG]
  by_cases hs:s=p.1
  ·rw [if_pos hs,lookG_cons]
   by_cases hr:r=s
   ·rw [if_pos hr,hr,hs];exact lookG_none hn.1
   ·rw [if_neg hr,if_neg (by rw [←hs];exact hr)]
  ·rw [if_neg hs,lookG_cons,lookG_cons,ih hn.2]
   by_cases hr:r=p.1
   ·rw [if_pos hr,if_pos hr,if_neg (by rw [hr];exact Ne.symm hs)]
   ·rw [if_neg hr,if_neg hr]
theorem lookG_nodup {m:List (ByteArray × α)} (hn:(m.map (·.1)).Nodup) {p:ByteArray × α} (hp:p∈m):lookG m p.1=some p.2:=by
 induction m with
 | nil=>simp at hp
 | cons q m ih =>
  simp only [List.map_cons,List.nodup_cons] at hn
  rw [lookG_cons]
  rcases List.mem_cons.1 hp with rfl | hp
  ·simp
  ·rw [if_neg,ih hn.2 hp]
   rintro e;exact hn.1 (e ▸ List.mem_map_of_mem hp)
end
theorem rank_get {ns:List ByteArray} (hn:ns.Nodup) {s:ByteArray}:(∃ i,lookG (rankL ns) s=some i)↔s∈ns:=by
 constructor
 ·rintro ⟨i,h⟩
  have:=lookG_mem h
  have h2:=List.mem_map_of_mem (f:=(·.1)) this
  rwa [rankL_keys] at h2
 ·intro h;exact lookG_some_of (by rw [rankL_keys];exact h)
theorem rank_at {ns:List ByteArray} {s:ByteArray} {i:Nat} (h:lookG (rankL ns) s=some i):ns[i]?=some s:=by
 have:=lookG_mem h
 unfold rankL at this
 have h2:=List.mem_zipIdx_iff_getElem?.1 this
 simpa using h2
section
variable (ns:List ByteArray) (subs:List Ty)
structure WF (c:Cl):Prop where
 nss:c.ns=ns
 keys:c.up.map (·.1)=ns
 up:∀ s u,lookG c.up s=some u→u∈ns∧(u=s∨∃ i j,lookG (rankL ns) u=some i∧lookG (rankL ns) s=some j∧i < j)
 is:∀ s t,lookT c.is s=some t→lookG c.up s=some s∧t∈subs∧t.isVar=false
 nodup:(c.is.map (·.1)).Nodup
structure SubsOk:Prop where
 good:∀ t∈subs,t.good=true
 vars:∀ t∈subs,VA (·∈ns) t
 args:∀ t∈subs,∀ x∈t.args,x∈subs
def unmet (c:Cl):Nat:=((subs.flatMap fun x=>subs.map fun t=>keyN x t).filter fun k=>!memS k c.met).length
end
structure Vl (V:Type) where
 va:ByteArray→V
 ev:Ty→V
 vr:∀ t:Ty,t.isVar=true→ev t=va t.name
 inj:∀ x y:Ty,x.isVar=false→y.isVar=false→ev x=ev y→x.name=y.name∧x.args.map ev=y.args.map ev
def SolV {V:Type} (c:Cl) (ρ:Vl V):Prop:=(∀ s u,lookG c.up s=some u→ρ.va s=ρ.va u)∧∀ s t,lookT c.is s=some t→ρ.va s=ρ.ev t
def Vl.sub (θ:Sub):Vl Ty where
 va:=θ
 ev:=Go.Proofs.YtgeehnbbhnpimaaGreat.sub θ
 vr:=fun t h=>by obtain ⟨n,l⟩:=t;exact sub_var h
 inj:=fun x y hx hy h=>by
  obtain ⟨n,l⟩:=x
  obtain ⟨m,k⟩:=y
  have hx':Go.Proofs.YtgeehnbbhnpimaaGreat.vr n=false:=hx
  have hy':Go.Proofs.YtgeehnbbhnpimaaGreat.vr m=false:=hy
  rw [sub_con hx',sub_con hy',Ty.mk.injEq] at h
  exact h
def Sol (c:Cl) (θ:Sub):Prop:=(∀ s u,lookG c.up s=some u→θ s=θ u)∧∀ s t,lookT c.is s=some t→θ s=sub θ t
def SolN (n:Nat) (c:Cl) (θ:Sub):Prop:=(∀ s u,lookG c.up s=some u→EqN n (θ s) (θ u))∧∀ s t,lookT c.is s=some t→EqN n (θ s) (sub θ t)
def MetN (subs:List Ty) (n:Nat) (c:Cl) (θ:Sub):Prop:=∀ x∈subs,∀ t∈subs,keyN x t∈c.met→EqN n (sub θ x) (sub θ t)
theorem SolN.mono {m n:Nat} {c:Cl} {θ:Sub} (h:m≤n) (hs:SolN n c θ):SolN m c θ:=⟨fun s u hu=>(hs.1 s u hu).mono h,fun s t ht=>(hs.2 s t ht).mono h⟩
theorem MetN.mono {subs:List Ty} {m n:Nat} {c:Cl} {θ:Sub} (h:m≤n) (hs:MetN subs n c θ):MetN subs m c θ:=fun x hx t ht hk=>(hs x hx t ht hk).mono h
theorem Sol.solN {c:Cl} {θ:Sub} (h:Sol c θ) (n:Nat):SolN n c θ:=⟨fun s u hu=>by rw [h.1 s u hu];rfl,fun s t ht=>by rw [h.2 s t ht];rfl⟩
structure Post (ns:List ByteArray) (subs:List Ty) (c c':Cl) (r:Bool) (EX:(V:Type)→Vl V→Prop) (EN:Nat→Sub→Prop):Prop where
 wf:WF ns subs c'
 met:∀ k∈c.met,k∈c'.met
 no:r=false→∀ (V:Type) (ρ:Vl V),SolV c ρ→¬ EX V ρ
 yes:r=true→∀ (V:Type) (ρ:Vl V),SolV c ρ→EX V ρ→SolV c' ρ
 deep:r=true→∀ n θ,SolN n c' θ→MetN subs n c' θ→SolN n c θ∧EN n θ∧∀ x∈subs,∀ t∈subs,keyN x t∈c'.met→keyN x t∈c.met∨EqN (n+1) (sub θ x) (sub θ t)
def Ev {α:Type} (g:Nat→Option α) (x:α):Prop:=∃ f0,∀ f,f0≤f→g f=some x
theorem Ev.succ {α:Type} {g:Nat→Option α} {x:α} (h:Ev (fun f=>g (f+1)) x):Ev g x:=by
 obtain ⟨f0,h⟩:=h
 refine ⟨f0+1,fun f hf=>?_⟩
 obtain ⟨f,rfl⟩:∃ k,f=k+1:=⟨f - 1,by omega⟩
 exact h f (by omega)
theorem Ev.and {α β:Type} {g:Nat→Option α} {k:Nat→Option β} {x:α} {y:β} (h:Ev g x) (h2:Ev k y):∃ f0,∀ f,f0≤f→g f=some x∧k f=some y:=by
 obtain ⟨f0,h⟩:=h
 obtain ⟨f1,h2⟩:=h2
 exact ⟨max f0 f1,fun f hf=>⟨h f (by omega),h2 f (by omega)⟩⟩
theorem Ev.const {α:Type} {g:Nat→Option α} {x:α} (h:∀ f,g f=some x):Ev g x:=⟨0,fun f _=>h f⟩
section
variable {ns:List ByteArray} {subs:List Ty}
theorem top_ev (hn:ns.Nodup) {c:Cl} (hw:WF ns subs c):∀ (i:Nat) (s:ByteArray),lookG (rankL ns) s=some i→∃ r,Ev (fun f=>topF c.up f s) r∧r∈ns∧lookG c.up r=some r∧(∀ (V:Type) (ρ:Vl V),SolV c ρ→ρ.va s=ρ.va r)∧∀ n θ,SolN n c θ→EqN n (θ s) (θ r):=by
 intro i
 induction i using Nat.strongRecOn with
 | _ i ih =>
 intro s hs
 have hsn:s∈ns:=(rank_get hn).1 ⟨i,hs⟩
 obtain ⟨u,hu⟩:=lookG_some_of (m:=c.up) (s:=s) (by rw [hw.keys];exact hsn)
 obtain ⟨h1,h2⟩:=hw.up s u hu
 by_cases e:u=s
 ·subst e
  exact ⟨u,Ev.succ (Ev.const fun f=>by simp [topF,hu]),h1,hu,fun _ _ _=>rfl,fun _ _ _=>rfl⟩
 ·obtain ⟨k,j,h3,h4,h5⟩:=h2.resolve_left e
  rw [hs] at h4
  simp only [Option.some.injEq] at h4
  subst h4
  obtain ⟨r,h6,h7,h8,h9,h10⟩:=ih k h5 u h3
  refine ⟨r,Ev.succ ?_,h7,h8,fun V θ hθ=>(hθ.1 s u hu).trans (h9 V θ hθ),fun n θ hθ=>(hθ.1 s u hu).trans (h10 n θ hθ)⟩
  obtain ⟨f0,h6⟩:=h6
  exact ⟨f0,fun f hf=>by simp only [topF,hu,if_neg e];exact h6 f hf⟩
theorem top_ev' (hn:ns.Nodup) {c:Cl} (hw:WF ns subs c) {s:ByteArray} (hs:s∈ns):∃ r,Ev (fun f=>topF c.up f s) r∧r∈ns∧lookG c.up r=some r∧(∀ (V:Type) (ρ:Vl V),SolV c ρ→ρ.va s=ρ.va r)∧∀ n θ,SolN n c θ→EqN n (θ s) (θ r):=by
 obtain ⟨i,hi⟩:=(rank_get hn).2 hs
 exact top_ev hn hw i s hi
theorem unmet_le {c c':Cl} (h:∀ k∈c.met,k∈c'.met):unmet subs c'≤unmet subs c:=by
 unfold unmet
 refine List.Sublist.length_le ?_
 have:(subs.flatMap fun x=>subs.map fun t=>keyN x t).filter (fun k=>!memS k c'.met)=((subs.flatMap fun x=>subs.map fun t=>keyN x t).filter fun k=>!memS k c.met).filter fun k=>!memS k c'.met:=by
  rw [List.filter_filter]
  refine List.filter_congr fun k _=>?_
  cases h1:memS k c.met
  ·simp
  ·have:=memS_iff.2 (h k (memS_iff.1 h1));simp [this]
 rw [this]
 exact List.filter_sublist
theorem unmet_lt {c:Cl} {x t:Ty} (hx:x∈subs) (ht:t∈subs) (hm:memS (keyN x t) c.met=false):unmet subs { c with met:=c.met++[keyN x t] } < unmet subs c:=by
 have hk:keyN x t∈subs.flatMap fun x=>subs.map fun t=>keyN x t:=List.mem_flatMap.2 ⟨x,hx,List.mem_map_of_mem ht⟩
 unfold unmet
 generalize (subs.flatMap fun x=>subs.map fun t=>keyN x t)=K at hk ⊢
 generalize keyN x t=key at *
 have hle:∀ K:List ByteArray,(K.filter fun k=>!memS k (c.met++[key])).length≤(K.filter fun k=>!memS k c.met).length:=by
  intro K
  refine List.Sublist.length_le ?_
  have:K.filter (fun k=>!memS k (c.met++[key]))=(K.filter fun k=>!memS k c.met).filter fun k=>!memS k (c.met++[key]):=by
   rw [List.filter_filter]
   refine List.filter_congr fun k _=>?_
   cases h1:memS k c.met
   ·simp
   ·have:=memS_iff.2 (show k∈c.met++[key] by simp [memS_iff.1 h1]);simp [this]
  rw [this];exact List.filter_sublist
 induction K with
 | nil=>simp at hk
 | cons k K ih =>
  rcases List.mem_cons.1 hk with rfl | hk
  ·have h1:memS key (c.met++[key])=true:=memS_iff.2 (by simp)
   simp only [List.filter_cons,h1,hm,Bool.not_true,Bool.not_false,if_true,Bool.false_eq_true,if_false,List.length_cons]
   have:=hle K;omega
  ·have h2:=ih hk
   simp only [List.filter_cons]
   cases h3:memS k c.met
   ·cases h4:memS k (c.met++[key])
    ·simp;omega
    ·simp;have:=hle K;omega
   ·have h4:memS k (c.met++[key])=true:=memS_iff.2 (by simp [memS_iff.1 h3])
    simp only [h4,Bool.not_true,Bool.false_eq_true,if_false];exact h2
end
end Go.Proofs.YtgeehnbbhnpimaaGreat
namespace Go.Proofs.YtgeehnbbhnpimaaGreat
open Go Go.Abs Go.Proofs
section
variable {ns:List ByteArray} {subs:List Ty}
abbrev EX (a b:Ty):(V:Type)→Vl V→Prop:=fun _ ρ=>ρ.ev a=ρ.ev b
abbrev EN (a b:Ty):Nat→Sub→Prop:=fun n θ=>EqN n (sub θ a) (sub θ b)
abbrev LX (a b:List Ty):(V:Type)→Vl V→Prop:=fun _ ρ=>a.map ρ.ev=b.map ρ.ev
abbrev LN (a b:List Ty):Nat→Sub→Prop:=fun n θ=>a.map (fun x=>tr n (sub θ x))=b.map (fun x=>tr n (sub θ x))
def RunAt (ns:List ByteArray) (subs:List Ty) (N:Nat) (a b:Ty):Prop:=∀ c,WF ns subs c→unmet subs c≤N→∃ r c',Ev (fun f=>unF f c a b) (r,c')∧Post ns subs c c' r (EX a b) (EN a b)
theorem post_id {c:Cl} (hw:WF ns subs c) {EX:(V:Type)→Vl V→Prop} {EN:Nat→Sub→Prop} (h:∀ n θ,SolN n c θ→MetN subs n c θ→EN n θ):Post ns subs c c true EX EN :=
 ⟨hw,fun _ h=>h,fun h=>(by cases h),fun _ _ _ h _=>h,fun _ n θ hs hm=>⟨hs,h n θ hs hm,fun _ _ _ _ h=>.inl h⟩⟩
theorem post_no {c:Cl} (hw:WF ns subs c) {EX:(V:Type)→Vl V→Prop} {EN:Nat→Sub→Prop} (h:∀ (V:Type) (ρ:Vl V),SolV c ρ→¬ EX V ρ):Post ns subs c c false EX EN :=
 ⟨hw,fun _ h=>h,fun _=>h,fun h=>(by cases h),fun h=>(by cases h)⟩
theorem metN_sub {n:Nat} {c c':Cl} {θ:Sub} (h:∀ k∈c.met,k∈c'.met) (hm:MetN subs n c' θ):MetN subs n c θ:=fun x hx t ht hk=>hm x hx t ht (h _ hk)
theorem list_run (N:Nat):∀ (l l':List Ty),l.length=l'.length→(∀ x∈l,∀ y∈l',RunAt ns subs N x y)→∀ c,WF ns subs c→unmet subs c≤N→∃ r c',Ev (fun f=>unL f c l l') (r,c')∧Post ns subs c c' r (LX l l') (LN l l')
 | [],[],_,_,c,hw,_=>⟨true,c,Ev.succ (Ev.const fun f=>by simp [unL]),post_id hw fun _ _ _ _=>rfl⟩
 | [],_::_,h,_,_,_,_=>by simp at h
 | _::_,[],h,_,_,_,_=>by simp at h
 | p::ps,t::ts,hl,hr,c,hw,hu=>by
  obtain ⟨r1,c1,e1,p1⟩:=hr p (by simp) t (by simp) c hw hu
  cases r1 with
  | false =>
   refine ⟨false,c1,Ev.succ ?_,p1.wf,p1.met,fun _ V θ hθ h=>p1.no rfl V θ hθ ?_,fun h=>(by cases h),fun h=>(by cases h)⟩
   ·obtain ⟨f0,e1⟩:=e1
    exact ⟨f0,fun f hf=>by simp only [unL,e1 f hf]⟩
   ·simp only [LX,List.map_cons,List.cons.injEq] at h;exact h.1
  | true =>
   have hu1:=unmet_le (subs:=subs) p1.met
   obtain ⟨r2,c2,e2,p2⟩:=list_run N ps ts (by simpa using hl) (fun x hx y hy=>hr x (by simp [hx]) y (by simp [hy])) c1 p1.wf (by omega)
   refine ⟨r2,c2,Ev.succ ?_,p2.wf,fun k hk=>p2.met k (p1.met k hk),fun h V θ hθ hx=>?_,fun h V θ hθ hx=>?_,fun h n θ hs hm=>?_⟩
   ·obtain ⟨f0,e⟩:=e1.and e2
    exact ⟨f0,fun f hf=>by simp only [unL,(e f hf).1,(e f hf).2]⟩
   ·simp only [LX,List.map_cons,List.cons.injEq] at hx
    exact p2.no h V θ (p1.yes rfl V θ hθ hx.1) hx.2
   ·simp only [LX,List.map_cons,List.cons.injEq] at hx
    exact p2.yes h V θ (p1.yes rfl V θ hθ hx.1) hx.2
   ·obtain ⟨s1,n1,k1⟩:=p2.deep h n θ hs hm
    obtain ⟨s2,n2,k2⟩:=p1.deep rfl n θ s1 (metN_sub p2.met hm)
    refine ⟨s2,?_,fun x hx t ht hk=>?_⟩
    ·simp only [LN,List.map_cons,List.cons.injEq];exact ⟨n2,n1⟩
    ·rcases k1 x hx t ht hk with h1 | h1
     ·exact k2 x hx t ht h1
     ·exact .inr h1
theorem sub_nm {θ:Sub} {t:Ty} (h:t.isVar=false):sub θ t=.mk t.name (t.args.map (sub θ)):=by
 obtain ⟨n,l⟩:=t
 exact sub_con h
theorem pairs_run (hS:SubsOk ns subs) (N:Nat) (ih:∀ M,M < N→∀ a∈subs,∀ b∈subs,RunAt ns subs M a b) {c:Cl} (hw:WF ns subs c) (hu:unmet subs c≤N) {x t:Ty} (hx:x∈subs) (ht:t∈subs) (hxv:x.isVar=false) (htv:t.isVar=false) :
  ∃ r c',Ev (fun f=>pairsF f c x t) (r,c')∧Post ns subs c c' r (EX x t) (EN x t):=by
 by_cases hh:x.name=t.name∧x.args.length=t.args.length
 rotate_left
 ·refine ⟨false,c,Ev.succ (Ev.const fun f=>by simp only [pairsF,if_neg hh]),post_no hw fun V ρ _ he=>hh ?_⟩
  obtain ⟨e1,e2⟩:=ρ.inj _ _ hxv htv he
  exact ⟨e1,by have:=congrArg List.length e2;simpa using this⟩
 cases hm:memS (keyN x t) c.met with
 | true =>
  refine ⟨true,c,Ev.succ (Ev.const fun f=>by simp only [pairsF,if_pos hh,hm,if_true]),post_id hw fun n θ _ hmt=>hmt x hx t ht (memS_iff.1 hm)⟩
 | false =>
  have hlt:=unmet_lt hx ht hm
  have hw1:WF ns subs { c with met:=c.met++[keyN x t] }:=⟨hw.nss,hw.keys,hw.up,hw.is,hw.nodup⟩
  obtain ⟨r,c',e,p⟩:=list_run (N - 1) x.args t.args hh.2 (fun y hy z hz=>ih (N - 1) (by omega) y (hS.args x hx y hy) z (hS.args t ht z hz)) _ hw1 (by omega)
  refine ⟨r,c',Ev.succ ?_,p.wf,fun k hk=>p.met k (by simp [hk]),fun h V θ hθ he=>p.no h V θ hθ ?_,fun h V θ hθ he=>p.yes h V θ hθ ?_,fun h n θ hs hmt=>?_⟩
  ·obtain ⟨f0,e⟩:=e
   exact ⟨f0,fun f hf=>by simp only [pairsF,if_pos hh,hm,Bool.false_eq_true,if_false];exact e f hf⟩
  ·exact (θ.inj _ _ hxv htv he).2
  ·exact (θ.inj _ _ hxv htv he).2
  ·obtain ⟨s1,n1,k1⟩:=p.deep h n θ hs hmt
   refine ⟨s1,hmt x hx t ht (p.met _ (by simp)),fun y hy z hz hk=>?_⟩
   rcases k1 y hy z hz hk with h1 | h1
   ·rcases List.mem_append.1 h1 with h1 | h1
    ·exact .inl h1
    ·right
     simp only [List.mem_singleton] at h1
     obtain ⟨rfl,rfl⟩:=key_inj (hS.good y hy) (hS.good z hz) (hS.good x hx) (hS.good t ht) h1
     unfold EqN
     rw [sub_nm hxv,sub_nm htv,tr_succ,tr_succ,hh.1,List.map_map,List.map_map]
     simp only [LN] at n1
     rw [show (tr n ∘ sub θ)=fun x=>tr n (sub θ x) from rfl,n1]
   ·exact .inr h1
theorem joinG_run (hn:ns.Nodup) (hS:SubsOk ns subs) (N:Nat) (ih:∀ M,M < N→∀ a∈subs,∀ b∈subs,RunAt ns subs M a b) {c:Cl} (hw:WF ns subs c) (hu:unmet subs c≤N) {a b:ByteArray} (ha:lookG c.up a=some a) (hb:lookG c.up b=some b)
  {i j:Nat} (hi:lookG (rankL ns) a=some i) (hj:lookG (rankL ns) b=some j) (hij:i < j):∃ r c',Ev (fun f=>joinG f c a b) (r,c')∧Post ns subs c c' r (fun _ ρ=>ρ.va a=ρ.va b) (fun n θ=>EqN n (θ a) (θ b)):=by
 have hane:a≠b:=by rintro rfl;rw [hi] at hj;simp at hj;omega
 have han:a∈ns:=(rank_get hn).1 ⟨i,hi⟩
 have hbs:(lookG c.up b).isSome=true:=by rw [hb];rfl
 have hkeys:(putG c.up b a).map (·.1)=ns:=by rw [putG_keys hbs];exact hw.keys
 have hup:∀ s u,lookG (putG c.up b a) s=some u→u∈ns∧(u=s∨∃ i j,lookG (rankL ns) u=some i∧lookG (rankL ns) s=some j∧i < j):=by
  intro s u h
  rw [lookG_put] at h
  split at h
  ·rename_i e
   simp only [Option.some.injEq] at h
   subst e h
   exact ⟨han,.inr ⟨i,j,hi,hj,hij⟩⟩
  ·exact hw.up s u h
 have hupS:∀ n θ (c1:Cl),c1.up=putG c.up b a→SolN n c1 θ→(∀ s u,lookG c.up s=some u→EqN n (θ s) (θ u))∧EqN n (θ a) (θ b):=by
  intro n θ c1 e h
  have hba:EqN n (θ b) (θ a):=h.1 b a (by rw [e,lookG_put,if_pos rfl])
  refine ⟨fun s u hsu=>?_,hba.symm⟩
  by_cases hsb:s=b
  ·subst hsb;rw [hb] at hsu;simp only [Option.some.injEq] at hsu;subst hsu;exact EqN.refl _ _
  ·exact h.1 s u (by rw [e,lookG_put,if_neg hsb];exact hsu)
 have hupX:∀ (V:Type) (θ:Vl V),SolV c θ→θ.va a=θ.va b→∀ s u,lookG (putG c.up b a) s=some u→θ.va s=θ.va u:=by
  intro V θ h he s u hsu
  rw [lookG_put] at hsu
  split at hsu
  ·rename_i e;simp only [Option.some.injEq] at hsu;subst e hsu;exact he.symm
  ·exact h.1 s u hsu
 cases hk:lookT c.is b with
 | none =>
  have hw1:WF ns subs { c with up:=putG c.up b a }:=by
   refine ⟨hw.nss,hkeys,hup,fun s t h=>?_,hw.nodup⟩
   have h1:=hw.is s t h
   refine ⟨?_,h1.2⟩
   show lookG (putG c.up b a) s=some s
   rw [lookG_put,if_neg]
   ·exact h1.1
   ·rintro rfl;rw [hk] at h;cases h
  refine ⟨true,_,Ev.succ (Ev.const fun f=>by simp only [joinG,hbs,if_true,hk]),hw1,fun _ h=>h,fun h=>(by cases h),fun _ V θ hθ he=>⟨hupX V θ hθ he,hθ.2⟩,fun _ n θ hs hm=>?_⟩
  obtain ⟨h1,h2⟩:=hupS n θ _ rfl hs
  exact ⟨⟨h1,hs.2⟩,h2,fun _ _ _ _ h=>.inl h⟩
 | some y =>
  have hy:=hw.is b y hk
  have hnd2:((delG c.is b).map (·.1)).Nodup:=(delG_keys c.is b).nodup hw.nodup
  have hdel:∀ s,lookT (delG c.is b) s=if s=b then none else lookT c.is s:=fun s=>lookG_del hw.nodup b s
  cases hk2:lookT (delG c.is b) a with
  | none =>
   have hla:∀ s,lookT (delG c.is b++[(a,y)]) s=if s=a then some y else if s=b then none else lookT c.is s:=by
    intro s
    show lookG (delG c.is b++[(a,y)]) s=_
    rw [lookG_app,←lookT_g,hdel,lookG_cons]
    by_cases hsa:s=a
    ·subst hsa
     rw [hdel,if_neg hane] at hk2
     rw [if_neg hane,hk2];simp
    ·rw [if_neg hsa,if_neg hsa]
     by_cases hsb:s=b
     ·simp [hsb,lookG]
     ·simp [hsb,lookG]
   have hw1:WF ns subs { c with up:=putG c.up b a,is:=delG c.is b++[(a,y)],iv:=c.iv+1+1 }:=by
    refine ⟨hw.nss,hkeys,hup,fun s t h=>?_,nodup_app hnd2 hk2⟩
    change lookT (delG c.is b++[(a,y)]) s=some t at h
    rw [hla] at h
    split at h
    ·rename_i e
     simp only [Option.some.injEq] at h
     subst e h
     refine ⟨?_,hy.2⟩
     show lookG (putG c.up b s) s=some s
     rw [lookG_put,if_neg hane];exact ha
    ·split at h
     ·cases h
     ·rename_i hsb
      have h1:=hw.is s t h
      refine ⟨?_,h1.2⟩
      show lookG (putG c.up b a) s=some s
      rw [lookG_put,if_neg hsb];exact h1.1
   refine ⟨true,_,Ev.succ (Ev.const fun f=>by simp only [joinG,hbs,if_true,hk,hk2]),hw1,fun _ h=>h,fun h=>(by cases h),fun _ V θ hθ he=>⟨hupX V θ hθ he,fun s t h=>?_⟩,fun _ n θ hs hm=>?_⟩
   ·change lookT (delG c.is b++[(a,y)]) s=some t at h
    rw [hla] at h
    split at h
    ·rename_i e;simp only [Option.some.injEq] at h;subst e h;rw [he];exact hθ.2 b y hk
    ·split at h
     ·cases h
     ·exact hθ.2 s t h
   ·obtain ⟨h1,h2⟩:=hupS n θ _ rfl hs
    have hay:EqN n (θ a) (sub θ y):=hs.2 a y (by show lookT (delG c.is b++[(a,y)]) a=some y;rw [hla,if_pos rfl])
    refine ⟨⟨h1,fun s t h=>?_⟩,h2,fun _ _ _ _ h=>.inl h⟩
    by_cases hsb:s=b
    ·subst hsb;rw [hk] at h;simp only [Option.some.injEq] at h;subst h;exact h2.symm.trans hay
    ·by_cases hsa:s=a
     ·subst hsa
      rw [hdel,if_neg hsb,h] at hk2;cases hk2
     ·exact hs.2 s t (by show lookT (delG c.is b++[(a,y)]) s=some t;rw [hla,if_neg hsa,if_neg hsb];exact h)
  | some x =>
   have hxa:lookT c.is a=some x:=by rw [hdel,if_neg hane] at hk2;exact hk2
   have hx:=hw.is a x hxa
   have hw1:WF ns subs { c with up:=putG c.up b a,is:=delG c.is b,iv:=c.iv+1 }:=by
    refine ⟨hw.nss,hkeys,hup,fun s t h=>?_,hnd2⟩
    change lookT (delG c.is b) s=some t at h
    rw [hdel] at h
    split at h
    ·cases h
    ·rename_i hsb
     have h1:=hw.is s t h
     refine ⟨?_,h1.2⟩
     show lookG (putG c.up b a) s=some s
     rw [lookG_put,if_neg hsb];exact h1.1
   obtain ⟨r,c',e,p⟩:=pairs_run hS N ih hw1 hu hx.2.1 hy.2.1 hx.2.2 hy.2.2
   have hS1:∀ (V:Type) (θ:Vl V),SolV c θ→θ.va a=θ.va b→SolV { c with up:=putG c.up b a,is:=delG c.is b,iv:=c.iv+1 } θ:=by
    intro V θ hθ he
    refine ⟨hupX V θ hθ he,fun s t h=>?_⟩
    change lookT (delG c.is b) s=some t at h
    rw [hdel] at h
    split at h
    ·cases h
    ·exact hθ.2 s t h
   have hxy:∀ (V:Type) (θ:Vl V),SolV c θ→θ.va a=θ.va b→θ.ev x=θ.ev y:=fun V θ hθ he=>by rw [←hθ.2 a x hxa,←hθ.2 b y hk,he]
   refine ⟨r,c',Ev.succ ?_,p.wf,p.met,fun h V θ hθ he=>p.no h V θ (hS1 V θ hθ he) (hxy V θ hθ he),fun h V θ hθ he=>p.yes h V θ (hS1 V θ hθ he) (hxy V θ hθ he),fun h n θ hs hm=>?_⟩
   ·obtain ⟨f0,e⟩:=e
    exact ⟨f0,fun f hf=>by simp only [joinG,hbs,if_true,hk,hk2];exact e f hf⟩
   ·obtain ⟨s1,n1,k1⟩:=p.deep h n θ hs hm
    obtain ⟨h1,h2⟩:=hupS n θ _ rfl s1
    have hax:EqN n (θ a) (sub θ x):=s1.2 a x hk2
    refine ⟨⟨h1,fun s t h=>?_⟩,h2,k1⟩
    by_cases hsb:s=b
    ·subst hsb;rw [hk] at h;simp only [Option.some.injEq] at h;subst h;exact (h2.symm.trans hax).trans n1
    ·exact s1.2 s t (by show lookT (delG c.is b) s=some t;rw [hdel,if_neg hsb];exact h)
theorem join_run (hn:ns.Nodup) (hS:SubsOk ns subs) (N:Nat) (ih:∀ M,M < N→∀ a∈subs,∀ b∈subs,RunAt ns subs M a b) {c:Cl} (hw:WF ns subs c) (hu:unmet subs c≤N) {a b:ByteArray} (han:a∈ns) (hbn:b∈ns) (ha:lookG c.up a=some a) (hb:lookG c.up b=some b) :
  ∃ r c',Ev (fun f=>joinF f c a b) (r,c')∧Post ns subs c c' r (fun _ ρ=>ρ.va a=ρ.va b) (fun n θ=>EqN n (θ a) (θ b)):=by
 by_cases hab:a=b
 ·subst hab
  exact ⟨true,c,Ev.succ (Ev.const fun f=>by simp [joinF]),post_id hw fun n θ _ _=>EqN.refl _ _⟩
 obtain ⟨i,hi⟩:=(rank_get hn).2 han
 obtain ⟨j,hj⟩:=(rank_get hn).2 hbn
 have hne:i≠j:=by
  rintro rfl
  have h1:=rank_at hi
  have h2:=rank_at hj
  rw [h1] at h2;simp at h2;exact hab h2
 by_cases hlt:j < i
 ·obtain ⟨r,c',e,p⟩:=joinG_run hn hS N ih hw hu hb ha hj hi hlt
  refine ⟨r,c',Ev.succ ?_,p.wf,p.met,fun h V θ hθ he=>p.no h V θ hθ he.symm,fun h V θ hθ he=>p.yes h V θ hθ he.symm,fun h n θ hs hm=>?_⟩
  ·obtain ⟨f0,e⟩:=e
   exact ⟨f0,fun f hf=>by simp only [joinF,if_neg hab,hw.nss,hi,hj,if_pos hlt];exact e f hf⟩
  ·obtain ⟨h1,h2,h3⟩:=p.deep h n θ hs hm
   exact ⟨h1,h2.symm,h3⟩
 ·obtain ⟨r,c',e,p⟩:=joinG_run hn hS N ih hw hu ha hb hi hj (by omega)
  refine ⟨r,c',Ev.succ ?_,p⟩
  obtain ⟨f0,e⟩:=e
  exact ⟨f0,fun f hf=>by simp only [joinF,if_neg hab,hw.nss,hi,hj,if_neg hlt];exact e f hf⟩
theorem var_name (hS:SubsOk ns subs) {t:Ty} (ht:t∈subs) (hv:t.isVar=true):t.name∈ns:=by
 have:=hS.vars t ht
 obtain ⟨n,l⟩:=t
 exact (VA_var hv).1 this
theorem sub_vr {θ:Sub} {t:Ty} (hv:t.isVar=true):sub θ t=θ t.name:=by
 obtain ⟨n,l⟩:=t
 exact sub_var hv
theorem bind_run (hn:ns.Nodup) (hS:SubsOk ns subs) (N:Nat) (ih:∀ M,M < N→∀ a∈subs,∀ b∈subs,RunAt ns subs M a b) {c:Cl} (hw:WF ns subs c) (hu:unmet subs c≤N) {s:ByteArray} (hsn:s∈ns) (hs:lookG c.up s=some s) {t:Ty} (ht:t∈subs) :
  ∃ r c',Ev (fun f=>bindF f c s t) (r,c')∧Post ns subs c c' r (fun _ ρ=>ρ.va s=ρ.ev t) (fun n θ=>EqN n (θ s) (sub θ t)):=by
 cases hv:t.isVar with
 | true =>
  obtain ⟨u,eu,hun,huu,hux,hud⟩:=top_ev' hn hw (var_name hS ht hv)
  obtain ⟨r,c',e,p⟩:=join_run hn hS N ih hw hu hsn hun hs huu
  refine ⟨r,c',Ev.succ ?_,p.wf,p.met,fun h V θ hθ he=>p.no h V θ hθ ?_,fun h V θ hθ he=>p.yes h V θ hθ ?_,fun h n θ hs hm=>?_⟩
  ·obtain ⟨f0,e⟩:=eu.and e
   exact ⟨f0,fun f hf=>by simp only [bindF,hv,if_true,(e f hf).1];exact (e f hf).2⟩
  ·show θ.va s=θ.va u;rw [show θ.va s=θ.ev t from he,θ.vr _ hv];exact hux V θ hθ
  ·show θ.va s=θ.va u;rw [show θ.va s=θ.ev t from he,θ.vr _ hv];exact hux V θ hθ
  ·obtain ⟨h1,h2,h3⟩:=p.deep h n θ hs hm
   refine ⟨h1,?_,h3⟩
   rw [sub_vr hv];exact h2.trans (hud n θ h1).symm
 | false =>
  cases hk:lookT c.is s with
  | none =>
   have hla:∀ r,lookT (c.is++[(s,t)]) r=if r=s then some t else lookT c.is r:=by
    intro r
    show lookG (c.is++[(s,t)]) r=_
    rw [lookG_app,←lookT_g,lookG_cons]
    by_cases hrs:r=s
    ·subst hrs;rw [hk];simp
    ·simp [hrs,lookG]
   have hw1:WF ns subs { c with is:=c.is++[(s,t)],iv:=c.iv+1 }:=by
    refine ⟨hw.nss,hw.keys,hw.up,fun r x h=>?_,nodup_app hw.nodup hk⟩
    change lookT (c.is++[(s,t)]) r=some x at h
    rw [hla] at h
    split at h
    ·rename_i e;simp only [Option.some.injEq] at h;subst e h;exact ⟨hs,ht,hv⟩
    ·exact hw.is r x h
   refine ⟨true,_,Ev.succ (Ev.const fun f=>by simp only [bindF,hv,Bool.false_eq_true,if_false,hk]),hw1,fun _ h=>h,fun h=>(by cases h),fun _ V θ hθ he=>⟨hθ.1,fun r x h=>?_⟩,fun _ n θ hs2 hm=>⟨⟨hs2.1,fun r x h=>?_⟩,?_,fun _ _ _ _ h=>.inl h⟩⟩
   ·change lookT (c.is++[(s,t)]) r=some x at h
    rw [hla] at h
    split at h
    ·rename_i e;simp only [Option.some.injEq] at h;subst e h;exact he
    ·exact hθ.2 r x h
   ·refine hs2.2 r x ?_
    show lookT (c.is++[(s,t)]) r=some x
    rw [hla,if_neg]
    ·exact h
    ·rintro rfl;rw [hk] at h;cases h
   ·exact hs2.2 s t (by show lookT (c.is++[(s,t)]) s=some t;rw [hla,if_pos rfl])
  | some x =>
   have hx:=hw.is s x hk
   obtain ⟨r,c',e,p⟩:=pairs_run hS N ih hw hu hx.2.1 ht hx.2.2 hv
   refine ⟨r,c',Ev.succ ?_,p.wf,p.met,fun h V θ hθ he=>p.no h V θ hθ ?_,fun h V θ hθ he=>p.yes h V θ hθ ?_,fun h n θ hs hm=>?_⟩
   ·obtain ⟨f0,e⟩:=e
    exact ⟨f0,fun f hf=>by simp only [bindF,hv,Bool.false_eq_true,if_false,hk];exact e f hf⟩
   ·show θ.ev x=θ.ev t;rw [←hθ.2 s x hk];exact he
   ·show θ.ev x=θ.ev t;rw [←hθ.2 s x hk];exact he
   ·obtain ⟨h1,h2,h3⟩:=p.deep h n θ hs hm
    exact ⟨h1,(h1.2 s x hk).trans h2,h3⟩
theorem un_run (hn:ns.Nodup) (hS:SubsOk ns subs):∀ (N:Nat),∀ a∈subs,∀ b∈subs,RunAt ns subs N a b:=by
 intro N
 induction N using Nat.strongRecOn with
 | _ N ih =>
 intro a
 induction a using Ty.ind with
 | h n l iha =>
 intro ha b hb c hw hu
 cases hv:(Ty.mk n l).isVar with
 | true =>
  obtain ⟨s,es,hsn,hss,hsx,hsd⟩:=top_ev' hn hw (var_name hS ha hv)
  obtain ⟨r,c',e,p⟩:=bind_run hn hS N ih hw hu hsn hss hb
  refine ⟨r,c',Ev.succ ?_,p.wf,p.met,fun h V θ hθ he=>p.no h V θ hθ ?_,fun h V θ hθ he=>p.yes h V θ hθ ?_,fun h n θ hs hm=>?_⟩
  ·obtain ⟨f0,e⟩:=es.and e
   exact ⟨f0,fun f hf=>by simp only [unF,hv,if_true,(e f hf).1];exact (e f hf).2⟩
  ·show θ.va s=θ.ev b;rw [←hsx V θ hθ];exact (θ.vr _ hv).symm.trans he
  ·show θ.va s=θ.ev b;rw [←hsx V θ hθ];exact (θ.vr _ hv).symm.trans he
  ·obtain ⟨h1,h2,h3⟩:=p.deep h n θ hs hm
   refine ⟨h1,?_,h3⟩
   show EqN n (sub θ _) _
   rw [sub_vr hv];exact (hsd n θ h1).trans h2
 | false =>
  cases hv2:b.isVar with
  | true =>
   obtain ⟨s,es,hsn,hss,hsx,hsd⟩:=top_ev' hn hw (var_name hS hb hv2)
   obtain ⟨r,c',e,p⟩:=bind_run hn hS N ih hw hu hsn hss ha
   refine ⟨r,c',Ev.succ ?_,p.wf,p.met,fun h V θ hθ he=>p.no h V θ hθ ?_,fun h V θ hθ he=>p.yes h V θ hθ ?_,fun h n θ hs hm=>?_⟩
   ·obtain ⟨f0,e⟩:=es.and e
    exact ⟨f0,fun f hf=>by simp only [unF,hv,hv2,Bool.false_eq_true,if_false,if_true,(e f hf).1];exact (e f hf).2⟩
   ·show θ.va s=θ.ev _;rw [←hsx V θ hθ];exact (θ.vr _ hv2).symm.trans he.symm
   ·show θ.va s=θ.ev _;rw [←hsx V θ hθ];exact (θ.vr _ hv2).symm.trans he.symm
   ·obtain ⟨h1,h2,h3⟩:=p.deep h n θ hs hm
    refine ⟨h1,?_,h3⟩
    show EqN n _ (sub θ b)
    rw [sub_vr hv2];exact ((hsd n θ h1).trans h2).symm
  | false =>
   by_cases hh:(Ty.mk n l).name=b.name∧(Ty.mk n l).args.length=b.args.length
   rotate_left
   ·refine ⟨false,c,Ev.succ (Ev.const fun f=>by simp only [unF,hv,hv2,Bool.false_eq_true,if_false,if_neg hh]),post_no hw fun V ρ _ he=>hh ?_⟩
    obtain ⟨e1,e2⟩:=ρ.inj _ _ hv hv2 he
    exact ⟨e1,by have:=congrArg List.length e2;simpa using this⟩
   ·obtain ⟨r,c',e,p⟩:=list_run N (Ty.mk n l).args b.args hh.2 (fun x hx y hy=>iha x hx (hS.args _ ha x hx) y (hS.args b hb y hy)) c hw hu
    refine ⟨r,c',Ev.succ ?_,p.wf,p.met,fun h V θ hθ he=>p.no h V θ hθ ?_,fun h V θ hθ he=>p.yes h V θ hθ ?_,fun h n' θ hs hm=>?_⟩
    ·obtain ⟨f0,e⟩:=e
     exact ⟨f0,fun f hf=>by simp only [unF,hv,hv2,Bool.false_eq_true,if_false,if_pos hh];exact e f hf⟩
    ·exact (θ.inj _ _ hv hv2 he).2
    ·exact (θ.inj _ _ hv hv2 he).2
    ·obtain ⟨h1,h2,h3⟩:=p.deep h n' θ hs hm
     refine ⟨h1,?_,h3⟩
     show EqN n' (sub θ _) (sub θ b)
     refine EqN.mono (Nat.le_succ n') ?_
     unfold EqN
     rw [sub_nm hv,sub_nm hv2,tr_succ,tr_succ,hh.1,List.map_map,List.map_map]
     simp only [LN] at h2
     rw [show (tr n' ∘ sub θ)=fun x=>tr n' (sub θ x) from rfl,h2]
end
end Go.Proofs.YtgeehnbbhnpimaaGreat
namespace Go.Proofs.YtgeehnbbhnpimaaGreat
open Go Go.Abs Go.Proofs
theorem Ev.unique {α:Type} {g:Nat→Option α} {x y:α} (h:Ev g x) (k:Ev g y):x=y:=by
 obtain ⟨f0,h⟩:=h.and k
 have:=(h f0 (Nat.le_refl _)).1.symm.trans (h f0 (Nat.le_refl _)).2
 simpa using this
def topR (c:Cl) (s r:ByteArray):Prop:=Ev (fun f=>topF c.up f s) r
def Edge (c:Cl) (s s':ByteArray):Prop:=∃ t v,lookT c.is s=some t∧v∈namesL [t]∧topR c v s'
inductive Path (E:ByteArray→ByteArray→Prop):ByteArray→ByteArray→Prop where
 | one {a b:ByteArray}:E a b→Path E a b
 | step {a b c:ByteArray}:Path E a b→E b c→Path E a c
theorem Path.trans {E:ByteArray→ByteArray→Prop} {a b c:ByteArray} (h:Path E a b) (k:Path E b c):Path E a c:=by
 induction k with
 | one e=>exact .step h e
 | step _ e ih=>exact .step ih e
theorem Path.head {E:ByteArray→ByteArray→Prop} {a b:ByteArray} (h:Path E a b):∃ y,E a y∧(y=b∨Path E y b):=by
 induction h with
 | one e=>exact ⟨_,e,.inl rfl⟩
 | step _ e ih =>
  obtain ⟨y,h1,h2⟩:=ih
  refine ⟨y,h1,.inr ?_⟩
  rcases h2 with rfl | h2
  ·exact .one e
  ·exact .step h2 e
theorem acc_no_path {E:ByteArray→ByteArray→Prop} {x:ByteArray} (h:Acc (fun y x=>E x y) x):¬ Path E x x:=by
 induction h with
 | intro x _ ih =>
  intro p
  obtain ⟨y,h1,h2⟩:=p.head
  refine ih y h1 ?_
  rcases h2 with rfl | h2
  ·exact .one h1
  ·exact .step h2 h1
section
variable {ns:List ByteArray} {subs:List Ty} {c:Cl}
abbrev AccE (c:Cl) (x:ByteArray):Prop:=Acc (fun y x=>Edge c x y) x
theorem topR_ex (hn:ns.Nodup) (hw:WF ns subs c) {s:ByteArray} (hs:s∈ns):∃ r,topR c s r∧r∈ns∧lookG c.up r=some r∧∀ θ,Sol c θ→θ s=θ r:=by
 obtain ⟨r,h1,h2,h3,h4,_⟩:=top_ev' hn hw hs
 exact ⟨r,h1,h2,h3,fun θ hθ=>h4 Ty (Vl.sub θ) hθ⟩
theorem topR_self {r:ByteArray} (h:lookG c.up r=some r):topR c r r:=Ev.succ (Ev.const fun f=>by simp [topF,h])
theorem topR_in (hn:ns.Nodup) (hw:WF ns subs c) {s r:ByteArray} (hs:s∈ns) (h:topR c s r):r∈ns∧lookG c.up r=some r∧∀ θ,Sol c θ→θ s=θ r:=by
 obtain ⟨r',h1,h2⟩:=topR_ex hn hw hs
 have:=h1.unique h
 subst this
 exact h2
theorem names_in (hS:SubsOk ns subs) {t:Ty} (ht:t∈subs) {v:ByteArray} (hv:v∈namesL [t]):v∈ns:=by
 obtain ⟨x,hx,h1,rfl⟩:=names_mem.1 hv
 have hx2:x∈t.nodes:=by simpa [nodesL] using hx
 have key:∀ t:Ty,VA (·∈ns) t→t.good=true→∀ x∈t.nodes,x.isVar=true→x.name∈ns:=by
  intro t
  induction t using Ty.ind with
  | h n l ih =>
  intro hva hg x hx hxv
  rw [good_mk] at hg
  simp only [Ty.nodes,List.mem_cons] at hx
  rcases hx with rfl | hx
  ·exact (VA_var hxv).1 hva
  ·by_cases hv:vr n=true
   ·obtain ⟨rfl,_⟩:=node_var hg.1 hv
    simp [nodesL] at hx
   ·have hl:∀ l:List Ty,x∈nodesL l→∃ t∈l,x∈t.nodes:=by
     intro l
     induction l with
     | nil=>intro h;simp [nodesL] at h
     | cons t l ihl =>
      intro h
      simp only [nodesL,List.mem_append] at h
      rcases h with h | h
      ·exact ⟨t,by simp,h⟩
      ·obtain ⟨y,hy,h⟩:=ihl h;exact ⟨y,by simp [hy],h⟩
    obtain ⟨t,ht,hxt⟩:=hl l hx
    exact ih t ht ((VA_con (by simpa using hv)).1 hva t ht) (hg.2 t ht) x hxt hxv
 exact key t (hS.vars t ht) (hS.good t ht) x hx2 h1
def um (ns:List ByteArray) (st:Sts):Nat:=(ns.filter fun s=>(lookG st s).isNone).length
theorem um_le {st st':Sts} (h:∀ s,(lookG st s).isSome=true→(lookG st' s).isSome=true):um ns st'≤um ns st:=by
 unfold um
 induction ns with
 | nil=>simp
 | cons x ns ih =>
  simp only [List.filter_cons]
  have:=h x
  cases h1:lookG st x <;> cases h2:lookG st' x <;> simp_all <;> omega
theorem um_lt {st:Sts} {s:ByteArray} {b:Bool} (hs:s∈ns) (h:lookG st s=none):um ns (putG st s b) < um ns st:=by
 have hle:∀ ns:List ByteArray,um ns (putG st s b)≤um ns st:=fun ns=>um_le fun x hx=>by rw [lookG_put];split <;> simp_all
 induction ns with
 | nil=>simp at hs
 | cons x ns ih =>
  unfold um at ih hle ⊢
  simp only [List.filter_cons]
  rcases List.mem_cons.1 hs with rfl | hs
  ·have:=hle ns
   rw [lookG_put,if_pos rfl,h]
   simp;omega
  ·have:=ih hs
   rw [lookG_put]
   split
   ·rename_i e;subst e;rw [h];simp;have:=hle ns;omega
   ·cases lookG st x <;> simp <;> omega
structure Vis (ns:List ByteArray) (c:Cl) (st st':Sts):Prop where
 opn:∀ o,lookG st' o=some false↔lookG st o=some false
 don:∀ d,lookG st' d=some true→AccE c d
 grow:∀ s,(lookG st s).isSome=true→(lookG st' s).isSome=true
theorem inL_run {k:Nat} (h:∀ (st:Sts) (s:ByteArray),um ns st≤k→s∈ns→(∀ r,topR c s r→∀ o,lookG st o=some false→Path (Edge c) o r)→(∀ d,lookG st d=some true→AccE c d) →
   ∃ b st',Ev (fun f=>inF c f st s) (b,st')∧(b=true→∃ x,Path (Edge c) x x)∧(b=false→(∀ r,topR c s r→AccE c r)∧Vis ns c st st')) :
  ∀ (vs:List ByteArray) (st:Sts),um ns st≤k→(∀ v∈vs,v∈ns)→(∀ v∈vs,∀ r,topR c v r→∀ o,lookG st o=some false→Path (Edge c) o r)→(∀ d,lookG st d=some true→AccE c d) →
   ∃ b st',Ev (fun f=>inL c f st vs) (b,st')∧(b=true→∃ x,Path (Edge c) x x)∧(b=false→(∀ v∈vs,∀ r,topR c v r→AccE c r)∧Vis ns c st st')
 | [],st,_,_,_,hd=>⟨false,st,Ev.succ (Ev.const fun f=>by simp [inL]),fun h=>(by cases h),fun _=>⟨by simp,fun _=>Iff.rfl,hd,fun _ h=>h⟩⟩
 | v::vs,st,hu,hv,ho,hd=>by
  obtain ⟨b,st1,e1,t1,f1⟩:=h st v hu (hv v (by simp)) (ho v (by simp)) hd
  cases b with
  | true =>
   refine ⟨true,st1,Ev.succ ?_,t1,fun h=>(by cases h)⟩
   obtain ⟨f0,e1⟩:=e1
   exact ⟨f0,fun f hf=>by simp only [inL,e1 f hf]⟩
  | false =>
   obtain ⟨a1,v1⟩:=f1 rfl
   have hu1:=um_le (ns:=ns) v1.grow
   obtain ⟨b,st2,e2,t2,f2⟩:=inL_run h vs st1 (by omega) (fun x hx=>hv x (by simp [hx])) (fun x hx r hr o hoo=>ho x (by simp [hx]) r hr o ((v1.opn o).1 hoo)) v1.don
   refine ⟨b,st2,Ev.succ ?_,t2,fun hb=>?_⟩
   ·obtain ⟨f0,e⟩:=e1.and e2
    exact ⟨f0,fun f hf=>by simp only [inL,(e f hf).1];exact (e f hf).2⟩
   ·obtain ⟨a2,v2⟩:=f2 hb
    refine ⟨fun x hx=>?_,fun o=>(v2.opn o).trans (v1.opn o),v2.don,fun s hs=>v2.grow s (v1.grow s hs)⟩
    rcases List.mem_cons.1 hx with rfl | hx
    ·exact a1
    ·exact a2 x hx
theorem in_run (hn:ns.Nodup) (hS:SubsOk ns subs) (hw:WF ns subs c):∀ (k:Nat) (st:Sts) (s:ByteArray),um ns st≤k→s∈ns→(∀ r,topR c s r→∀ o,lookG st o=some false→Path (Edge c) o r)→(∀ d,lookG st d=some true→AccE c d) →
   ∃ b st',Ev (fun f=>inF c f st s) (b,st')∧(b=true→∃ x,Path (Edge c) x x)∧(b=false→(∀ r,topR c s r→AccE c r)∧Vis ns c st st'):=by
 intro k
 induction k using Nat.strongRecOn with
 | _ k ih =>
 intro st s hu hs ho hd
 obtain ⟨r,hr,hrn,hru,_⟩:=topR_ex hn hw hs
 have hun:∀ r',topR c s r'→r'=r:=fun r' h=>h.unique hr
 cases hl:lookG st r with
 | some b =>
  refine ⟨!b,st,Ev.succ ?_,fun hb=>?_,fun hb=>?_⟩
  ·obtain ⟨f0,e⟩:=hr
   exact ⟨f0,fun f hf=>by simp only [inF,e f hf,hl]⟩
  ·simp only [Bool.not_eq_true'] at hb;subst hb
   exact ⟨r,ho r hr r hl⟩
  ·simp only [Bool.not_eq_false'] at hb;subst hb
   refine ⟨fun r' h=>?_,fun _=>Iff.rfl,hd,fun _ h=>h⟩
   rw [hun r' h];exact hd r hl
 | none =>
  have hlt:=um_lt (b:=false) hrn hl
  have hg1:∀ x,lookG (putG st r false) x=if x=r then some false else lookG st x:=lookG_put st r false
  cases hk:lookT c.is r with
  | none =>
   have hacc:AccE c r:=Acc.intro r fun y hy=>by
    obtain ⟨t,v,h1,_⟩:=hy
    rw [hk] at h1;cases h1
   have hg2:∀ x,lookG (putG (putG st r false) r true) x=if x=r then some true else lookG st x:=by
    intro x;rw [lookG_put,hg1];split <;> rfl
   refine ⟨false,putG (putG st r false) r true,Ev.succ ?_,fun h=>(by cases h),fun _=>⟨fun r' h=>by rw [hun r' h];exact hacc,fun o=>?_,fun d hdd=>?_,fun x hx=>?_⟩⟩
   ·obtain ⟨f0,e⟩:=hr
    exact ⟨f0,fun f hf=>by simp only [inF,e f hf,hl,hk]⟩
   ·rw [hg2]
    split
    ·rename_i e;subst e;rw [hl];simp
    ·rfl
   ·rw [hg2] at hdd
    split at hdd
    ·rename_i e;subst e;exact hacc
    ·exact hd d hdd
   ·rw [hg2];split
    ·rfl
    ·exact hx
  | some t =>
   have hti:=hw.is r t hk
   have hL:=inL_run (ns:=ns) (c:=c) (k:=k - 1) (fun st s h1 h2 h3 h4=>ih (k - 1) (by omega) st s h1 h2 h3 h4) (namesL [t]) (putG st r false) (by omega) (fun v hv=>names_in hS hti.2.1 hv)
    (fun v hv r' hr' o hoo=>by
     have he:Edge c r r':=⟨t,v,hk,hv,hr'⟩
     rw [hg1] at hoo
     split at hoo
     ·rename_i e;subst e;exact .one he
     ·exact .step (ho r hr o hoo) he)
    (fun d hdd=>by
     rw [hg1] at hdd
     split at hdd
     ·cases hdd
     ·exact hd d hdd)
   obtain ⟨b,st2,e2,t2,f2⟩:=hL
   cases b with
   | true =>
    refine ⟨true,st2,Ev.succ ?_,t2,fun h=>(by cases h)⟩
    obtain ⟨f0,e⟩:=Ev.and hr e2
    exact ⟨f0,fun f hf=>by simp only [inF,(e f hf).1,hl,hk,(e f hf).2]⟩
   | false =>
    obtain ⟨a2,v2⟩:=f2 rfl
    have hacc:AccE c r:=Acc.intro r fun y hy=>by
     obtain ⟨t',v,h1,h2,h3⟩:=hy
     rw [hk] at h1;simp only [Option.some.injEq] at h1;subst h1
     exact a2 v h2 y h3
    have hg2:∀ x,lookG (putG st2 r true) x=if x=r then some true else lookG st2 x:=lookG_put st2 r true
    refine ⟨false,putG st2 r true,Ev.succ ?_,fun h=>(by cases h),fun _=>⟨fun r' h=>by rw [hun r' h];exact hacc,fun o=>?_,fun d hdd=>?_,fun x hx=>?_⟩⟩
    ·obtain ⟨f0,e⟩:=Ev.and hr e2
     exact ⟨f0,fun f hf=>by simp only [inF,(e f hf).1,hl,hk,(e f hf).2]⟩
    ·rw [hg2]
     split
     ·rename_i e;subst e;rw [hl];simp
     ·rename_i e;rw [v2.opn,hg1,if_neg e]
    ·rw [hg2] at hdd
     split at hdd
     ·rename_i e;subst e;exact hacc
     ·exact v2.don d hdd
    ·rw [hg2];split
     ·rfl
     ·refine v2.grow x ?_
      rw [hg1];split
      ·rfl
      ·exact hx
theorem loops_run (hn:ns.Nodup) (hS:SubsOk ns subs) (hw:WF ns subs c):∃ lb,LoopsTo c lb∧(lb=true→∃ x,Path (Edge c) x x)∧(lb=false→∀ s∈ns,∀ r,topR c s r→AccE c r):=by
 classical
 have hrun:=in_run hn hS hw
 by_cases hc:∃ x,Path (Edge c) x x
 ·refine ⟨true,⟨fun st=>(∀ d,lookG st d=some true→AccE c d)∧∀ o,lookG st o≠some false,fun s=>∀ r,topR c s r→AccE c r,⟨by simp [lookG],by simp [lookG]⟩,fun st s hP hs=>?_,fun h=>?_⟩,fun _=>hc,fun h=>(by cases h)⟩
  ·rw [hw.keys] at hs
   obtain ⟨b,st',⟨f0,e⟩,h1,h2⟩:=hrun _ st s (Nat.le_refl _) hs (fun r _ o ho=>absurd ho (hP.2 o)) hP.1
   refine ⟨f0,b,st',e f0 (Nat.le_refl _),fun _=>rfl,fun hb=>?_⟩
   obtain ⟨h3,h4⟩:=h2 hb
   exact ⟨⟨h4.don,fun o ho=>hP.2 o ((h4.opn o).1 ho)⟩,h3⟩
  ·exfalso
   obtain ⟨x,hp⟩:=hc
   obtain ⟨y,⟨t,v,h1,_⟩,_⟩:=hp.head
   have hxu:=(hw.is x t h1).1
   have hxn:x∈c.up.map (·.1):=List.mem_map_of_mem (lookG_mem hxu)
   exact acc_no_path (h x hxn x (topR_self hxu)) hp
 ·have hno:∀ st s,(∀ d,lookG st d=some true→AccE c d)→(∀ o,lookG st o≠some false)→s∈ns→∃ st',Ev (fun f=>inF c f st s) (false,st')∧(∀ r,topR c s r→AccE c r)∧Vis ns c st st':=by
   intro st s h1 h2 hs
   obtain ⟨b,st',e,h3,h4⟩:=hrun _ st s (Nat.le_refl _) hs (fun r _ o ho=>absurd ho (h2 o)) h1
   cases b with
   | true=>exact absurd (h3 rfl) hc
   | false=>exact ⟨st',e,h4 rfl⟩
  refine ⟨false,⟨fun st=>(∀ d,lookG st d=some true→AccE c d)∧∀ o,lookG st o≠some false,fun s=>True,⟨by simp [lookG],by simp [lookG]⟩,fun st s hP hs=>?_,fun _=>rfl⟩,fun h=>(by cases h),fun _ s hs r hr=>?_⟩
  ·rw [hw.keys] at hs
   obtain ⟨st',⟨f0,e⟩,h3,h4⟩:=hno st s hP.1 hP.2 hs
   exact ⟨f0,false,st',e f0 (Nat.le_refl _),fun h=>h,fun _=>⟨⟨h4.don,fun o ho=>hP.2 o ((h4.opn o).1 ho)⟩,trivial⟩⟩
  ·obtain ⟨st',_,h3,_⟩:=hno [] s (by simp [lookG]) (by simp [lookG]) hs
   exact h3 r hr
end
end Go.Proofs.YtgeehnbbhnpimaaGreat
namespace Go.Proofs.YtgeehnbbhnpimaaGreat
open Go Go.Abs Go.Proofs
theorem mem_nodesL {x:Ty}:∀ {l:List Ty},x∈nodesL l↔∃ t∈l,x∈t.nodes
 | []=>by simp [nodesL]
 | t::ts=>by simp [nodesL,mem_nodesL (l:=ts)]
theorem self_node (t:Ty):t∈t.nodes:=by obtain ⟨n,l⟩:=t;simp [Ty.nodes]
theorem node_trans {x y:Ty}:∀ {t:Ty},y∈t.nodes→x∈y.nodes→x∈t.nodes:=by
 intro t
 induction t using Ty.ind with
 | h n l ih =>
 intro hy hx
 simp only [Ty.nodes,List.mem_cons] at hy ⊢
 rcases hy with rfl | hy
 ·simpa [Ty.nodes] using hx
 ·obtain ⟨z,hz,h⟩:=mem_nodesL.1 hy
  exact .inr (mem_nodesL.2 ⟨z,hz,ih z hz h hx⟩)
theorem mem_cnt {z:Ty}:∀ {l:List Ty},z∈l→z.cnt≤(nodesL l).length∧z.depth≤depthL l
 | [],h=>by simp at h
 | t::l,h=>by
  rw [nodesL_cons,depthL]
  rcases List.mem_cons.1 h with rfl | h
  ·omega
  ·have:=mem_cnt h;omega
theorem node_cnt {x t:Ty} (h:x∈t.nodes):x.cnt≤t.cnt∧x.depth≤t.depth:=by
 induction t using Ty.ind with
 | h n l ih =>
 simp only [Ty.nodes,List.mem_cons] at h
 rcases h with rfl | h
 ·exact ⟨Nat.le_refl _,Nat.le_refl _⟩
 ·obtain ⟨z,hz,h⟩:=mem_nodesL.1 h
  have h1:=ih z hz h
  have h2:=mem_cnt hz
  rw [cnt_mk,Ty.depth];omega
theorem arg_cntP {x:Ty} {n:ByteArray} {l:List Ty} (h:x∈nodesL l):x.cnt < (Ty.mk n l).cnt:=by
 obtain ⟨z,hz,h1⟩:=mem_nodesL.1 h
 have h2:=(node_cnt h1).1
 have h3:=(mem_cnt hz).1
 rw [cnt_mk];omega
theorem good_node {x t:Ty} (hg:t.good=true) (h:x∈t.nodes):x.good=true:=by
 induction t using Ty.ind with
 | h n l ih =>
 have h0:=(good_mk n l).1 hg
 simp only [Ty.nodes,List.mem_cons] at h
 rcases h with rfl | h
 ·exact hg
 ·obtain ⟨z,hz,h⟩:=mem_nodesL.1 h
  exact ih z hz (h0.2 z hz) h
theorem sub_nodes {θ:Sub} {x t:Ty} (hg:t.good=true) (h:x∈t.nodes):sub θ x∈(sub θ t).nodes:=by
 induction t using Ty.ind with
 | h n l ih =>
 have h0:=(good_mk n l).1 hg
 simp only [Ty.nodes,List.mem_cons] at h
 rcases h with rfl | h
 ·exact self_node _
 ·by_cases hv:vr n=true
  ·obtain ⟨rfl,_⟩:=node_var h0.1 hv
   simp [nodesL] at h
  ·obtain ⟨z,hz,h⟩:=mem_nodesL.1 h
   rw [sub_con (by simpa using hv),Ty.nodes,List.mem_cons]
   exact .inr (mem_nodesL.2 ⟨sub θ z,List.mem_map_of_mem hz,ih z hz (h0.2 z hz) h⟩)
theorem name_sub {θ:Sub} {t:Ty} (hg:t.good=true) {v:ByteArray} (hv:v∈namesL [t]):θ v∈(sub θ t).nodes∧(t.isVar=false→(θ v).cnt < (sub θ t).cnt):=by
 obtain ⟨x,hx,h1,rfl⟩:=names_mem.1 hv
 have hx2:x∈t.nodes:=by simpa [nodesL] using hx
 have h2:=sub_nodes (θ:=θ) hg hx2
 rw [sub_vr h1] at h2
 refine ⟨h2,fun ht=>?_⟩
 rw [sub_nm ht] at h2 ⊢
 simp only [Ty.nodes,List.mem_cons] at h2
 rcases h2 with h2 | h2
 ·
  obtain ⟨n,l⟩:=t
  simp only [Ty.nodes,List.mem_cons] at hx2
  rcases hx2 with rfl | hx2
  ·rw [h1] at ht;cases ht
  ·obtain ⟨z,hz,h3⟩:=mem_nodesL.1 hx2
   have h4:=sub_nodes (θ:=θ) (((good_mk n l).1 hg).2 z hz) h3
   rw [sub_vr h1] at h4
   exact arg_cntP (mem_nodesL.2 ⟨sub θ z,List.mem_map_of_mem hz,h4⟩)
 ·exact arg_cntP h2
section
variable {ns:List ByteArray} {subs:List Ty} {c:Cl}
theorem path_no_sol (hn:ns.Nodup) (hS:SubsOk ns subs) (hw:WF ns subs c) {θ:Sub} (hθ:Sol c θ) {x y:ByteArray} (h:Path (Edge c) x y):(θ y).cnt < (θ x).cnt:=by
 have he:∀ a b,Edge c a b→(θ b).cnt < (θ a).cnt:=by
  rintro a b ⟨t,v,h1,h2,h3⟩
  have hti:=hw.is a t h1
  rw [hθ.2 a t h1,←(topR_in hn hw (names_in hS hti.2.1 h2) h3).2.2 θ hθ]
  exact (name_sub (hS.good t hti.2.1) h2).2 hti.2.2
 induction h with
 | one e=>exact he _ _ e
 | step _ e ih=>have:=he _ _ e;omega
inductive Val (c:Cl):ByteArray→Ty→Prop where
 | leaf {r:ByteArray}:lookT c.is r=none→Val c r (.mk r [])
 | node {r:ByteArray} {t:Ty} (θ:Sub):lookT c.is r=some t→(∀ v∈namesL [t],∀ r',topR c v r'→Val c r' (θ v))→Val c r (sub θ t)
theorem sub_names {θ ρ:Sub} {t:Ty} (h:∀ v∈namesL [t],θ v=ρ v):sub θ t=sub ρ t :=
 sub_congr t (VA_mono (fun v hv=>h v hv) t (VA_names [t] t (by simp)))
theorem Val.unique (hn:ns.Nodup) (hS:SubsOk ns subs) (hw:WF ns subs c) {r:ByteArray} {x y:Ty} (h:Val c r x) (k:Val c r y):x=y:=by
 induction h generalizing y with
 | leaf h1 =>
  cases k with
  | leaf _=>rfl
  | node θ h2 _=>rw [h1] at h2;cases h2
 | @node r t θ h1 h2 ih =>
  cases k with
  | leaf h3=>rw [h1] at h3;cases h3
  | @node _ t' ρ h3 h4 =>
   rw [h1] at h3;simp only [Option.some.injEq] at h3;subst h3
   refine sub_names fun v hv=>?_
   obtain ⟨r',hr',_⟩:=topR_ex hn hw (names_in hS (hw.is r t h1).2.1 hv)
   exact ih v hv r' hr' (h4 v hv r' hr')
theorem Val.ex (hn:ns.Nodup) (hS:SubsOk ns subs) (hw:WF ns subs c) {r:ByteArray} (h:AccE c r):∃ x,Val c r x:=by
 classical
 induction h with
 | intro r _ ih =>
  cases hk:lookT c.is r with
  | none=>exact ⟨_,.leaf hk⟩
  | some t =>
   have hv:∀ v,v∈namesL [t]→∃ x,∀ r',topR c v r'→Val c r' x:=by
    intro v hv
    obtain ⟨r',hr',_⟩:=topR_ex hn hw (names_in hS (hw.is r t hk).2.1 hv)
    obtain ⟨x,hx⟩:=ih r' ⟨t,v,hk,hv,hr'⟩
    exact ⟨x,fun r'' h=>by rw [h.unique hr'];exact hx⟩
   exact ⟨_,.node (fun v=>if h:v∈namesL [t] then (hv v h).choose else zeroTy) hk fun v hvm r' hr'=>by
    simp only [dif_pos hvm];exact (hv v hvm).choose_spec r' hr'⟩
structure Best (ns:List ByteArray) (c:Cl) (θ:Sub):Prop where
 out:∀ s,s ∉ ns→θ s=.mk s []
 top:∀ s∈ns,∀ r,topR c s r→θ s=θ r
 node:∀ r t,lookT c.is r=some t→θ r=sub θ t
 leaf:∀ r,lookT c.is r=none→topR c r r→θ r=.mk r []
theorem best_ex (hn:ns.Nodup) (hS:SubsOk ns subs) (hw:WF ns subs c) (hacc:∀ s∈ns,∀ r,topR c s r→AccE c r):∃ θ,Best ns c θ:=by
 classical
 have key:∀ s∈ns,∃ x,∀ r,topR c s r→Val c r x:=by
  intro s hs
  obtain ⟨r,hr,_⟩:=topR_ex hn hw hs
  obtain ⟨x,hx⟩:=Val.ex hn hS hw (hacc s hs r hr)
  exact ⟨x,fun r' h=>by rw [h.unique hr];exact hx⟩
 let θ:Sub:=fun s=>if h:s∈ns then (key s h).choose else .mk s []
 have hin:∀ s (h:s∈ns),∀ r,topR c s r→Val c r (θ s):=fun s h r hr=>by
  show Val c r (if h:s∈ns then (key s h).choose else .mk s [])
  rw [dif_pos h];exact (key s h).choose_spec r hr
 refine ⟨θ,fun s hs=>dif_neg hs,fun s hs r hr=>?_,fun r t hk=>?_,fun r hk hr=>?_⟩
 ·obtain ⟨h1,h2,_⟩:=topR_in hn hw hs hr
  exact (hin s hs r hr).unique hn hS hw (hin r h1 r (topR_self h2))
 ·have h1:=hw.is r t hk
  have hrn:r∈ns:=by rw [←hw.keys];exact List.mem_map_of_mem (lookG_mem h1.1)
  exact (hin r hrn r (topR_self h1.1)).unique hn hS hw (.node θ hk fun v hv r' hr'=>hin v (names_in hS h1.2.1 hv) r' hr')
 ·by_cases hrn:r∈ns
  ·exact (hin r hrn r hr).unique hn hS hw (.leaf hk)
  ·exact dif_neg hrn
theorem Best.sol (hn:ns.Nodup) (hw:WF ns subs c) {θ:Sub} (hb:Best ns c θ):Sol c θ:=by
 refine ⟨fun s u hsu=>?_,hb.node⟩
 have hs:s∈ns:=by rw [←hw.keys];exact List.mem_map_of_mem (lookG_mem hsu)
 have hu:=(hw.up s u hsu).1
 obtain ⟨r,hr,_⟩:=topR_ex hn hw hu
 rw [hb.top u hu r hr]
 by_cases e:u=s
 ·subst e;exact hb.top u hs r hr
 ·refine hb.top s hs r (Ev.succ ?_)
  obtain ⟨f0,h⟩:=hr
  exact ⟨f0,fun f hf=>by simp only [topF,hsu,if_neg e];exact h f hf⟩
theorem Best.most (hvs:∀ s∈ns,vr s=true) (hn:ns.Nodup) (hS:SubsOk ns subs) (hw:WF ns subs c) (hacc:∀ s∈ns,∀ r,topR c s r→AccE c r) {θ ρ:Sub} (hb:Best ns c θ) (hρ:Sol c ρ):(∀ s,sub ρ (θ s)=ρ s∨vr s=false):=by
 have key:∀ r,AccE c r→topR c r r→vr r=true→sub ρ (θ r)=ρ r:=by
  intro r hr
  induction hr with
  | intro r _ ih =>
   intro htop hvr
   cases hk:lookT c.is r with
   | none=>rw [hb.leaf r hk htop,sub_var hvr]
   | some t =>
    have hti:=hw.is r t hk
    rw [hb.node r t hk,sub_sub,hρ.2 r t hk]
    refine sub_names fun v hv=>?_
    have hvn:=names_in hS hti.2.1 hv
    obtain ⟨r',hr',hrn,hru,hrs⟩:=topR_ex hn hw hvn
    show sub ρ (θ v)=ρ v
    rw [hb.top v hvn r' hr',hrs ρ hρ]
    exact ih r' ⟨t,v,hk,hv,hr'⟩ (topR_self hru) (hvs r' hrn)
 intro s
 by_cases hv:vr s=true
 ·left
  by_cases hs:s∈ns
  ·obtain ⟨r,hr,hrn,hru,hrs⟩:=topR_ex hn hw hs
   rw [hb.top s hs r hr,hrs ρ hρ]
   exact key r (hacc s hs r hr) (topR_self hru) (hvs r hrn)
  ·rw [hb.out s hs,sub_var hv]
 ·right;simpa using hv
end
end Go.Proofs.YtgeehnbbhnpimaaGreat
namespace Go.Proofs.YtgeehnbbhnpimaaGreat
open Go Go.Abs Go.Proofs
section
variable {ns:List ByteArray} {subs:List Ty} {c:Cl}
def OkTop (c:Cl) (r:ByteArray):Prop:=∃ f0,∀ f,f0≤f→∀ t,lookT c.is r=some t→∀ n:Int,(wholeF c f t n).isSome=true
theorem whole_ev_of {P:ByteArray→Prop} (hP:∀ v,P v→∃ r,topR c v r∧OkTop c r):∀ t:Ty,VA P t→∃ f0,∀ f,f0≤f→∀ n:Int,(wholeF c f t n).isSome=true:=by
 intro t
 induction t using Ty.ind with
 | h nm l ih =>
 intro hva
 by_cases hv:vr nm=true
 ·obtain ⟨r,⟨f1,hr⟩,f2,hk⟩:=hP nm ((VA_var hv).1 hva)
  refine ⟨max f1 f2+1,fun f hf n=>?_⟩
  obtain ⟨f,rfl⟩:∃ k,f=k+1:=⟨f - 1,by omega⟩
  have hv':(Ty.mk nm l).isVar=true:=hv
  simp only [wholeF,hv',if_true,show (Ty.mk nm l).name=nm from rfl,hr f (by omega)]
  split
  ·rfl
  ·split
   ·rename_i x hx;exact hk f (by omega) x hx _
   ·rfl
 ·have hv':(Ty.mk nm l).isVar=false:=by simpa [Ty.isVar,Ty.name,vr] using hv
  have hva':=(VA_con (by simpa using hv)).1 hva
  have hl:∀ l':List Ty,(∀ t∈l',t∈l)→∃ f0,∀ f,f0≤f→∀ n:Int,(wholeL c f l' n).isSome=true:=by
   intro l'
   induction l' with
   | nil =>
    intro _
    refine ⟨1,fun f hf n=>?_⟩
    obtain ⟨f,rfl⟩:∃ k,f=k+1:=⟨f - 1,by omega⟩
    simp [wholeL]
   | cons x l' ihl =>
    intro hsub
    obtain ⟨f1,h1⟩:=ih x (hsub x (by simp)) (hva' x (hsub x (by simp)))
    obtain ⟨f2,h2⟩:=ihl fun t ht=>hsub t (by simp [ht])
    refine ⟨max f1 f2+1,fun f hf n=>?_⟩
    obtain ⟨f,rfl⟩:∃ k,f=k+1:=⟨f - 1,by omega⟩
    have h3:=h1 f (by omega) n
    simp only [wholeL]
    cases hx:wholeF c f x n with
    | none=>rw [hx] at h3;cases h3
    | some q =>
     obtain ⟨y,m⟩:=q
     have h4:=h2 f (by omega) m
     simp only
     cases hy:wholeL c f l' m with
     | none=>rw [hy] at h4;cases h4
     | some q=>rfl
  obtain ⟨f0,h0⟩:=hl l fun _ h=>h
  refine ⟨f0+1,fun f hf n=>?_⟩
  obtain ⟨f,rfl⟩:∃ k,f=k+1:=⟨f - 1,by omega⟩
  simp only [wholeF,hv',Bool.false_eq_true,if_false,show (Ty.mk nm l).args=l from rfl]
  split
  ·rfl
  ·have h4:=h0 f (by omega) (IntKind.i64.wrap (n+1))
   cases hy:wholeL c f l (IntKind.i64.wrap (n+1)) with
   | none=>rw [hy] at h4;cases h4
   | some q=>rfl
theorem okTop (hn:ns.Nodup) (hS:SubsOk ns subs) (hw:WF ns subs c) {r:ByteArray} (h:AccE c r):OkTop c r:=by
 induction h with
 | intro r _ ih =>
  cases hk:lookT c.is r with
  | none=>exact ⟨0,fun f _ t h=>by rw [hk] at h;cases h⟩
  | some t =>
   obtain ⟨f0,h0⟩:=whole_ev_of (c:=c) (P:=(·∈namesL [t])) (fun v hv=>by
    obtain ⟨r',hr',_⟩:=topR_ex hn hw (names_in hS (hw.is r t hk).2.1 hv)
    exact ⟨r',hr',ih r' ⟨t,v,hk,hv,hr'⟩⟩) t (VA_names [t] t (by simp))
   exact ⟨f0,fun f hf t' ht n=>by rw [hk] at ht;simp only [Option.some.injEq] at ht;subst ht;exact h0 f hf n⟩
theorem whole_ev (hn:ns.Nodup) (hS:SubsOk ns subs) (hw:WF ns subs c) (hacc:∀ s∈ns,∀ r,topR c s r→AccE c r) (t:Ty) (ht:VA (·∈ns) t):∃ f0,∀ f,f0≤f→∀ n:Int,(wholeF c f t n).isSome=true :=
 whole_ev_of (P:=(·∈ns)) (fun v hv=>by
  obtain ⟨r,hr,_⟩:=topR_ex hn hw hv
  exact ⟨r,hr,okTop hn hS hw (hacc v hv r hr)⟩) t ht
def pot (n:Nat):Nat:=n+200 * (801 - n)
theorem wrap_nat {n:Nat} (h:n < 4611686018427387904):IntKind.i64.wrap ((n:Int)+1)=((n+1:Nat):Int):=wrap_succ h
theorem topF_topR {s r:ByteArray} {f:Nat} (h:topF c.up f s=some r):topR c s r:=⟨f,fun g hg=>topF_mono hg h⟩
theorem whole_val (hn:ns.Nodup) (hS:SubsOk ns subs) (hw:WF ns subs c) {θ:Sub} (hb:Best ns c θ):∀ (f:Nat),
  (∀ (t:Ty) (n:Nat) (x:Ty) (n':Int),t.good=true→VA (·∈ns) t→pot n≤1000000→wholeF c f t n=some (x,n')→∃ k:Nat,n'=k∧pot k≤pot n+1∧n < k∧(k≤800→x=sub θ t∧k=n+x.cnt)∧(n+(sub θ t).cnt≤800→k≤800)) ∧
  (∀ (l:List Ty) (n:Nat) (xs:List Ty) (n':Int),(∀ t∈l,t.good=true∧VA (·∈ns) t)→pot n+l.length≤1000001→wholeL c f l n=some (xs,n')→∃ k:Nat,n'=k∧pot k≤pot n+l.length∧n≤k∧(k≤800→xs=l.map (sub θ)∧k=n+(nodesL xs).length)∧(n+(nodesL (l.map (sub θ))).length≤800→k≤800)):=by
 intro f
 induction f with
 | zero=>exact ⟨fun _ _ _ _ _ _ _ h=>by simp [wholeF] at h,fun _ _ _ _ _ _ h=>by simp [wholeL] at h⟩
 | succ f ih =>
 refine ⟨fun t n x n' hg hva hp h=>?_,fun l n xs n' hl hp h=>?_⟩
 ·obtain ⟨nm,l⟩:=t
  have hg':=(good_mk nm l).1 hg
  have hpn:pot n=n+200 * (801 - n):=rfl
  have hc0:=(sub θ (.mk nm l)).cnt_pos
  simp only [wholeF,wrap_nat (show n < 4611686018427387904 by omega)] at h
  by_cases h8:800 < n+1
  ·rw [if_pos (by omega)] at h
   simp only [Option.some.injEq,Prod.mk.injEq] at h
   refine ⟨n+1,h.2.symm,by unfold pot;omega,by omega,fun h=>by omega,fun h=>by omega⟩
  rw [if_neg (by omega)] at h
  by_cases hv:vr nm=true
  ·obtain ⟨rfl,_⟩:=node_var hg'.1 hv
   have hv':(Ty.mk nm []).isVar=true:=hv
   rw [if_pos hv'] at h
   have hnm:nm∈ns:=(VA_var hv).1 hva
   cases ht:topF c.up f (Ty.mk nm []).name with
   | none=>rw [ht] at h;cases h
   | some r =>
   rw [ht] at h
   simp only at h
   have htr:topR c nm r:=topF_topR ht
   have hrin:=topR_in hn hw hnm htr
   have hsub:sub θ (.mk nm [])=θ r:=by rw [sub_var hv];exact hb.top nm hnm r htr
   cases hk:lookT c.is r with
   | none =>
    rw [hk] at h
    simp only [Option.some.injEq,Prod.mk.injEq] at h
    obtain ⟨rfl,rfl⟩:=h
    rw [hsub,hb.leaf r hk (topR_self hrin.2.1)]
    have:(Ty.mk r []).cnt=1:=by simp [cnt_mk,nodesL]
    exact ⟨n+1,rfl,by unfold pot;omega,by omega,fun _=>⟨rfl,by omega⟩,fun _=>by omega⟩
   | some t =>
    rw [hk] at h
    simp only at h
    have hw1:IntKind.i64.wrap (((n+1:Nat):Int) - 1)=(n:Int):=by rw [wrap64 (by omega) (by omega)];omega
    rw [hw1] at h
    have hti:=hw.is r t hk
    obtain ⟨k,h1,h2,h3,h4,h5⟩:=ih.1 t n x n' (hS.good t hti.2.1) (hS.vars t hti.2.1) hp h
    rw [hsub,hb.node r t hk]
    exact ⟨k,h1,h2,h3,h4,h5⟩
  ·have hv':(Ty.mk nm l).isVar=false:=by simpa [Ty.isVar,Ty.name,vr] using hv
   rw [if_neg (by simp [hv'])] at h
   have hva':=(VA_con (by simpa using hv)).1 hva
   cases hL:wholeL c f (Ty.mk nm l).args ((n+1:Nat):Int) with
   | none=>rw [hL] at h;cases h
   | some q =>
   obtain ⟨xs,m⟩:=q
   rw [hL] at h
   simp only [Option.some.injEq,Prod.mk.injEq] at h
   obtain ⟨rfl,rfl⟩:=h
   have hla:=node_args hg'.1
   have hp1:pot (n+1)=n+1+200 * (801 - (n+1)):=rfl
   obtain ⟨k,h1,h2,h3,h4,h5⟩:=ih.2 l (n+1) xs m (fun t ht=>⟨hg'.2 t ht,hva' t ht⟩) (by omega) hL
   rw [sub_con (by simpa using hv)]
   simp only [cnt_mk]
   refine ⟨k,h1,by omega,by omega,fun hk8=>?_,fun hc=>h5 (by omega)⟩
   obtain ⟨h6,h7⟩:=h4 hk8
   exact ⟨by rw [h6];rfl,by omega⟩
 ·cases l with
  | nil =>
   simp only [wholeL,Option.some.injEq,Prod.mk.injEq] at h
   obtain ⟨rfl,rfl⟩:=h
   exact ⟨n,rfl,by simp,Nat.le_refl _,fun _=>⟨rfl,by simp [nodesL]⟩,fun h=>by simpa [nodesL] using h⟩
  | cons t ts =>
   simp only [wholeL] at h
   cases hx:wholeF c f t n with
   | none=>rw [hx] at h;cases h
   | some q =>
   obtain ⟨y,m⟩:=q
   rw [hx] at h
   simp only at h
   cases hy:wholeL c f ts m with
   | none=>rw [hy] at h;cases h
   | some q =>
   obtain ⟨ys,m2⟩:=q
   rw [hy] at h
   simp only [Option.some.injEq,Prod.mk.injEq] at h
   obtain ⟨rfl,rfl⟩:=h
   simp only [List.length_cons] at hp ⊢
   obtain ⟨k,rfl,h2,h3,h4,h5⟩:=ih.1 t n y m (hl t (by simp)).1 (hl t (by simp)).2 (by omega) hx
   obtain ⟨k2,rfl,g2,g3,g4,g5⟩:=ih.2 ts k ys m2 (fun x hx=>hl x (by simp [hx])) (by omega) hy
   refine ⟨k2,rfl,by omega,by omega,fun hk8=>?_,fun hc=>?_⟩
   ·obtain ⟨e1,e2⟩:=h4 (by omega)
    obtain ⟨e3,e4⟩:=g4 hk8
    refine ⟨by rw [e1,e3];rfl,?_⟩
    rw [nodesL_cons];omega
   ·rw [List.map_cons,nodesL_cons] at hc
    have:=h5 (by omega)
    obtain ⟨e1,e2⟩:=h4 this
    rw [←e1] at hc
    exact g5 (by omega)
end
end Go.Proofs.YtgeehnbbhnpimaaGreat
namespace Go.Proofs.YtgeehnbbhnpimaaGreat
open Go Go.Abs Go.Proofs
theorem asc_ascM:∀ {l:TyM},Asc l→ascM l=true
 | [],_=>rfl
 | [p],_=>rfl
 | p::q::r,h=>by
  simp only [ascM,Bool.and_eq_true]
  exact ⟨List.rel_of_pairwise_cons h (by simp),asc_ascM h.of_cons⟩
theorem lookT_cons (p:ByteArray × Ty) (m:TyM) (s:ByteArray):lookT (p::m) s=if s=p.1 then some p.2 else lookT m s:=lookG_cons p m s
theorem asc_none {p:ByteArray × Ty} {m:TyM} (h:Asc (p::m)) {s:ByteArray} (hs:s=p.1∨ltS s p.1=true):lookT m s=none:=by
 refine lookT_none fun hm=>?_
 obtain ⟨q,hq,rfl⟩:=List.mem_map.1 hm
 have h1:=List.rel_of_pairwise_cons h hq
 rcases hs with hs | hs
 ·rw [hs,ltS_irrefl] at h1;cases h1
 ·have:=ltS_trans h1 hs;rw [ltS_irrefl] at this;cases this
theorem asc_ext:∀ {m m':TyM},Asc m→Asc m'→(∀ s,lookT m s=lookT m' s)→m=m'
 | [],[],_,_,_=>rfl
 | [],q::m',_,_,h=>by have:=h q.1;rw [lookT_cons,if_pos rfl] at this;simp [lookT] at this
 | p::m,[],_,_,h=>by have:=h p.1;rw [lookT_cons,if_pos rfl] at this;simp [lookT] at this
 | p::m,q::m',h1,h2,h=>by
  have hpq:p.1=q.1:=by
   rcases ltS_total p.1 q.1 with hl | hl | hl
   ·have:=h p.1
    rw [lookT_cons,if_pos rfl,lookT_cons,if_neg (by rintro e;rw [e,ltS_irrefl] at hl;cases hl),asc_none h2 (.inr hl)] at this
    cases this
   ·exact hl
   ·have:=h q.1
    rw [lookT_cons,if_neg (by rintro e;rw [←e,ltS_irrefl] at hl;cases hl),asc_none h1 (.inr hl),lookT_cons,if_pos rfl] at this
    cases this
  have h3:=h p.1
  rw [lookT_cons,if_pos rfl,lookT_cons,if_pos hpq] at h3
  simp only [Option.some.injEq] at h3
  have hp:p=q:=Prod.ext hpq h3
  subst hp
  rw [asc_ext h1.of_cons h2.of_cons fun s=>?_]
  by_cases hs:s=p.1
  ·rw [asc_none h1 (.inl hs),asc_none h2 (.inl hs)]
  ·have:=h s
   rwa [lookT_cons,if_neg hs,lookT_cons,if_neg hs] at this
theorem lookT_perm {m m':TyM} (hn:(m.map (·.1)).Nodup) (h:m.Perm m') (s:ByteArray):lookT m s=lookT m' s:=by
 have hn':(m'.map (·.1)).Nodup:=(h.map _).nodup_iff.1 hn
 cases hk:lookT m s with
 | some t =>
  have:=h.subset (lookT_mem hk)
  exact (lookG_nodup hn' this).symm
 | none =>
  have:=lookT_none_iff.1 hk
  exact (lookT_none fun hm=>this ((h.map _).symm.subset hm)).symm
theorem apply_ok {l:TyM} {t:Ty} (h:(applyV l t).2=0):substV l=0∧t.valid=0∧(putT l t).large=false∧(applyV l t).1=putT l t:=by
 unfold applyV at h ⊢
 split at h
 ·rename_i h1
  rw [if_pos h1]
  split at h
  ·rename_i h2
   rw [if_pos h2]
   split at h
   ·cases h
   ·rename_i h3
    rw [if_neg h3]
    exact ⟨h1,h2,by simpa using h3,rfl⟩
  ·rename_i h2;exact absurd h h2
 ·rename_i h1;exact absurd h h1
theorem apply_of {l:TyM} {t:Ty} (h1:substV l=0) (h2:t.valid=0) (h3:(putT l t).large=false):applyV l t=(putT l t,0):=by
 unfold applyV;rw [if_pos h1,if_pos h2,if_neg (by simp [h3])]
theorem lsub_good {l:TyM} (h:substV l=0):∀ s,smallN s=true→(lsub l s).good=true:=by
 intro s hs
 unfold lsub
 cases hk:lookT l s with
 | none=>rw [Option.getD_none,good_mk];exact ⟨node_small hs,by simp⟩
 | some t=>exact ((valid_iff _).1 ((substV_zero h).1 _ (lookT_mem hk)).2).2
section
variable {ns:List ByteArray} {subs:List Ty} {c:Cl}
theorem best_good (hvs:∀ s∈ns,smallN s=true) (hn:ns.Nodup) (hS:SubsOk ns subs) (hw:WF ns subs c) (hacc:∀ s∈ns,∀ r,topR c s r→AccE c r) {θ:Sub} (hb:Best ns c θ):∀ s,smallN s=true→(θ s).good=true:=by
 classical
 have key:∀ r,AccE c r→r∈ns→topR c r r→(θ r).good=true:=by
  intro r hr
  induction hr with
  | intro r _ ih =>
   intro hrn htop
   cases hk:lookT c.is r with
   | none=>rw [hb.leaf r hk htop,good_mk];exact ⟨node_small (hvs r hrn),by simp⟩
   | some t =>
    have hti:=hw.is r t hk
    have e:sub θ t=sub (fun v=>if v∈namesL [t] then θ v else .mk v []) t:=sub_names fun v hv=>by rw [if_pos hv]
    rw [hb.node r t hk,e]
    refine sub_good (fun s hs=>?_) t (hS.good t hti.2.1)
    by_cases hm:s∈namesL [t]
    ·rw [if_pos hm]
     have hsn:=names_in hS hti.2.1 hm
     obtain ⟨r',hr',hrn',hru,_⟩:=topR_ex hn hw hsn
     rw [hb.top s hsn r' hr']
     exact ih r' ⟨t,s,hk,hm,hr'⟩ hrn' (topR_self hru)
    ·rw [if_neg hm,good_mk];exact ⟨node_small hs,by simp⟩
 intro s hs
 by_cases hsn:s∈ns
 ·obtain ⟨r,hr,hrn,hru,_⟩:=topR_ex hn hw hsn
  rw [hb.top s hsn r hr]
  exact key r (hacc s hsn r hr) hrn (topR_self hru)
 ·rw [hb.out s hsn,good_mk];exact ⟨node_small hs,by simp⟩
theorem wf0 (hn:ns.Nodup):WF ns subs (cl0 ns):=by
 have hk:(upL ns).map (·.1)=ns:=by unfold upL;rw [List.map_map];exact List.map_id ns
 refine ⟨rfl,hk,fun s u h=>?_,fun s t h=>by simp [cl0,lookT] at h,by simp [cl0]⟩
 have:=lookG_mem h
 unfold cl0 upL at this
 simp only [List.mem_map,Prod.mk.injEq] at this
 obtain ⟨q,hq,rfl,rfl⟩:=this
 exact ⟨hq,.inl rfl⟩
theorem sol0 (ns:List ByteArray) (θ:Sub):Sol (cl0 ns) θ:=by
 refine ⟨fun s u h=>?_,fun s t h=>by simp [cl0,lookT] at h⟩
 have:=lookG_mem h
 unfold cl0 upL at this
 simp only [List.mem_map,Prod.mk.injEq] at this
 obtain ⟨q,_,rfl,rfl⟩:=this
 rfl
end
theorem common_bound {α:Type} {p:α→Nat→Prop}:∀ (l:List α),(∀ x∈l,∃ f0,∀ f,f0≤f→p x f)→∃ g,∀ x∈l,p x g
 | [],_=>⟨0,by simp⟩
 | x::l,h=>by
  have key:∃ f0,∀ f,f0≤f→∀ y∈x::l,p y f:=by
   have:∀ l:List α,(∀ x∈l,∃ f0,∀ f,f0≤f→p x f)→∃ f0,∀ f,f0≤f→∀ y∈l,p y f:=by
    intro l
    induction l with
    | nil=>intro _;exact ⟨0,by simp⟩
    | cons x l ih =>
     intro h
     obtain ⟨f1,h1⟩:=h x (by simp)
     obtain ⟨f2,h2⟩:=ih fun y hy=>h y (by simp [hy])
     refine ⟨max f1 f2,fun f hf y hy=>?_⟩
     rcases List.mem_cons.1 hy with rfl | hy
     ·exact h1 f (by omega)
     ·exact h2 f (by omega) y hy
   exact this _ h
  obtain ⟨f0,h0⟩:=key
  exact ⟨f0,h0 f0 (Nat.le_refl _)⟩
theorem node_name {n:ByteArray} {l:List Ty} (h:(Ty.mk n l).node=true):0 < n.size:=by
 by_cases ha:n=arrowN
 ·rw [ha];decide
 ·have:=runB_size (node_run h ha);omega
theorem united_facts (a b:Ty):∃ m e,URun a b m e ∧
  (e=0→((applyV m a).2=0∧(applyV m b).2=0∧(applyV m a).1=(applyV m b).1∧applyV m (applyV m a).1=applyV m a)∧Asc m∧(∀ p∈m,p.1∈namesL [a,b])∧sub (lsub m) a=sub (lsub m) b) ∧
  (∀ l:TyM,(applyV l a).2=0→(applyV l b).2=0→(applyV l a).1=(applyV l b).1→e=0∧(matchV (applyV m a).1 (applyV l a).1).2=0):=by
 classical
 by_cases h0:allV [a,b]=0
 rotate_left
 ·refine ⟨[],allV [a,b],.inl ⟨h0,rfl,rfl⟩,fun h=>absurd h h0,fun l h1 h2 _=>?_⟩
  exact absurd (allV_nil.2 ⟨(apply_ok h1).2.1,(apply_ok h2).2.1⟩) h0
 obtain ⟨ha,hb⟩:=allV_nil.1 h0
 obtain ⟨hal,hag⟩:=(valid_iff a).1 ha
 obtain ⟨hbl,hbg⟩:=(valid_iff b).1 hb
 have has:=(large_iff a).1 hal
 have hbs:=(large_iff b).1 hbl
 have hn:=names_nodup [a,b]
 have hnl:=names_len [a,b]
 have hva:=VA_names [a,b] a (by simp)
 have hvb:=VA_names [a,b] b (by simp)
 have hvs:=names_small (l:=[a,b]) (by intro t ht;simp at ht;rcases ht with rfl | rfl <;> assumption)
 have hnl2:(nodesL [a,b]).length=a.cnt+b.cnt:=by simp [nodesL,Ty.cnt]
 have hmem:∀ s∈namesL [a,b],s∈namesL [a]∨s∈namesL [b]:=by
  intro s hs
  obtain ⟨x,hx,h1,h2⟩:=names_mem.1 hs
  rcases mem_nodesL.1 hx with ⟨t,ht,hxt⟩
  simp at ht
  rcases ht with rfl | rfl
  ·exact .inl (names_mem.2 ⟨x,by simpa [nodesL] using hxt,h1,h2⟩)
  ·exact .inr (names_mem.2 ⟨x,by simpa [nodesL] using hxt,h1,h2⟩)
 generalize hns:namesL [a,b]=ns at *
 have hVAn:∀ t:Ty,VA (·∈ns) t→t.good=true→∀ x∈t.nodes,VA (·∈ns) x:=by
  intro t
  induction t using Ty.ind with
  | h n l ih =>
  intro hva hg x hx
  have hg':=(good_mk n l).1 hg
  simp only [Ty.nodes,List.mem_cons] at hx
  rcases hx with rfl | hx
  ·exact hva
  ·by_cases hv:vr n=true
   ·obtain ⟨rfl,_⟩:=node_var hg'.1 hv
    simp [nodesL] at hx
   ·obtain ⟨z,hz,h⟩:=mem_nodesL.1 hx
    exact ih z hz ((VA_con (by simpa using hv)).1 hva z hz) (hg'.2 z hz) x h
 have harg:∀ t x y:Ty,x∈t.nodes→y∈x.args→y∈t.nodes:=by
  intro t x y hx hy
  obtain ⟨n,l⟩:=x
  refine node_trans hx ?_
  simp only [Ty.nodes,List.mem_cons]
  exact .inr (mem_nodesL.2 ⟨y,hy,self_node y⟩)
 have hS:SubsOk ns (a.nodes++b.nodes):=by
  refine ⟨fun t ht=>?_,fun t ht=>?_,fun t ht x hx=>?_⟩
  ·rcases List.mem_append.1 ht with ht | ht
   ·exact good_node hag ht
   ·exact good_node hbg ht
  ·rcases List.mem_append.1 ht with ht | ht
   ·exact hVAn a hva hag t ht
   ·exact hVAn b hvb hbg t ht
  ·rcases List.mem_append.1 ht with ht | ht
   ·exact List.mem_append_left _ (harg a t x ht hx)
   ·exact List.mem_append_right _ (harg b t x ht hx)
 have hw0:WF ns (a.nodes++b.nodes) (cl0 ns):=wf0 hn
 generalize hsubs:a.nodes++b.nodes=subs at *
 have hasub:a∈subs:=by rw [←hsubs];exact List.mem_append_left _ (self_node a)
 have hbsub:b∈subs:=by rw [←hsubs];exact List.mem_append_right _ (self_node b)
 have hfrom:∀ l:TyM,(applyV l a).2=0→(applyV l b).2=0→(applyV l a).1=(applyV l b).1→sub (lsub l) a=sub (lsub l) b∧(sub (lsub l) a).large=false∧(applyV l a).1=sub (lsub l) a∧substV l=0:=by
  intro l h1 h2 h3
  obtain ⟨k1,k2,k3,k4⟩:=apply_ok h1
  obtain ⟨_,_,_,j4⟩:=apply_ok h2
  rw [k4,j4,put_sub l a hag,put_sub l b hbg] at h3
  rw [put_sub l a hag] at k3 k4
  exact ⟨h3,k3,k4,k1⟩
 obtain ⟨rb,c,⟨f,hun⟩,hpost⟩:=un_run hn hS _ a hasub b hbsub (cl0 ns) hw0 (Nat.le_refl _)
 have hun:=hun f (Nat.le_refl _)
 have hw:=hpost.wf
 cases rb with
 | false =>
  refine ⟨[],8,.inr ⟨h0,f,false,c,by rw [hns];exact hun,fun _=>⟨rfl,rfl⟩,fun h=>(by cases h)⟩,fun h=>(by cases h),fun l h1 h2 h3=>?_⟩
  exact absurd (hfrom l h1 h2 h3).1 (hpost.no rfl _ (Vl.sub _) (sol0 ns _))
 | true =>
 have hsol:∀ θ,sub θ a=sub θ b→Sol c θ:=fun θ h=>hpost.yes rfl Ty (Vl.sub θ) (sol0 ns θ) h
 obtain ⟨lb,hlo,hcyc,hacc⟩:=loops_run hn hS hw
 cases lb with
 | true =>
  refine ⟨[],10,.inr ⟨h0,f,true,c,by rw [hns];exact hun,fun h=>(by cases h),fun _=>⟨true,hlo,fun _=>⟨rfl,rfl⟩,fun h=>(by cases h)⟩⟩,fun h=>(by cases h),fun l h1 h2 h3=>?_⟩
  obtain ⟨x,hx⟩:=hcyc rfl
  exact absurd (path_no_sol hn hS hw (hsol _ (hfrom l h1 h2 h3).1) hx) (Nat.lt_irrefl _)
 | false =>
 have hacc:=hacc rfl
 obtain ⟨θ,hbest⟩:=best_ex hn hS hw hacc
 have hsolθ:=hbest.sol hn hw
 have hgθ:=best_good hvs hn hS hw hacc hbest
 have hvr:∀ s∈ns,vr s=true:=fun s hs=>smallN_vr (hvs s hs)
 have hmost:∀ ρ,Sol c ρ→∀ t:Ty,t.good=true→sub ρ (sub θ t)=sub ρ t:=by
  intro ρ hρ t ht
  rw [sub_sub]
  refine sub_congr t (VA_nodes t fun x hx hxv=>?_)
  rcases Best.most hvr hn hS hw hacc hbest hρ x.name with h | h
  ·exact h
  ·obtain ⟨n,l⟩:=x
   change vr n=true at hxv
   change vr n=false at h
   rw [hxv] at h;cases h
 have heq:sub θ a=sub θ b:=by
  have key:∀ n,MetN subs n c θ:=by
   intro n
   induction n with
   | zero=>intro x _ t _ _;show tr 0 _=tr 0 _;simp [tr]
   | succ n ih =>
    obtain ⟨_,_,h3⟩:=hpost.deep rfl n θ (hsolθ.solN n) ih
    intro x hx t ht hk
    rcases h3 x hx t ht hk with h | h
    ·simp [cl0] at h
    ·exact h
  exact EqN.all fun n=>(hpost.deep rfl n θ (hsolθ.solN n) (key n)).2.1
 have hga:=sub_good hgθ a hag
 obtain ⟨g,hg⟩:=whole_ev hn hS hw hacc a (hS.vars a hasub)
 have hg:=hg g (Nat.le_refl _) 0
 cases hwh:wholeF c g a 0 with
 | none=>rw [hwh] at hg;cases hg
 | some q =>
 obtain ⟨x,n'⟩:=q
 obtain ⟨k,rfl,_,_,hk1,hk2⟩:=(whole_val hn hS hw hbest g).1 a 0 x n' hag (hS.vars a hasub) (by decide) hwh
 by_cases hbig:200 < (k:Int)∨x.large=true
 ·refine ⟨[],3,.inr ⟨h0,f,true,c,by rw [hns];exact hun,fun h=>(by cases h),fun _=>⟨false,hlo,fun h=>(by cases h),fun _=>⟨g,x,k,hwh,fun _=>⟨rfl,rfl⟩,fun h=>absurd hbig h⟩⟩⟩,fun h=>(by cases h),fun l h1 h2 h3=>?_⟩
  exfalso
  obtain ⟨e1,e2,_,_⟩:=hfrom l h1 h2 h3
  have h4:(sub θ a).large=false:=by
   cases hl:(sub θ a).large with
   | false=>rfl
   | true =>
    have h5:=sub_large (lsub l) hga hl
    rw [hmost _ (hsol _ e1) a hag,e2] at h5;cases h5
  have h5:=(large_iff _).1 h4
  have h6:=hk2 (by omega)
  obtain ⟨h7,h8⟩:=hk1 h6
  rcases hbig with hbig | hbig
  ·rw [h7] at h8;omega
  ·rw [h7,h4] at hbig;cases hbig
 ·have hk200:k≤200:=by
   have:=not_or.1 hbig;omega
  obtain ⟨h7,h8⟩:=hk1 (by omega)
  have hxl:(sub θ a).large=false:=by
   have:=(not_or.1 hbig).2
   rw [←h7];simpa using this
  have hcs:=(large_iff _).1 hxl
  have hin:∀ s∈ns,θ s∈(sub θ a).nodes:=by
   intro s hs
   rcases hmem s hs with h | h
   ·exact (name_sub hag h).1
   ·rw [heq];exact (name_sub hbg h).1
  have hsz:∀ s∈ns,(θ s).cnt≤200∧(θ s).depth≤40:=fun s hs=>by have:=node_cnt (hin s hs);omega
  have hT:∀ s,∃ r,s∈ns→topR c s r:=by
   intro s
   by_cases hs:s∈ns
   ·obtain ⟨r,hr,_⟩:=topR_ex hn hw hs;exact ⟨r,fun _=>hr⟩
   ·exact ⟨s,fun h=>absurd h hs⟩
  have hTT:∃ T:ByteArray→ByteArray,∀ s∈ns,topR c s (T s):=⟨fun s=>(hT s).choose,fun s hs=>(hT s).choose_spec hs⟩
  obtain ⟨T,hT⟩:=hTT
  obtain ⟨g2,hg2⟩:=common_bound (p:=fun s f=>topF c.up f s=some (T s)∧∃ N:Int,wholeF c f (.mk s []) 0=some (θ s,N)) ns (by
   intro s hs
   obtain ⟨f1,h1⟩:=hT s hs
   obtain ⟨f2,h2⟩:=whole_ev hn hS hw hacc (.mk s []) ((VA_var (hvr s hs)).2 hs)
   refine ⟨max f1 f2,fun f hf=>⟨h1 f (by omega),?_⟩⟩
   have h3:=h2 f (by omega) 0
   cases hq:wholeF c f (.mk s []) 0 with
   | none=>rw [hq] at h3;cases h3
   | some q =>
    obtain ⟨y,N⟩:=q
    obtain ⟨k,_,_,_,j1,j2⟩:=(whole_val hn hS hw hbest f).1 (.mk s []) 0 y N ((good_mk _ _).2 ⟨node_small (hvs s hs),by simp⟩) ((VA_var (hvr s hs)).2 hs) (by decide) hq
    have h4:=hsz s hs
    rw [sub_var (hvr s hs)] at j1 j2
    obtain ⟨h5,_⟩:=j1 (j2 (by omega))
    exact ⟨N,by rw [h5]⟩)
  have hN:∃ N:ByteArray→Int,∀ s∈ns,wholeF c g2 (.mk s []) 0=some (θ s,N s) :=
   ⟨fun s=>if h:s∈ns then (hg2 s h).2.choose else 0,fun s hs=>by simp only [dif_pos hs];exact (hg2 s hs).2.choose_spec⟩
  obtain ⟨N,hN⟩:=hN
  generalize hL:((c.up.map (·.1)).filter fun s=>keepU c s (T s)).map (fun s=>(s,θ s))=L
  have hLk:L.map (·.1)=ns.filter fun s=>keepU c s (T s):=by
   rw [←hL,List.map_map,hw.keys];exact List.map_id _
  have hLn:(L.map (·.1)).Nodup:=by rw [hLk];exact hn.filter _
  have hLl:∀ s,lookT L s=if s∈ns∧keepU c s (T s)=true then some (θ s) else none:=by
   intro s
   by_cases hs:s∈ns∧keepU c s (T s)=true
   ·rw [if_pos hs]
    refine lookG_nodup hLn (p:=(s,θ s)) ?_
    rw [←hL,hw.keys]
    exact List.mem_map.2 ⟨s,List.mem_filter.2 hs,rfl⟩
   ·rw [if_neg hs]
    refine lookT_none fun hm=>hs ?_
    rw [hLk] at hm
    exact List.mem_filter.1 hm
  have hkeep:∀ s∈ns,keepU c s (T s)=false→θ s=.mk s []:=by
   intro s hs h
   unfold keepU at h
   simp only [Bool.or_eq_false_iff,Bool.not_eq_false',decide_eq_true_eq] at h
   obtain ⟨e,h⟩:=h
   have htop:=hT s hs
   rw [←e] at htop
   cases hk:lookT c.is s with
   | none=>exact hbest.leaf s hk htop
   | some t =>
    rw [hk] at h
    simp only [decide_eq_false_iff_not] at h
    have hti:=hw.is s t hk
    have:=hS.good t hti.2.1
    obtain ⟨tn,tl⟩:=t
    exact absurd (node_name ((good_mk tn tl).1 this).1) h
  have hms:∀ s,lsub (sortM L) s=θ s:=by
   intro s
   unfold lsub
   rw [←lookT_perm hLn (sortM_perm L).symm,hLl]
   by_cases hs:s∈ns
   ·cases hk:keepU c s (T s) with
    | true=>rw [if_pos ⟨hs,rfl⟩];rfl
    | false=>rw [if_neg (by simp)];exact (hkeep s hs hk).symm
   ·rw [if_neg (fun h=>hs h.1)];exact (hbest.out s hs).symm
  have hmθ:lsub (sortM L)=θ:=funext hms
  have hLasc:=sortM_asc hLn
  have hval:∀ p∈sortM L,smallN p.1=true∧p.2.valid=0∧p.1∈ns:=by
   intro p hp
   have hp2:=(sortM_perm L).subset hp
   rw [←hL,hw.keys] at hp2
   obtain ⟨s,hs,rfl⟩:=List.mem_map.1 hp2
   have hsn:=(List.mem_filter.1 hs).1
   exact ⟨hvs s hsn,(valid_iff _).2 ⟨(large_iff _).2 (hsz s hsn),hgθ s (hvs s hsn)⟩,hsn⟩
  have hsubst:substV (sortM L)=0:=by
   unfold substV
   rw [if_pos (List.all_eq_true.2 fun p hp=>(hval p hp).1),if_pos (allV_zero fun t ht=>by
    obtain ⟨p,hp,rfl⟩:=List.mem_map.1 ht
    exact (hval p hp).2.1),if_pos (asc_ascM hLasc)]
  have hpa:putT (sortM L) a=sub θ a:=by rw [put_sub _ a hag,hmθ]
  have hpb:putT (sortM L) b=sub θ a:=by rw [put_sub _ b hbg,hmθ,heq]
  have hpx:putT (sortM L) (sub θ a)=sub θ a:=by rw [put_sub _ _ hga,hmθ,hmost θ hsolθ a hag]
  have hva2:(sub θ a).valid=0:=(valid_iff _).2 ⟨hxl,hga⟩
  have A1:applyV (sortM L) a=(sub θ a,0):=by rw [apply_of hsubst ha (by rw [hpa];exact hxl),hpa]
  have A2:applyV (sortM L) b=(sub θ a,0):=by rw [apply_of hsubst hb (by rw [hpb];exact hxl),hpb]
  have A3:applyV (sortM L) (sub θ a)=(sub θ a,0):=by rw [apply_of hsubst hva2 (by rw [hpx];exact hxl),hpx]
  have hupl:c.up.length≤1000000:=by
   have:(c.up.map (·.1)).length=ns.length:=by rw [hw.keys]
   rw [List.length_map] at this
   omega
  refine ⟨sortM L,0,.inr ⟨h0,f,true,c,by rw [hns];exact hun,fun h=>(by cases h),fun _=>⟨false,hlo,fun h=>(by cases h),fun _=>⟨g,x,k,hwh,fun h=>absurd h hbig,fun _=>⟨⟨T,θ,g2,N,hupl,by rw [hw.keys];exact hn,
   fun s hs=>(hg2 s (by rwa [hw.keys] at hs)).1,fun s hs=>hN s (by rwa [hw.keys] at hs),by rw [hL]⟩,rfl⟩⟩⟩⟩,fun _=>⟨⟨?_,?_,?_,?_⟩,hLasc,fun p hp=>(hval p hp).2.2,by rw [hmθ];exact heq⟩,fun l h1 h2 h3=>⟨rfl,?_⟩⟩
  ·rw [A1]
  ·rw [A2]
  ·rw [A1,A2]
  ·rw [A1];exact A3
  ·obtain ⟨e1,e2,e3,e4⟩:=hfrom l h1 h2 h3
   rw [A1,e3]
   exact (match_iff _ _).2 ⟨hva2,(valid_iff _).2 ⟨e2,sub_good (lsub_good e4) a hag⟩,lsub l,hmost _ (hsol _ e1) a hag⟩
theorem kL_subst:substV kL=0:=by
 have h1:kL.all (fun p=>smallN p.1)=true:=by decide
 have h2:allV (kL.map (·.2))=0:=by decide
 have h3:ascM kL=true:=by
  show (Op.bytesLess aS.toList bS.toList && true)=true
  rw [ByteArray.toList_eq,ByteArray.toList_eq];decide
 unfold substV
 rw [if_pos h1,if_pos h2,if_pos h3]
theorem kA_ok:applyV kL kA=(putT kL kA,0):=apply_of kL_subst (by decide) (by decide)
theorem kB_ok:applyV kL kB=(putT kL kB,0):=apply_of kL_subst (by decide) (by decide)
theorem known_run:URun kA kB kL 0:=by
 obtain ⟨m,e,hr,h1,h2⟩:=united_facts kA kB
 obtain ⟨rfl,_⟩:=h2 kL (by rw [kA_ok]) (by rw [kB_ok]) (by rw [kA_ok,kB_ok];rfl)
 obtain ⟨_,hasc,hin,heq⟩:=h1 rfl
 have v1:vr arrowN=false:=by decide
 have v2:vr listN=false:=by decide
 have v3:vr intN=false:=by decide
 have v4:vr aS=true:=by decide
 have v5:vr bS=true:=by decide
 simp only [kA,kB,sub,subL,v1,v2,v3,v4,v5,Bool.false_eq_true,if_false,if_true,Ty.mk.injEq,List.cons.injEq,true_and,and_true] at heq
 obtain ⟨e1,e2⟩:=heq
 rw [e1] at e2
 have l1:lookT m aS=some (.mk intN []):=by
  unfold lsub at e1
  cases hk:lookT m aS with
  | some t=>rw [hk] at e1;simpa using e1
  | none =>
   rw [hk] at e1
   simp only [Option.getD_none,Ty.mk.injEq] at e1
   exact absurd e1.1 (by decide)
 have l2:lookT m bS=some (.mk listN [.mk intN []]):=by
  unfold lsub at e2
  cases hk:lookT m bS with
  | some t=>rw [hk] at e2;simpa using e2.symm
  | none =>
   rw [hk] at e2
   simp only [Option.getD_none,Ty.mk.injEq] at e2
   exact absurd e2.1 (by decide)
 have hkasc:Asc kL:=by
  simp only [kL,Asc,List.pairwise_cons,List.mem_cons,List.not_mem_nil,or_false,forall_eq,List.Pairwise.nil,and_true,false_imp_iff,implies_true]
  show Op.bytesLess aS.toList bS.toList=true
  rw [ByteArray.toList_eq,ByteArray.toList_eq];decide
 have hm:m=kL:=by
  refine asc_ext hasc hkasc fun s=>?_
  have hk:lookT kL s=if s=aS then some (.mk intN []) else if s=bS then some (.mk listN [.mk intN []]) else none:=by
   simp only [kL,lookT_cons];rfl
  rw [hk]
  by_cases h1:s=aS
  ·rw [if_pos h1,h1,l1]
  ·rw [if_neg h1]
   by_cases h2:s=bS
   ·rw [if_pos h2,h2,l2]
   ·rw [if_neg h2]
    refine lookT_none fun hmm=>?_
    obtain ⟨p,hp,rfl⟩:=List.mem_map.1 hmm
    have h3:=hin p hp
    rw [show namesL [kA,kB]=[aS,bS] by rfl] at h3
    simp at h3
    rcases h3 with h3 | h3
    ·exact h1 h3
    ·exact h2 h3
 rw [hm] at hr
 exact hr
end Go.Proofs.YtgeehnbbhnpimaaGreat
