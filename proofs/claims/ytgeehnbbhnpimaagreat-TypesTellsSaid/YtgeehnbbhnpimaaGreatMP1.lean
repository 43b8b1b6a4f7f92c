/- Substitutions as functions; matching; sizes. -/
import Derived.Test.YtgeehnbbhnpimaaGreatMW6
set_option linter.unusedVariables false
set_option linter.unusedSimpArgs false
namespace Go.Proofs.YtgeehnbbhnpimaaGreat
open Go Go.Abs Go.Proofs
abbrev Sub:=ByteArray→Ty
def vr (n:ByteArray):Bool:=headP smallB n
mutual
def sub (θ:Sub):Ty→Ty
 | .mk n l=>if vr n then θ n else .mk n (subL θ l)
def subL (θ:Sub):List Ty→List Ty
 | []=>[]
 | t::ts=>sub θ t::subL θ ts
end
theorem subL_eq (θ:Sub) (l:List Ty):subL θ l=l.map (sub θ):=by
 induction l with
 | nil=>rfl
 | cons t ts ih=>simp [subL,ih]
theorem sub_var {θ:Sub} {n:ByteArray} {l:List Ty} (h:vr n=true):sub θ (.mk n l)=θ n:=by rw [sub,if_pos h]
theorem sub_con {θ:Sub} {n:ByteArray} {l:List Ty} (h:vr n=false):sub θ (.mk n l)=.mk n (l.map (sub θ)):=by rw [sub,if_neg (by simp [h]),subL_eq]
def Agree (θ:Sub) (m:TyM):Prop:=∀ s x,lookT m s=some x→θ s=x
mutual
theorem mat_ext:∀ (p t:Ty) (m:TyM) (s:ByteArray) (x:Ty),lookT m s=some x→lookT (matT p t m).2 s=some x
 | .mk n l,t,m,s,x,h=>by
  rw [matT]
  split
  ·split
   ·exact h
   ·rename_i hk
    show lookG (m++[(n,t)]) s=some x
    rw [lookG_app,←lookT_g,h];rfl
  ·split
   ·exact matL_ext l t.args m s x h
   ·exact h
theorem matL_ext:∀ (l l':List Ty) (m:TyM) (s:ByteArray) (x:Ty),lookT m s=some x→lookT (matL l l' m).2 s=some x
 | p::ps,t::ts,m,s,x,h=>by
  rw [matL]
  split
  ·exact matL_ext ps ts _ s x (mat_ext p t m s x h)
  ·exact mat_ext p t m s x h
 | [],_,m,s,x,h=>by simpa [matL] using h
 | _::_,[],m,s,x,h=>by simpa [matL] using h
end
theorem lookT_app_new {m:TyM} {n:ByteArray} {t:Ty} (h:lookT m n=none):lookT (m++[(n,t)]) n=some t:=by
 show lookG (m++[(n,t)]) n=some t
 rw [lookG_app,←lookT_g,h,lookG_cons];simp
mutual
theorem mat_sound:∀ (p t:Ty) (m:TyM) (θ:Sub),(matT p t m).1=true→Agree θ (matT p t m).2→sub θ p=t
 | .mk n l,t,m,θ,h,ha=>by
  rw [matT] at h ha
  by_cases hv:headP smallB n=true
  ·rw [if_pos hv] at h ha
   rw [sub_var hv]
   split at h
   ·rename_i x hk
    simp only [eqT_iff] at h
    rw [hk] at ha
    rw [←h];exact ha n x hk
   ·rename_i hk
    rw [hk] at ha
    exact ha n t (lookT_app_new hk)
  ·rw [if_neg hv] at h ha
   rw [sub_con (by simpa [vr] using hv)]
   obtain ⟨n',l'⟩:=t
   by_cases hc:n=(Ty.mk n' l').name∧l.length=(Ty.mk n' l').args.length
   ·rw [if_pos hc] at h ha
    obtain ⟨h1,h2⟩:=hc
    simp only [Ty.name,Ty.args] at h1 h2 h ha
    rw [h1,matL_sound l l' m θ h2 h ha]
   ·rw [if_neg hc] at h;cases h
theorem matL_sound:∀ (l l':List Ty) (m:TyM) (θ:Sub),l.length=l'.length→(matL l l' m).1=true→Agree θ (matL l l' m).2→l.map (sub θ)=l'
 | p::ps,t::ts,m,θ,hl,h,ha=>by
  rw [matL] at h ha
  by_cases h1:(matT p t m).1=true
  ·rw [if_pos h1] at h ha
   rw [List.map_cons,matL_sound ps ts _ θ (by simpa using hl) h ha,mat_sound p t m θ h1 (fun s x hx=>ha s x (matL_ext ps ts _ s x hx))]
  ·rw [if_neg h1] at h;cases h
 | [],[],m,θ,_,_,_=>rfl
 | [],_::_,m,θ,hl,_,_=>by simp at hl
 | _::_,[],m,θ,hl,_,_=>by simp at hl
end
mutual
theorem mat_complete:∀ (p:Ty) (m:TyM) (θ:Sub),Agree θ m→(matT p (sub θ p) m).1=true∧Agree θ (matT p (sub θ p) m).2
 | .mk n l,m,θ,ha=>by
  rw [matT]
  by_cases hv:headP smallB n=true
  ·rw [if_pos hv,sub_var hv]
   split
   ·rename_i x hk
    exact ⟨(eqT_iff _ _).2 (ha n x hk).symm,ha⟩
   ·rename_i hk
    refine ⟨rfl,fun s x hx=>?_⟩
    change lookG (m++[(n,θ n)]) s=some x at hx
    rw [lookG_app] at hx
    cases hm:lookG m s with
    | some y=>rw [hm] at hx;simp at hx;subst hx;exact ha s y hm
    | none =>
     rw [hm,lookG_cons] at hx
     by_cases hs:s=n
     ·subst hs;simpa using hx
     ·simp [hs,lookG] at hx
  ·rw [if_neg hv,sub_con (by simpa [vr] using hv)]
   simp only [Ty.name,Ty.args,List.length_map,and_self,if_true]
   exact matL_complete l m θ ha
theorem matL_complete:∀ (l:List Ty) (m:TyM) (θ:Sub),Agree θ m→(matL l (l.map (sub θ)) m).1=true∧Agree θ (matL l (l.map (sub θ)) m).2
 | p::ps,m,θ,ha=>by
  have h1:=mat_complete p m θ ha
  rw [List.map_cons,matL,if_pos h1.1]
  exact matL_complete ps _ θ h1.2
 | [],m,θ,ha=>by simpa [matL] using ha
end
theorem allV_nil {a b:Ty}:allV [a,b]=0↔a.valid=0∧b.valid=0:=by
 refine ⟨allV_two,fun ⟨h1,h2⟩=>?_⟩
 simp [allV,h1,h2]
theorem agree_fun (m:TyM):∃ θ:Sub,Agree θ m:=⟨fun s=>(lookT m s).getD zeroTy,fun s x h=>by simp [h]⟩
theorem match_iff (p t:Ty):(matchV p t).2=0↔p.valid=0∧t.valid=0∧∃ θ:Sub,sub θ p=t:=by
 unfold matchV
 constructor
 ·intro h
  split at h
  ·rename_i h1
   obtain ⟨h2,h3⟩:=allV_nil.1 h1
   split at h
   ·rename_i hm
    obtain ⟨θ,hθ⟩:=agree_fun (matT p t []).2
    exact ⟨h2,h3,θ,mat_sound p t [] θ hm hθ⟩
   ·cases h
  ·rename_i h1;exact absurd h h1
 ·rintro ⟨h1,h2,θ,rfl⟩
  rw [if_pos (allV_nil.2 ⟨h1,h2⟩),if_pos (mat_complete p [] θ (fun s x h=>by simp [lookT] at h)).1]
mutual
def Ty.depth:Ty→Nat
 | .mk _ l=>depthL l+1
def depthL:List Ty→Nat
 | []=>0
 | t::ts=>max t.depth (depthL ts)
end
theorem cnt_mk (n:ByteArray) (l:List Ty):(Ty.mk n l).cnt=(nodesL l).length+1:=by simp [Ty.cnt,Ty.nodes]
theorem nodesL_cons (t:Ty) (l:List Ty):(nodesL (t::l)).length=t.cnt+(nodesL l).length:=by simp [nodesL,Ty.cnt]
mutual
theorem big_iff:∀ (t:Ty) (room n:Nat),(big t room n).1=false↔n+t.cnt≤200∧t.depth≤room
 | .mk nm l,room,n=>by
  rw [big,cnt_mk,Ty.depth]
  split
  ·rename_i h
   simp only [Bool.true_eq_false,false_iff]
   omega
  ·rename_i h
   rw [bigL_iff l (room - 1) (n+1) (by omega)]
   omega
theorem bigL_iff:∀ (l:List Ty) (room n:Nat),n≤200→((bigL l room n).1=false↔n+(nodesL l).length≤200∧depthL l≤room)
 | [],room,n,hn=>by simp [bigL,nodesL,depthL,hn]
 | t::ts,room,n,hn=>by
  rw [bigL,nodesL_cons,depthL]
  by_cases h:(big t room n).1=true
  ·rw [if_pos h]
   have:=not_congr (big_iff t room n)
   simp only [h,Bool.true_eq_false,not_false_eq_true,true_iff] at this;simp only [Bool.true_eq_false,false_iff]
   omega
  ·rw [if_neg h]
   have h':(big t room n).1=false:=by simpa using h
   have h1:=(big_iff t room n).1 h'
   have h2:=big_cnt t room n h'
   rw [bigL_iff ts room _ (by omega),h2]
   omega
end
theorem large_iff (t:Ty):t.large=false↔t.cnt≤200∧t.depth≤40:=by
 unfold Ty.large;rw [big_iff];simp
theorem valid_iff (t:Ty):t.valid=0↔t.large=false∧t.good=true:=by
 unfold Ty.valid
 split
 ·rename_i h;simp [h]
 ·rename_i h
  split
  ·rename_i h2;simp [h,h2]
  ·rename_i h2;simp [h2]
theorem good_mk (n:ByteArray) (l:List Ty):(Ty.mk n l).good=true↔(Ty.mk n l).node=true∧∀ t∈l,t.good=true:=by
 have key:∀ l:List Ty,(nodesL l).all Ty.node=true↔∀ t∈l,t.good=true:=by
  intro l
  induction l with
  | nil=>simp [nodesL]
  | cons t ts ih=>simp only [nodesL,List.all_append,Bool.and_eq_true,ih,List.mem_cons,forall_eq_or_imp];rfl
 unfold Ty.good
 rw [Ty.nodes,List.all_cons,Bool.and_eq_true,key]
 rfl
theorem arrow_novar:vr arrowN=false:=by decide
theorem node_eq (n:ByteArray) (l:List Ty):(Ty.mk n l).node=if n=arrowN then decide ((l.length:Int)=2) else if vr n=true then smallN n && decide ((l.length:Int)=0) else greatN n && decide ((l.length:Int)≤8):=rfl
theorem node_len {n:ByteArray} {l l':List Ty} (h:l.length=l'.length):(Ty.mk n l).node=(Ty.mk n l').node:=by
 rw [node_eq,node_eq,h]
theorem node_var {n:ByteArray} {l:List Ty} (h:(Ty.mk n l).node=true) (hv:vr n=true):l=[]∧smallN n=true:=by
 rw [node_eq,if_neg (by rintro e;rw [e,arrow_novar] at hv;cases hv),if_pos hv] at h
 simp only [Bool.and_eq_true,decide_eq_true_eq] at h
 refine ⟨?_,h.1⟩
 have:l.length=0:=by have:=h.2;omega
 simpa using this
theorem node_args {n:ByteArray} {l:List Ty} (h:(Ty.mk n l).node=true):l.length≤8:=by
 rw [node_eq] at h
 split at h
 ·simp only [decide_eq_true_eq] at h;omega
 ·split at h
  ·simp only [Bool.and_eq_true,decide_eq_true_eq] at h;omega
  ·simp only [Bool.and_eq_true,decide_eq_true_eq] at h;omega
theorem smallN_vr {n:ByteArray} (h:smallN n=true):vr n=true:=by
 simp only [smallN,Bool.and_eq_true] at h;exact h.1.2
theorem node_small {n:ByteArray} (h:smallN n=true):(Ty.mk n []).node=true:=by
 have hv:=smallN_vr h
 rw [node_eq,if_neg (by rintro e;rw [e,arrow_novar] at hv;cases hv),if_pos hv,h];rfl
mutual
theorem sub_good {θ:Sub} (hθ:∀ s,smallN s=true→(θ s).good=true):∀ t:Ty,t.good=true→(sub θ t).good=true
 | .mk n l,h=>by
  rw [good_mk] at h
  by_cases hv:vr n=true
  ·rw [sub_var hv];exact hθ n (node_var h.1 hv).2
  ·rw [sub_con (by simpa using hv),good_mk]
   refine ⟨by rw [←node_len (l:=l) (by simp)];exact h.1,?_⟩
   rw [←subL_eq]
   exact subL_good hθ l h.2
theorem subL_good {θ:Sub} (hθ:∀ s,smallN s=true→(θ s).good=true):∀ l:List Ty,(∀ t∈l,t.good=true)→∀ t∈subL θ l,t.good=true
 | [],_=>by simp [subL]
 | t::ts,h=>by
  intro x hx
  simp only [subL,List.mem_cons] at hx
  rcases hx with rfl | hx
  ·exact sub_good hθ t (h t (by simp))
  ·exact subL_good hθ ts (fun y hy=>h y (by simp [hy])) x hx
end
theorem Ty.depth_pos:∀ t:Ty,0 < t.depth
 | .mk _ _=>by simp [Ty.depth]
mutual
theorem sub_ge (θ:Sub):∀ t:Ty,t.good=true→t.cnt≤(sub θ t).cnt∧t.depth≤(sub θ t).depth
 | .mk n l,h=>by
  rw [good_mk] at h
  by_cases hv:vr n=true
  ·obtain ⟨rfl,_⟩:=node_var h.1 hv
   rw [sub_var hv,cnt_mk]
   have:=(θ n).cnt_pos
   have:=(θ n).depth_pos
   simp [nodesL,Ty.depth,depthL];omega
  ·rw [sub_con (by simpa using hv),cnt_mk,cnt_mk,Ty.depth,Ty.depth]
   have:=subL_ge θ l h.2
   rw [subL_eq] at this
   omega
theorem subL_ge (θ:Sub):∀ l:List Ty,(∀ t∈l,t.good=true)→(nodesL l).length≤(nodesL (subL θ l)).length∧depthL l≤depthL (subL θ l)
 | [],_=>by simp [subL,nodesL,depthL]
 | t::ts,h=>by
  have h1:=sub_ge θ t (h t (by simp))
  have h2:=subL_ge θ ts (fun y hy=>h y (by simp [hy]))
  simp only [subL,nodesL_cons,depthL]
  omega
end
theorem sub_large (θ:Sub) {t:Ty} (h:t.good=true) (hl:t.large=true):(sub θ t).large=true:=by
 cases hs:(sub θ t).large with
 | true=>rfl
 | false =>
  have h1:=(large_iff _).1 hs
  have h2:=sub_ge θ t h
  have:t.large=false:=(large_iff t).2 (by omega)
  rw [this] at hl;cases hl
mutual
theorem sub_sub (θ ρ:Sub):∀ t:Ty,sub θ (sub ρ t)=sub (fun s=>sub θ (ρ s)) t
 | .mk n l=>by
  by_cases hv:vr n=true
  ·rw [sub_var hv,sub_var hv]
  ·rw [sub_con (by simpa using hv),sub_con (by simpa using hv),sub_con (by simpa using hv),←subL_eq ρ,←subL_eq θ,subL_subL,←subL_eq]
theorem subL_subL (θ ρ:Sub):∀ l:List Ty,subL θ (subL ρ l)=subL (fun s=>sub θ (ρ s)) l
 | []=>rfl
 | t::ts=>by simp only [subL,sub_sub θ ρ t,subL_subL θ ρ ts]
end
def lsub (l:TyM):Sub:=fun s=>(lookT l s).getD (.mk s [])
mutual
theorem put_sub (l:TyM):∀ t:Ty,t.good=true→putT l t=sub (lsub l) t
 | .mk n k,h=>by
  rw [good_mk] at h
  rw [putT]
  by_cases hv:headP smallB n=true
  ·obtain ⟨rfl,_⟩:=node_var h.1 hv
   rw [if_pos hv,sub_var hv]
   unfold lsub
   cases lookT l n <;> rfl
  ·rw [if_neg hv,sub_con (by simpa [vr] using hv),putL_sub l k h.2,subL_eq]
theorem putL_sub (l:TyM):∀ k:List Ty,(∀ t∈k,t.good=true)→putL l k=subL (lsub l) k
 | [],_=>rfl
 | t::ts,h=>by simp only [putL,subL,put_sub l t (h t (by simp)),putL_sub l ts fun y hy=>h y (by simp [hy])]
end
def lex:List UInt8→List (List UInt8)
 | []=>[]
 | c::cs=>if c=32 then lex cs
  else if tailB c=true then (c::cs.takeWhile tailB)::lex (cs.dropWhile tailB)
  else if c=45∧cs.head?=some 62 then [45,62]::lex cs.tail
  else [c]::lex cs
termination_by l=>l.length
decreasing_by
 all_goals simp
 ·have:=(List.dropWhile_suffix (l:=cs) tailB).length_le;omega
 ·omega
def bL (s:ByteArray):List UInt8:=s.data.toList
theorem bL_append (a b:ByteArray):bL (a++b)=bL a++bL b:=by
 simp [bL,ByteArray.data_append]
theorem bL_inj {a b:ByteArray} (h:bL a=bL b):a=b:=by
 cases a;cases b;simp only [bL,Array.toList_inj] at h;simp [h]
def opT:List UInt8:=[40]
def clT:List UInt8:=[41]
def arT:List UInt8:=[45,62]
mutual
def toks:Ty→Nat→List (List UInt8)
 | .mk n l,k=>if n=arrowN∧l.length=2 then (if 0 < k then opT::(toksAr l++[clT]) else toksAr l)
  else if 1 < k∧0 < l.length then opT::(bL n::toksL l++[clT]) else bL n::toksL l
def toksL:List Ty→List (List UInt8)
 | []=>[]
 | t::ts=>toks t 2++toksL ts
def toksAr:List Ty→List (List UInt8)
 | [a,b]=>toks a 1++arT::toks b 0
 | _=>[]
end
def NoTail:List UInt8→Prop
 | []=>True
 | c::_=>tailB c=false
theorem takeWhile_all {p:UInt8→Bool} {a r:List UInt8} (h:∀ x∈a,p x=true) (hr:match r with | []=>True | c::_=>p c=false):(a++r).takeWhile p=a∧(a++r).dropWhile p=r:=by
 induction a with
 | nil =>
  cases r with
  | nil=>simp
  | cons c r=>simp only at hr;simp [List.takeWhile_cons,List.dropWhile_cons,hr]
 | cons x a ih =>
  have h1:=ih fun y hy=>h y (by simp [hy])
  simp [List.takeWhile_cons,List.dropWhile_cons,h x (by simp),h1]
theorem tail_no32:tailB 32=false:=by decide
theorem tail_no41:tailB 41=false:=by decide
theorem tail_no59:tailB 59=false:=by decide
theorem lex_run {a r:List UInt8} (ha:a≠[]) (h:∀ x∈a,tailB x=true) (hr:NoTail r):lex (a++r)=a::lex r:=by
 obtain ⟨c,a,rfl⟩:=List.exists_cons_of_ne_nil ha
 have hc:=h c (by simp)
 have hc2:c≠32:=by rintro rfl;rw [tail_no32] at hc;cases hc
 have h1:=takeWhile_all (a:=a) (r:=r) (p:=tailB) (fun x hx=>h x (by simp [hx])) (by cases r <;> exact hr)
 rw [List.cons_append,lex,if_neg hc2,if_pos hc,h1.1,h1.2]
theorem lex_sp (r:List UInt8):lex (32::r)=lex r:=by rw [lex,if_pos rfl]
theorem lex_op (r:List UInt8):lex (40::r)=opT::lex r:=by rw [lex,if_neg (by decide),if_neg (by decide),if_neg (fun h=>absurd h.1 (by decide))];rfl
theorem lex_cl (r:List UInt8):lex (41::r)=clT::lex r:=by rw [lex,if_neg (by decide),if_neg (by decide),if_neg (fun h=>absurd h.1 (by decide))];rfl
theorem lex_se (r:List UInt8):lex (59::r)=[59]::lex r:=by rw [lex,if_neg (by decide),if_neg (by decide),if_neg (fun h=>absurd h.1 (by decide))]
theorem lex_ar (r:List UInt8):lex (45::62::r)=arT::lex r:=by rw [lex,if_neg (by decide),if_neg (by decide),if_pos (by simp)];rfl
theorem run_names {n:ByteArray} (h:runB n=true):bL n≠[]∧∀ x∈bL n,tailB x=true:=by
 simp only [runB,Bool.and_eq_true,decide_eq_true_eq,List.all_eq_true] at h
 refine ⟨fun e=>?_,h.2⟩
 have h1:=h.1.1
 rw [ba_size] at h1
 change bL n=[] at e
 unfold bL at e
 rw [e] at h1;simp at h1
theorem node_run {n:ByteArray} {l:List Ty} (h:(Ty.mk n l).node=true) (ha:n≠arrowN):runB n=true:=by
 rw [node_eq,if_neg ha] at h
 split at h
 ·simp only [Bool.and_eq_true,smallN] at h;exact h.1.1.1
 ·simp only [Bool.and_eq_true,greatN] at h;exact h.1.1
theorem plainT_bL (n:ByteArray) (fs:List (Nat→ByteArray)):bL (plainT n fs)=bL n++fs.flatMap fun f=>32::bL (f 2):=by
 induction fs generalizing n with
 | nil=>simp [plainT]
 | cons f fs ih =>
  have h1:=ih (n++(spS++f 2))
  simp only [plainT,List.foldl_cons] at h1 ⊢
  rw [h1,bL_append,bL_append]
  simp [bL,spS]
theorem text_nolen {t:Ty} {k:Nat} (h:t.good=true):∀ r,NoTail r→lex (bL (textT t k)++r)=toks t k++lex r:=by
 induction t using Ty.ind generalizing k with
 | h n l ih =>
 intro r hr
 rw [good_mk] at h
 obtain ⟨hn,hg⟩:=h
 have hargs:∀ (l':List Ty),(∀ t∈l',t∈l)→∀ r,NoTail r→lex ((l'.map textT).flatMap (fun f=>32::bL (f 2))++r)=toksL l'++lex r:=by
  intro l'
  induction l' with
  | nil=>intro _ r _;simp [toksL]
  | cons x l' ihl =>
   intro hsub r hr
   have hx:=hsub x (by simp)
   simp only [List.map_cons,List.flatMap_cons,toksL,List.cons_append,List.append_assoc]
   rw [lex_sp,ih x hx (hg x hx),ihl (fun t ht=>hsub t (by simp [ht])) r hr]
   cases l' with
   | nil=>simpa using hr
   | cons y l'=>simp only [List.map_cons,List.flatMap_cons,List.cons_append];exact tail_no32
 simp only [textT,textE_eq,nodeT,List.length_map,toks]
 by_cases ha:n=arrowN∧l.length=2
 ·rw [if_pos ha,if_pos ha]
  obtain ⟨rfl,h2⟩:=ha
  obtain ⟨a,b,rfl⟩:∃ a b,l=[a,b]:=by
   match l,h2 with
   | [a,b],_=>exact ⟨a,b,rfl⟩
  have key:∀ r,NoTail r→lex (bL (textT a 1++arS++textT b 0)++r)=toksAr [a,b]++lex r:=by
   intro r hr
   have e:bL arS=[32,45,62,32]:=rfl
   rw [bL_append,bL_append,e,List.append_assoc,List.append_assoc,ih a (by simp) (hg a (by simp)) _ (by exact tail_no32)]
   simp only [List.cons_append,List.nil_append]
   rw [lex_sp,lex_ar,lex_sp,ih b (by simp) (hg b (by simp)) r hr]
   simp [toksAr]
  simp only [List.map_cons,List.map_nil,List.getD_cons_zero,List.getD_cons_succ]
  split
  ·rename_i hk
   have e1:bL opS=[40]:=rfl
   have e2:bL clS=[41]:=rfl
   rw [parS,bL_append,bL_append,e1,e2,List.append_assoc,List.append_assoc,List.cons_append,List.nil_append,lex_op]
   rw [key _ (by exact tail_no41),List.cons_append,List.nil_append,lex_cl]
   simp
  ·exact key r hr
 ·rw [if_neg ha,if_neg ha]
  have hne:n≠arrowN:=by
   rintro rfl
   rw [node_eq,if_pos rfl] at hn
   simp only [decide_eq_true_eq] at hn
   exact ha ⟨rfl,by omega⟩
  obtain ⟨r1,r2⟩:=run_names (node_run hn hne)
  have key:∀ r,NoTail r→lex (bL (plainT n (l.map textT))++r)=bL n::toksL l++lex r:=by
   intro r hr
   rw [plainT_bL,List.append_assoc,lex_run r1 r2,hargs l (fun _ h=>h) r hr]
   ·simp
   ·cases l with
    | nil=>simpa using hr
    | cons y l'=>simp only [List.map_cons,List.flatMap_cons,List.cons_append];exact tail_no32
  split
  ·have e1:bL opS=[40]:=rfl
   have e2:bL clS=[41]:=rfl
   rw [parS,bL_append,bL_append,e1,e2,List.append_assoc,List.append_assoc,List.cons_append,List.nil_append,lex_op]
   rw [key _ (by exact tail_no41)]
   simp only [List.cons_append,List.append_assoc,List.nil_append,lex_cl]
  ·exact key r hr
def toB (l:List UInt8):ByteArray:=⟨l.toArray⟩
theorem toB_bL (n:ByteArray):toB (bL n)=n:=by cases n;simp [toB,bL]
def isN (s:List UInt8):Bool:=greatN (toB s) || smallN (toB s)
mutual
def rdAlone:Nat→List (List UInt8)→Option (Ty × List (List UInt8))
 | 0,_=>none
 | f+1,l=>match l with
  | []=>none
  | s::r=>if isN s then some (.mk (toB s) [],r) else if s=opT then
   (match rdWhole f r with
   | some (t,s2::r2)=>if s2=clT then some (t,r2) else none
   | _=>none) else none
def rdArgs:Nat→List (List UInt8)→Option (List Ty × List (List UInt8))
 | 0,_=>none
 | f+1,l=>match l with
  | []=>some ([],[])
  | s::r=>if isN s=true∨s=opT then (match rdAlone f (s::r) with
   | some (t,r2)=>(match rdArgs f r2 with | some (ts,r3)=>some (t::ts,r3) | none=>none)
   | none=>none) else some ([],s::r)
def rdApplied:Nat→List (List UInt8)→Option (Ty × List (List UInt8))
 | 0,_=>none
 | f+1,l=>match l with
  | []=>none
  | s::r=>if greatN (toB s) then (match rdArgs f r with | some (ts,r2)=>some (.mk (toB s) ts,r2) | none=>none) else rdAlone f (s::r)
def rdWhole:Nat→List (List UInt8)→Option (Ty × List (List UInt8))
 | 0,_=>none
 | f+1,l=>match rdApplied f l with
  | none=>none
  | some (a,r)=>(match r with
   | []=>some (a,[])
   | s::r2=>if s=arT then (match rdWhole f r2 with | some (b,r3)=>some (.mk arrowN [a,b],r3) | none=>none) else some (a,s::r2))
end
def NoArg:List (List UInt8)→Prop
 | []=>True
 | s::_=>isN s=false∧s≠opT
def NoAr:List (List UInt8)→Prop
 | []=>True
 | s::_=>s≠arT
theorem isN_op:isN opT=false:=by decide
theorem isN_cl:isN clT=false:=by decide
theorem isN_ar:isN arT=false:=by decide
theorem great_op:greatN (toB opT)=false:=by decide
theorem isN_se:isN [59]=false:=by decide
theorem na_ar (r:List (List UInt8)):NoArg (arT::r):=⟨isN_ar,by decide⟩
theorem na_cl (r:List (List UInt8)):NoArg (clT::r):=⟨isN_cl,by decide⟩
theorem na_se (r:List (List UInt8)):NoArg ([59]::r):=⟨isN_se,by decide⟩
theorem nr_cl (r:List (List UInt8)):NoAr (clT::r):=show clT≠arT by decide
theorem nr_se (r:List (List UInt8)):NoAr ([59]::r):=show ([59]:List UInt8)≠arT by decide
theorem node_cases {n:ByteArray} {l:List Ty} (h:(Ty.mk n l).node=true) (ha:n≠arrowN):(smallN n=true∧greatN n=false∧l=[])∨(greatN n=true):=by
 by_cases hv:vr n=true
 ·obtain ⟨h1,h2⟩:=node_var h hv
  refine .inl ⟨h2,?_,h1⟩
  cases hg:greatN n with
  | false=>rfl
  | true =>
   simp only [greatN,Bool.and_eq_true] at hg
   have h3:=hg.2
   unfold vr at hv
   unfold headP at hv h3
   split at hv
   ·rename_i c hc
    rw [hc] at h3
    simp only [smallB,greatB,Bool.and_eq_true,decide_eq_true_eq] at hv h3
    omega
   ·cases hv
 ·rw [node_eq,if_neg ha,if_neg hv] at h
  simp only [Bool.and_eq_true] at h
  exact .inr h.1
theorem rd_ok {t:Ty} (h:t.good=true):∃ f0,∀ f,f0≤f→(∀ r,rdAlone f (toks t 2++r)=some (t,r))∧(∀ r,NoArg r→rdApplied f (toks t 1++r)=some (t,r))∧(∀ r,NoArg r→NoAr r→rdWhole f (toks t 0++r)=some (t,r)):=by
 induction t using Ty.ind with
 | h n l ih =>
 rw [good_mk] at h
 obtain ⟨hn,hg⟩:=h
 by_cases ha:n=arrowN
 ·subst ha
  have h2:l.length=2:=by
   rw [node_eq,if_pos rfl] at hn
   simp only [decide_eq_true_eq] at hn;omega
  obtain ⟨a,b,rfl⟩:∃ a b,l=[a,b]:=by
   match l,h2 with
   | [a,b],_=>exact ⟨a,b,rfl⟩
  obtain ⟨fa,hfa⟩:=ih a (by simp) (hg a (by simp))
  obtain ⟨fb,hfb⟩:=ih b (by simp) (hg b (by simp))
  have h0:∀ f,max fa fb+1≤f→∀ r,NoArg r→NoAr r→rdWhole f (toksAr [a,b]++r)=some (.mk arrowN [a,b],r):=by
   intro f hf r hr1 hr2
   obtain ⟨f,rfl⟩:∃ g,f=g+1:=⟨f - 1,by omega⟩
   have e:toksAr [a,b]++r=toks a 1++(arT::(toks b 0++r)):=by simp [toksAr]
   rw [e]
   simp only [rdWhole]
   rw [(hfa f (by omega)).2.1 _ (na_ar _)]
   simp only [if_true]
   rw [(hfb f (by omega)).2.2 r hr1 hr2]
  have h2':∀ f,max fa fb+2≤f→∀ r,rdAlone f (opT::(toksAr [a,b]++[clT])++r)=some (.mk arrowN [a,b],r):=by
   intro f hf r
   obtain ⟨f,rfl⟩:∃ g,f=g+1:=⟨f - 1,by omega⟩
   simp only [List.cons_append,rdAlone,isN_op,Bool.false_eq_true,if_false,if_true]
   rw [List.append_assoc,List.cons_append,List.nil_append,h0 f (by omega) _ (na_cl _) (nr_cl _)]
   simp
  refine ⟨max fa fb+3,fun f hf=>⟨fun r=>?_,fun r hr=>?_,fun r hr1 hr2=>?_⟩⟩
  ·simp only [toks,List.length_cons,List.length_nil,and_self,if_true,Nat.zero_add,Nat.reduceAdd,Nat.lt_irrefl,Nat.zero_lt_succ,if_pos (show 0 < 2 by omega)]
   exact h2' f (by omega) r
  ·simp only [toks,List.length_cons,List.length_nil,and_self,if_true,Nat.zero_add,Nat.reduceAdd,if_pos (show 0 < 1 by omega)]
   obtain ⟨f,rfl⟩:∃ g,f=g+1:=⟨f - 1,by omega⟩
   have h3:=h2' f (by omega) r
   simp only [List.cons_append] at h3 ⊢;simp only [rdApplied,great_op,Bool.false_eq_true,if_false]
   exact h3
  ·simp only [toks,List.length_cons,List.length_nil,and_self,if_true,Nat.zero_add,Nat.reduceAdd,Nat.lt_irrefl,if_false]
   exact h0 f (by omega) r hr1 hr2
 ·have hna:¬ (n=arrowN∧l.length=2):=fun h=>ha h.1
  have hnc:=node_cases hn ha
  have hnn:isN (bL n)=true:=by
   unfold isN;rw [toB_bL]
   rcases hnc with h | h <;> simp [h]
  have hnop:bL n≠opT:=by
   intro e;rw [e,isN_op] at hnn;cases hnn
  have hargs:∀ l',(∀ t∈l',t∈l)→∃ f0,∀ f,f0≤f→∀ r,NoArg r→rdArgs f (toksL l'++r)=some (l',r):=by
   intro l'
   induction l' with
   | nil =>
    intro _
    refine ⟨1,fun f hf r hr=>?_⟩
    obtain ⟨f,rfl⟩:∃ g,f=g+1:=⟨f - 1,by omega⟩
    simp only [toksL,List.nil_append]
    cases r with
    | nil=>simp [rdArgs]
    | cons s r=>simp only [rdArgs,hr.1,hr.2,Bool.false_eq_true,or_self,if_false]
   | cons x l' ihl =>
    intro hsub
    obtain ⟨f1,h1⟩:=ih x (hsub x (by simp)) (hg x (hsub x (by simp)))
    obtain ⟨f2,h2⟩:=ihl fun t ht=>hsub t (by simp [ht])
    refine ⟨max f1 f2+1,fun f hf r hr=>?_⟩
    obtain ⟨f,rfl⟩:∃ g,f=g+1:=⟨f - 1,by omega⟩
    have h3:=(h1 f (by omega)).1 (toksL l'++r)
    have h4:=h2 f (by omega) r hr
    obtain ⟨s,q,hs,hcs⟩:∃ s q,toks x 2=s::q∧(isN s=true∨s=opT):=by
     have hx:=hg x (hsub x (by simp))
     obtain ⟨xn,xl⟩:=x
     rw [good_mk] at hx
     by_cases hxa:xn=arrowN∧xl.length=2
     ·exact ⟨opT,toksAr xl++[clT],by simp only [toks,if_pos hxa,if_pos (show 0 < 2 by omega)],.inr rfl⟩
     ·by_cases hx0:0 < xl.length
      ·exact ⟨opT,bL xn::toksL xl++[clT],by simp only [toks,if_neg hxa,hx0,and_true,if_pos (show 1 < 2 by omega)],.inr rfl⟩
      ·refine ⟨bL xn,toksL xl,by simp only [toks,if_neg hxa,hx0,and_false,if_false],.inl ?_⟩
       have hxne:xn≠arrowN:=by
        rintro rfl
        have h5:=hx.1
        rw [node_eq,if_pos rfl] at h5
        simp only [decide_eq_true_eq] at h5;omega
       unfold isN;rw [toB_bL]
       rcases node_cases hx.1 hxne with h | h <;> simp [h]
    simp only [toksL,List.append_assoc]
    rw [hs] at h3 ⊢
    simp only [List.cons_append] at h3 ⊢;simp only [rdArgs,hcs,if_true,h3,h4]
  obtain ⟨fl,hfl⟩:=hargs l fun _ h=>h
  have h1:∀ f,fl+2≤f→∀ r,NoArg r→rdApplied f (bL n::toksL l++r)=some (.mk n l,r):=by
   intro f hf r hr
   obtain ⟨f,rfl⟩:∃ g,f=g+1:=⟨f - 1,by omega⟩
   simp only [List.cons_append,rdApplied,toB_bL]
   rcases hnc with ⟨h3,h4,rfl⟩ | h3
   ·simp only [h4,Bool.false_eq_true,if_false]
    obtain ⟨f,rfl⟩:∃ g,f=g+1:=⟨f - 1,by omega⟩
    simp only [rdAlone,hnn,if_true,toB_bL,toksL,List.nil_append]
   ·simp only [h3,if_true]
    rw [hfl f (by omega) r hr]
  have h0:∀ f,fl+3≤f→∀ r,NoArg r→NoAr r→rdWhole f (bL n::toksL l++r)=some (.mk n l,r):=by
   intro f hf r hr1 hr2
   obtain ⟨f,rfl⟩:∃ g,f=g+1:=⟨f - 1,by omega⟩
   simp only [rdWhole]
   rw [h1 f (by omega) r hr1]
   cases r with
   | nil=>rfl
   | cons s r=>simp only [if_neg (show s≠arT from hr2)]
  refine ⟨fl+4,fun f hf=>⟨fun r=>?_,fun r hr=>?_,fun r hr1 hr2=>?_⟩⟩
  ·obtain ⟨f,rfl⟩:∃ g,f=g+1:=⟨f - 1,by omega⟩
   by_cases hl0:0 < l.length
   ·simp only [toks,if_neg hna,hl0,and_true,if_pos (show 1 < 2 by omega),List.cons_append];simp only [rdAlone,isN_op,Bool.false_eq_true,if_false,if_true]
    have h3:=h0 f (by omega) (clT::r) (na_cl _) (nr_cl _)
    simp only [List.cons_append] at h3
    rw [List.append_assoc,List.cons_append,List.nil_append,h3]
    simp
   ·have hl1:l=[]:=by
                have:l.length=0:=by omega
                simpa using this
    subst hl1
    simp only [toks,List.length_nil,Nat.lt_irrefl,and_false,if_false,toksL,List.cons_append,List.nil_append,show ¬ (0=2) by omega];simp only [rdAlone,hnn,if_true,toB_bL]
  ·simp only [toks,if_neg hna,Nat.lt_irrefl,false_and,if_false]
   exact h1 f (by omega) r hr
  ·simp only [toks,if_neg hna,show ¬ 1 < 0 by omega,false_and,if_false]
   exact h0 f (by omega) r hr1 hr2
theorem key_inj {a b a' b':Ty} (ha:a.good=true) (hb:b.good=true) (ha':a'.good=true) (hb':b'.good=true) (h:keyN a b=keyN a' b'):a=a'∧b=b':=by
 have hl:∀ a b:Ty,a.good=true→b.good=true→lex (bL (keyN a b))=toks a 0++([59]::toks b 0):=by
  intro a b ha hb
  unfold keyN
  rw [bL_append,bL_append,List.append_assoc,text_nolen ha _ (by exact tail_no59)]
  have e:bL seS=[59]:=rfl
  rw [e,List.cons_append,List.nil_append,lex_se]
  have h2:=text_nolen (k:=0) hb [] trivial
  rw [List.append_nil] at h2
  rw [h2];simp [lex]
 have h1:=hl a b ha hb
 rw [h,hl a' b' ha' hb'] at h1
 obtain ⟨f1,g1⟩:=rd_ok ha
 obtain ⟨f2,g2⟩:=rd_ok ha'
 obtain ⟨f3,g3⟩:=rd_ok hb
 obtain ⟨f4,g4⟩:=rd_ok hb'
 have k1:=(g1 (max f1 f2) (by omega)).2.2 ([59]::toks b 0) (na_se _) (nr_se _)
 have k2:=(g2 (max f1 f2) (by omega)).2.2 ([59]::toks b' 0) (na_se _) (nr_se _)
 rw [h1,k1] at k2
 simp only [Option.some.injEq,Prod.mk.injEq,List.cons.injEq,true_and] at k2
 have k3:=(g3 (max f3 f4) (by omega)).2.2 [] trivial trivial
 have k4:=(g4 (max f3 f4) (by omega)).2.2 [] trivial trivial
 rw [k2.2,k4] at k3
 simp only [Option.some.injEq,Prod.mk.injEq,and_true] at k3
 exact ⟨k2.1,k3.symm⟩
def valL (l:List UInt8):Nat:=l.foldl (fun a c=>10 * a+(c.toNat - 48)) 0
theorem byteS_bL (d:Nat):bL (byteS d)=[UInt8.ofNat d]:=rfl
theorem val_dec (n:Nat):valL (bL (decS n))=n:=by
 induction n using Nat.strongRecOn with
 | _ n ih =>
 rw [decS]
 split
 ·rename_i h
  rw [byteS_bL]
  simp only [valL,List.foldl_cons,List.foldl_nil,UInt8.toNat_ofNat']
  omega
 ·rename_i h
  have h1:=ih (n / 10) (by omega)
  rw [bL_append,byteS_bL]
  simp only [valL,List.foldl_append,List.foldl_cons,List.foldl_nil,UInt8.toNat_ofNat'] at h1 ⊢
  rw [h1];omega
theorem dec_inj {n m:Nat} (h:decS n=decS m):n=m:=by rw [←val_dec n,h,val_dec]
theorem dec_digits (n:Nat):bL (decS n)≠[]∧∀ c∈bL (decS n),digitB c=true:=by
 induction n using Nat.strongRecOn with
 | _ n ih =>
 have hb:∀ d,d < 10→digitB (UInt8.ofNat (48+d))=true:=by
  intro d hd
  simp only [digitB,UInt8.toNat_ofNat',Bool.and_eq_true,decide_eq_true_eq]
  omega
 rw [decS]
 split
 ·rename_i h
  rw [byteS_bL]
  exact ⟨by simp,by simp only [List.mem_singleton,forall_eq];exact hb n h⟩
 ·rename_i h
  have h1:=ih (n / 10) (by omega)
  rw [bL_append,byteS_bL]
  refine ⟨by simp,fun c hc=>?_⟩
  rcases List.mem_append.1 hc with hc | hc
  ·exact h1.2 c hc
  ·simp only [List.mem_singleton] at hc;subst hc;exact hb _ (by omega)
theorem dec_len {n:Nat} (h:n < 1000):(bL (decS n)).length≤3:=by
 have h1:∀ n,n < 10→(bL (decS n)).length≤1:=by
  intro n hn;rw [decS,if_pos hn,byteS_bL];simp
 have h2:∀ n,n < 100→(bL (decS n)).length≤2:=by
  intro n hn
  rw [decS]
  split
  ·rw [byteS_bL];simp
  ·have:=h1 (n / 10) (by omega);rw [bL_append,byteS_bL];simp;omega
 rw [decS]
 split
 ·rw [byteS_bL];simp
 ·have:=h2 (n / 10) (by omega);rw [bL_append,byteS_bL];simp;omega
theorem small_of {s:ByteArray} {c:UInt8} {l:List UInt8} (hs:bL s=c::l) (hc:smallB c=true) (hl:l.length≤15) (hd:∀ x∈l,digitB x=true):smallN s=true:=by
 have hsz:s.size=l.length+1:=by rw [ba_size];show (bL s).length=_;rw [hs];simp
 have hrun:runB s=true:=by
  simp only [runB,Bool.and_eq_true,decide_eq_true_eq,List.all_eq_true]
  refine ⟨⟨by omega,by omega⟩,fun x hx=>?_⟩
  change x∈bL s at hx
  rw [hs] at hx
  rcases List.mem_cons.1 hx with rfl | hx
  ·simp [tailB,letterB,hc]
  ·simp [tailB,hd x hx]
 have hhead:headP smallB s=true:=by
  unfold headP
  have:s.data.toList[0]?=some c:=by show (bL s)[0]?=_;rw [hs];rfl
  rw [this];exact hc
 have hw:wordsB.any (fun w=>decide (w=s))=false:=by
  rw [List.any_eq_false]
  intro w hw
  rw [decide_eq_true_eq]
  rintro rfl
  have h2:∀ w∈wordsB,∃ a b r,bL w=a::b::r∧digitB b=false:=by
   intro w hw
   simp only [wordsB,List.mem_cons,List.not_mem_nil,or_false] at hw
   rcases hw with rfl | rfl | rfl | rfl | rfl | rfl | rfl | rfl | rfl | rfl | rfl | rfl | rfl <;> exact ⟨_,_,_,rfl,by decide⟩
  obtain ⟨a,b,r,h3,h4⟩:=h2 w hw
  rw [hs] at h3
  simp only [List.cons.injEq] at h3
  have:=hd b (by rw [h3.2];simp)
  rw [h4] at this;cases this
 simp [smallN,hrun,hhead,hw]
theorem vN_bL (i:Nat):bL (vN i)=118::bL (decS i):=by unfold vN;rw [bL_append];rfl
theorem vN_inj {i j:Nat} (h:vN i=vN j):i=j:=by
 have:=congrArg bL h
 rw [vN_bL,vN_bL] at this
 simp only [List.cons.injEq,true_and] at this
 exact dec_inj (bL_inj this)
theorem vN_small {i:Nat} (h:i < 1000):smallN (vN i)=true:=small_of (vN_bL i) (by decide) (by have:=dec_len h;omega) (dec_digits i).2
mutual
def VA (P:ByteArray→Prop):Ty→Prop
 | .mk n l=>if vr n=true then P n else VAL P l
def VAL (P:ByteArray→Prop):List Ty→Prop
 | []=>True
 | t::ts=>VA P t∧VAL P ts
end
theorem VAL_iff {P:ByteArray→Prop}:∀ {l:List Ty},VAL P l↔∀ t∈l,VA P t
 | []=>by simp [VAL]
 | t::ts=>by simp [VAL,VAL_iff (l:=ts)]
theorem VA_var {P:ByteArray→Prop} {n:ByteArray} {l:List Ty} (h:vr n=true):VA P (.mk n l)↔P n:=by rw [VA,if_pos h]
theorem VA_con {P:ByteArray→Prop} {n:ByteArray} {l:List Ty} (h:vr n=false):VA P (.mk n l)↔∀ t∈l,VA P t:=by rw [VA,if_neg (by simp [h]),VAL_iff]
mutual
theorem VA_mono {P Q:ByteArray→Prop} (h:∀ n,P n→Q n):∀ t,VA P t→VA Q t
 | .mk n l,ht=>by
  rw [VA] at ht ⊢
  split
  ·rename_i hv;rw [if_pos hv] at ht;exact h n ht
  ·rename_i hv;rw [if_neg hv] at ht;exact VAL_mono h l ht
theorem VAL_mono {P Q:ByteArray→Prop} (h:∀ n,P n→Q n):∀ l,VAL P l→VAL Q l
 | [],_=>trivial
 | t::ts,ht=>⟨VA_mono h t ht.1,VAL_mono h ts ht.2⟩
end
mutual
theorem sub_congr {θ ρ:Sub}:∀ t:Ty,VA (fun s=>θ s=ρ s) t→sub θ t=sub ρ t
 | .mk n l,h=>by
  rw [VA] at h
  by_cases hv:vr n=true
  ·rw [if_pos hv] at h;rw [sub_var hv,sub_var hv,h]
  ·rw [if_neg hv] at h
   rw [sub,sub,if_neg hv,if_neg hv,subL_congr l h]
theorem subL_congr {θ ρ:Sub}:∀ l:List Ty,VAL (fun s=>θ s=ρ s) l→subL θ l=subL ρ l
 | [],_=>rfl
 | t::ts,h=>by simp only [subL];rw [sub_congr t h.1,subL_congr ts h.2]
end
mutual
theorem VA_nodes {P:ByteArray→Prop}:∀ t:Ty,(∀ x∈t.nodes,x.isVar=true→P x.name)→VA P t
 | .mk n l,h=>by
  rw [VA]
  split
  ·rename_i hv;exact h (.mk n l) (by simp [Ty.nodes]) hv
  ·exact VAL_nodes l fun x hx=>h x (by simp [Ty.nodes,hx])
theorem VAL_nodes {P:ByteArray→Prop}:∀ l:List Ty,(∀ x∈nodesL l,x.isVar=true→P x.name)→VAL P l
 | [],_=>trivial
 | t::ts,h=>⟨VA_nodes t fun x hx=>h x (by simp [nodesL,hx]),VAL_nodes ts fun x hx=>h x (by simp [nodesL,hx])⟩
end
theorem nameStep_mem {out:List ByteArray} {t:Ty} {s:ByteArray}:s∈nameStep out t↔s∈out∨(t.isVar=true∧t.name=s):=by
 unfold nameStep
 by_cases hv:t.isVar=true
 ·rw [if_pos hv]
  split
  ·rename_i hm
   refine ⟨.inl,?_⟩
   rintro (h | ⟨_,rfl⟩)
   ·exact h
   ·exact memS_iff.1 hm
  ·simp [hv,eq_comm]
 ·rw [if_neg hv];simp [hv]
theorem fold_mem {s:ByteArray}:∀ {L:List Ty} {out:List ByteArray},s∈L.foldl nameStep out↔s∈out∨∃ x∈L,x.isVar=true∧x.name=s
 | [],out=>by simp
 | t::L,out=>by
  rw [List.foldl_cons,fold_mem,nameStep_mem]
  simp only [List.mem_cons,exists_eq_or_imp,or_assoc]
theorem names_mem {s:ByteArray} {l:List Ty}:s∈namesL l↔∃ x∈nodesL l,x.isVar=true∧x.name=s:=by
 unfold namesL;rw [fold_mem];simp
theorem VA_names (l:List Ty):∀ t∈l,VA (·∈namesL l) t:=VAL_iff.1 (VAL_nodes l fun x hx hv=>names_mem.2 ⟨x,hx,hv,rfl⟩)
theorem names_small {l:List Ty} (h:∀ t∈l,t.good=true):∀ s∈namesL l,smallN s=true:=by
 intro s hs
 obtain ⟨x,hx,hv,rfl⟩:=names_mem.1 hs
 have hx2:x.node=true:=by
  have key:∀ l:List Ty,(∀ t∈l,t.good=true)→∀ x∈nodesL l,x.node=true:=by
   intro l
   induction l with
   | nil=>intro _ x hx;simp [nodesL] at hx
   | cons t l ih =>
    intro h x hx
    simp only [nodesL,List.mem_append] at hx
    rcases hx with hx | hx
    ·exact List.all_eq_true.1 (h t (by simp)) x hx
    ·exact ih (fun y hy=>h y (by simp [hy])) x hx
  exact key l h x hx
 obtain ⟨n,k⟩:=x
 exact (node_var hx2 hv).2
theorem renM_look {l:List ByteArray} (hl:l.Nodup) {i:Nat} {s:ByteArray} (h:l[i]?=some s):lookT (renM l) s=some (.mk (letS i) []):=by
 have hil:i < l.length:=by
  rcases Nat.lt_or_ge i l.length with h' | h'
  ·exact h'
  ·simp [List.getElem?_eq_none h'] at h
 have hm:s∈(renM l).map (·.1):=by rw [renM_keys];exact List.mem_of_getElem? h
 obtain ⟨t,ht⟩:=lookT_some hm
 have h1:=lookT_mem ht
 unfold renM at h1
 simp only [List.mem_map] at h1
 obtain ⟨⟨x,j⟩,hq,he⟩:=h1
 simp only [Prod.mk.injEq] at he
 obtain ⟨rfl,rfl⟩:=he
 have h2:=List.mem_zipIdx_iff_getElem?.1 hq
 simp only at h2
 rw [(List.getElem?_inj hil hl).1 (h.trans h2.symm)]
 exact ht
mutual
theorem leaf_le {ρ:Sub} (h:∀ s,∃ n,ρ s=.mk n []):∀ t:Ty,(sub ρ t).cnt≤t.cnt∧(sub ρ t).depth≤t.depth
 | .mk n l=>by
  by_cases hv:vr n=true
  ·obtain ⟨m,hm⟩:=h n
   rw [sub_var hv,hm,cnt_mk,cnt_mk,Ty.depth,Ty.depth]
   simp [nodesL,depthL]
  ·rw [sub,if_neg hv,cnt_mk,cnt_mk,Ty.depth,Ty.depth]
   have:=leafL_le h l
   omega
theorem leafL_le {ρ:Sub} (h:∀ s,∃ n,ρ s=.mk n []):∀ l:List Ty,(nodesL (subL ρ l)).length≤(nodesL l).length∧depthL (subL ρ l)≤depthL l
 | []=>by simp [subL,nodesL,depthL]
 | t::ts=>by
  have h1:=leaf_le h t
  have h2:=leafL_le h ts
  simp only [subL,nodesL_cons,depthL]
  omega
end
theorem ren_leaf (l:List ByteArray):∀ s,∃ n,lsub (renM l) s=.mk n []:=by
 intro s
 unfold lsub
 cases h:lookT (renM l) s with
 | none=>exact ⟨s,rfl⟩
 | some t =>
  have:=lookT_mem h
  unfold renM at this
  simp only [List.mem_map] at this
  obtain ⟨q,_,he⟩:=this
  simp only [Prod.mk.injEq] at he
  exact ⟨_,he.2.symm⟩
abbrev Met:=List (ByteArray × ByteArray)
theorem vN_vr (i:Nat):vr (vN i)=true:=by
 unfold vr headP
 have:(vN i).data.toList[0]?=some 118:=by show (bL (vN i))[0]?=_;rw [vN_bL];rfl
 rw [this];decide
mutual
theorem com_good:∀ (a b:Ty) (m:Met),a.good=true→b.good=true→(∀ k v,lookG m k=some v→smallN v=true)→m.length+a.cnt≤999→(comT a b m).1.good=true∧∀ k v,lookG (comT a b m).2 k=some v→smallN v=true
 | .mk n l,.mk n' l',m,ha,hb,hm,hc=>by
  rw [comT]
  rw [cnt_mk] at hc
  split
  ·rename_i h
   obtain ⟨rfl,hl,hv⟩:=h
   have h1:=comL_good l l' m ((good_mk _ _).1 ha).2 ((good_mk _ _).1 hb).2 hm hl (by omega)
   refine ⟨(good_mk _ _).2 ⟨?_,h1.1⟩,h1.2⟩
   rw [node_len (l':=l) (comL_length l l' m hl)]
   exact ((good_mk _ _).1 ha).1
  ·split
   ·rename_i x hk
    exact ⟨(good_mk _ _).2 ⟨node_small (hm _ _ hk),by simp⟩,hm⟩
   ·rename_i hk
    refine ⟨(good_mk _ _).2 ⟨node_small (vN_small (by omega)),by simp⟩,fun k v h=>?_⟩
    rw [lookG_app] at h
    cases h2:lookG m k with
    | some y=>rw [h2] at h;simp at h;subst h;exact hm _ _ h2
    | none =>
     rw [h2,lookG_cons] at h
     split at h
     ·simp at h;subst h;exact vN_small (by omega)
     ·simp [lookG] at h
theorem comL_good:∀ (a b:List Ty) (m:Met),(∀ t∈a,t.good=true)→(∀ t∈b,t.good=true)→(∀ k v,lookG m k=some v→smallN v=true)→a.length=b.length→m.length+(nodesL a).length≤999 →
  (∀ t∈(comL a b m).1,t.good=true)∧∀ k v,lookG (comL a b m).2 k=some v→smallN v=true
 | a::xs,b::ys,m,ha,hb,hm,hl,hc=>by
  rw [nodesL_cons] at hc
  have h1:=com_good a b m (ha a (by simp)) (hb b (by simp)) hm (by omega)
  have h2:=comT_len a b m
  have h3:=comL_good xs ys _ (fun t ht=>ha t (by simp [ht])) (fun t ht=>hb t (by simp [ht])) h1.2 (by simpa using hl) (by omega)
  simp only [comL]
  refine ⟨fun t ht=>?_,h3.2⟩
  rcases List.mem_cons.1 ht with rfl | ht
  ·exact h1.1
  ·exact h3.1 t ht
 | [],_,m,_,_,hm,_,_=>by simpa [comL] using hm
 | _::_,[],m,_,_,hm,hl,_=>by simp at hl
end
end Go.Proofs.YtgeehnbbhnpimaaGreat
