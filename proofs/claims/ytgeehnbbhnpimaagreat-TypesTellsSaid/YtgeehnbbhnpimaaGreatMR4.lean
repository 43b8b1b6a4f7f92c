/- The reference's matching. -/
import Derived.Test.YtgeehnbbhnpimaaGreatMR3
import Derived.Test.YtgeehnbbhnpimaaGreatMW5
set_option linter.unusedVariables false
set_option linter.unusedSimpArgs false
namespace Go.Proofs.YtgeehnbbhnpimaaGreat
open Go Go.Abs Go.Proofs
set_option maxRecDepth 20000
attribute [local simp] aOps wantedA aStep aop aLoad aStore aBin aUn aFieldAddr aField aIndexAddr aIndex aLen aBuild aFill aAlloc aAppend aBuildSlice litRows newRows isMut isOwn isNilS nilsW bytesR tokW tokAV tokL ret readC splice aeval isLit isLate AV.celled AV.one AV.ofValue Value.oneCell' Value.cells intOp strOp get_nid upd_nid awp aEnd aResults aResult Det unord isCall isNext
attribute [local simp] low_take low_strs low_comp low_tcomp wkEs_refl' WkBs WkEnv WkB WkL WkE WkO ABlock.low lowO lowL lowR AV.low cellsL_eq Ty.low low_map Ty.cells_length Ty.cells_one
attribute [local simp] low_bind
mutual
def meT:Ty→Ty→TyM→Bool × TyM
 | .mk n l,t,m=>if headP smallB n then (match lookT m n with | some x=>(eqT x t,m) | none=>(true,putS m (n,t)))
   else if n=t.name∧l.length=t.args.length then meL l t.args m else (false,[])
def meL:List Ty→List Ty→TyM→Bool × TyM
 | p::ps,t::ts,m=>if (meT p t m).1 then meL ps ts (meT p t m).2 else (false,(meT p t m).2)
 | _,_,m=>(true,m)
end
theorem meL_append (a b c d:List Ty) (h:a.length=c.length) (m:TyM):meL (a++b) (c++d) m=if (meL a c m).1 then meL b d (meL a c m).2 else (false,(meL a c m).2):=by
 induction a generalizing c m with
 | nil=>cases c with
  | nil=>simp [meL]
  | cons=>simp at h
 | cons p ps ih=>cases c with
  | nil=>simp at h
  | cons t ts =>
   simp only [List.cons_append,meL]
   by_cases h1:(meT p t m).1=true
   ·simp only [h1,if_true];exact ih ts (by simpa using h) _
   ·simp [h1]
theorem meL_take {l l':List Ty} {k:Nat} {x y:Ty} (hl:l.length=l'.length) (hx:l[k]?=some x) (hy:l'[k]?=some y) (m:TyM) (h0:(meL (l.take k) (l'.take k) m).1=true) :
  meL (l.take (k+1)) (l'.take (k+1)) m=meT x y (meL (l.take k) (l'.take k) m).2:=by
 rw [take_one hx,take_one hy,meL_append _ _ _ _ (by simp [hl]),h0]
 simp only [if_true,meL]
 generalize meT x y (meL (l.take k) (l'.take k) m).2=r
 obtain ⟨c,d⟩:=r
 cases c <;> simp
theorem meL_false {l l':List Ty} {k:Nat} (hl:l.length=l'.length) (m:TyM) (h0:(meL (l.take k) (l'.take k) m).1=false):meL l l' m=meL (l.take k) (l'.take k) m:=by
 rw [←List.take_append_drop k l,←List.take_append_drop k l',meL_append _ _ _ _ (by simp [hl])]
 simp only [List.take_append_drop,h0,Bool.false_eq_true,if_false]
 rw [←h0]
theorem meL_n {l l':List Ty} (hl:l.length=l'.length) (m:TyM):∃ n,n≤l.length∧(∀ k,k < n→(meL (l.take k) (l'.take k) m).1=true)∧(n=l.length∨(meL (l.take n) (l'.take n) m).1=false)∧meL (l.take n) (l'.take n) m=meL l l' m:=by
 have key:∀ N,N≤l.length→∃ n,n≤N∧(∀ k,k < n→(meL (l.take k) (l'.take k) m).1=true)∧(n=N∨(meL (l.take n) (l'.take n) m).1=false):=by
  intro N
  induction N with
  | zero=>exact fun _=>⟨0,Nat.le_refl _,fun k hk=>by omega,.inl rfl⟩
  | succ N ih =>
   intro hN
   obtain ⟨n,h1,h2,h3⟩:=ih (by omega)
   by_cases hf:(meL (l.take n) (l'.take n) m).1=true
   ·rcases h3 with rfl | h3
    ·refine ⟨n+1,Nat.le_refl _,fun k hk=>?_,.inl rfl⟩
     rcases Nat.lt_or_ge k n with h | h
     ·exact h2 k h
     ·obtain rfl:k=n:=by omega
      exact hf
    ·rw [h3] at hf;cases hf
   ·exact ⟨n,by omega,h2,.inr (by simpa using hf)⟩
 obtain ⟨n,h1,h2,h3⟩:=key l.length (Nat.le_refl _)
 refine ⟨n,h1,h2,h3,?_⟩
 rcases h3 with rfl | h3
 ·rw [List.take_length,hl,List.take_length]
 ·exact (meL_false hl m h3).symm
mutual
theorem meT_bnd:∀ (p t:Ty) (m:TyM),t.cnt < 1099511627776→bndM m→bndM (meT p t m).2
 | .mk n l,t,m,ht,hm=>by
  rw [meT]
  split
  ·split
   ·exact hm
   ·intro p hp
    rcases putS_mem hp with hp | rfl
    ·exact hm p hp
    ·exact ht
  ·split
   ·refine meL_bnd l t.args m ?_ hm
    intro x hx
    obtain ⟨n',l'⟩:=t
    obtain ⟨k,hk⟩:=List.getElem?_of_mem hx
    have:x.cnt≤(nodesL l').length:=cnt_mem hk
    have h2:(Ty.mk n' l').cnt=(nodesL l').length+1:=by simp [Ty.cnt,Ty.nodes]
    omega
   ·intro p hp;cases hp
theorem meL_bnd:∀ (l l':List Ty) (m:TyM),(∀ x∈l',x.cnt < 1099511627776)→bndM m→bndM (meL l l' m).2
 | [],_,m,_,hm=>by simp only [meL];exact hm
 | p::ps,[],m,_,hm=>by simp only [meL];exact hm
 | p::ps,t::ts,m,ht,hm=>by
  simp only [meL]
  split
  ·exact meL_bnd ps ts _ (fun x hx=>ht x (by simp [hx])) (meT_bnd p t m (ht t (by simp)) hm)
  ·exact meT_bnd p t m (ht t (by simp)) hm
end
mutual
theorem meT_len:∀ (p t:Ty) (m:TyM),(meT p t m).2.length≤m.length+p.cnt
 | .mk n l,t,m=>by
  have hc:(Ty.mk n l).cnt=(nodesL l).length+1:=by simp [Ty.cnt,Ty.nodes]
  rw [meT]
  split
  ·split
   ·simp
   ·simp only [putS_len];omega
  ·split
   ·have:=meL_len l t.args m;omega
   ·simp
theorem meL_len:∀ (l l':List Ty) (m:TyM),(meL l l' m).2.length≤m.length+(nodesL l).length
 | [],_,m=>by simp [meL]
 | p::ps,[],m=>by simp [meL]
 | p::ps,t::ts,m=>by
  have h1:=meT_len p t m
  have h2:=meL_len ps ts (meT p t m).2
  simp only [meL,nodesL,List.length_append]
  unfold Ty.cnt at h1
  split
  ·omega
  ·simp only;omega
end
theorem meet_c:∀ (p t:Ty) (m:TyM) (H:AHeap),t.cnt < 1099511627776→bndM m→m.length+p.cnt < 1099511627776 →
  ACalls Tryz.prog 110 [p.enc,t.enc,.slice (m.map bindC) none] H (.tuple [.slice ((meT p t m).2.map bindC) none,boolV (meT p t m).1]) H:=by
 intro p
 induction p using Ty.ind with
 | h n l ih =>
 intro t m H ht hm hml
 have hcnt:(Ty.mk n l).cnt=(nodesL l).length+1:=by simp [Ty.cnt,Ty.nodes]
 have hll:=nodesL_len l
 have hvc:=rIsVar_c (.mk n l)
 have hcl2:=clone_c t ht
 have hput:=rput_c m (n,t) (by omega)
 have hsame:=fun (k:Nat) (x:ByteArray × Ty) (h:m[k]?=some x)=>same_c x.2 t (by have:=hm x (List.mem_of_getElem? h);omega)
 have he:meT (.mk n l) t m=if headP smallB n then (match lookT m n with | some x=>(eqT x t,m) | none=>(true,putS m (n,t))) else if n=t.name∧l.length=t.args.length then meL l t.args m else (false,[]):=by rw [meT]
 generalize hres:meT (.mk n l) t m=res at he
 obtain ⟨tn,tl⟩:=t
 simp only [enc_mk] at hvc hcl2 hsame
 have e1:(Ty.mk tn tl).name=tn:=rfl
 have e2:(Ty.mk tn tl).args=tl:=rfl
 rw [e1,e2] at he
 rw [bind_mk] at hput
 refine acalls_walk (fun _=>.imm) [0,1,2,3,4,6,7,8,9,10,12,16,26,55,63] Tryz.mixed Tryz.func110 rfl rfl rfl (by decide) (fun hcl hlow=>?_)
 simp only [enc_mk];refine awp_sr fun K hK=>?_;simp;apply hK;clear hK K;repeat with_reducible refine awp_assoc ?_
 refine awp_sr fun K hK=>?_;refine aOps_split 1 fun K hK=>?_;simp;apply hK;clear hK K;refine aOps_call (hvc _) (by first | rfl | simp) rfl rfl (by first | (simp;done) | rfl) ?_;simp;apply hK;clear hK K
 cases hv:(Ty.mk n l).isVar
 rotate_left
 ·have hv':headP smallB n=true:=hv
  rw [if_pos hv'] at he
  refine awp_seq_k fun K hK=>?_;refine awp_condT rfl (by simp [hv]) ?_;repeat with_reducible refine awp_assoc ?_
  refine awp_sr fun K hK=>?_;simp;apply hK;clear hK K;refine awp_seq_k fun K hK=>?_;refine awp_block ?_
  refine awp_up m.length (fun k=>Env.ofL [(2,.slice (m.map bindC) none),(3,.ref (nid H.next 0) 0),(4,.ref (nid H.next 1) 0),(6,.v (.slice none 0 0)),(7,boolV false),(8,intV k)]) (fun k=>HL (H) [.cells [strV n,.slice (l.map Ty.cells) none],.cells [strV tn,.slice (tl.map Ty.cells) none]]) (fun k=>∀ q∈m.take k,¬ q.1=n) (weak_HL (hcl) (by simp) ?_ ?_) ?_ (fun k hk hi=>?_) (fun hi=>?_)
  ·simp
  ·simp
  ·simp
  ·obtain ⟨x,hx⟩:∃ x,m[k]?=some x:=⟨_,List.getElem?_eq_getElem hk⟩
   have hsx:=hsame k x hx
   obtain ⟨xs,⟨xn,xl⟩⟩:=x
   simp only [enc_mk] at hsx;repeat with_reducible refine awp_assoc ?_
   refine awp_sr fun K hK=>?_;simp [hk];apply hK;clear hK K;refine awp_seq_k fun K hK=>?_;refine awp_condT rfl (by simp) ?_;refine awp_skip ?_;apply hK;clear hK K;refine awp_seq_k fun K hK=>?_;refine awp_block ?_
   refine awp_sd [] [[],[0],[],[],[],[0,1,2,3,4],[0,1,2,3,4],[0,1]] (by kernel_rfl) fun K hK=>?_
   refine aLex_pre 8 rfl fun K hK=>?_;simp [hx,bind_mk]
   refine hK _ ?_
   clear hK K;refine aLex_end ?_;simp;apply hK;clear hK K
   by_cases hs:xs=n
   ·refine awp_condT rfl (by simp [hs]) ?_
    rw [look_first hi hx hs] at he
    refine awp_sd [] [[],[0],[0,1],[0],[0],[0],[0,1,2,3,4,5],[0,1,2],[1,2,3],[]] (by kernel_rfl) fun K hK=>?_
    refine aLex_pre 7 rfl fun K hK=>?_;simp [hx,bind_mk]
    refine hK _ ?_
    clear hK K;refine aLex_call0 (hsx _) (by first | rfl | simp) rfl rfl rfl ?_;refine aLex_pre 2 rfl fun K hK=>?_;simp
    refine hK _ ?_
    clear hK K;refine aLex_end ?_;simp;apply hK;clear hK K
    rw [he]
    simp [reset_all hcl]
   ·refine awp_condF rfl (by simp [hs]) ?_;refine awp_skip ?_;apply hK;clear hK K;refine awp_region ?_;simp [wrap_succ (show k < 4611686018427387904 by omega)]
    refine ⟨fun a b hy=>?_,?_⟩
    ·rw [take_one hx] at hy
     simp only [List.mem_append,List.mem_singleton,Prod.mk.injEq] at hy
     rcases hy with hy | ⟨rfl,rfl⟩
     ·exact hi (a,b) hy
     ·exact hs
    ·refine weak_HL (hcl) (by simp) (by simp) (by simp)
  ·repeat with_reducible refine awp_assoc ?_
   refine awp_sr fun K hK=>?_;simp;apply hK;clear hK K;refine awp_seq_k fun K hK=>?_;refine awp_condF rfl (by simp) ?_;refine awp_exit ?_;simp;clear hK K;apply hK;clear hK K
   rw [List.take_length] at hi
   rw [look_no hi] at he
   simp only at he
   refine awp_sd [] [[],[0],[0],[0,1,2],[0,1,2],[0],[],[],[]] (by kernel_rfl) fun K hK=>?_
   refine aLex_pre 4 rfl fun K hK=>?_;simp
   refine hK _ ?_
   clear hK K;refine aLex_call0 (hcl2 _) (by first | rfl | simp) rfl rfl rfl ?_;refine aLex_pre 1 rfl fun K hK=>?_;simp
   refine hK _ ?_
   clear hK K;refine aLex_call0 (hput _) (by first | rfl | simp) rfl rfl rfl ?_;refine aLex_pre 2 rfl fun K hK=>?_;simp
   refine hK _ ?_
   clear hK K;refine aLex_end ?_;simp;apply hK;clear hK K
   rw [he]
   simp [reset_all hcl]
 have hv':¬ headP smallB n=true:=by rw [show headP smallB n=(Ty.mk n l).isVar from rfl,hv];simp
 rw [if_neg hv'] at he
 refine awp_seq_k fun K hK=>?_;refine awp_condF rfl (by simp [hv]) ?_;refine awp_skip ?_;apply hK;clear hK K
 by_cases hn:n=tn
 rotate_left
 ·rw [if_neg (by simp [hn])] at he
  repeat with_reducible refine awp_assoc ?_
  refine awp_sr fun K hK=>?_;refine aOps_split 6 fun K hK=>?_;simp [hn];apply hK;clear hK K;refine aOps_split 8 fun K hK=>?_;simp;apply hK;clear hK K;simp;apply hK;clear hK K;refine awp_seq_k fun K hK=>?_;refine awp_condT rfl (by simp) ?_;refine awp_sr fun K hK=>?_;simp;apply hK;clear hK K
  rw [he]
  simp [reset_all hcl]
  exact Wk.tuple ⟨Wk.nilSlice,.refl _,trivial⟩
 subst hn
 by_cases hlen:l.length=tl.length
 rotate_left
 ·rw [if_neg (by simp [hlen])] at he
  repeat with_reducible refine awp_assoc ?_
  refine awp_sr fun K hK=>?_;refine aOps_split 6 fun K hK=>?_;simp;apply hK;clear hK K;refine aOps_split 8 fun K hK=>?_;simp [show ¬ (l.length:Int)=tl.length by omega];apply hK;clear hK K;simp;apply hK;clear hK K;refine awp_seq_k fun K hK=>?_;refine awp_condT rfl (by simp) ?_;refine awp_sr fun K hK=>?_;simp;apply hK;clear hK K
  rw [he]
  simp [reset_all hcl]
  exact Wk.tuple ⟨Wk.nilSlice,.refl _,trivial⟩
 rw [if_pos ⟨rfl,hlen⟩] at he
 obtain ⟨N,hN1,hN2,hN3,hN4⟩:=meL_n hlen m
 have ht':∀ x∈tl,x.cnt < 1099511627776:=by
  intro x hx
  obtain ⟨k,hk⟩:=List.getElem?_of_mem hx
  have:x.cnt≤(nodesL tl).length:=cnt_mem hk
  have h2:(Ty.mk n tl).cnt=(nodesL tl).length+1:=by simp [Ty.cnt,Ty.nodes]
  omega
 repeat with_reducible refine awp_assoc ?_
 refine awp_sr fun K hK=>?_;refine aOps_split 6 fun K hK=>?_;simp;apply hK;clear hK K;refine aOps_split 8 fun K hK=>?_;simp [hlen];apply hK;clear hK K;simp;apply hK;clear hK K;refine awp_seq_k fun K hK=>?_;refine awp_condF rfl (by simp [hlen]) ?_;refine awp_skip ?_;apply hK;clear hK K;refine awp_sr fun K hK=>?_;simp;apply hK;clear hK K;repeat with_reducible refine awp_assoc ?_
 refine awp_sr fun K hK=>?_;simp;apply hK;clear hK K
 have hok0:boolV true=boolV (meL (l.take 0) (tl.take 0) m).1:=by simp [meL]
 refine awp_seq_k fun K hK=>?_;refine awp_block ?_
 refine awp_up N (fun k=>Env.ofL [(2,.slice ((meL (l.take k) (tl.take k) m).2.map bindC) none),(3,.ref (nid H.next 0) 0),(4,.ref (nid H.next 1) 0),(9,boolV (meL (l.take k) (tl.take k) m).1),(10,intV k)]) (fun k=>HL (H) [.cells [strV n,.slice (l.map Ty.cells) none],.cells [strV n,.slice (tl.map Ty.cells) none]]) (fun k=>True) (weak_HL (hcl) (by simp) ?_ ?_) ?_ (fun k hk hi=>?_) (fun hi=>?_)
 ·simp [meL]
 ·simp [meL]
 ·trivial
 ·have hkl:k < l.length:=by omega
  have hok:=hN2 k hk
  obtain ⟨x,hx⟩:∃ x,l[k]?=some x:=⟨_,List.getElem?_eq_getElem hkl⟩
  obtain ⟨y,hy⟩:∃ y,tl[k]?=some y:=⟨_,List.getElem?_eq_getElem (by omega)⟩
  have e1:=meL_take hlen hx hy m hok
  have hbk:=meL_bnd (l.take k) (tl.take k) m (fun x hx=>ht' x (List.mem_of_mem_take hx)) hm
  have hlk:=meL_len (l.take k) (tl.take k) m
  have hnk:(nodesL (l.take k)).length+x.cnt≤(nodesL l).length:=by
   have h1:=congrArg List.length (nodesL_take hx)
   have h2:nodesL l=nodesL (l.take (k+1))++nodesL (l.drop (k+1)):=by rw [←nodesL_append,List.take_append_drop]
   have h3:=congrArg List.length h2
   rw [List.length_append] at h1 h3;simp only [Ty.cnt];omega
  have hc:=ih x (List.mem_of_getElem? hx) y (meL (l.take k) (tl.take k) m).2 (HL H [.cells [strV n,.slice (l.map Ty.cells) none],.cells [strV n,.slice (tl.map Ty.cells) none]]) (ht' y (List.mem_of_getElem? hy)) hbk (by omega)
  rw [←e1] at hc
  generalize hr:meL (l.take k) (tl.take k) m=rk at hok hc ⊢
  generalize hr':meL (l.take (k+1)) (tl.take (k+1)) m=rk' at hc ⊢
  obtain ⟨xn,xl⟩:=x
  obtain ⟨yn,yl⟩:=y
  simp only [enc_mk] at hc;repeat with_reducible refine awp_assoc ?_
  refine awp_sr fun K hK=>?_;simp [hkl,hok];apply hK;clear hK K;refine awp_seq_k fun K hK=>?_;refine awp_condT rfl (by simp) ?_;refine awp_skip ?_;apply hK;clear hK K;refine awp_seq_k fun K hK=>?_;refine awp_block ?_
  refine awp_draw [] [[],[],[0,1],[],[],[0,1,2,3,4],[0,1,2,3,4],[0,1,2,3,4,5,6],[0,1,2,3,4],[0,1,2,3,4],[0,1,2,3,4,5,6,7,8,9],[0,5],[0,1,2,5,6,7],[0,1,2,3,5,6,7,8],[0,1,2,3,5,6,7,8,13],[14],[]] (by kernel_rfl) ?_
  refine aLex_pre 6 rfl fun K hK=>?_;simp [hx,hy,Ty.cells]
  refine hK _ ?_
  clear hK K;refine aLex_pre 5 rfl fun K hK=>?_;simp [hx,hy,Ty.cells]
  refine hK _ ?_
  clear hK K;refine aLex_call0 (hc) (by first | rfl | simp) rfl rfl rfl ?_;refine aLex_pre 5 rfl fun K hK=>?_;simp
  refine hK _ ?_
  clear hK K;refine aLex_end ?_;simp;apply hK;clear hK K;refine awp_region ?_;simp [wrap_succ (show k < 4611686018427387904 by omega)]
  refine weak_HL (hcl) (by simp) (by simp) (by simp)
 ·rw [hN4] at hN3
  rw [hN4]
  rcases hN3 with rfl | hN3
  ·repeat with_reducible refine awp_assoc ?_
   refine awp_sr fun K hK=>?_;simp;apply hK;clear hK K;refine awp_seq_k fun K hK=>?_;refine awp_condF rfl (by simp) ?_;refine awp_exit ?_;simp;clear hK K;apply hK;clear hK K;refine awp_sr fun K hK=>?_;simp;apply hK;clear hK K
   rw [he]
   simp [reset_all hcl]
  ·by_cases hNl:N < l.length
   ·repeat with_reducible refine awp_assoc ?_
    refine awp_sr fun K hK=>?_;simp [hN3,hNl];apply hK;clear hK K;refine awp_seq_k fun K hK=>?_;refine awp_condF rfl (by simp) ?_;refine awp_exit ?_;simp;clear hK K;apply hK;clear hK K;refine awp_sr fun K hK=>?_;simp;apply hK;clear hK K
    rw [he]
    simp [hN3,reset_all hcl]
   ·repeat with_reducible refine awp_assoc ?_
    refine awp_sr fun K hK=>?_;simp [hN3,hNl];apply hK;clear hK K;refine awp_seq_k fun K hK=>?_;refine awp_condF rfl (by simp) ?_;refine awp_exit ?_;simp;clear hK K;apply hK;clear hK K;refine awp_sr fun K hK=>?_;simp;apply hK;clear hK K
    rw [he]
    simp [hN3,reset_all hcl]
theorem Matched_c (p t:Ty) (hp:p.cnt < 1099511627776) (ht:t.cnt < 1099511627776) (H:AHeap):ACalls Tryz.prog 73 [p.enc,t.enc] H (.tuple [.slice ((meT p t []).2.map bindC) none,boolV (meT p t []).1]) H:=by
 have hm:=fun H=>meet_c p t [] H ht (fun _ h=>by cases h) (by simpa using hp)
 generalize meT p t []=r at hm ⊢
 obtain ⟨n,l⟩:=p
 obtain ⟨tn,tl⟩:=t
 simp only [enc_mk,List.map_nil] at hm
 refine acalls_walk (fun _=>.imm) [0,1,2,3,4,5] Tryz.mixed Tryz.func73 rfl rfl rfl (by decide) (fun hcl hlow=>?_)
 simp only [enc_mk];refine awp_sr fun K hK=>?_;simp;apply hK;clear hK K;refine awp_sr fun K hK=>?_;refine aOps_split 2 fun K hK=>?_;simp;apply hK;clear hK K;refine aOps_callW (hm _) (by first | rfl | simp) rfl rfl ⟨.refl _,.refl _,Wk.nilSlice,trivial⟩ ?_;simp;apply hK;clear hK K;simp [reset_all hcl]
def meetV (p t:Ty):TyM × Int:=if p.valid=0 then (if t.valid=0 then (if (meT p t []).1 then ((meT p t []).2,0) else ([],8)) else ([],t.valid)) else ([],p.valid)
theorem rMatch_c (p t:Ty) (H:AHeap):ACalls Tryz.prog 32 [p.enc,t.enc] H (.tuple [.slice ((meetV p t).1.map bindC) none,intV (meetV p t).2]) H:=by
 have hvp:=rValidate_c p
 have hvt:=rValidate_c t
 have hm:=fun (h1:p.valid=0) (h2:t.valid=0)=>Matched_c p t (by have:=large_cnt (Ty.not_large h1);omega) (by have:=large_cnt (Ty.not_large h2);omega)
 have he:meetV p t=if p.valid=0 then (if t.valid=0 then (if (meT p t []).1 then ((meT p t []).2,0) else ([],8)) else ([],t.valid)) else ([],p.valid):=rfl
 generalize meetV p t=res at he ⊢
 generalize meT p t []=r at hm he
 obtain ⟨n,l⟩:=p
 obtain ⟨tn,tl⟩:=t
 simp only [enc_mk] at hm hvp hvt
 refine acalls_walk (fun _=>.imm) [0,1,2,3,4,5,6,7,8,9,13,18,27] Tryz.mixed Tryz.func32 rfl rfl rfl (by decide) (fun hcl hlow=>?_)
 simp only [enc_mk];refine awp_sr fun K hK=>?_;simp;apply hK;clear hK K;repeat with_reducible refine awp_assoc ?_
 refine awp_sr fun K hK=>?_;refine aOps_split 1 fun K hK=>?_;simp;apply hK;clear hK K;refine aOps_call (hvp _) (by first | rfl | simp) rfl rfl rfl ?_;simp;apply hK;clear hK K
 by_cases h1:(Ty.mk n l).valid=0
 rotate_left
 ·rw [if_neg h1] at he
  repeat with_reducible refine awp_assoc ?_
  refine awp_sr fun K hK=>?_;simp [h1];apply hK;clear hK K;refine awp_seq_k fun K hK=>?_;refine awp_condT rfl (by simp [h1]) ?_;refine awp_sr fun K hK=>?_;simp;apply hK;clear hK K
  rw [he]
  simp [reset_all hcl]
  exact Wk.tuple ⟨Wk.nilSlice,.refl _,trivial⟩
 rw [if_pos h1] at he
 repeat with_reducible refine awp_assoc ?_
 refine awp_sr fun K hK=>?_;simp [h1];apply hK;clear hK K;refine awp_seq_k fun K hK=>?_;refine awp_condF rfl (by simp) ?_;refine awp_skip ?_;apply hK;clear hK K;repeat with_reducible refine awp_assoc ?_
 refine awp_sr fun K hK=>?_;refine aOps_split 1 fun K hK=>?_;simp;apply hK;clear hK K;refine aOps_call (hvt _) (by first | rfl | simp) rfl rfl rfl ?_;simp;apply hK;clear hK K
 by_cases h2:(Ty.mk tn tl).valid=0
 rotate_left
 ·rw [if_neg h2] at he
  repeat with_reducible refine awp_assoc ?_
  refine awp_sr fun K hK=>?_;simp [h2];apply hK;clear hK K;refine awp_seq_k fun K hK=>?_;refine awp_condT rfl (by simp [h2]) ?_;refine awp_sr fun K hK=>?_;simp;apply hK;clear hK K
  rw [he]
  simp [reset_all hcl]
  exact Wk.tuple ⟨Wk.nilSlice,.refl _,trivial⟩
 rw [if_pos h2] at he
 repeat with_reducible refine awp_assoc ?_
 refine awp_sr fun K hK=>?_;simp [h2];apply hK;clear hK K;refine awp_seq_k fun K hK=>?_;refine awp_condF rfl (by simp) ?_;refine awp_skip ?_;apply hK;clear hK K;refine awp_sr fun K hK=>?_;refine aOps_split 2 fun K hK=>?_;simp;apply hK;clear hK K;refine aOps_call (hm h1 h2 _) (by first | rfl | simp) rfl rfl rfl ?_;simp;apply hK;clear hK K
 cases hr:r.1
 ·rw [hr,if_neg (by simp)] at he
  repeat with_reducible refine awp_assoc ?_
  refine awp_sr fun K hK=>?_;simp [hr];apply hK;clear hK K;refine awp_seq_k fun K hK=>?_;refine awp_condT rfl (by simp) ?_;refine awp_sr fun K hK=>?_;simp;apply hK;clear hK K
  rw [he]
  simp [reset_all hcl]
  exact Wk.tuple ⟨Wk.nilSlice,.refl _,trivial⟩
 ·rw [hr,if_pos rfl] at he
  repeat with_reducible refine awp_assoc ?_
  refine awp_sr fun K hK=>?_;simp [hr];apply hK;clear hK K;refine awp_seq_k fun K hK=>?_;refine awp_condF rfl (by simp) ?_;refine awp_skip ?_;apply hK;clear hK K;refine awp_sr fun K hK=>?_;simp;apply hK;clear hK K
  rw [he]
  simp [reset_all hcl]
theorem rSubst_c (l:TyM) (hl:l.length < 4611686018427387904) (H:AHeap):ACalls Tryz.prog 65 [.slice (l.map bindC) none] H (intV (substV l)) H:=by
 refine acalls_walk (fun _=>.imm) [0,2,3,4,5,6,10,19,23,33,38,52] Tryz.mixed Tryz.func65 rfl rfl rfl (by decide) (fun hcl hlow=>?_)
 refine awp_sr fun K hK=>?_;simp;apply hK;clear hK K;repeat with_reducible refine awp_assoc ?_
 refine awp_sr fun K hK=>?_;simp;apply hK;clear hK K;refine awp_seq_k fun K hK=>?_;refine awp_block ?_
 refine awp_up l.length (fun k=>Env.ofL [(0,.slice (l.map bindC) none),(2,intV 0),(3,intV k)]) (fun k=>HL H []) (fun k=>∀ p∈l.take k,smallN p.1=true) (weak_HL hcl rfl ?_ ?_) ?_ (fun k hk hi=>?_) (fun hi=>?_)
 ·simp
 ·simp
 ·simp
 ·obtain ⟨x,hx⟩:∃ x,l[k]?=some x:=⟨_,List.getElem?_eq_getElem hk⟩
  repeat with_reducible refine awp_assoc ?_
  refine awp_sr fun K hK=>?_;simp [hk];apply hK;clear hK K;refine awp_seq_k fun K hK=>?_;refine awp_condT rfl (by simp) ?_;refine awp_skip ?_;apply hK;clear hK K;refine awp_seq_k fun K hK=>?_;refine awp_block ?_
  obtain ⟨s,n',l'⟩:=x
  refine awp_sr fun K hK=>?_;refine aOps_split 5 fun K hK=>?_;simp [hx,bind_mk];apply hK;clear hK K;refine aOps_call (rSmallN_c s _) (by first | rfl | simp) rfl rfl (by first | (simp;done) | rfl) ?_;simp;apply hK;clear hK K
  cases hs:smallN s
  ·refine awp_condT rfl (by simp [hs]) ?_;refine awp_sr fun K hK=>?_;simp;apply hK;clear hK K
   have e:substV l=1:=by
    unfold substV
    rw [if_neg]
    intro h
    have:=List.all_eq_true.1 h _ (List.mem_of_getElem? hx)
    rw [hs] at this;cases this
   simp [e,reset_all hcl]
  ·refine awp_condF rfl (by simp [hs]) ?_;refine awp_skip ?_;apply hK;clear hK K;refine awp_region ?_;simp [wrap_succ (show k < 4611686018427387904 by omega)]
   refine ⟨fun a b hy=>?_,?_⟩
   ·rw [take_one hx] at hy
    simp at hy
    rcases hy with hy | ⟨rfl,rfl⟩
    ·exact hi (a,b) hy
    ·exact hs
   ·refine weak_HL hcl rfl (by simp [low_bind]) (by simp [low_bind])
 rw [List.take_length] at hi
 have hall:l.all (fun p=>smallN p.1)=true:=List.all_eq_true.2 hi
 repeat with_reducible refine awp_assoc ?_
 refine awp_sr fun K hK=>?_;simp;apply hK;clear hK K;refine awp_seq_k fun K hK=>?_;refine awp_condF rfl (by simp) ?_;refine awp_exit ?_;simp;clear hK K;apply hK;clear hK K;repeat with_reducible refine awp_assoc ?_
 refine awp_sr fun K hK=>?_;simp;apply hK;clear hK K;refine awp_seq_k fun K hK=>?_;refine awp_block ?_
 refine awp_up l.length (fun k=>Env.ofL [(0,.slice (l.map bindC) none),(2,intV 0),(4,intV k)]) (fun k=>HL H []) (fun k=>∀ p∈(l.map (·.2)).take k,p.valid=0) (weak_HL hcl rfl ?_ ?_) ?_ (fun k hk hi2=>?_) (fun hi2=>?_)
 ·simp
 ·simp
 ·simp
 ·obtain ⟨x,hx⟩:∃ x,l[k]?=some x:=⟨_,List.getElem?_eq_getElem hk⟩
  repeat with_reducible refine awp_assoc ?_
  refine awp_sr fun K hK=>?_;simp [hk];apply hK;clear hK K;refine awp_seq_k fun K hK=>?_;refine awp_condT rfl (by simp) ?_;refine awp_skip ?_;apply hK;clear hK K;refine awp_seq_k fun K hK=>?_;refine awp_block ?_
  obtain ⟨s,n',l'⟩:=x
  have hvx:=rValidate_c (.mk n' l')
  simp only [enc_mk] at hvx;refine awp_sr fun K hK=>?_;refine aOps_split 5 fun K hK=>?_;simp [hx,bind_mk];apply hK;clear hK K;refine aOps_call (hvx _) (by first | rfl | simp) rfl rfl rfl ?_;simp;apply hK;clear hK K
  have hx2:(l.map (·.2))[k]?=some (.mk n' l'):=by simp [hx]
  by_cases hv:(Ty.mk n' l').valid=0
  ·refine awp_sr fun K hK=>?_;simp [hv];apply hK;clear hK K;refine awp_condF rfl (by simp [hv]) ?_;refine awp_skip ?_;apply hK;clear hK K;refine awp_region ?_;simp [wrap_succ (show k < 4611686018427387904 by omega)]
   refine ⟨fun y hy=>?_,?_⟩
   ·rw [take_one hx2] at hy
    simp only [List.mem_append,List.mem_singleton] at hy
    rcases hy with hy | rfl
    ·exact hi2 y hy
    ·exact hv
   ·refine weak_HL hcl rfl (by simp) (by simp)
  ·refine awp_sr fun K hK=>?_;simp [hv];apply hK;clear hK K;refine awp_condT rfl (by simp [hv]) ?_;refine awp_sr fun K hK=>?_;simp;apply hK;clear hK K
   have e:substV l=(Ty.mk n' l').valid:=by
    unfold substV
    rw [if_pos hall,allV_of hx2 hi2 hv,if_neg hv]
   rw [e]
   simp [reset_all hcl]
 rw [List.take_of_length_le (by simp)] at hi2
 have hval:=allV_zero hi2
 repeat with_reducible refine awp_assoc ?_
 refine awp_sr fun K hK=>?_;simp;apply hK;clear hK K;refine awp_seq_k fun K hK=>?_;refine awp_condF rfl (by simp) ?_;refine awp_exit ?_;simp;clear hK K;apply hK;clear hK K;repeat with_reducible refine awp_assoc ?_
 refine awp_sr fun K hK=>?_;simp;apply hK;clear hK K
 have hS:substV l=if ascM l then 0 else 5:=by unfold substV;rw [if_pos hall,hval];rfl
 refine awp_seq_k fun K hK=>?_;refine awp_block ?_
 refine awp_up (l.length - 1) (fun k=>Env.ofL [(0,.slice (l.map bindC) none),(2,intV 0),(6,intV ((k:Int)+1))]) (fun k=>HL H []) (fun k=>∀ j p q,j < k→l[j]?=some p→l[j+1]?=some q→Op.bytesLess p.1.toList q.1.toList=true) (weak_HL hcl rfl ?_ ?_) ?_ (fun k hk hi3=>?_) (fun hi3=>?_)
 ·simp
 ·simp
 ·simp
 ·have hk1:k+1 < l.length:=by omega
  have hk1':(k:Int)+1 < l.length:=by omega
  obtain ⟨x,hx⟩:∃ x,l[k]?=some x:=⟨_,List.getElem?_eq_getElem (by omega)⟩
  obtain ⟨y,hy⟩:∃ y,l[k+1]?=some y:=⟨_,List.getElem?_eq_getElem hk1⟩
  have w1:IntKind.i64.wrap (k:Int)=k:=wrap64 (by omega) (by omega)
  have w2:IntKind.i64.wrap ((k:Int)+1+1)=(k:Int)+1+1:=wrap64 (by omega) (by omega)
  have t1:((k:Int)+1).toNat=k+1:=by omega
  have t2:(0:Int)≤(k:Int)+1:=by omega
  repeat with_reducible refine awp_assoc ?_
  refine awp_sr fun K hK=>?_;simp [hk1'];apply hK;clear hK K;refine awp_seq_k fun K hK=>?_;refine awp_condT rfl (by simp) ?_;refine awp_skip ?_;apply hK;clear hK K;refine awp_seq_k fun K hK=>?_;refine awp_block ?_
  obtain ⟨s,n',l'⟩:=x
  obtain ⟨s2,n2,l2⟩:=y
  refine awp_sd [] [[],[0],[0],[],[],[1],[0,1,2,3,4,5],[0,1,2,3,4,5,6],[0,1,2,3,4,5],[0,1,2,3,4,5],[0,1,2,3,4,5],[0,1,2,6,7]] (by kernel_rfl) fun K hK=>?_
  refine aLex_pre 12 rfl fun K hK=>?_;simp [hx,hy,w1,t1,t2,bind_mk]
  refine hK _ ?_
  clear hK K;refine aLex_end ?_;simp;apply hK;clear hK K
  cases hb:Op.bytesLess s.toList s2.toList
  ·refine awp_condT rfl (by simp [hb]) ?_;refine awp_sr fun K hK=>?_;simp;apply hK;clear hK K
   have e:substV l=5:=by
    rw [hS,if_neg]
    intro h
    have:=(ascM_iff l).1 h k _ _ hx hy
    rw [hb] at this;cases this
   simp [e,reset_all hcl]
  ·refine awp_condF rfl (by simp [hb]) ?_;refine awp_skip ?_;apply hK;clear hK K;refine awp_region ?_;simp [w2]
   refine ⟨fun j a b a2 b2 hj ha hq=>?_,?_⟩
   ·rcases Nat.lt_or_ge j k with h | h
    ·exact hi3 j (a,b) (a2,b2) h ha hq
    ·obtain rfl:j=k:=by omega
     rw [hx] at ha;rw [hy] at hq
     simp only [Option.some.injEq,Prod.mk.injEq] at ha hq
     rw [←ha.1,←hq.1];exact hb
   ·refine weak_HL hcl rfl (by simp) (by simp)
 have hasc:ascM l=true:=(ascM_iff l).2 fun j p q hp hq=>hi3 j p q (by
  rcases Nat.lt_or_ge (j+1) l.length with h | h
  ·omega
  ·simp [List.getElem?_eq_none h] at hq) hp hq
 have hend:¬ (((l.length - 1:Nat):Int)+1 < l.length):=by omega
 repeat with_reducible refine awp_assoc ?_
 refine awp_sr fun K hK=>?_;simp [hend];apply hK;clear hK K;refine awp_seq_k fun K hK=>?_;refine awp_condF rfl (by simp) ?_;refine awp_exit ?_;simp;clear hK K;apply hK;clear hK K;refine awp_sr fun K hK=>?_;simp;apply hK;clear hK K
 rw [hS,hasc]
 simp [reset_all hcl]
mutual
def Ty.dep:Ty→Nat
 | .mk _ l=>depL l+1
def depL:List Ty→Nat
 | []=>0
 | t::ts=>max t.dep (depL ts)
end
theorem depL_append (a b:List Ty):depL (a++b)=max (depL a) (depL b):=by
 induction a with
 | nil=>simp [depL]
 | cons t ts ih=>simp only [List.cons_append,depL,ih];omega
mutual
theorem dep_cnt:∀ t:Ty,t.dep≤t.cnt
 | .mk n l=>by
  have:=depL_cnt l
  simp only [Ty.dep,Ty.cnt,Ty.nodes,List.length_cons];omega
theorem depL_cnt:∀ l:List Ty,depL l≤(nodesL l).length
 | []=>by simp [depL]
 | t::ts=>by
  have h1:=dep_cnt t
  have h2:=depL_cnt ts
  simp only [depL,nodesL,List.length_append]
  unfold Ty.cnt at h1;omega
end
mutual
theorem dep_put (m:TyM) (B:Nat) (hm:∀ p∈m,p.2.dep≤B):∀ t:Ty,(putT m t).dep≤t.dep+B
 | .mk n l=>by
  rw [putT]
  split
  ·split
   ·rename_i x hx;have:=hm _ (lookT_mem hx);simp only at this;omega
   ·omega
  ·have:=depL_put m B hm l
   simp only [Ty.dep];omega
theorem depL_put (m:TyM) (B:Nat) (hm:∀ p∈m,p.2.dep≤B):∀ l:List Ty,depL (putL m l)≤depL l+B
 | []=>by simp [putL,depL]
 | t::ts=>by
  have h1:=dep_put m B hm t
  have h2:=depL_put m B hm ts
  simp only [putL,depL];omega
end
theorem putT_nil:∀ t:Ty,putT [] t=t:=by
 intro t
 induction t using Ty.ind with
 | h n l ih =>
 rw [putT]
 split
 ·rfl
 ·rw [putL_eq,List.map_congr_left (g:=id) (fun x hx=>ih x hx),List.map_id]
def capN (n:Nat):Nat:=min n 1099511627776
def sizeV (t:Ty):AV:=.tuple [intV (capN t.cnt:Nat),intV (t.dep:Nat)]
theorem size_of (m:TyM) (hml:m.length < 4611686018427387904) (B:Nat) (hB:B < 1099511627776) (hmd:∀ p∈m,p.2.dep≤B)
  (hsub:∀ p∈m,∀ H,ACalls Tryz.prog 66 [.slice [] none,p.2.enc] H (sizeV p.2) H) :
  ∀ (t:Ty),t.good=true→t.cnt < 1099511627776→∀ H,ACalls Tryz.prog 66 [.slice (m.map bindC) none,t.enc] H (sizeV (putT m t)) H:=by
 intro t
 induction t using Ty.ind with
 | h nm l ih =>
 intro hgood hsz H
 have hcnt:(Ty.mk nm l).cnt=(nodesL l).length+1:=by simp [Ty.cnt,Ty.nodes]
 have hll:=nodesL_len l
 have hdl:=depL_cnt l
 have hvc:=rIsVar_c (.mk nm l)
 simp only [enc_mk] at hvc
 refine acalls_walk (fun _=>.imm) [0,1,3,4,5,6,7,8,9,10,11,13,17,27,40,57,60] Tryz.mixed Tryz.func66 rfl rfl rfl (by decide) (fun hcl hlow=>?_)
 simp only [enc_mk];refine awp_sr fun K hK=>?_;simp;apply hK;clear hK K;repeat with_reducible refine awp_assoc ?_
 refine awp_sr fun K hK=>?_;refine aOps_split 1 fun K hK=>?_;simp;apply hK;clear hK K;refine aOps_call (hvc _) (by first | rfl | simp) rfl rfl (by first | (simp;done) | rfl) ?_;simp;apply hK;clear hK K
 cases hv:(Ty.mk nm l).isVar
 rotate_left
 ·have hv':headP smallB nm=true:=hv
  obtain rfl:=good_var hgood hv'
  refine awp_seq_k fun K hK=>?_;refine awp_condT rfl (by simp [hv]) ?_;repeat with_reducible refine awp_assoc ?_
  refine awp_sr fun K hK=>?_;simp;apply hK;clear hK K;refine awp_seq_k fun K hK=>?_;refine awp_block ?_
  refine awp_up m.length (fun k=>Env.ofL [(0,.slice (m.map bindC) none),(3,.ref (nid H.next 0) 0),(4,intV 0),(5,intV 0),(6,intV k)]) (fun k=>HL (H) [.cells [strV nm,.slice [] none]]) (fun k=>∀ p∈m.take k,¬ p.1=nm) (weak_HL (hcl) (by simp) ?_ ?_) ?_ (fun k hk hi=>?_) (fun hi=>?_)
  ·simp
  ·simp
  ·simp
  ·obtain ⟨x,hx⟩:∃ x,m[k]?=some x:=⟨_,List.getElem?_eq_getElem hk⟩
   have hc:=hsub x (List.mem_of_getElem? hx)
   obtain ⟨s,⟨n',l'⟩⟩:=x
   simp only [enc_mk] at hc;repeat with_reducible refine awp_assoc ?_
   refine awp_sr fun K hK=>?_;simp [hk];apply hK;clear hK K;refine awp_seq_k fun K hK=>?_;refine awp_condT rfl (by simp) ?_;refine awp_skip ?_;apply hK;clear hK K;refine awp_seq_k fun K hK=>?_;refine awp_block ?_
   refine awp_sd [] [[],[0],[],[],[],[0,1,2,3,4],[0,1,2,3,4],[0,1]] (by kernel_rfl) fun K hK=>?_
   refine aLex_pre 8 rfl fun K hK=>?_;simp [hx,bind_mk]
   refine hK _ ?_
   clear hK K;refine aLex_end ?_;simp;apply hK;clear hK K
   by_cases hs:s=nm
   ·refine awp_condT rfl (by simp [hs]) ?_;refine awp_sr fun K hK=>?_;refine aOps_split 5 fun K hK=>?_;simp [hx,bind_mk];apply hK;clear hK K;refine aOps_callW (hc _) (by first | rfl | simp) rfl rfl ⟨Wk.nilSlice,.refl _,trivial⟩ ?_;simp [sizeV];apply hK;clear hK K
    have e:putT m (.mk nm [])=.mk n' l':=by rw [putT,if_pos hv',look_first hi hx hs]
    rw [e]
    simp [sizeV,reset_all hcl]
   ·refine awp_condF rfl (by simp [hs]) ?_;refine awp_skip ?_;apply hK;clear hK K;refine awp_region ?_;simp [wrap_succ (show k < 4611686018427387904 by omega)]
    refine ⟨fun a b hy=>?_,?_⟩
    ·rw [take_one hx] at hy
     simp only [List.mem_append,List.mem_singleton,Prod.mk.injEq] at hy
     rcases hy with hy | ⟨rfl,rfl⟩
     ·exact hi (a,b) hy
     ·exact hs
    ·refine weak_HL (hcl) (by simp) (by simp) (by simp)
  ·repeat with_reducible refine awp_assoc ?_
   refine awp_sr fun K hK=>?_;simp;apply hK;clear hK K;refine awp_seq_k fun K hK=>?_;refine awp_condF rfl (by simp) ?_;refine awp_exit ?_;simp;clear hK K;apply hK;clear hK K
   rw [List.take_length] at hi
   refine awp_sr fun K hK=>?_;simp;apply hK;clear hK K
   have e:putT m (.mk nm [])=.mk nm []:=by rw [putT,if_pos hv',look_no hi]
   rw [e]
   simp [sizeV,capN,Ty.cnt,Ty.nodes,nodesL,Ty.dep,depL,reset_all hcl]
 have hv':¬ headP smallB nm=true:=by rw [show headP smallB nm=(Ty.mk nm l).isVar from rfl,hv];simp
 have e:putT m (.mk nm l)=.mk nm (l.map (putT m)):=by rw [putT,if_neg hv',putL_eq]
 have hdl2:=depL_put m B hmd l
 rw [putL_eq] at hdl2
 rw [e]
 generalize hpl:l.map (putT m)=pl at hdl2 ⊢
 have hpll:pl.length=l.length:=by rw [←hpl];simp
 have hdt:∀ k,depL (pl.take k)≤depL pl:=fun k=>by
  have:=congrArg depL (List.take_append_drop k pl)
  rw [depL_append] at this;omega
 refine awp_seq_k fun K hK=>?_;refine awp_condF rfl (by simp [hv]) ?_;refine awp_skip ?_;apply hK;clear hK K;refine awp_sr fun K hK=>?_;simp;apply hK;clear hK K;repeat with_reducible refine awp_assoc ?_
 refine awp_sr fun K hK=>?_;simp;apply hK;clear hK K;refine awp_seq_k fun K hK=>?_;refine awp_block ?_
 refine awp_up l.length (fun k=>Env.ofL [(0,.slice (m.map bindC) none),(3,.ref (nid H.next 0) 0),(4,intV 0),(5,intV 0),(7,intV (capN (1+(nodesL (pl.take k)).length):Nat)),(8,intV (depL (pl.take k):Nat)),(9,intV k)]) (fun k=>HL (H) [.cells [strV nm,.slice (l.map Ty.cells) none]]) (fun k=>True) (weak_HL (hcl) (by simp) ?_ ?_) ?_ (fun k hk hi=>?_) (fun hi=>?_)
 ·simp [show capN (1+(nodesL []).length)=1 from rfl,show depL []=0 from rfl]
 ·simp [show capN (1+(nodesL []).length)=1 from rfl,show depL []=0 from rfl]
 ·trivial
 ·obtain ⟨x,hx⟩:∃ x,l[k]?=some x:=⟨_,List.getElem?_eq_getElem hk⟩
  have hxc:=cnt_mem hx
  have hc:=ih x (List.mem_of_getElem? hx) (good_arg hgood (List.mem_of_getElem? hx)) (by omega)
  have hy:pl[k]?=some (putT m x):=by rw [←hpl];simp [hx]
  have e1:capN (1+(nodesL (pl.take (k+1))).length)=capN (capN (1+(nodesL (pl.take k)).length)+capN (putT m x).cnt):=by
   rw [nodesL_take hy,List.length_append];unfold capN Ty.cnt;omega
  have e2:depL (pl.take (k+1))=max (depL (pl.take k)) (putT m x).dep:=by
   rw [take_one hy,depL_append];simp [depL]
  have hd1:=hdt (k+1)
  generalize capN (1+(nodesL (pl.take (k+1))).length)=n' at e1 ⊢
  generalize depL (pl.take (k+1))=d' at e2 hd1 ⊢
  have hn1:capN (1+(nodesL (pl.take k)).length)≤1099511627776:=by unfold capN;omega
  have hn2:capN (putT m x).cnt≤1099511627776:=by unfold capN;omega
  generalize capN (1+(nodesL (pl.take k)).length)=n0 at e1 hn1 ⊢
  generalize depL (pl.take k)=d0 at e2 ⊢
  unfold sizeV at hc
  generalize capN (putT m x).cnt=c1 at e1 hn2 hc
  generalize (putT m x).dep=c2 at e2 hc
  obtain ⟨xn,xl⟩:=x
  simp only [enc_mk] at hc
  have w1:IntKind.i64.wrap ((n0:Int)+c1)=(n0:Int)+c1:=wrap64 (by omega) (by omega)
  repeat with_reducible refine awp_assoc ?_
  refine awp_sr fun K hK=>?_;simp [hk];apply hK;clear hK K;refine awp_seq_k fun K hK=>?_;refine awp_condT rfl (by simp) ?_;refine awp_skip ?_;apply hK;clear hK K;refine awp_seq_k fun K hK=>?_;refine awp_block ?_;refine awp_sr fun K hK=>?_;refine aOps_split 6 fun K hK=>?_;simp [hx,Ty.cells];apply hK;clear hK K;refine aOps_call (hc _) (by first | rfl | simp) rfl rfl rfl ?_;simp;apply hK;clear hK K;refine awp_sr fun K hK=>?_;simp [w1];apply hK;clear hK K
  by_cases hb:1099511627776 < n0+c1
  ·have hb':(1099511627776:Int) < (n0:Int)+c1:=by omega
   have e5:(n':Int)=1099511627776:=by rw [e1];unfold capN;omega
   repeat with_reducible refine awp_assoc ?_
   refine awp_sr fun K hK=>?_;simp [hb'];apply hK;clear hK K;refine awp_seq_k fun K hK=>?_;refine awp_condT rfl (by simp) ?_;refine awp_region ?_;simp;apply hK;clear hK K
   by_cases hd:d0 < c2
   ·have hd':(d0:Int) < c2:=by omega
    have e6:(d':Int)=c2:=by omega
    refine awp_sr fun K hK=>?_;simp [hd,hd'];apply hK;clear hK K;refine awp_condT rfl (by simp) ?_;refine awp_region ?_;simp;apply hK;clear hK K;refine awp_region ?_;simp [wrap_succ (show k < 4611686018427387904 by omega)]
    rw [e5,e6]
    refine weak_HL (hcl) (by simp) (by simp) (by simp)
   ·have hd':¬ (d0:Int) < c2:=by omega
    have e6:(d':Int)=d0:=by omega
    refine awp_sr fun K hK=>?_;simp [hd,hd'];apply hK;clear hK K;refine awp_condF rfl (by simp) ?_;refine awp_skip ?_;apply hK;clear hK K;refine awp_region ?_;simp [wrap_succ (show k < 4611686018427387904 by omega)]
    rw [e5,e6]
    refine weak_HL (hcl) (by simp) (by simp) (by simp)
  ·have hb':¬ (1099511627776:Int) < (n0:Int)+c1:=by omega
   have e5:(n':Int)=(n0:Int)+c1:=by rw [e1];unfold capN;omega
   repeat with_reducible refine awp_assoc ?_
   refine awp_sr fun K hK=>?_;simp [hb'];apply hK;clear hK K;refine awp_seq_k fun K hK=>?_;refine awp_condF rfl (by simp) ?_;refine awp_skip ?_;apply hK;clear hK K
   by_cases hd:d0 < c2
   ·have hd':(d0:Int) < c2:=by omega
    have e6:(d':Int)=c2:=by omega
    refine awp_sr fun K hK=>?_;simp [hd,hd'];apply hK;clear hK K;refine awp_condT rfl (by simp) ?_;refine awp_region ?_;simp;apply hK;clear hK K;refine awp_region ?_;simp [wrap_succ (show k < 4611686018427387904 by omega)]
    rw [e5,e6]
    refine weak_HL (hcl) (by simp) (by simp) (by simp)
   ·have hd':¬ (d0:Int) < c2:=by omega
    have e6:(d':Int)=d0:=by omega
    refine awp_sr fun K hK=>?_;simp [hd,hd'];apply hK;clear hK K;refine awp_condF rfl (by simp) ?_;refine awp_skip ?_;apply hK;clear hK K;refine awp_region ?_;simp [wrap_succ (show k < 4611686018427387904 by omega)]
    rw [e5,e6]
    refine weak_HL (hcl) (by simp) (by simp) (by simp)
 ·repeat with_reducible refine awp_assoc ?_
  refine awp_sr fun K hK=>?_;simp;apply hK;clear hK K;refine awp_seq_k fun K hK=>?_;refine awp_condF rfl (by simp) ?_;refine awp_exit ?_;simp;clear hK K;apply hK;clear hK K
  rw [List.take_of_length_le (l:=pl) (by omega)]
  have w2:IntKind.i64.wrap ((depL pl:Int)+1)=(depL pl:Int)+1:=wrap64 (by omega) (by omega)
  refine awp_sr fun K hK=>?_;simp [w2];apply hK;clear hK K
  have e3:1+(nodesL pl).length=(Ty.mk nm pl).cnt:=by simp [Ty.cnt,Ty.nodes];omega
  have e4:((Ty.mk nm pl).dep:Int)=(depL pl:Int)+1:=by simp [Ty.dep]
  rw [sizeV,e4,←e3]
  simp [reset_all hcl]
def applyS (l:TyM) (t:Ty):Ty × Int:=if substV l=0 then (if t.valid=0 then (if 200 < (putT l t).cnt∨40 < (putT l t).dep then (zeroTy,3) else (putT l t,0)) else (zeroTy,t.valid)) else (zeroTy,substV l)
theorem subst_valid {l:TyM} (h:substV l=0):∀ p∈l,p.2.valid=0:=by
 unfold substV at h
 split at h
 ·split at h
  ·rename_i ha
   intro p hp
   have:∀ l:List Ty,allV l=0→∀ x∈l,x.valid=0:=by
    intro l
    induction l with
    | nil=>intro _ x hx;cases hx
    | cons t ts ih =>
     intro h x hx
     unfold allV at h
     split at h
     ·rcases List.mem_cons.1 hx with rfl | hx
      ·assumption
      ·exact ih h x hx
     ·exact absurd h (by assumption)
   exact this _ ha _ (List.mem_map_of_mem hp)
  ·rename_i ha;exact absurd h ha
 ·cases h
theorem rApply_c (l:TyM) (t:Ty) (hl:l.length < 4611686018427387904) (H:AHeap):ACalls Tryz.prog 28 [.slice (l.map bindC) none,t.enc] H (.tuple [(applyS l t).1.enc,intV (applyS l t).2]) H:=by
 have hvs:=rSubst_c l hl
 have hv:=rValidate_c t
 have hp:=fun (h1:substV l=0) (h2:t.valid=0)=>rPut_c l (fun p hp=>by have:=large_cnt (Ty.not_large (subst_valid h1 p hp));omega) hl t (Ty.good_of h2) (by have:=large_cnt (Ty.not_large h2);omega)
 have hd:=fun (h1:substV l=0) (p:ByteArray × Ty) (hp:p∈l)=>Nat.le_trans (dep_cnt p.2) (large_cnt (Ty.not_large (subst_valid h1 p hp)))
 have hsz:=fun (h1:substV l=0) (h2:t.valid=0)=>size_of l hl 200 (by omega) (hd h1) (fun p hp H=>by
  have h3:=subst_valid h1 p hp
  have h4:=size_of [] (by simp) 0 (by omega) (fun _ h=>by cases h) (fun _ h=>by cases h) p.2 (Ty.good_of h3) (by have:=large_cnt (Ty.not_large h3);omega) H
  rw [putT_nil] at h4
  exact h4) t (Ty.good_of h2) (by have:=large_cnt (Ty.not_large h2);omega)
 have he:applyS l t=if substV l=0 then (if t.valid=0 then (if 200 < (putT l t).cnt∨40 < (putT l t).dep then (zeroTy,3) else (putT l t,0)) else (zeroTy,t.valid)) else (zeroTy,substV l):=rfl
 generalize applyS l t=res at he ⊢
 generalize putT l t=r at *
 obtain ⟨n,tl⟩:=t
 simp only [enc_mk] at hv hp hsz
 refine acalls_walk (fun _=>.imm) [0,1,3,4,5,6,7,8,9,13,19,33] Tryz.mixed Tryz.func28 rfl rfl rfl (by decide) (fun hcl hlow=>?_)
 simp only [enc_mk];refine awp_sr fun K hK=>?_;simp;apply hK;clear hK K;repeat with_reducible refine awp_assoc ?_
 refine awp_sr fun K hK=>?_;refine aOps_split 1 fun K hK=>?_;simp;apply hK;clear hK K;refine aOps_call (hvs _) (by first | rfl | simp) rfl rfl rfl ?_;simp;apply hK;clear hK K
 by_cases h1:substV l=0
 rotate_left
 ·rw [if_neg h1] at he
  repeat with_reducible refine awp_assoc ?_
  refine awp_sr fun K hK=>?_;simp [h1];apply hK;clear hK K;refine awp_seq_k fun K hK=>?_;refine awp_condT rfl (by simp [h1]) ?_;refine awp_sr fun K hK=>?_;simp;apply hK;clear hK K
  rw [he]
  simp [zeroTy,enc_mk,reset_all hcl]
  exact Wk.tuple ⟨Wk.agg ⟨.refl _,Wk.nilSlice,trivial⟩,.refl _,trivial⟩
 rw [if_pos h1] at he
 repeat with_reducible refine awp_assoc ?_
 refine awp_sr fun K hK=>?_;simp [h1];apply hK;clear hK K;refine awp_seq_k fun K hK=>?_;refine awp_condF rfl (by simp) ?_;refine awp_skip ?_;apply hK;clear hK K;repeat with_reducible refine awp_assoc ?_
 refine awp_sr fun K hK=>?_;refine aOps_split 1 fun K hK=>?_;simp;apply hK;clear hK K;refine aOps_call (hv _) (by first | rfl | simp) rfl rfl rfl ?_;simp;apply hK;clear hK K
 by_cases h2:(Ty.mk n tl).valid=0
 rotate_left
 ·rw [if_neg h2] at he
  repeat with_reducible refine awp_assoc ?_
  refine awp_sr fun K hK=>?_;simp [h2];apply hK;clear hK K;refine awp_seq_k fun K hK=>?_;refine awp_condT rfl (by simp [h2]) ?_;refine awp_sr fun K hK=>?_;simp;apply hK;clear hK K
  rw [he]
  simp [zeroTy,enc_mk,reset_all hcl]
  exact Wk.tuple ⟨Wk.agg ⟨.refl _,Wk.nilSlice,trivial⟩,.refl _,trivial⟩
 rw [if_pos h2] at he
 have hsz:=hsz h1 h2
 have hp:=hp h1 h2
 unfold sizeV at hsz
 repeat with_reducible refine awp_assoc ?_
 refine awp_sr fun K hK=>?_;simp [h2];apply hK;clear hK K;refine awp_seq_k fun K hK=>?_;refine awp_condF rfl (by simp) ?_;refine awp_skip ?_;apply hK;clear hK K;refine awp_sr fun K hK=>?_;refine aOps_split 2 fun K hK=>?_;simp;apply hK;clear hK K;refine aOps_call (hsz _) (by first | rfl | simp) rfl rfl rfl ?_;simp;apply hK;clear hK K
 obtain ⟨rn,rl⟩:=r
 simp only [enc_mk] at hp
 by_cases h3:200 < (Ty.mk rn rl).cnt
 ·have h3':(200:Int) < capN (Ty.mk rn rl).cnt:=by unfold capN;omega
  rw [if_pos (.inl h3)] at he
  repeat with_reducible refine awp_assoc ?_
  refine awp_sr fun K hK=>?_;simp [h3'];apply hK;clear hK K;refine awp_seq_k fun K hK=>?_;refine awp_condT rfl (by simp) ?_;refine awp_sr fun K hK=>?_;simp;apply hK;clear hK K
  rw [he]
  simp [zeroTy,enc_mk,reset_all hcl]
  exact Wk.tuple ⟨Wk.agg ⟨.refl _,Wk.nilSlice,trivial⟩,.refl _,trivial⟩
 have h3':¬ (200:Int) < capN (Ty.mk rn rl).cnt:=by unfold capN;omega
 by_cases h4:40 < (Ty.mk rn rl).dep
 ·have h4':(40:Int) < (Ty.mk rn rl).dep:=by omega
  rw [if_pos (.inr h4)] at he
  repeat with_reducible refine awp_assoc ?_
  refine awp_sr fun K hK=>?_;simp [h3',h4'];apply hK;clear hK K;refine awp_seq_k fun K hK=>?_;refine awp_condT rfl (by simp) ?_;refine awp_sr fun K hK=>?_;simp;apply hK;clear hK K
  rw [he]
  simp [zeroTy,enc_mk,reset_all hcl]
  exact Wk.tuple ⟨Wk.agg ⟨.refl _,Wk.nilSlice,trivial⟩,.refl _,trivial⟩
 have h4':¬ (40:Int) < (Ty.mk rn rl).dep:=by omega
 rw [if_neg (by omega)] at he
 repeat with_reducible refine awp_assoc ?_
 refine awp_sr fun K hK=>?_;simp [h3',h4'];apply hK;clear hK K;refine awp_seq_k fun K hK=>?_;refine awp_condF rfl (by simp) ?_;refine awp_skip ?_;apply hK;clear hK K;refine awp_sr fun K hK=>?_;refine aOps_split 2 fun K hK=>?_;simp;apply hK;clear hK K;refine aOps_call (hp _) (by first | rfl | simp) rfl rfl rfl ?_;simp;apply hK;clear hK K
 rw [he]
 simp [enc_mk,reset_all hcl]
end Go.Proofs.YtgeehnbbhnpimaaGreat
namespace Go.Proofs.YtgeehnbbhnpimaaGreat
open Go Go.Abs Go.Proofs
set_option maxRecDepth 20000
attribute [local simp] aOps wantedA aStep aop aLoad aStore aBin aUn aFieldAddr aField aIndexAddr aIndex aLen aBuild aFill aAlloc aAppend aBuildSlice litRows newRows isMut isOwn isNilS nilsW bytesR tokW tokAV tokL ret readC splice aeval isLit isLate AV.celled AV.one AV.ofValue Value.oneCell' Value.cells intOp strOp get_nid upd_nid awp aEnd aResults aResult Det unord isCall isNext
attribute [local simp] low_take low_strs low_comp low_tcomp wkEs_refl' WkBs WkEnv WkB WkL WkE WkO ABlock.low lowO lowL lowR AV.low cellsL_eq Ty.low low_map Ty.cells_length Ty.cells_one
structure TmS where
 nm:List ByteArray
 ar:List (List Nat)
 up:List Nat
abbrev nV (n:Nat):AV:=intV (n:Int)
def argV (l:List Nat):AV:=.slice (l.map fun i=>[nV i]) none
def tmB (wi ni ai ui:Nat) (S:TmS):List (Nat × ABlock) :=
 [(wi,.cells [.slice (S.nm.map fun s=>[strV s]) (some ni),.slice (S.ar.map fun l=>[argV l]) (some ai),.vec ui S.up.length]),(ni,.tok S.nm.length 1 none),(ai,.tok S.ar.length 1 none),(ui,.tok S.up.length 1 (some (S.up.map fun i=>[nV i])))]
theorem tmVar_c (wi ni ai ui:Nat) (S:TmS) (i:Nat) (s:ByteArray) (hs:S.nm[i]?=some s) (h1:1≤s.size) (H:AHeap) (hH:Holds H (tmB wi ni ai ui S)) :
  ACalls Tryz.prog 121 [.ref wi 0,nV i] H (boolV (headP smallB s)) H:=by
 obtain ⟨hw,_⟩:=hH
 obtain ⟨c,hc⟩:=head_of h1
 have eh:headP smallB s=smallB c:=by unfold headP;rw [hc]
 refine acalls_walk (fun _=>.imm) [0,1,4] Tryz.mixed Tryz.func121 rfl rfl rfl (by decide) (fun hcl hlow=>?_)
 have hwl:wi < H.next:=(hcl _ _ hw).1
 have gw:∀ bs,(HL H bs).get wi=some (.cells [.slice (S.nm.map fun s=>[strV s]) (some ni),.slice (S.ar.map fun l=>[argV l]) (some ai),.vec ui S.up.length]):=fun bs=>by rw [get_lt hwl];exact hw
 refine awp_sr fun K hK=>?_;simp;apply hK;clear hK K;refine awp_sr fun K hK=>?_;refine aOps_split 7 fun K hK=>?_;simp [gw,hs];apply hK;clear hK K;refine aOps_split 1 fun K hK=>?_;simp [hc];apply hK;clear hK K;refine aOps_call (rSmallB_c c _) (by first | rfl | simp) rfl rfl (by first | (simp;done) | rfl) ?_;simp;apply hK;clear hK K
 rw [eh]
 simp [reset_all hcl]
def upAt (up:List Nat) (i:Nat):Nat:=up.getD i i
def upIt (up:List Nat) (i:Nat):Nat→Nat
 | 0=>i
 | k+1=>upAt up (upIt up i k)
theorem upAt_get {up:List Nat} {i:Nat} (h:i < up.length):up[i]?=some (upAt up i):=by
 unfold upAt;rw [List.getD_eq_getElem?_getD,List.getElem?_eq_getElem h];rfl
theorem upAt_el {up:List Nat} {i:Nat} (h:i < up.length):up[i]=upAt up i:=by
 have:=upAt_get h
 rw [List.getElem?_eq_getElem h] at this;simpa using this
theorem one_rows (l:List Nat):∀ r∈l.map (fun i=>[nV i]),r.length=1:=by
 intro r hr
 obtain ⟨_,_,rfl⟩:=List.mem_map.1 hr
 rfl
theorem tmTop_c (wi ni ai ui:Nat) (S:TmS) (i n:Nat) (h1:∀ k,k≤n→upIt S.up i k < S.up.length) (h2:∀ k,k < n→¬ upIt S.up i (k+1)=upIt S.up i k) (h3:upIt S.up i (n+1)=upIt S.up i n) (H:AHeap) (hH:Holds H (tmB wi ni ai ui S)) :
  ACalls Tryz.prog 108 [.ref wi 0,nV i] H (nV (upIt S.up i n)) H:=by
 obtain ⟨hw,_,_,hu,_⟩:=hH
 have hor:=one_rows S.up
 refine acalls_walk (fun _=>.imm) [0,1,4,13] Tryz.mixed Tryz.func108 rfl rfl rfl (by decide) (fun hcl hlow=>?_)
 have hwl:wi < H.next:=(hcl _ _ hw).1
 have hul:ui < H.next:=(hcl _ _ hu).1
 have gw:∀ bs,(HL H bs).get wi=some (.cells [.slice (S.nm.map fun s=>[strV s]) (some ni),.slice (S.ar.map fun l=>[argV l]) (some ai),.vec ui S.up.length]):=fun bs=>by rw [get_lt hwl];exact hw
 have gu:∀ bs,(HL H bs).get ui=some (.tok S.up.length 1 (some (S.up.map fun i=>[nV i]))):=fun bs=>by rw [get_lt hul];exact hu
 refine awp_sr fun K hK=>?_;simp;apply hK;clear hK K;refine awp_seq_k fun K hK=>?_;refine awp_block ?_
 refine awp_up n (fun k=>Env.ofL [(0,.ref wi 0),(1,nV (upIt S.up i k)),(4,intV 0)]) (fun k=>HL (H) []) (fun k=>True) (weak_HL (hcl) (by simp) ?_ ?_) ?_ (fun k hk hi=>?_) (fun hi=>?_)
 ·simp [lt_nid hwl,upIt]
 ·simp [lt_nid hwl,upIt]
 ·trivial
 ·have hlt:=h1 k (by omega)
  have hg:=upAt_get hlt
  have hne:=h2 k hk
  have hstep:upIt S.up i (k+1)=upAt S.up (upIt S.up i k):=rfl
  rw [hstep] at hne ⊢
  generalize upIt S.up i k=j at *
  have hel:=upAt_el hlt
  have hne':¬ ((upAt S.up j:Nat):Int)=(j:Int):=by omega
  repeat with_reducible refine awp_assoc ?_
  refine awp_sr fun K hK=>?_;refine aOps_split 5 fun K hK=>?_;simp [gw];apply hK;clear hK K;refine aOps_split 4 fun K hK=>?_;simp [gu,hlt,hor,hel,hne'];apply hK;clear hK K;simp;apply hK;clear hK K;refine awp_seq_k fun K hK=>?_;refine awp_condT rfl (by simp) ?_;refine awp_skip ?_;apply hK;clear hK K;refine awp_block ?_;refine awp_region ?_;refine aOps_split 4 fun K hK=>?_;simp [gw];apply hK;clear hK K;simp [gu,hlt,hor,hel]
  refine weak_HL (hcl) (by simp) (by simp [lt_nid hwl]) (by simp [lt_nid hwl])
 ·have hlt:=h1 n (by omega)
  have hg:=upAt_get hlt
  have hstep:upIt S.up i (n+1)=upAt S.up (upIt S.up i n):=rfl
  rw [hstep] at h3
  generalize upIt S.up i n=j at *
  have hel:=upAt_el hlt
  rw [h3] at hel
  repeat with_reducible refine awp_assoc ?_
  refine awp_sr fun K hK=>?_;refine aOps_split 5 fun K hK=>?_;simp [gw];apply hK;clear hK K;refine aOps_split 4 fun K hK=>?_;simp [gu,hlt,hor,hel];apply hK;clear hK K;simp;apply hK;clear hK K;refine awp_seq_k fun K hK=>?_;refine awp_condF rfl (by simp) ?_;refine awp_exit ?_;simp;clear hK K;apply hK;clear hK K;refine awp_sr fun K hK=>?_;simp;apply hK;clear hK K;simp [reset_all hcl]
def tw (p:UInt8→Bool) (l:List UInt8):Nat:=(l.takeWhile p).length
theorem tw_lt {p:UInt8→Bool}:∀ {l:List UInt8} {k:Nat},k < tw p l→∃ c,l[k]?=some c∧p c=true
 | [],k,h=>by simp [tw] at h
 | c::l,k,h=>by
  unfold tw at h
  rw [List.takeWhile_cons] at h
  split at h
  ·rename_i hc
   cases k with
   | zero=>exact ⟨c,rfl,hc⟩
   | succ k=>exact tw_lt (l:=l) (by unfold tw;simpa using h)
  ·simp at h
theorem tw_at {p:UInt8→Bool}:∀ {l:List UInt8},tw p l≤l.length∧∀ c,l[tw p l]?=some c→p c=false
 | []=>by simp [tw]
 | c::l=>by
  have ih:=tw_at (p:=p) (l:=l)
  unfold tw at ih ⊢
  rw [List.takeWhile_cons]
  split
  ·exact ⟨by simpa using ih.1,fun d hd=>ih.2 d (by simpa using hd)⟩
  ·rename_i hc
   refine ⟨by simp,fun d hd=>?_⟩
   simp only [List.length_nil,List.getElem?_cons_zero,Option.some.injEq] at hd
   subst hd;simpa using hc
def byt (s:ByteArray):List UInt8:=s.data.toList
def isSp (c:UInt8):Bool:=decide ((c.toNat:Int)=32)
def spN (s:ByteArray) (k:Nat):Nat:=k+tw isSp ((byt s).drop k)
def endN (s:ByteArray) (j:Nat):Nat:=match (byt s)[j]? with
 | none=>j
 | some c=>if tailB c then j+1+tw tailB ((byt s).drop (j+1))
  else if (c.toNat:Int)=45∧∃ d,(byt s)[j+1]?=some d∧(d.toNat:Int)=62 then j+2 else j+1
theorem byt_len (s:ByteArray):(byt s).length=s.size:=(ba_size s).symm
def rdC (s:ByteArray) (a e:Nat) (bad:Bool):ABlock:=.cells [strV s,intV (a:Int),intV (e:Int),boolV bad]
theorem next_c (ri k0 a e:Nat) (s:ByteArray) (bad:Bool) (hk0:k0≤s.size) (hs:s.size < 1152921504606846976) (H:AHeap) (hH:H.get ri=some (rdC s a e bad)) :
  ACalls Tryz.prog 54 [.ref ri 0,intV (k0:Int)] H (.tuple []) (H.upd ri (rdC s (spN s k0) (endN s (spN s k0)) bad)):=by
 refine acalls_walk (fun _=>.imm) [0,1,4,20,34,43,59,86] Tryz.mixed Tryz.func54 rfl rfl rfl (by decide) (fun hcl hlow=>?_)
 have hrl:ri < H.next:=(hcl _ _ hH).1
 have g:∀ bs,(HL H bs).get ri=some (.cells [strV s,intV (a:Int),intV (e:Int),boolV bad]):=fun bs=>by rw [get_lt hrl];exact hH
 obtain ⟨htl,hta⟩:=tw_at (p:=isSp) (l:=(byt s).drop k0)
 have hlt:=fun j=>tw_lt (p:=isSp) (l:=(byt s).drop k0) (k:=j)
 have hlen:((byt s).drop k0).length=s.size - k0:=by simp [byt_len]
 have hsp:spN s k0=k0+tw isSp ((byt s).drop k0):=rfl
 generalize tw isSp ((byt s).drop k0)=n at htl hta hlt hsp
 rw [hsp]
 refine awp_seq_k fun K hK=>?_;refine awp_block ?_
 refine awp_up n (fun k=>Env.ofL [(0,.ref ri 0),(1,intV ((k0:Int)+k))]) (fun k=>HL (H) []) (fun k=>True) (weak_HL (hcl) (by simp) ?_ ?_) ?_ (fun k hk hi=>?_) (fun hi=>?_)
 ·simp [lt_nid hrl]
 ·simp [lt_nid hrl]
 ·trivial
 ·obtain ⟨c,hc,hcs⟩:=hlt k hk
  rw [List.getElem?_drop] at hc
  have hc':s.data.toList[k0+k]?=some c:=hc
  have hlk:(k0:Int)+k < s.size:=by omega
  have h32:(c.toNat:Int)=32:=of_decide_eq_true hcs
  have t1:((k0:Int)+k).toNat=k0+k:=by omega
  have t2:(0:Int)≤(k0:Int)+k:=by omega
  have w2:IntKind.i64.wrap ((k0:Int)+k+1)=(k0:Int)+(k+1:Nat):=by rw [wrap64 (by omega) (by omega)];omega
  repeat with_reducible refine awp_assoc ?_
  refine awp_sr fun K hK=>?_;refine aOps_split 8 fun K hK=>?_;simp [g,hlk];apply hK;clear hK K;refine aOps_split 5 fun K hK=>?_;simp [g];apply hK;clear hK K;simp [t1,t2,hc',h32];apply hK;clear hK K;refine awp_seq_k fun K hK=>?_;refine awp_condT rfl (by simp) ?_;refine awp_skip ?_;apply hK;clear hK K;refine awp_block ?_;refine awp_region ?_;simp [w2]
  refine weak_HL (hcl) (by simp) (by simp [lt_nid hrl]) (by simp [lt_nid hrl])
 ·have hj:k0+n≤s.size:=by omega
  have hno:∀ c,s.data.toList[k0+n]?=some c→¬ (c.toNat:Int)=32:=by
   intro c hc h
   have h1:=hta c (by rw [List.getElem?_drop];exact hc)
   unfold isSp at h1
   rw [decide_eq_true h] at h1;cases h1
  have t1:((k0:Int)+n).toNat=k0+n:=by omega
  have t2:(0:Int)≤(k0:Int)+n:=by omega
  repeat with_reducible refine awp_assoc ?_
  refine awp_sr fun K hK=>?_
  suffices hk:K (Env.ofL [(0,.ref ri 0),(1,intV ((k0:Int)+n)),(4,.undef),(20,boolV false),(34,.undef),(43,.undef),(59,.undef),(86,.undef)]) (HL H []) by
   by_cases hend:k0+n < s.size
   ·obtain ⟨c,hc⟩:∃ c,s.data.toList[k0+n]?=some c:=⟨_,List.getElem?_eq_getElem (by rw [←ba_size];exact hend)⟩
    have h32:=hno c hc
    have hlk:(k0:Int)+n < s.size:=by omega
    refine aOps_split 8 fun K hK=>?_;simp [g,hlk];apply hK;clear hK K;refine aOps_split 5 fun K hK=>?_;simp [g];apply hK;clear hK K;simp [t1,t2,hc,h32]
    exact hk
   ·have hlk:¬ (k0:Int)+n < s.size:=by omega
    refine aOps_split 8 fun K hK=>?_;simp [g,hlk];apply hK;clear hK K;refine aOps_split 5 fun K hK=>?_;simp;apply hK;clear hK K;simp
    exact hk
  apply hK;clear hK K;refine awp_seq_k fun K hK=>?_;refine awp_condF rfl (by simp) ?_;refine awp_exit ?_;simp;clear hK K;apply hK;clear hK K
  have hjI:(k0:Int)+n=((k0+n:Nat):Int):=by omega
  rw [hjI]
  clear hta hlt hlen hsp t1 t2 hno hjI
  generalize k0+n=j at *
  have u:∀ b bs,(HL H bs).upd ri b=HL (H.upd ri b) bs:=fun b bs=>upd_lt hrl
  have g2:∀ x bs,(HL (H.upd ri (.cells x)) bs).get ri=some (.cells x):=fun x bs=>by rw [get_lt (by exact hrl)];exact get_upd_self
  have u2:∀ x b bs,(HL (H.upd ri (.cells x)) bs).upd ri b=HL (H.upd ri b) bs:=fun x b bs=>by rw [upd_lt (by exact hrl),upd_upd]
  have hclu:∀ x y z w:Value,(H.upd ri (.cells [.v x,.v y,.v z,.v w])).Closed:=fun x y z w=>closed_upd hcl hrl (by simp)
  refine awp_sr fun K hK=>?_;simp [g,u];apply hK;clear hK K;refine awp_sr fun K hK=>?_;simp;apply hK;clear hK K
  by_cases hj2:j < s.size
  rotate_left
  ·have hj3:¬ (j:Int) < s.size:=by omega
   have he:endN s j=j:=by unfold endN;rw [List.getElem?_eq_none (by rw [byt_len];omega)]
   rw [he]
   repeat with_reducible refine awp_assoc ?_
   refine awp_sr fun K hK=>?_;simp [g2,hj3];apply hK;clear hK K;refine awp_seq_k fun K hK=>?_;refine awp_condF rfl (by simp) ?_;refine awp_skip ?_;apply hK;clear hK K;refine awp_region ?_;simp [g2,u2]
   exact reset_all (hclu _ _ _ _)
  have hj3:(j:Int) < s.size:=by omega
  obtain ⟨c,hc⟩:∃ c,s.data.toList[j]?=some c:=⟨_,List.getElem?_eq_getElem (by rw [←ba_size];exact hj2)⟩
  have he:endN s j=if tailB c then j+1+tw tailB ((byt s).drop (j+1)) else if (c.toNat:Int)=45∧∃ d,(byt s)[j+1]?=some d∧(d.toNat:Int)=62 then j+2 else j+1:=by
   unfold endN;rw [show (byt s)[j]?=some c from hc]
  have w1:IntKind.i64.wrap ((j:Int)+1)=(j:Int)+1:=wrap64 (by omega) (by omega)
  repeat with_reducible refine awp_assoc ?_
  refine awp_sr fun K hK=>?_;simp [g2,hj3];apply hK;clear hK K;refine awp_seq_k fun K hK=>?_;refine awp_condT rfl (by simp) ?_;refine awp_sr fun K hK=>?_;simp [w1];apply hK;clear hK K;refine awp_sr fun K hK=>?_;refine aOps_split 6 fun K hK=>?_;simp [g2,hc];apply hK;clear hK K;refine aOps_call (rInner_c c _) (by first | rfl | simp) rfl rfl (by first | (simp;done) | rfl) ?_;simp;apply hK;clear hK K
  cases ht:tailB c
  rotate_left
  ·rw [ht,if_pos rfl] at he
   obtain ⟨htl,hta⟩:=tw_at (p:=tailB) (l:=(byt s).drop (j+1))
   have hlt:=fun i=>tw_lt (p:=tailB) (l:=(byt s).drop (j+1)) (k:=i)
   have hlen:((byt s).drop (j+1)).length=s.size - (j+1):=by simp [byt_len]
   generalize tw tailB ((byt s).drop (j+1))=m at htl hta hlt he
   refine awp_condT rfl (by simp [ht]) ?_;refine awp_block ?_
   refine awp_up m (fun k=>Env.ofL [(0,.ref ri 0),(4,intV ((j:Int)+1+k))]) (fun k=>HL (H.upd ri (.cells [strV s,intV (j:Int),intV (e:Int),boolV bad])) []) (fun _=>True) (weak_HL (hclu _ _ _ _) (by simp) (by simp) (by simp [lt_nid hrl])) trivial (fun k hk hi=>?_) (fun hi=>?_)
   ·obtain ⟨d,hd,hdt⟩:=hlt k hk
    rw [List.getElem?_drop] at hd
    have hd':s.data.toList[j+1+k]?=some d:=hd
    have hlk:(j:Int)+1+k < s.size:=by omega
    have t1:((j:Int)+1+k).toNat=j+1+k:=by omega
    have t2:(0:Int)≤(j:Int)+1+k:=by omega
    have w2:IntKind.i64.wrap ((j:Int)+1+k+1)=(j:Int)+1+(k+1:Nat):=by rw [wrap64 (by omega) (by omega)];omega
    repeat with_reducible refine awp_assoc ?_
    refine awp_sr fun K hK=>?_;refine aOps_split 8 fun K hK=>?_;simp [g2,hlk];apply hK;clear hK K;refine aOps_split 6 fun K hK=>?_;simp [g2,t1,t2,hd'];apply hK;clear hK K;refine aOps_call (rInner_c d _) (by first | rfl | simp) rfl rfl (by first | (simp;done) | rfl) ?_;simp;apply hK;clear hK K;refine awp_seq_k fun K hK=>?_;refine awp_condT rfl (by simp [hdt]) ?_;refine awp_skip ?_;apply hK;clear hK K;refine awp_block ?_;refine awp_region ?_;simp [w2]
    refine weak_HL (hclu _ _ _ _) (by simp) (by simp [lt_nid hrl]) (by simp [lt_nid hrl])
   ·have hno:∀ d,s.data.toList[j+1+m]?=some d→tailB d=false:=fun d hd=>hta d (by rw [List.getElem?_drop];exact hd)
    have t1:((j:Int)+1+m).toNat=j+1+m:=by omega
    have t2:(0:Int)≤(j:Int)+1+m:=by omega
    repeat with_reducible refine awp_assoc ?_
    refine awp_sr fun K hK=>?_
    suffices hk:K (Env.ofL [(0,.ref ri 0),(1,.undef),(4,intV ((j:Int)+1+m)),(20,.undef),(34,.undef),(43,.undef),(59,boolV false),(86,.undef)]) (HL (H.upd ri (.cells [strV s,intV (j:Int),intV (e:Int),boolV bad])) []) by
     by_cases hend:j+1+m < s.size
     ·obtain ⟨d,hd⟩:∃ d,s.data.toList[j+1+m]?=some d:=⟨_,List.getElem?_eq_getElem (by rw [←ba_size];exact hend)⟩
      have hdt:=hno d hd
      have hlk:(j:Int)+1+m < s.size:=by omega
      refine aOps_split 8 fun K hK=>?_;simp [g2,hlk];apply hK;clear hK K;refine aOps_split 6 fun K hK=>?_;simp [g2,t1,t2,hd];apply hK;clear hK K;refine aOps_call (rInner_c d _) (by first | rfl | simp) rfl rfl (by first | (simp;done) | rfl) ?_;simp [hdt]
      exact hk
     ·have hlk:¬ (j:Int)+1+m < s.size:=by omega
      refine aOps_split 8 fun K hK=>?_;simp [g2,hlk];apply hK;clear hK K;refine aOps_split 6 fun K hK=>?_;simp;apply hK;clear hK K;simp
      exact hk
    apply hK;clear hK K;refine awp_seq_k fun K hK=>?_;refine awp_condF rfl (by simp) ?_;refine awp_exit ?_;simp;clear hK K;apply hK;clear hK K
    have ej:(j:Int)+1+m=((j+1+m:Nat):Int):=by omega
    rw [he,ej]
    refine awp_region ?_;simp only [←ej];simp [g2,u2]
    exact reset_all (hclu _ _ _ _)
  ·rw [ht,if_neg (by simp)] at he
   refine awp_condF rfl (by simp [ht]) ?_;refine awp_sr fun K hK=>?_
   suffices hk:∀ b:Bool,b=decide ((c.toNat:Int)=45∧∃ d,(byt s)[j+1]?=some d∧(d.toNat:Int)=62) →
     K (Env.ofL [(0,.ref ri 0),(1,intV (j:Int)),(4,intV ((j:Int)+1)),(20,boolV false),(34,boolV true),(43,boolV false),(59,.undef),(86,boolV b)]) (HL (H.upd ri (.cells [strV s,intV (j:Int),intV (e:Int),boolV bad])) []) by
    by_cases h45:(c.toNat:Int)=45
    rotate_left
    ·refine aOps_split 8 fun K hK=>?_;simp [g2,hc,h45];apply hK;clear hK K;refine aOps_split 8 fun K hK=>?_;simp;apply hK;clear hK K;refine aOps_split 8 fun K hK=>?_;simp;apply hK;clear hK K;simp
     exact hk false (by simp [h45])
    ·by_cases hend:j+1 < s.size
     ·obtain ⟨d,hd⟩:∃ d,s.data.toList[j+1]?=some d:=⟨_,List.getElem?_eq_getElem (by rw [←ba_size];exact hend)⟩
      have hlk:(j:Int)+1 < s.size:=by omega
      have t1:((j:Int)+1).toNat=j+1:=by omega
      have t2:(0:Int)≤(j:Int)+1:=by omega
      have hd2:(byt s)[j+1]?=some d:=hd
      refine aOps_split 5 fun K hK=>?_;simp [g2];apply hK;clear hK K;refine aOps_split 3 fun K hK=>?_;simp [hc,h45];apply hK;clear hK K;refine aOps_split 5 fun K hK=>?_;simp [g2];apply hK;clear hK K;refine aOps_split 4 fun K hK=>?_;simp [hlk];apply hK;clear hK K
      by_cases h62:(d.toNat:Int)=62
      ·refine aOps_split 5 fun K hK=>?_;simp [g2];apply hK;clear hK K;refine aOps_split 1 fun K hK=>?_;simp [t1,t2,hd];apply hK;clear hK K;simp [h62]
       exact hk true (by simp [h45,hd2,h62])
      ·refine aOps_split 5 fun K hK=>?_;simp [g2];apply hK;clear hK K;refine aOps_split 1 fun K hK=>?_;simp [t1,t2,hd];apply hK;clear hK K;simp [h62]
       exact hk false (by simp [hd2,h62])
     ·have hlk:¬ (j:Int)+1 < s.size:=by omega
      have hd2:(byt s)[j+1]?=none:=List.getElem?_eq_none (by rw [byt_len];omega)
      refine aOps_split 5 fun K hK=>?_;simp [g2];apply hK;clear hK K;refine aOps_split 3 fun K hK=>?_;simp [hc,h45];apply hK;clear hK K;refine aOps_split 5 fun K hK=>?_;simp [g2];apply hK;clear hK K;refine aOps_split 4 fun K hK=>?_;simp [hlk];apply hK;clear hK K;refine aOps_split 5 fun K hK=>?_;simp;apply hK;clear hK K;simp
      exact hk false (by simp [hd2])
   intro b hb
   apply hK;clear hK K
   cases b
   ·have hno:=of_decide_eq_false hb.symm
    rw [if_neg hno] at he
    refine awp_condF rfl (by simp) ?_;refine awp_skip ?_;apply hK;clear hK K
    rw [he]
    refine awp_region ?_;simp [g2,u2]
    exact reset_all (hclu _ _ _ _)
   ·have hyes:=of_decide_eq_true hb.symm
    rw [if_pos hyes] at he
    have w3:IntKind.i64.wrap ((j:Int)+1+1)=(j:Int)+2:=by rw [wrap64 (by omega) (by omega)];omega
    refine awp_condT rfl (by simp) ?_;refine awp_region ?_;simp [w3];apply hK;clear hK K
    rw [he]
    refine awp_region ?_;simp [g2,u2]
    exact reset_all (hclu _ _ _ _)
end Go.Proofs.YtgeehnbbhnpimaaGreat
