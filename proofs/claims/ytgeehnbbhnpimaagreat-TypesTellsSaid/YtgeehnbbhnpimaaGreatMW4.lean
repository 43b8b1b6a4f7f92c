/- Classes made equal. -/
import Derived.Test.YtgeehnbbhnpimaaGreatMW3
set_option linter.unusedVariables false
set_option linter.unusedSimpArgs false
namespace Go.Proofs.YtgeehnbbhnpimaaGreat
open Go Go.Abs Go.Proofs
set_option maxRecDepth 20000
attribute [local simp] aOps wantedA aStep aop aLoad aStore aBin aUn aFieldAddr aField aIndexAddr aIndex aLen aBuild aFill aAlloc aAppend aBuildSlice litRows newRows isMut isOwn isNilS nilsW bytesR tokW tokAV tokL ret readC splice aeval isLit isLate AV.celled AV.one AV.ofValue Value.oneCell' Value.cells intOp strOp get_nid upd_nid awp aEnd aResults aResult Det unord isCall isNext
attribute [local simp] low_take low_strs low_comp low_tcomp wkEs_refl' WkBs WkEnv WkB WkL WkE WkO ABlock.low lowO lowL lowR AV.low cellsL_eq Ty.low low_map Ty.cells_length Ty.cells_one
attribute [local simp] low_bind GC_next
mutual
def unF:Nat→Cl→Ty→Ty→Option (Bool × Cl)
 | 0,_,_,_=>none
 | f+1,c,a,b =>
  if a.isVar then (match topF c.up f a.name with | some s=>bindF f c s b | none=>none)
  else if b.isVar then (match topF c.up f b.name with | some s=>bindF f c s a | none=>none)
  else if a.name=b.name∧a.args.length=b.args.length then unL f c a.args b.args else some (false,c)
def bindF:Nat→Cl→ByteArray→Ty→Option (Bool × Cl)
 | 0,_,_,_=>none
 | f+1,c,s,t =>
  if t.isVar then (match topF c.up f t.name with | some u=>joinF f c s u | none=>none)
  else (match lookT c.is s with | some x=>pairsF f c x t | none=>some (true,{ c with is:=c.is++[(s,t)],iv:=c.iv+1 }))
def pairsF:Nat→Cl→Ty→Ty→Option (Bool × Cl)
 | 0,_,_,_=>none
 | f+1,c,x,t =>
  if x.name=t.name∧x.args.length=t.args.length then (if memS (keyN x t) c.met then some (true,c) else unL f { c with met:=c.met++[keyN x t] } x.args t.args) else some (false,c)
def joinF:Nat→Cl→ByteArray→ByteArray→Option (Bool × Cl)
 | 0,_,_,_=>none
 | f+1,c,a,b=>if a=b then some (true,c) else (match lookG (rankL c.ns) a,lookG (rankL c.ns) b with
  | some x,some y=>if y < x then joinG f c b a else joinG f c a b
  | _,_=>none)
def joinG:Nat→Cl→ByteArray→ByteArray→Option (Bool × Cl)
 | 0,_,_,_=>none
 | f+1,c,a,b=>if (lookG c.up b).isSome then (match lookT c.is b with
  | none=>some (true,{ c with up:=putG c.up b a })
  | some y=>(match lookT (delG c.is b) a with
   | none=>some (true,{ c with up:=putG c.up b a,is:=delG c.is b++[(a,y)],iv:=c.iv+1+1 })
   | some x=>pairsF f { c with up:=putG c.up b a,is:=delG c.is b,iv:=c.iv+1 } x y)) else none
def unL:Nat→Cl→List Ty→List Ty→Option (Bool × Cl)
 | 0,_,_,_=>none
 | f+1,c,p::ps,t::ts=>(match unF f c p t with | some (true,c')=>unL f c' ps ts | some (false,c')=>some (false,c') | none=>none)
 | _+1,c,[],_=>some (true,c)
 | _+1,c,_::_,[]=>some (true,c)
end
def SmallC (c:Cl):Prop:=∀ p∈c.is,p.2.wt < 1099511627776
theorem delG_sub {α:Type} (m:List (ByteArray × α)) (s:ByteArray):∀ p∈delG m s,p∈m:=by
 induction m with
 | nil=>simp [delG]
 | cons q m ih =>
  intro p hp
  simp only [delG] at hp
  split at hp
  ·simp [hp]
  ·rcases List.mem_cons.1 hp with rfl | hp
   ·simp
   ·simp [ih p hp]
theorem arg_wt {t x:Ty} (h:x∈t.args):x.wt≤t.wt:=by
 obtain ⟨n,l⟩:=t
 have:=wtL_mem h
 simp only [Ty.args,Ty.wt] at this ⊢
 omega
theorem small_app {c:Cl} {s:ByteArray} {t:Ty} {l:TyM} (h:∀ p∈l,p.2.wt < 1099511627776) (ht:t.wt < 1099511627776):∀ p∈l++[(s,t)],p.2.wt < 1099511627776:=by
 intro p hp
 rcases List.mem_append.1 hp with hp | hp
 ·exact h p hp
 ·simp at hp;subst hp;exact ht
mutual
theorem unF_small:∀ (f:Nat) (c:Cl) (a b:Ty) (r:Bool) (c':Cl),unF f c a b=some (r,c')→SmallC c→a.wt < 1099511627776→b.wt < 1099511627776→SmallC c'
 | 0,_,_,_,_,_,h,_,_,_=>by simp [unF] at h
 | f+1,c,a,b,r,c',h,hc,ha,hb=>by
  simp only [unF] at h
  split at h
  ·split at h
   ·exact bindF_small f _ _ _ _ _ h hc hb
   ·cases h
  ·split at h
   ·split at h
    ·exact bindF_small f _ _ _ _ _ h hc ha
    ·cases h
   ·split at h
    ·exact unL_small f _ _ _ _ _ h hc (fun x hx=>by have:=arg_wt hx;omega) (fun x hx=>by have:=arg_wt hx;omega)
    ·simp only [Option.some.injEq,Prod.mk.injEq] at h;rw [←h.2];exact hc
theorem bindF_small:∀ (f:Nat) (c:Cl) (s:ByteArray) (b:Ty) (r:Bool) (c':Cl),bindF f c s b=some (r,c')→SmallC c→b.wt < 1099511627776→SmallC c'
 | 0,_,_,_,_,_,h,_,_=>by simp [bindF] at h
 | f+1,c,s,b,r,c',h,hc,hb=>by
  simp only [bindF] at h
  split at h
  ·split at h
   ·exact joinF_small f _ _ _ _ _ h hc
   ·cases h
  ·split at h
   ·rename_i hk;exact pairsF_small f _ _ _ _ _ h hc (hc _ (lookT_mem hk)) hb
   ·simp only [Option.some.injEq,Prod.mk.injEq] at h;rw [←h.2];exact small_app (c:=c) hc hb
theorem pairsF_small:∀ (f:Nat) (c:Cl) (a b:Ty) (r:Bool) (c':Cl),pairsF f c a b=some (r,c')→SmallC c→a.wt < 1099511627776→b.wt < 1099511627776→SmallC c'
 | 0,_,_,_,_,_,h,_,_,_=>by simp [pairsF] at h
 | f+1,c,a,b,r,c',h,hc,ha,hb=>by
  simp only [pairsF] at h
  split at h
  ·split at h
   ·simp only [Option.some.injEq,Prod.mk.injEq] at h;rw [←h.2];exact hc
   ·exact unL_small f _ _ _ _ _ h hc (fun x hx=>by have:=arg_wt hx;omega) (fun x hx=>by have:=arg_wt hx;omega)
  ·simp only [Option.some.injEq,Prod.mk.injEq] at h;rw [←h.2];exact hc
theorem joinF_small:∀ (f:Nat) (c:Cl) (a b:ByteArray) (r:Bool) (c':Cl),joinF f c a b=some (r,c')→SmallC c→SmallC c'
 | 0,_,_,_,_,_,h,_=>by simp [joinF] at h
 | f+1,c,a,b,r,c',h,hc=>by
  simp only [joinF] at h
  split at h
  ·simp only [Option.some.injEq,Prod.mk.injEq] at h;rw [←h.2];exact hc
  ·split at h
   ·split at h
    ·exact joinG_small f _ _ _ _ _ h hc
    ·exact joinG_small f _ _ _ _ _ h hc
   ·cases h
theorem joinG_small:∀ (f:Nat) (c:Cl) (a b:ByteArray) (r:Bool) (c':Cl),joinG f c a b=some (r,c')→SmallC c→SmallC c'
 | 0,_,_,_,_,_,h,_=>by simp [joinG] at h
 | f+1,c,a,b,r,c',h,hc=>by
  have hd:∀ p∈delG c.is b,p.2.wt < 1099511627776:=fun p hp=>hc p (delG_sub _ _ p hp)
  simp only [joinG] at h
  split at h
  ·split at h
   ·simp only [Option.some.injEq,Prod.mk.injEq] at h;rw [←h.2];exact hc
   ·rename_i hk
    split at h
    ·simp only [Option.some.injEq,Prod.mk.injEq] at h;rw [←h.2];exact small_app (c:=c) hd (hc _ (lookT_mem hk))
    ·rename_i hk2;exact pairsF_small f _ _ _ _ _ h hd (hd _ (lookT_mem hk2)) (hc _ (lookT_mem hk))
  ·cases h
theorem unL_small:∀ (f:Nat) (c:Cl) (a b:List Ty) (r:Bool) (c':Cl),unL f c a b=some (r,c')→SmallC c→(∀ x∈a,x.wt < 1099511627776)→(∀ x∈b,x.wt < 1099511627776)→SmallC c'
 | 0,_,_,_,_,_,h,_,_,_=>by simp [unL] at h
 | f+1,c,p::ps,t::ts,r,c',h,hc,ha,hb=>by
  simp only [unL] at h
  split at h
  ·rename_i hr;exact unL_small f _ _ _ _ _ h (unF_small f _ _ _ _ _ hr hc (ha p (by simp)) (hb t (by simp))) (fun x hx=>ha x (by simp [hx])) (fun x hx=>hb x (by simp [hx]))
  ·rename_i hr
   simp only [Option.some.injEq,Prod.mk.injEq] at h;rw [←h.2];exact unF_small f _ _ _ _ _ hr hc (ha p (by simp)) (hb t (by simp))
  ·cases h
 | f+1,c,[],_,r,c',h,hc,_,_=>by simp only [unL,Option.some.injEq,Prod.mk.injEq] at h;rw [←h.2];exact hc
 | f+1,c,_::_,[],r,c',h,hc,_,_=>by simp only [unL,Option.some.injEq,Prod.mk.injEq] at h;rw [←h.2];exact hc
end
section
variable {I:Ids} {H:AHeap}
theorem GC_hold (hI:I.L.Nodup) (h:∀ x∈I.L,x < H.next) (c:Cl) (bs:List ABlock):Holds (HL (GC I H c) bs) (clB I c):=by
 rw [←GC_HL h];exact puts_holds _ hI
theorem GC_cl {c:Cl} (hc:(GC I H c).Closed) (c':Cl) (h:∀ x∈I.L,x < (GC I H c).next) (hI:I.L.Nodup):(GC I H c').Closed:=by
 rw [←GC_GC hI c c'];exact GC_closed hc h
def EqC (I:Ids) (f:Nat):Prop:=∀ (c:Cl) (a b:Ty) (r:Bool) (c':Cl) (H:AHeap),SmallC c→a.wt < 1099511627776→b.wt < 1099511627776→unF f c a b=some (r,c')→(∀ x∈I.L,x < H.next) →
 ACalls Tryz.prog 68 [.ref I.c 0,a.enc,b.enc] (GC I H c) (boolV r) (GC I H c')
def BindC (I:Ids) (f:Nat):Prop:=∀ (c:Cl) (s:ByteArray) (b:Ty) (r:Bool) (c':Cl) (H:AHeap),SmallC c→b.wt < 1099511627776→bindF f c s b=some (r,c')→(∀ x∈I.L,x < H.next) →
 ACalls Tryz.prog 102 [.ref I.c 0,strV s,b.enc] (GC I H c) (boolV r) (GC I H c')
def PairsC (I:Ids) (f:Nat):Prop:=∀ (c:Cl) (a b:Ty) (r:Bool) (c':Cl) (H:AHeap),SmallC c→a.wt < 1099511627776→b.wt < 1099511627776→pairsF f c a b=some (r,c')→(∀ x∈I.L,x < H.next) →
 ACalls Tryz.prog 120 [.ref I.c 0,a.enc,b.enc] (GC I H c) (boolV r) (GC I H c')
def JoinC (I:Ids) (f:Nat):Prop:=∀ (c:Cl) (a b:ByteArray) (r:Bool) (c':Cl) (H:AHeap),SmallC c→joinF f c a b=some (r,c')→(∀ x∈I.L,x < H.next) →
 ACalls Tryz.prog 119 [.ref I.c 0,strV a,strV b] (GC I H c) (boolV r) (GC I H c')
set_option maxRecDepth 10000 in
theorem bind_c (hI:I.L.Nodup) (f:Nat) (hp:PairsC I f) (hj:JoinC I f):BindC I (f+1):=by
 intro c s t r c' H hsm htw he hlt
 have htop:=fun s r hf bs=>top_c I hI c s r f hf (HL (GC I H c) bs) (GC_hold hI hlt c bs)
 obtain ⟨nm,l⟩:=t
 refine acalls_walk (fun _=>.imm) [0,1,2,5,6,7,8,10,28] Tryz.mixed Tryz.func102 rfl rfl rfl (by decide) (fun hcl hlow=>?_)
 simp only [Ty.enc,Ty.cells]
 have hg:=fun c bs=>(GC_get (H:=H) (c:=c) hI hlt bs)
 have g1:=fun c bs=>(hg c bs).1
 have g4:=fun c bs=>(hg c bs).2.2.2.1
 have hcu:=fun c'=>GC_cl hcl c' (by simpa using hlt) hI
 have hil:I.c < H.next:=hlt _ (by simp [Ids.L])
 simp only [bindF] at he;refine awp_sr fun K hK=>?_;simp;apply hK;clear hK K;repeat with_reducible refine awp_assoc ?_
 refine awp_sr fun K hK=>?_;refine aOps_split 1 fun K hK=>?_;simp;apply hK;clear hK K
 have hc:=isVar_c (.mk nm l)
 simp only [Ty.enc,Ty.cells,cellsL_eq] at hc;refine aOps_call (hc _) (by first | rfl | simp) rfl rfl rfl ?_
 clear hc
 simp;apply hK;clear hK K
 cases hv:(Ty.mk nm l).isVar
 rotate_left
 ·rw [if_pos hv] at he
  cases ht:topF c.up f (Ty.mk nm l).name with
  | none=>rw [ht] at he;cases he
  | some u =>
  rw [ht] at he
  simp only at he
  have hj2:=fun bs=>hj c s u r c' (HL H bs) hsm he (by simp;exact fun x hx=>lt_nid (hlt x hx))
  simp only [GC_HL hlt] at hj2;refine awp_seq_k fun K hK=>?_;refine awp_condT rfl (by simp [hv]) ?_;refine awp_sr fun K hK=>?_;refine aOps_split 5 fun K hK=>?_;simp;apply hK;clear hK K;refine aOps_call (htop _ _ ht _) (by first | rfl | simp) rfl rfl (by first | (simp;done) | rfl) ?_;refine aOps_split 0 fun K hK=>?_;simp;apply hK;clear hK K;refine aOps_call (hj2 _) (by first | rfl | simp) rfl rfl (by first | (simp;done) | rfl) ?_;simp;apply hK;clear hK K;simp [reset_all (hcu _)]
 ·rw [if_neg (by simp [hv])] at he
  refine awp_seq_k fun K hK=>?_;refine awp_condF rfl (by simp [hv]) ?_;refine awp_skip ?_;apply hK;clear hK K
  cases hk:lookT c.is s with
  | none =>
   rw [hk] at he
   simp only [Option.some.injEq,Prod.mk.injEq] at he
   obtain ⟨rfl,rfl⟩:=he
   have e1:aPut (tyEs c.is) (.string s) (.agg [strV nm,.slice (l.map Ty.cells) none])=tyEs (c.is++[(s,.mk nm l)]):=by rw [←enc_mk,aPut_ty,putM_new hk]
   have e2:aVer (tyEs c.is) (.string s) c.iv true=c.iv+1:=by rw [aVer_ty,hk];rfl
   refine awp_sr fun K hK=>?_;simp [aLookup,g1,g4,keys_ty,keyOk,aLook_ty,hk,enc_mk];apply hK;clear hK K;repeat with_reducible refine awp_assoc ?_
   refine awp_sr fun K hK=>?_;simp;apply hK;clear hK K;refine awp_seq_k fun K hK=>?_;refine awp_condT rfl (by simp) ?_;refine awp_sdo [6] [[],[],[],[],[0,1,2,3],[0,1,2,3,4],[]] (by kernel_rfl) (by rfl) (by rfl) fun K hK=>?_;simp [aMapUpdate,g1,g4,keys_ty,keyOk,e1,e2,GC_upd_i hI hlt];apply hK;clear hK K;refine awp_sr fun K hK=>?_;simp;apply hK;clear hK K;simp [reset_all (hcu _)]
  | some x =>
   rw [hk] at he
   simp only at he
   have hp2:=fun bs=>hp c x (.mk nm l) r c' (HL H bs) hsm (hsm _ (lookT_mem hk)) htw he (by simp;exact fun x hx=>lt_nid (hlt x hx))
   simp only [GC_HL hlt,enc_eq x,enc_mk] at hp2;refine awp_sr fun K hK=>?_;simp [aLookup,g1,g4,keys_ty,keyOk,aLook_ty,hk,enc_eq];apply hK;clear hK K;repeat with_reducible refine awp_assoc ?_
   refine awp_sr fun K hK=>?_;simp;apply hK;clear hK K;refine awp_seq_k fun K hK=>?_;refine awp_condF rfl (by simp) ?_;refine awp_skip ?_;apply hK;clear hK K;refine awp_sr fun K hK=>?_;refine aOps_split 3 fun K hK=>?_;simp;apply hK;clear hK K;refine aOps_call (hp2 _) (by first | rfl | simp) rfl rfl (by first | (simp;done) | rfl) ?_;simp;apply hK;clear hK K;simp [reset_all (hcu _)]
set_option maxRecDepth 10000 in
theorem pairs_c (hI:I.L.Nodup) (f:Nat) (hu:∀ g,g < f→EqC I g):PairsC I (f+1):=by
 intro c a b r c' H hsm haw hbw he hlt
 have hta:=fun H=>text_c a 0 (by omega) (by omega) H
 have htb:=fun H=>text_c b 0 (by omega) (by omega) H
 have hsa:=text_size a 0
 have hsb:=text_size b 0
 obtain ⟨n,l⟩:=a
 obtain ⟨n',l'⟩:=b
 simp only [enc_mk] at hta htb
 refine acalls_walk (fun _=>.imm) [0,1,2,4,5,6,7,8,22,34,42,43,44,58] Tryz.mixed Tryz.func120 rfl rfl rfl (by decide) (fun hcl hlow=>?_)
 simp only [Ty.enc,Ty.cells]
 have hcu:=fun c'=>GC_cl hcl c' (by simpa using hlt) hI
 have hg:=fun c bs=>(GC_get (H:=H) (c:=c) hI hlt bs)
 have g1:=fun c bs=>(hg c bs).1
 have g5:=fun c bs=>(hg c bs).2.2.2.2
 have hil:I.c < H.next:=hlt _ (by simp [Ids.L])
 simp only [pairsF] at he;refine awp_sr fun K hK=>?_;simp;apply hK;clear hK K
 by_cases hn:n=n'
 rotate_left
 ·rw [if_neg (fun h=>hn h.1)] at he
  simp only [Option.some.injEq,Prod.mk.injEq] at he
  obtain ⟨rfl,rfl⟩:=he
  repeat with_reducible refine awp_assoc ?_
  refine awp_sr fun K hK=>?_;refine aOps_split 6 fun K hK=>?_;simp [hn];apply hK;clear hK K;refine aOps_split 8 fun K hK=>?_;simp;apply hK;clear hK K;simp;apply hK;clear hK K;refine awp_seq_k fun K hK=>?_;refine awp_condT rfl (by simp) ?_;refine awp_sr fun K hK=>?_;simp;apply hK;clear hK K;simp [reset_all (hcu _)]
 subst hn
 by_cases hlen:l.length=l'.length
 rotate_left
 ·rw [if_neg (fun h=>hlen h.2)] at he
  simp only [Option.some.injEq,Prod.mk.injEq] at he
  obtain ⟨rfl,rfl⟩:=he
  repeat with_reducible refine awp_assoc ?_
  refine awp_sr fun K hK=>?_;refine aOps_split 6 fun K hK=>?_;simp;apply hK;clear hK K;refine aOps_split 8 fun K hK=>?_;simp [show ¬ (l.length:Int)=l'.length by omega];apply hK;clear hK K;simp;apply hK;clear hK K;refine awp_seq_k fun K hK=>?_;refine awp_condT rfl (by simp) ?_;refine awp_sr fun K hK=>?_;simp;apply hK;clear hK K;simp [reset_all (hcu _)]
 rw [if_pos ⟨rfl,hlen⟩] at he
 repeat with_reducible refine awp_assoc ?_
 refine awp_sr fun K hK=>?_;refine aOps_split 6 fun K hK=>?_;simp;apply hK;clear hK K;refine aOps_split 8 fun K hK=>?_;simp [hlen];apply hK;clear hK K;simp;apply hK;clear hK K;refine awp_seq_k fun K hK=>?_;refine awp_condF rfl (by simp) ?_;refine awp_skip ?_;apply hK;clear hK K;refine awp_sdc [] [[],[],[],[0,1,2],[2],[],[]] (by kernel_rfl) (by rfl) fun K hK=>?_;refine aCalm_pre 1 (by rfl) fun K hK=>?_;simp;apply hK;clear hK K;refine aCalm_call0 (hta _) (by first | rfl | simp) rfl rfl rfl (by first | (simp;done) | rfl) ?_;refine aCalm_pre 2 (by rfl) fun K hK=>?_;simp
 refine ⟨by rw [show (⟨#[59]⟩:ByteArray).size=1 from rfl];omega,hK _ _ ?_⟩
 clear hK K;refine aCalm_call0 (htb _) (by first | rfl | simp) rfl rfl rfl (by first | (simp;done) | rfl) ?_;refine aCalm_pre 5 (by rfl) fun K hK=>?_;simp
 refine ⟨by rw [show (⟨#[59]⟩:ByteArray).size=1 from rfl];omega,hK _ _ ?_⟩
 clear hK K
 have ek:textT (.mk n l) 0++(⟨#[59]⟩:ByteArray)++textT (.mk n l') 0=keyN (.mk n l) (.mk n l'):=rfl
 generalize hkey:keyN (.mk n l) (.mk n l')=key at *
 refine aCalm_end ?_;simp
 rw [ek]
 apply hK;clear hK K
 cases hm:memS key c.met
 rotate_left
 ·rw [if_pos hm] at he
  simp only [Option.some.injEq,Prod.mk.injEq] at he
  obtain ⟨rfl,rfl⟩:=he
  repeat with_reducible refine awp_assoc ?_
  refine awp_sr fun K hK=>?_;simp [aLookup,g1,g5,keys_met,keyOk,aLook_met,hm];apply hK;clear hK K;refine awp_seq_k fun K hK=>?_;refine awp_condT rfl (by simp) ?_;refine awp_sr fun K hK=>?_;simp;apply hK;clear hK K;simp [reset_all (hcu _)]
 rw [if_neg (by simp [hm])] at he
 have hv1:aVer (metEs c.met) (.string key) c.met.length true=(c.met++[key]).length:=by simp [aVer,aLook_met,hm]
 repeat with_reducible refine awp_assoc ?_
 refine awp_sr fun K hK=>?_;simp [aLookup,g1,g5,keys_met,keyOk,aLook_met,hm];apply hK;clear hK K;refine awp_seq_k fun K hK=>?_;refine awp_condF rfl (by simp) ?_;refine awp_skip ?_;apply hK;clear hK K
 have hum:∀ bs,(HL (GC I H c) bs).upd I.m (.amap (metEs (c.met++[key])) (c.met.length+1))=HL (GC I H { c with met:=c.met++[key] }) bs:=fun bs=>by simpa using GC_upd_m hI hlt (c:=c) (c.met++[key]) bs
 refine awp_sr fun K hK=>?_;simp [aMapUpdate,g1,g5,keys_met,keyOk,aPut_met hm,hv1,hum];apply hK;clear hK K;repeat with_reducible refine awp_assoc ?_
 refine awp_sr fun K hK=>?_;simp;apply hK;clear hK K
 have hargs1:∀ x∈l,x.wt < 1099511627776:=fun x hx=>by have:=wtL_mem hx;simp only [Ty.wt] at haw;omega
 have hargs2:∀ x∈l',x.wt < 1099511627776:=fun x hx=>by have:=wtL_mem hx;simp only [Ty.wt] at hbw;omega
 have hlw:=wtL_len l
 have hl40:l.length < 1099511627776:=by simp only [Ty.wt] at haw;omega
 refine awp_seq_k fun K hK=>?_;refine awp_block ?_
 refine awp_loop (fun m env H'=>∃ (k g:Nat) (ck:Cl),k≤l.length∧m=l.length - k∧g≤f∧unL g ck (l.drop k) (l'.drop k)=some (r,c')∧SmallC ck ∧
   env=Env.ofL [(0,.ref I.c 0),(4,.ref (nid H.next 0) 0),(5,.ref (nid H.next 1) 0),(6,boolV false),(42,intV l.length),(43,intV k)]∧H'=HL (GC I H ck) [.cells [strV n,.slice (l.map Ty.cells) none],.cells [strV n,.slice (l'.map Ty.cells) none]])
  l.length (weak_HL (hcu _) (by simp) (by simp) (by simp [lt_nid hil])) ⟨0,f,{ c with met:=c.met++[key] },Nat.zero_le _,by simp,Nat.le_refl _,he,hsm,rfl,rfl⟩ ?_
 rintro m env H' ⟨k,g,ck,hk,rfl,hgf,hL,hsk,rfl,rfl⟩
 clear he
 cases g with
 | zero=>simp [unL] at hL
 | succ g =>
 by_cases hlt2:k < l.length
 ·obtain ⟨x,hx⟩:∃ x,l[k]?=some x:=⟨_,List.getElem?_eq_getElem hlt2⟩
  obtain ⟨y,hy⟩:∃ y,l'[k]?=some y:=⟨_,List.getElem?_eq_getElem (by omega)⟩
  have ex:l.drop k=x::l.drop (k+1):=by rw [List.drop_eq_getElem_cons hlt2];rw [List.getElem?_eq_getElem hlt2] at hx;simp at hx;rw [hx]
  have ey:l'.drop k=y::l'.drop (k+1):=by rw [List.drop_eq_getElem_cons (by omega)];rw [List.getElem?_eq_getElem (by omega)] at hy;simp at hy;rw [hy]
  rw [ex,ey] at hL
  simp only [unL] at hL
  have hxw:=hargs1 x (List.mem_of_getElem? hx)
  have hyw:=hargs2 y (List.mem_of_getElem? hy)
  cases hr:unF g ck x y with
  | none=>rw [hr] at hL;cases hL
  | some rr =>
  obtain ⟨rb,c2⟩:=rr
  rw [hr] at hL
  have hc:=hu g (by omega) ck x y rb c2 (HL H [.cells [strV n,.slice (l.map Ty.cells) none],.cells [strV n,.slice (l'.map Ty.cells) none]]) hsk hxw hyw hr (by simp;exact fun x hx=>lt_nid (hlt x hx))
  have hs2:=unF_small g ck x y rb c2 hr hsk hxw hyw
  simp only [GC_HL hlt] at hc
  obtain ⟨nx,lx⟩:=x
  obtain ⟨ny,ly⟩:=y
  simp only [enc_mk] at hc;refine awp_sr fun K hK=>?_;simp [hlt2];apply hK;clear hK K;refine awp_seq_k fun K hK=>?_;refine awp_condT rfl (by simp) ?_;refine awp_skip ?_;apply hK;clear hK K;refine awp_seq_k fun K hK=>?_;refine awp_block ?_;refine awp_sr fun K hK=>?_;simp;apply hK;clear hK K
  refine awp_sd [11] [[],[0],[0],[0,1,2],[0],[0],[0,1,2,3,4,5],[0,1,2,3,4,5],[0,1,2,3,4,5,6,7],[0,1,2,3,4,5],[0,1,2,3,4,5],[1,6],[1,2,3,6,7,8]] (by kernel_rfl) fun K hK=>?_
  refine aLex_read rfl rfl rfl rfl fun K hK=>?_;simp
  refine hK _ _ _ ?_
  clear hK K;refine aLex_read rfl rfl rfl rfl fun K hK=>?_;simp
  refine hK _ _ _ ?_
  clear hK K;refine aLex_read rfl rfl rfl rfl fun K hK=>?_;simp
  refine hK _ _ _ ?_
  clear hK K;refine aLex_read rfl rfl rfl rfl fun K hK=>?_;simp
  refine hK _ _ _ ?_
  clear hK K;refine aLex_read rfl rfl rfl rfl fun K hK=>?_;simp [hx,Ty.cells]
  refine hK _ _ _ ?_
  clear hK K;refine aLex_read rfl rfl rfl rfl fun K hK=>?_;simp
  refine hK _ _ _ ?_
  clear hK K;refine aLex_read rfl rfl rfl rfl fun K hK=>?_;simp
  refine hK _ _ _ ?_
  clear hK K;refine aLex_read rfl rfl rfl rfl fun K hK=>?_;simp
  refine hK _ _ _ ?_
  clear hK K;refine aLex_read rfl rfl rfl rfl fun K hK=>?_;simp
  refine hK _ _ _ ?_
  clear hK K;refine aLex_read rfl rfl rfl rfl fun K hK=>?_;simp [hy,Ty.cells]
  refine hK _ _ _ ?_
  clear hK K;refine aLex_read rfl rfl rfl rfl fun K hK=>?_;simp
  refine hK _ _ _ ?_
  clear hK K;refine aLex_calleA hc rfl rfl rfl rfl rfl (by simp) ?_;refine aLex_read rfl rfl rfl rfl fun K hK=>?_;simp
  refine hK _ _ _ ?_
  clear hK K;refine aLex_end ?_;simp;apply hK;clear hK K
  cases rb
  ·simp only [Option.some.injEq,Prod.mk.injEq] at hL
   obtain ⟨rfl,rfl⟩:=hL
   refine awp_condT rfl (by simp) ?_;refine awp_sr fun K hK=>?_;simp;apply hK;clear hK K;simp [reset_all (hcu _)]
  ·simp only at hL;refine awp_condF rfl (by simp) ?_;refine awp_skip ?_;apply hK;clear hK K;refine awp_region ?_;simp [wrap_succ (show k < 4611686018427387904 by omega)]
   exact ⟨l.length - (k+1),_,HL (GC I H c2) [.cells [strV n,.slice (l.map Ty.cells) none],.cells [strV n,.slice (l'.map Ty.cells) none]],weak_HL (hcu _) (by simp) (by simp) (by simp [lt_nid hil]),by omega,k+1,by omega,rfl,g,by omega,c2,hL,hs2,rfl,rfl⟩
 ·obtain rfl:k=l.length:=by omega
  have hL2:some (true,ck)=some (r,c'):=by
   rw [List.drop_length,hlen,List.drop_length] at hL
   simpa [unL] using hL
  simp only [Option.some.injEq,Prod.mk.injEq] at hL2
  obtain ⟨rfl,rfl⟩:=hL2
  refine awp_sr fun K hK=>?_;simp;apply hK;clear hK K;refine awp_seq_k fun K hK=>?_;refine awp_condF rfl (by simp) ?_;refine awp_exit ?_;simp;clear hK K;apply hK;clear hK K;refine awp_sr fun K hK=>?_;simp;apply hK;clear hK K;simp [reset_all (hcu _)]
end
end Go.Proofs.YtgeehnbbhnpimaaGreat
namespace Go.Proofs.YtgeehnbbhnpimaaGreat
open Go Go.Abs Go.Proofs
set_option maxRecDepth 20000
attribute [local simp] aOps wantedA aStep aop aLoad aStore aBin aUn aFieldAddr aField aIndexAddr aIndex aLen aBuild aFill aAlloc aAppend aBuildSlice litRows newRows isMut isOwn isNilS nilsW bytesR tokW tokAV tokL ret readC splice aeval isLit isLate AV.celled AV.one AV.ofValue Value.oneCell' Value.cells intOp strOp get_nid upd_nid awp aEnd aResults aResult Det unord isCall isNext
attribute [local simp] low_take low_strs low_comp low_tcomp wkEs_refl' WkBs WkEnv WkB WkL WkE WkO ABlock.low lowO lowL lowR AV.low cellsL_eq Ty.low low_map Ty.cells_length Ty.cells_one
attribute [local simp] low_bind GC_next
section
variable {I:Ids} {H:AHeap}
set_option maxRecDepth 10000 in
theorem un_c (hI:I.L.Nodup) (f:Nat) (hu:∀ g,g < f→EqC I g) (hb:BindC I f):EqC I (f+1):=by
 intro c a b r c' H hsm haw hbw he hlt
 have htop:=fun s r hf bs=>top_c I hI c s r f hf (HL (GC I H c) bs) (GC_hold hI hlt c bs)
 obtain ⟨n,l⟩:=a
 obtain ⟨n',l'⟩:=b
 refine acalls_walk (fun _=>.imm) [0,1,2,4,5,6,7,9,18,39,42,43,44,58] Tryz.mixed Tryz.func68 rfl rfl rfl (by decide) (fun hcl hlow=>?_)
 simp only [Ty.enc,Ty.cells]
 have hcu:=fun c'=>GC_cl hcl c' (by simpa using hlt) hI
 have hil:I.c < H.next:=hlt _ (by simp [Ids.L])
 simp only [unF] at he;refine awp_sr fun K hK=>?_;simp;apply hK;clear hK K;repeat with_reducible refine awp_assoc ?_
 refine awp_sr fun K hK=>?_;refine aOps_split 1 fun K hK=>?_;simp;apply hK;clear hK K
 have hc:=isVar_c (.mk n l)
 simp only [Ty.enc,Ty.cells,cellsL_eq] at hc;refine aOps_call (hc _) (by first | rfl | simp) rfl rfl rfl ?_
 clear hc
 simp;apply hK;clear hK K
 cases hv:(Ty.mk n l).isVar
 rotate_left
 ·rw [if_pos hv] at he
  cases ht:topF c.up f (Ty.mk n l).name with
  | none=>rw [ht] at he;cases he
  | some u =>
  rw [ht] at he
  simp only at he
  have hb2:=fun bs=>hb c u (.mk n' l') r c' (HL H bs) hsm hbw he (by simp;exact fun x hx=>lt_nid (hlt x hx))
  simp only [GC_HL hlt,enc_mk] at hb2
  have ht2:=fun bs=>htop _ _ ht bs
  simp only [Ty.name] at ht2;refine awp_seq_k fun K hK=>?_;refine awp_condT rfl (by simp [hv]) ?_
  refine awp_sd [6] [[],[0],[0,1],[0,1],[0],[0,1,2,3,4],[],[]] (by kernel_rfl) fun K hK=>?_
  refine aLex_read rfl rfl rfl rfl fun K hK=>?_;simp
  refine hK _ _ _ ?_
  clear hK K;refine aLex_read rfl rfl rfl rfl fun K hK=>?_;simp
  refine hK _ _ _ ?_
  clear hK K;refine aLex_read rfl rfl rfl rfl fun K hK=>?_;simp
  refine hK _ _ _ ?_
  clear hK K;refine aLex_read rfl rfl rfl rfl fun K hK=>?_;simp
  refine hK _ _ _ ?_
  clear hK K;refine aLex_callW (ht2 _) rfl rfl rfl rfl (by simp) (by simp) ?_;refine aLex_read rfl rfl rfl rfl fun K hK=>?_;simp
  refine hK _ _ _ ?_
  clear hK K;refine aLex_calleA (hb2 _) rfl rfl rfl rfl rfl (by simp) ?_;refine aLex_read rfl rfl rfl rfl fun K hK=>?_;simp
  refine hK _ _ _ ?_
  clear hK K;refine aLex_end ?_;simp;apply hK;clear hK K;simp [reset_all (hcu _)]
 rw [if_neg (by simp [hv])] at he
 refine awp_seq_k fun K hK=>?_;refine awp_condF rfl (by simp [hv]) ?_;refine awp_skip ?_;apply hK;clear hK K;repeat with_reducible refine awp_assoc ?_
 refine awp_sr fun K hK=>?_;refine aOps_split 1 fun K hK=>?_;simp;apply hK;clear hK K
 have hc:=isVar_c (.mk n' l')
 simp only [Ty.enc,Ty.cells,cellsL_eq] at hc;refine aOps_call (hc _) (by first | rfl | simp) rfl rfl rfl ?_
 clear hc
 simp;apply hK;clear hK K
 cases hv2:(Ty.mk n' l').isVar
 rotate_left
 ·rw [if_pos hv2] at he
  cases ht:topF c.up f (Ty.mk n' l').name with
  | none=>rw [ht] at he;cases he
  | some u =>
  rw [ht] at he
  simp only at he
  have hb2:=fun bs=>hb c u (.mk n l) r c' (HL H bs) hsm haw he (by simp;exact fun x hx=>lt_nid (hlt x hx))
  simp only [GC_HL hlt,enc_mk] at hb2
  have ht2:=fun bs=>htop _ _ ht bs
  simp only [Ty.name] at ht2;refine awp_seq_k fun K hK=>?_;refine awp_condT rfl (by simp [hv2]) ?_
  refine awp_sd [6] [[],[0],[0,1],[0,1],[0],[0,1,2,3,4],[],[]] (by kernel_rfl) fun K hK=>?_
  refine aLex_read rfl rfl rfl rfl fun K hK=>?_;simp
  refine hK _ _ _ ?_
  clear hK K;refine aLex_read rfl rfl rfl rfl fun K hK=>?_;simp
  refine hK _ _ _ ?_
  clear hK K;refine aLex_read rfl rfl rfl rfl fun K hK=>?_;simp
  refine hK _ _ _ ?_
  clear hK K;refine aLex_read rfl rfl rfl rfl fun K hK=>?_;simp
  refine hK _ _ _ ?_
  clear hK K;refine aLex_callW (ht2 _) rfl rfl rfl rfl (by simp) (by simp) ?_;refine aLex_read rfl rfl rfl rfl fun K hK=>?_;simp
  refine hK _ _ _ ?_
  clear hK K;refine aLex_calleA (hb2 _) rfl rfl rfl rfl rfl (by simp) ?_;refine aLex_read rfl rfl rfl rfl fun K hK=>?_;simp
  refine hK _ _ _ ?_
  clear hK K;refine aLex_end ?_;simp;apply hK;clear hK K;simp [reset_all (hcu _)]
 rw [if_neg (by simp [hv2])] at he
 refine awp_seq_k fun K hK=>?_;refine awp_condF rfl (by simp [hv2]) ?_;refine awp_skip ?_;apply hK;clear hK K
 by_cases hn:n=n'
 rotate_left
 ·rw [if_neg (fun h=>hn h.1)] at he
  simp only [Option.some.injEq,Prod.mk.injEq] at he
  obtain ⟨rfl,rfl⟩:=he
  repeat with_reducible refine awp_assoc ?_
  refine awp_sr fun K hK=>?_;refine aOps_split 6 fun K hK=>?_;simp [hn];apply hK;clear hK K;refine aOps_split 8 fun K hK=>?_;simp;apply hK;clear hK K;simp;apply hK;clear hK K;refine awp_seq_k fun K hK=>?_;refine awp_condT rfl (by simp) ?_;refine awp_sr fun K hK=>?_;simp;apply hK;clear hK K;simp [reset_all (hcu _)]
 subst hn
 by_cases hlen:l.length=l'.length
 rotate_left
 ·rw [if_neg (fun h=>hlen h.2)] at he
  simp only [Option.some.injEq,Prod.mk.injEq] at he
  obtain ⟨rfl,rfl⟩:=he
  repeat with_reducible refine awp_assoc ?_
  refine awp_sr fun K hK=>?_;refine aOps_split 6 fun K hK=>?_;simp;apply hK;clear hK K;refine aOps_split 8 fun K hK=>?_;simp [show ¬ (l.length:Int)=l'.length by omega];apply hK;clear hK K;simp;apply hK;clear hK K;refine awp_seq_k fun K hK=>?_;refine awp_condT rfl (by simp) ?_;refine awp_sr fun K hK=>?_;simp;apply hK;clear hK K;simp [reset_all (hcu _)]
 rw [if_pos ⟨rfl,hlen⟩] at he
 repeat with_reducible refine awp_assoc ?_
 refine awp_sr fun K hK=>?_;refine aOps_split 6 fun K hK=>?_;simp;apply hK;clear hK K;refine aOps_split 8 fun K hK=>?_;simp [hlen];apply hK;clear hK K;simp;apply hK;clear hK K;refine awp_seq_k fun K hK=>?_;refine awp_condF rfl (by simp) ?_;refine awp_skip ?_;apply hK;clear hK K;repeat with_reducible refine awp_assoc ?_
 refine awp_sr fun K hK=>?_;simp;apply hK;clear hK K
 have hargs1:∀ x∈l,x.wt < 1099511627776:=fun x hx=>by have:=wtL_mem hx;simp only [Ty.wt] at haw;omega
 have hargs2:∀ x∈l',x.wt < 1099511627776:=fun x hx=>by have:=wtL_mem hx;simp only [Ty.wt] at hbw;omega
 have hlw:=wtL_len l
 have hl40:l.length < 1099511627776:=by simp only [Ty.wt] at haw;omega
 refine awp_seq_k fun K hK=>?_;refine awp_block ?_
 refine awp_loop (fun m env H'=>∃ (k g:Nat) (ck:Cl),k≤l.length∧m=l.length - k∧g≤f∧unL g ck (l.drop k) (l'.drop k)=some (r,c')∧SmallC ck ∧
   env=Env.ofL [(0,.ref I.c 0),(4,.ref (nid H.next 0) 0),(5,.ref (nid H.next 1) 0),(6,boolV false),(42,intV l.length),(43,intV k)]∧H'=HL (GC I H ck) [.cells [strV n,.slice (l.map Ty.cells) none],.cells [strV n,.slice (l'.map Ty.cells) none]])
  l.length (weak_HL (hcu _) (by simp) (by simp) (by simp [lt_nid hil])) ⟨0,f,c,Nat.zero_le _,by simp,Nat.le_refl _,he,hsm,rfl,rfl⟩ ?_
 rintro m env H' ⟨k,g,ck,hk,rfl,hgf,hL,hsk,rfl,rfl⟩
 clear he
 cases g with
 | zero=>simp [unL] at hL
 | succ g =>
 by_cases hlt2:k < l.length
 ·obtain ⟨x,hx⟩:∃ x,l[k]?=some x:=⟨_,List.getElem?_eq_getElem hlt2⟩
  obtain ⟨y,hy⟩:∃ y,l'[k]?=some y:=⟨_,List.getElem?_eq_getElem (by omega)⟩
  have ex:l.drop k=x::l.drop (k+1):=by rw [List.drop_eq_getElem_cons hlt2];rw [List.getElem?_eq_getElem hlt2] at hx;simp at hx;rw [hx]
  have ey:l'.drop k=y::l'.drop (k+1):=by rw [List.drop_eq_getElem_cons (by omega)];rw [List.getElem?_eq_getElem (by omega)] at hy;simp at hy;rw [hy]
  rw [ex,ey] at hL
  simp only [unL] at hL
  have hxw:=hargs1 x (List.mem_of_getElem? hx)
  have hyw:=hargs2 y (List.mem_of_getElem? hy)
  cases hr:unF g ck x y with
  | none=>rw [hr] at hL;cases hL
  | some rr =>
  obtain ⟨rb,c2⟩:=rr
  rw [hr] at hL
  have hc:=hu g (by omega) ck x y rb c2 (HL H [.cells [strV n,.slice (l.map Ty.cells) none],.cells [strV n,.slice (l'.map Ty.cells) none]]) hsk hxw hyw hr (by simp;exact fun x hx=>lt_nid (hlt x hx))
  have hs2:=unF_small g ck x y rb c2 hr hsk hxw hyw
  simp only [GC_HL hlt] at hc
  obtain ⟨nx,lx⟩:=x
  obtain ⟨ny,ly⟩:=y
  simp only [enc_mk] at hc;refine awp_sr fun K hK=>?_;simp [hlt2];apply hK;clear hK K;refine awp_seq_k fun K hK=>?_;refine awp_condT rfl (by simp) ?_;refine awp_skip ?_;apply hK;clear hK K;refine awp_seq_k fun K hK=>?_;refine awp_block ?_;refine awp_sr fun K hK=>?_;simp;apply hK;clear hK K
  refine awp_sd [11] [[],[0],[0],[0,1,2],[0],[0],[0,1,2,3,4,5],[0,1,2,3,4,5],[0,1,2,3,4,5,6,7],[0,1,2,3,4,5],[0,1,2,3,4,5],[1,6],[1,2,3,6,7,8]] (by kernel_rfl) fun K hK=>?_
  refine aLex_read rfl rfl rfl rfl fun K hK=>?_;simp
  refine hK _ _ _ ?_
  clear hK K;refine aLex_read rfl rfl rfl rfl fun K hK=>?_;simp
  refine hK _ _ _ ?_
  clear hK K;refine aLex_read rfl rfl rfl rfl fun K hK=>?_;simp
  refine hK _ _ _ ?_
  clear hK K;refine aLex_read rfl rfl rfl rfl fun K hK=>?_;simp
  refine hK _ _ _ ?_
  clear hK K;refine aLex_read rfl rfl rfl rfl fun K hK=>?_;simp [hx,Ty.cells]
  refine hK _ _ _ ?_
  clear hK K;refine aLex_read rfl rfl rfl rfl fun K hK=>?_;simp
  refine hK _ _ _ ?_
  clear hK K;refine aLex_read rfl rfl rfl rfl fun K hK=>?_;simp
  refine hK _ _ _ ?_
  clear hK K;refine aLex_read rfl rfl rfl rfl fun K hK=>?_;simp
  refine hK _ _ _ ?_
  clear hK K;refine aLex_read rfl rfl rfl rfl fun K hK=>?_;simp
  refine hK _ _ _ ?_
  clear hK K;refine aLex_read rfl rfl rfl rfl fun K hK=>?_;simp [hy,Ty.cells]
  refine hK _ _ _ ?_
  clear hK K;refine aLex_read rfl rfl rfl rfl fun K hK=>?_;simp
  refine hK _ _ _ ?_
  clear hK K;refine aLex_calleA hc rfl rfl rfl rfl rfl (by simp) ?_;refine aLex_read rfl rfl rfl rfl fun K hK=>?_;simp
  refine hK _ _ _ ?_
  clear hK K;refine aLex_end ?_;simp;apply hK;clear hK K
  cases rb
  ·simp only [Option.some.injEq,Prod.mk.injEq] at hL
   obtain ⟨rfl,rfl⟩:=hL
   refine awp_condT rfl (by simp) ?_;refine awp_sr fun K hK=>?_;simp;apply hK;clear hK K;simp [reset_all (hcu _)]
  ·simp only at hL;refine awp_condF rfl (by simp) ?_;refine awp_skip ?_;apply hK;clear hK K;refine awp_region ?_;simp [wrap_succ (show k < 4611686018427387904 by omega)]
   exact ⟨l.length - (k+1),_,HL (GC I H c2) [.cells [strV n,.slice (l.map Ty.cells) none],.cells [strV n,.slice (l'.map Ty.cells) none]],weak_HL (hcu _) (by simp) (by simp) (by simp [lt_nid hil]),by omega,k+1,by omega,rfl,g,by omega,c2,hL,hs2,rfl,rfl⟩
 ·obtain rfl:k=l.length:=by omega
  have hL2:some (true,ck)=some (r,c'):=by
   rw [List.drop_length,hlen,List.drop_length] at hL
   simpa [unL] using hL
  simp only [Option.some.injEq,Prod.mk.injEq] at hL2
  obtain ⟨rfl,rfl⟩:=hL2
  refine awp_sr fun K hK=>?_;simp;apply hK;clear hK K;refine awp_seq_k fun K hK=>?_;refine awp_condF rfl (by simp) ?_;refine awp_exit ?_;simp;clear hK K;apply hK;clear hK K;refine awp_sr fun K hK=>?_;simp;apply hK;clear hK K;simp [reset_all (hcu _)]
set_option maxRecDepth 10000 in
theorem join_c (hI:I.L.Nodup) (f:Nat) (hp:∀ g,g < f→PairsC I g):JoinC I (f+1):=by
 intro c a b r c' H hsm he hlt
 refine acalls_walk (fun _=>.imm) [0,1,2,6,7,8,9,12,25,44,60] Tryz.mixed Tryz.func119 rfl rfl rfl (by decide) (fun hcl hlow=>?_)
 have hg:=fun c bs=>(GC_get (H:=H) (c:=c) hI hlt bs)
 have g1:=fun c bs=>(hg c bs).1
 have g2:=fun c bs=>(hg c bs).2.1
 have g3:=fun c bs=>(hg c bs).2.2.1
 have g4:=fun c bs=>(hg c bs).2.2.2.1
 have hcu:=fun c'=>GC_cl hcl c' (by simpa using hlt) hI
 have hil:I.c < H.next:=hlt _ (by simp [Ids.L])
 simp only [joinF] at he;refine awp_sr fun K hK=>?_;simp;apply hK;clear hK K
 by_cases hab:a=b
 ·rw [if_pos hab] at he
  simp only [Option.some.injEq,Prod.mk.injEq] at he
  obtain ⟨rfl,rfl⟩:=he
  repeat with_reducible refine awp_assoc ?_
  refine awp_sr fun K hK=>?_;simp [hab];apply hK;clear hK K;refine awp_seq_k fun K hK=>?_;refine awp_condT rfl (by simp [hab]) ?_;refine awp_sr fun K hK=>?_;simp;apply hK;clear hK K;simp [reset_all (hcu _)]
 rw [if_neg hab] at he
 repeat with_reducible refine awp_assoc ?_
 refine awp_sr fun K hK=>?_;simp [hab];apply hK;clear hK K;refine awp_seq_k fun K hK=>?_;refine awp_condF rfl (by simp [hab]) ?_;refine awp_skip ?_;apply hK;clear hK K
 cases hx:lookG (rankL c.ns) a with
 | none=>rw [hx] at he;cases he
 | some x =>
 cases hy:lookG (rankL c.ns) b with
 | none=>rw [hx,hy] at he;cases he
 | some y =>
 rw [hx,hy] at he
 simp only at he
 have e1:aLook (gEs natV (rankL c.ns)) (.string a)=some (intV x):=by rw [aLook_g,hx];rfl
 have e2:aLook (gEs natV (rankL c.ns)) (.string b)=some (intV y):=by rw [aLook_g,hy];rfl
 repeat with_reducible refine awp_assoc ?_
 refine awp_sdc [] [[],[],[],[],[0,1,2,3],[0],[0,1,2,3,4,5],[0,1,2,3,4,5],[0,1,2,3,4,5],[0,1,2,3,4,5],[0,1,2,3,4,5,6,7,8,9],[0,1,2,3,4,5,6],[0,1,6,7]] (by kernel_rfl) (by rfl) fun K hK=>?_;refine aCalm_pre 6 (by rfl) fun K hK=>?_;simp [aLookup,g1,g2,keys_g,keyOk,e1];apply hK;clear hK K;refine aCalm_pre 7 (by rfl) fun K hK=>?_;simp [aLookup,g1,g2,keys_g,keyOk,e2];apply hK;clear hK K;refine aCalm_end ?_;simp;apply hK;clear hK K
 clear hx hy e1 e2
 refine awp_seq_k fun K hK=>?_
 have hk:∀ a b t,joinG f c a b=some (r,c')→K (Env.ofL [(0,.ref I.c 0),(1,strV a),(2,strV b),(6,boolV false),(7,.undef),(8,.undef),(9,.undef),(12,boolV false),(25,t),(44,.undef),(60,.undef)]) (HL (GC I H c) []):=by
  clear he
  intro a b t he
  apply hK
  cases f with
  | zero=>simp [joinG] at he
  | succ f =>
  simp only [joinG] at he
  cases hub:lookG c.up b with
  | none=>rw [hub] at he;simp at he
  | some ub =>
  rw [hub] at he
  simp only [Option.isSome_some,if_true] at he
  have e1:aPut (gEs strV c.up) (.string b) (strV a)=gEs strV (putG c.up b a):=aPut_g _ _ _ _
  have e2:aVer (gEs strV c.up) (.string b) c.ns.length true=c.ns.length:=by rw [aVer_g,hub];rfl
  have e3:=fun bs=>GC_upd_u hI hlt (c:=c) (putG c.up b a) bs
  refine awp_sr fun K hK=>?_;simp [aMapUpdate,g1,g3,keys_g,keyOk,e1,e2,e3];apply hK;clear hK K
  generalize hc1:({ c with up:=putG c.up b a }:Cl)=c1 at *
  have hci:c.is=c1.is:=by rw [←hc1]
  have hcv:c.iv=c1.iv:=by rw [←hc1]
  rw [hci,hcv] at he
  cases hk:lookT c1.is b with
  | none =>
   rw [hk] at he
   simp only [Option.some.injEq,Prod.mk.injEq,hc1] at he
   obtain ⟨rfl,rfl⟩:=he
   refine awp_sr fun K hK=>?_;simp [aLookup,g1,g4,keys_ty,keyOk,aLook_ty,hk];apply hK;clear hK K;repeat with_reducible refine awp_assoc ?_
   refine awp_sr fun K hK=>?_;simp;apply hK;clear hK K;refine awp_seq_k fun K hK=>?_;refine awp_condT rfl (by simp) ?_;refine awp_sr fun K hK=>?_;simp;apply hK;clear hK K;simp [reset_all (hcu _)]
  | some y =>
   rw [hk] at he
   simp only at he
   have hsm1:SmallC c1:=by rw [←hc1];exact hsm
   have hyw:=hsm1 _ (lookT_mem hk)
   simp only at hyw
   have e4:aDel (tyEs c1.is) (.string b)=tyEs (delG c1.is b):=aDel_g _ _ _
   have e5:aVer (tyEs c1.is) (.string b) c1.iv false=c1.iv+1:=by rw [tyEs_g,aVer_g,←lookT_g,hk];rfl
   have e6:=fun bs=>GC_upd_i hI hlt (c:=c1) (delG c1.is b) (c1.iv+1) bs
   refine awp_sr fun K hK=>?_;simp [aLookup,g1,g4,keys_ty,keyOk,aLook_ty,hk,enc_eq];apply hK;clear hK K;repeat with_reducible refine awp_assoc ?_
   refine awp_sr fun K hK=>?_;simp;apply hK;clear hK K;refine awp_seq_k fun K hK=>?_;refine awp_condF rfl (by simp) ?_;refine awp_skip ?_;apply hK;clear hK K;refine awp_sr fun K hK=>?_;simp [aDelete,g1,g4,keys_ty,keyOk,e4,e5,e6];apply hK;clear hK K
   have hc2:({ c with up:=putG c.up b a,is:=delG c1.is b,iv:=c1.iv+1 }:Cl)={ c1 with is:=delG c1.is b,iv:=c1.iv+1 }:=by rw [←hc1]
   generalize hc2':({ c1 with is:=delG c1.is b,iv:=c1.iv+1 }:Cl)=c2 at *
   have hci2:delG c1.is b=c2.is:=by rw [←hc2']
   have hcv2:c1.iv+1=c2.iv:=by rw [←hc2']
   have hc3:∀ t,({ c with up:=putG c.up b a,is:=delG c1.is b++[(a,t)],iv:=c1.iv+1+1 }:Cl)={ c2 with is:=c2.is++[(a,t)],iv:=c2.iv+1 }:=by intro t;rw [←hc2',←hc1]
   rw [hc3,hc2] at he
   have hsm2:SmallC c2:=by rw [←hc2'];exact fun p hp=>hsm1 p (delG_sub _ _ p hp)
   rw [hci2] at he
   cases hk2:lookT c2.is a with
   | none =>
    rw [hk2] at he
    simp only [Option.some.injEq,Prod.mk.injEq] at he
    obtain ⟨rfl,rfl⟩:=he
    have e7:aPut (tyEs c2.is) (.string a) (.agg [strV y.name,.slice (y.args.map Ty.cells) none])=tyEs (c2.is++[(a,y)]):=by rw [←enc_eq,aPut_ty,putM_new hk2]
    have e8:aVer (tyEs c2.is) (.string a) c2.iv true=c2.iv+1:=by rw [aVer_ty,hk2];rfl
    have e9:=fun bs=>GC_upd_i hI hlt (c:=c2) (c2.is++[(a,y)]) (c2.iv+1) bs
    refine awp_sr fun K hK=>?_;simp [aLookup,g1,g4,keys_ty,keyOk,aLook_ty,hk2,enc_eq];apply hK;clear hK K;repeat with_reducible refine awp_assoc ?_
    refine awp_sr fun K hK=>?_;simp;apply hK;clear hK K;refine awp_seq_k fun K hK=>?_;refine awp_condT rfl (by simp) ?_;refine awp_sdo [6] [[],[],[],[],[0,1,2,3],[0,1,2,3,4],[]] (by kernel_rfl) (by rfl) (by rfl) fun K hK=>?_;simp [aMapUpdate,g1,g4,keys_ty,keyOk,e7,e8,e9];apply hK;clear hK K;refine awp_sr fun K hK=>?_;simp;apply hK;clear hK K;simp [reset_all (hcu _)]
   | some x =>
    rw [hk2] at he
    simp only at he
    have hxw:=hsm2 _ (lookT_mem hk2)
    simp only at hxw
    have hp2:=fun bs=>hp f (by omega) c2 x y r c' (HL H bs) hsm2 hxw hyw he (by simp;exact fun x hx=>lt_nid (hlt x hx))
    simp only [GC_HL hlt,enc_eq] at hp2;refine awp_sr fun K hK=>?_;simp [aLookup,g1,g4,keys_ty,keyOk,aLook_ty,hk2,enc_eq];apply hK;clear hK K;repeat with_reducible refine awp_assoc ?_
    refine awp_sr fun K hK=>?_;simp;apply hK;clear hK K;refine awp_seq_k fun K hK=>?_;refine awp_condF rfl (by simp) ?_;refine awp_skip ?_;apply hK;clear hK K;refine awp_sr fun K hK=>?_;refine aOps_split 3 fun K hK=>?_;simp;apply hK;clear hK K;refine aOps_call (hp2 _) (by first | rfl | simp) rfl rfl (by first | (simp;done) | rfl) ?_;simp;apply hK;clear hK K;simp [reset_all (hcu _)]
 by_cases hyx:y < x
 ·rw [if_pos hyx] at he
  refine awp_condT rfl (by simp [hyx]) ?_;refine awp_region ?_;simp
  exact hk _ _ _ he
 ·rw [if_neg hyx] at he
  refine awp_condF rfl (by simp [hyx]) ?_;refine awp_skip ?_
  exact hk _ _ _ he
end
end Go.Proofs.YtgeehnbbhnpimaaGreat
namespace Go.Proofs.YtgeehnbbhnpimaaGreat
open Go Go.Abs Go.Proofs
set_option maxRecDepth 20000
attribute [local simp] aOps wantedA aStep aop aLoad aStore aBin aUn aFieldAddr aField aIndexAddr aIndex aLen aBuild aFill aAlloc aAppend aBuildSlice litRows newRows isMut isOwn isNilS nilsW bytesR tokW tokAV tokL ret readC splice aeval isLit isLate AV.celled AV.one AV.ofValue Value.oneCell' Value.cells intOp strOp get_nid upd_nid awp aEnd aResults aResult Det unord isCall isNext
attribute [local simp] low_take low_strs low_comp low_tcomp wkEs_refl' WkBs WkEnv WkB WkL WkE WkO ABlock.low lowO lowL lowR AV.low cellsL_eq Ty.low low_map Ty.cells_length Ty.cells_one
attribute [local simp] low_bind GC_next
theorem un_all {I:Ids} (hI:I.L.Nodup):∀ f,EqC I f∧BindC I f∧PairsC I f∧JoinC I f:=by
 intro f
 induction f using Nat.strongRecOn with
 | _ f ih =>
 cases f with
 | zero =>
  refine ⟨?_,?_,?_,?_⟩
  ·intro c a b r c' H _ _ _ h;simp [unF] at h
  ·intro c a b r c' H _ _ h;simp [bindF] at h
  ·intro c a b r c' H _ _ _ h;simp [pairsF] at h
  ·intro c a b r c' H _ h;simp [joinF] at h
 | succ f =>
  have h1:=ih f (by omega)
  exact ⟨un_c hI f (fun g hg=>(ih g (by omega)).1) h1.2.1,bind_c hI f h1.2.2.1 h1.2.2.2,pairs_c hI f (fun g hg=>(ih g (by omega)).1),join_c hI f (fun g hg=>(ih g (by omega)).2.2.1)⟩
def aS:ByteArray:=⟨#[97]⟩
mutual
def wholeF (c:Cl):Nat→Ty→Int→Option (Ty × Int)
 | 0,_,_=>none
 | f+1,t,n =>
  let n:=IntKind.i64.wrap (n+1)
  if 800 < n then some (.mk aS [],n)
  else if t.isVar then (match topF c.up f t.name with
   | some s=>(match lookT c.is s with | some x=>wholeF c f x (IntKind.i64.wrap (n - 1)) | none=>some (.mk s [],n))
   | none=>none)
  else (match wholeL c f t.args n with | some (l,n)=>some (.mk t.name l,n) | none=>none)
def wholeL (c:Cl):Nat→List Ty→Int→Option (List Ty × Int)
 | 0,_,_=>none
 | _+1,[],n=>some ([],n)
 | f+1,t::ts,n=>(match wholeF c f t n with
  | some (x,n)=>(match wholeL c f ts n with | some (xs,n)=>some (x::xs,n) | none=>none)
  | none=>none)
end
theorem upd_get {H:AHeap} {i j:Nat} {b:ABlock} (hne:j≠i) {bs:List ABlock} (hj:j < H.next):(HL (H.upd i b) bs).get j=(HL H bs).get j:=by
 rw [get_lt (by exact hj),get_lt hj,get_upd_ne hne]
set_option maxRecDepth 10000 in
theorem whole_c (I:Ids) (hI:I.L.Nodup) (ni:Nat) (hni:ni ∉ I.L) (c:Cl) (hsl:∀ p∈c.is,p.2.cnt < 1099511627776):∀ (f:Nat) (t:Ty) (n:Int) (r:Ty) (n':Int) (H:AHeap),t.cnt < 1099511627776 →
  wholeF c f t n=some (r,n')→Holds H (clB I c)→H.get ni=some (.cells [intV n]) →
  ACalls Tryz.prog 70 [.ref I.c 0,t.enc,.ref ni 0] H r.enc (H.upd ni (.cells [intV n'])):=by
 intro f
 induction f using Nat.strongRecOn with
 | _ f ih =>
 intro t n r n' H htc he hH hn
 cases f with
 | zero=>simp [wholeF] at he
 | succ f =>
 have htop:=fun s r hf H hH=>top_c I hI c s r f hf H hH
 obtain ⟨nm,l⟩:=t
 have hcnt:(Ty.mk nm l).cnt=(nodesL l).length+1:=by simp [Ty.cnt,Ty.nodes]
 have hll:=nodesL_len l
 have e0:GC I H c=H:=GC_self hH
 refine acalls_walk (fun d=>if d=52 then .nilv 2 else .imm) [0,1,2,4,6,7,8,9,10,12,21,24,38,54,55,56,57] Tryz.mixed Tryz.func70 rfl rfl rfl (by decide) (fun hcl hlow=>?_)
 simp only [Ty.enc,Ty.cells]
 have hlt:∀ x∈I.L,x < H.next:=by
  have:=holds_lt hcl hH
  intro x hx
  rw [←clB_ids I c] at hx
  obtain ⟨p,hp,rfl⟩:=List.mem_map.1 hx
  exact this p hp
 have hnil:ni < H.next:=(hcl _ _ hn).1
 have hcni:I.c≠ni:=fun e=>hni (by rw [←e];simp [Ids.L])
 have hini:I.i≠ni:=fun e=>hni (by rw [←e];simp [Ids.L])
 have hg:=fun bs=>(GC_get (H:=H) (c:=c) hI hlt bs)
 rw [e0] at hg
 have hil:I.c < H.next:=hlt _ (by simp [Ids.L])
 have hiil:I.i < H.next:=hlt _ (by simp [Ids.L])
 have g1:∀ b bs,(HL (H.upd ni b) bs).get I.c=_:=fun b bs=>(upd_get hcni hil).trans (hg bs).1
 have g4:∀ b bs,(HL (H.upd ni b) bs).get I.i=_:=fun b bs=>(upd_get hini hiil).trans (hg bs).2.2.2.1
 have gn:∀ bs,(HL H bs).get ni=some (.cells [intV n]):=fun bs=>by rw [get_lt hnil];exact hn
 have gn':∀ b bs,(HL (H.upd ni b) bs).get ni=some b:=fun b bs=>by rw [get_lt (by exact hnil)];exact get_upd_self
 have hh:∀ b bs,Holds (HL (H.upd ni b) bs) (clB I c):=fun b bs=>(holds_HL (by intro p hp;exact (clB_low hlt c p hp).1)).2 (holds_upd_ne (by rw [clB_ids];exact hni) hH)
 have hcu:∀ z:Int,(H.upd ni (.cells [intV z])).Closed:=fun z=>closed_upd hcl hnil (by simp)
 have un:∀ b b' bs,(HL (H.upd ni b) bs).upd ni b'=HL (H.upd ni b') bs:=fun b b' bs=>by rw [upd_lt (by exact hnil),upd_upd]
 simp only [wholeF] at he;refine awp_sr fun K hK=>?_;simp;apply hK;clear hK K;refine awp_sr fun K hK=>?_;simp [gn,upd_lt hnil];apply hK;clear hK K
 generalize hm:IntKind.i64.wrap (n+1)=m at *
 by_cases h8:800 < m
 ·rw [if_pos h8] at he
  simp only [Option.some.injEq,Prod.mk.injEq] at he
  obtain ⟨rfl,rfl⟩:=he
  repeat with_reducible refine awp_assoc ?_
  refine awp_sr fun K hK=>?_;simp [gn',h8];apply hK;clear hK K;refine awp_seq_k fun K hK=>?_;refine awp_condT rfl (by simp) ?_;refine awp_sr fun K hK=>?_;simp;apply hK;clear hK K;simp [aS,Ty.cells,reset_all (hcu _)]
  exact Wk.agg (by simp)
 rw [if_neg h8] at he
 repeat with_reducible refine awp_assoc ?_
 refine awp_sr fun K hK=>?_;simp [gn',h8];apply hK;clear hK K;refine awp_seq_k fun K hK=>?_;refine awp_condF rfl (by simp) ?_;refine awp_skip ?_;apply hK;clear hK K;repeat with_reducible refine awp_assoc ?_
 refine awp_sr fun K hK=>?_;refine aOps_split 1 fun K hK=>?_;simp;apply hK;clear hK K
 have hc:=isVar_c (.mk nm l)
 simp only [Ty.enc,Ty.cells,cellsL_eq] at hc;refine aOps_call (hc _) (by first | rfl | simp) rfl rfl rfl ?_
 clear hc
 simp;apply hK;clear hK K
 cases hv:(Ty.mk nm l).isVar
 rotate_left
 ·rw [if_pos hv] at he
  refine awp_seq_k fun K hK=>?_;refine awp_condT rfl (by simp [hv]) ?_
  cases ht:topF c.up f (Ty.mk nm l).name with
  | none=>rw [ht] at he;cases he
  | some s =>
  rw [ht] at he
  simp only at he;simp only [Ty.name] at ht
  have ht2:=fun b bs=>htop _ _ ht _ (hh b bs)
  refine awp_sr fun K hK=>?_;refine aOps_split 3 fun K hK=>?_;simp;apply hK;clear hK K;refine aOps_call (ht2 _ _) (by first | rfl | simp) rfl rfl (by first | (simp;done) | rfl) ?_;simp;apply hK;clear hK K
  cases hk:lookT c.is s with
  | none =>
   rw [hk] at he
   simp only [Option.some.injEq,Prod.mk.injEq] at he
   obtain ⟨rfl,rfl⟩:=he
   repeat with_reducible refine awp_assoc ?_
   refine awp_sr fun K hK=>?_;simp [aLookup,g1,g4,keys_ty,keyOk,aLook_ty,hk];apply hK;clear hK K;repeat with_reducible refine awp_assoc ?_
   refine awp_sr fun K hK=>?_;simp;apply hK;clear hK K;refine awp_seq_k fun K hK=>?_;refine awp_condF rfl (by simp) ?_;refine awp_skip ?_;apply hK;clear hK K;refine awp_sr fun K hK=>?_;simp;apply hK;clear hK K;simp [Ty.cells,reset_all (hcu _)]
   exact Wk.agg (by simp)
  | some x =>
   rw [hk] at he
   simp only at he
   have hxc:=hsl _ (lookT_mem hk)
   simp only at hxc
   have hw:=fun b bs hb=>ih f (by omega) x (IntKind.i64.wrap (m - 1)) r n' (HL (H.upd ni b) bs) hxc he (hh b bs) hb
   simp only [enc_eq x] at hw
   obtain ⟨rn,rl⟩:=r
   simp only [enc_mk,un] at hw;repeat with_reducible refine awp_assoc ?_
   refine awp_sr fun K hK=>?_;simp [aLookup,g1,g4,keys_ty,keyOk,aLook_ty,hk,enc_eq];apply hK;clear hK K;repeat with_reducible refine awp_assoc ?_
   refine awp_sr fun K hK=>?_;simp;apply hK;clear hK K;refine awp_seq_k fun K hK=>?_;refine awp_condT rfl (by simp) ?_;refine awp_sr fun K hK=>?_;simp [gn',un];apply hK;clear hK K;refine awp_sr fun K hK=>?_;refine aOps_split 3 fun K hK=>?_;simp;apply hK;clear hK K;refine aOps_call (hw _ _ (by rw [gn'])) (by first | rfl | simp) rfl rfl (by first | (simp;done) | rfl) ?_;simp;apply hK;clear hK K;simp [Ty.cells,reset_all (hcu _)]
 rw [if_neg (by simp [hv])] at he
 refine awp_seq_k fun K hK=>?_;refine awp_condF rfl (by simp [hv]) ?_;refine awp_skip ?_;apply hK;clear hK K
 cases hL:wholeL c f (Ty.mk nm l).args m with
 | none=>rw [hL] at he;cases he
 | some q =>
 obtain ⟨xs,z⟩:=q
 rw [hL] at he
 simp only [Option.some.injEq,Prod.mk.injEq] at he
 obtain ⟨rfl,rfl⟩:=he
 simp only [Ty.args,Ty.name] at hL ⊢;refine awp_sr fun K hK=>?_;simp;apply hK;clear hK K;repeat with_reducible refine awp_assoc ?_
 refine awp_sr fun K hK=>?_;simp;apply hK;clear hK K;refine awp_seq_k fun K hK=>?_;refine awp_block ?_
 refine awp_loop (fun j env H'=>∃ (k g:Nat) (mk:Int) (ok rs:List Ty),k≤l.length∧j=l.length - k∧g≤f∧wholeL c g (l.drop k) mk=some (rs,z)∧ok++rs=xs∧ok.length=k ∧
   env=Env.ofL [(0,.ref I.c 0),(2,.ref ni 0),(4,.ref (nid H.next 0) 0),(6,.ref (nid H.next 1) 0),(10,.ref (nid H.next 3) 0),(54,.slice (l.map Ty.cells) none),(55,intV l.length),(56,intV k)] ∧
   H'=HL (H.upd ni (.cells [intV mk])) [.cells [strV nm,.slice (l.map Ty.cells) none],.cells [strV ByteArray.empty,.v (.slice none 0 0)],.tok k 2 none,.cells [strV nm,.slice (ok.map Ty.cells) (some (nid H.next 2))]])
  l.length (weak_HL (hcu _) rfl (by simp) (by simp [lt_nid hil,lt_nid hnil])) ⟨0,f,m,[],xs,Nat.zero_le _,by simp,Nat.le_refl _,hL,rfl,rfl,rfl,rfl⟩ ?_
 rintro j env H' ⟨k,g,mk,ok,rs,hk,rfl,hgf,hL,hor,hol,rfl,rfl⟩
 cases g with
 | zero=>simp [wholeL] at hL
 | succ g =>
 by_cases hlt2:k < l.length
 ·obtain ⟨x,hx⟩:∃ x,l[k]?=some x:=⟨_,List.getElem?_eq_getElem hlt2⟩
  have ex:l.drop k=x::l.drop (k+1):=by rw [List.drop_eq_getElem_cons hlt2];rw [List.getElem?_eq_getElem hlt2] at hx;simp at hx;rw [hx]
  have hxc:=cnt_mem hx
  rw [ex] at hL
  simp only [wholeL] at hL
  cases hr:wholeF c g x mk with
  | none=>rw [hr] at hL;cases hL
  | some y =>
  obtain ⟨y,m2⟩:=y
  rw [hr] at hL
  simp only at hL
  cases hr2:wholeL c g (l.drop (k+1)) m2 with
  | none=>rw [hr2] at hL;cases hL
  | some ys =>
  obtain ⟨ys,z2⟩:=ys
  rw [hr2] at hL
  simp only [Option.some.injEq,Prod.mk.injEq] at hL
  obtain ⟨rfl,rfl⟩:=hL
  have hc:=fun b bs hb=>ih g (by omega) x mk y m2 (HL (H.upd ni b) bs) (by omega) hr (hh b bs) hb
  obtain ⟨nx,lx⟩:=x
  obtain ⟨ny,ly⟩:=y
  simp only [enc_mk,un] at hc;refine awp_sr fun K hK=>?_;simp [hlt2];apply hK;clear hK K;refine awp_seq_k fun K hK=>?_;refine awp_condT rfl (by simp) ?_;refine awp_skip ?_;apply hK;clear hK K;refine awp_seq_k fun K hK=>?_;refine awp_block ?_;refine awp_sr fun K hK=>?_;simp [hx,Ty.cells];apply hK;clear hK K
  refine awp_draw [5,6,7,9] [[],[],[0,1],[0,1,2],[0,1,2,3],[0,1],[0,1],[],[],[]] (by kernel_rfl) ?_
  refine aLex_read rfl rfl rfl rfl fun K hK=>?_;simp
  refine hK _ _ _ ?_
  clear hK K;refine aLex_read rfl rfl rfl rfl fun K hK=>?_;simp
  refine hK _ _ _ ?_
  clear hK K;refine aLex_read rfl rfl rfl rfl fun K hK=>?_;simp
  refine hK _ _ _ ?_
  clear hK K;refine aLex_read rfl rfl rfl rfl fun K hK=>?_;simp
  refine hK _ _ _ ?_
  clear hK K;refine aLex_read rfl rfl rfl rfl fun K hK=>?_;simp
  refine hK _ _ _ ?_
  clear hK K;refine aLex_calleA (hc _ _ (gn' _ _)) rfl rfl rfl rfl rfl (by simp) ?_;refine aLex_eff rfl rfl rfl rfl fun K hK=>?_;simp;apply hK;clear hK K;refine aLex_eff rfl rfl rfl rfl fun K hK=>?_;simp [hol]
  refine ⟨by omega,hK _ _ ?_⟩
  clear hK K;refine aLex_read rfl rfl rfl rfl fun K hK=>?_;simp
  refine hK _ _ _ ?_
  clear hK K;refine aLex_eff rfl rfl rfl rfl fun K hK=>?_;simp;apply hK;clear hK K;refine aLex_end ?_;simp;apply hK;clear hK K;refine awp_region ?_;simp [wrap_succ (show k < 4611686018427387904 by omega)]
  refine ⟨l.length - (k+1),_,HL (H.upd ni (.cells [intV m2])) [.cells [strV nm,.slice (l.map Ty.cells) none],.cells [strV ByteArray.empty,.v (.slice none 0 0)],.tok (k+1) 2 none,.cells [strV nm,.slice ((ok++[Ty.mk ny ly]).map Ty.cells) (some (nid H.next 2))]],
   weak_HL (hcu _) rfl ?_ ?_,by omega,k+1,by omega,rfl,g,by omega,m2,ok++[Ty.mk ny ly],ys,hr2,by rw [←hor];simp,by simp [hol],rfl,rfl⟩
  ·simp [Ty.cells]
  ·simp [lt_nid hil,lt_nid hnil]
 ·obtain rfl:k=l.length:=by omega
  have hL2:some (([]:List Ty),mk)=some (rs,z):=by
   rw [List.drop_length] at hL
   simpa [wholeL] using hL
  simp only [Option.some.injEq,Prod.mk.injEq] at hL2
  obtain ⟨rfl,rfl⟩:=hL2
  rw [List.append_nil] at hor
  subst hor
  refine awp_sr fun K hK=>?_;simp;apply hK;clear hK K;refine awp_seq_k fun K hK=>?_;refine awp_condF rfl (by simp) ?_;refine awp_exit ?_;simp;clear hK K;apply hK;clear hK K;refine awp_sr fun K hK=>?_;simp;apply hK;clear hK K;simp [Ty.cells,reset_all (hcu _)]
  exact Wk.agg (by simp)
end Go.Proofs.YtgeehnbbhnpimaaGreat
