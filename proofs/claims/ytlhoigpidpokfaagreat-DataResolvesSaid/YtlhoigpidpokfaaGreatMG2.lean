/- The program: how many values a type has of a size. -/
import Derived.Test.YtlhoigpidpokfaaGreatMG1
set_option linter.unusedVariables false
set_option linter.unusedSimpArgs false
namespace Go.Proofs.YtlhoigpidpokfaaGreat
open Go Go.Abs Go.Proofs
set_option maxRecDepth 20000
attribute [local simp] aOps wantedA aStep aop aLoad aStore aBin aUn aFieldAddr aField aIndexAddr aIndex aLen aBuild aFill aAlloc aAppend aAppendOwn aMin aMax aBuildSlice litRows newRows isMut isOwn isNilS nilsW bytesR tokW tokAV tokL ret readC splice aeval isLit isLate isCut aCut AV.celled AV.one AV.ofValue Value.oneCell' Value.cells intOp strOp get_nid upd_nid awp aEnd aResults aResult Det unord isCall isNext
attribute [local simp] low_take low_strs low_comp low_tcomp wkEs_refl' WkBs WkEnv WkB WkL WkE WkO ABlock.low lowO lowL lowR AV.low cellsL_eq Ty.low low_map Ty.cells_length Ty.cells_one
attribute [local simp] ConD.cells Dat.cells PredD.cells SigD.cells ClsD.cells InstD.cells DeclsD.cells DeclsD.enc Dat.enc low_datL low_conL low_predL low_sigL low_clsL low_instL
def cH (H:AHeap) (mi:Nat) (m:CM):AHeap:=H.upd mi (.amap (cmEs m) m.length)
@[simp] theorem cH_next (H:AHeap) (mi:Nat) (m:CM):(cH H mi m).next=H.next:=Eq.trans rfl rfl
theorem cH_self {H:AHeap} {mi:Nat} {m:CM} (h:H.get mi=some (.amap (cmEs m) m.length)):cH H mi m=H:=by
 refine AHeap.ext (fun i=>?_) rfl
 show (if i=mi then some _ else H.get i)=H.get i
 by_cases e:i=mi
 ·rw [if_pos e,e,h]
 ·rw [if_neg e]
@[simp] theorem cH_cH (H:AHeap) (mi:Nat) (m m':CM):cH (cH H mi m) mi m'=cH H mi m':=upd_upd
@[simp] theorem cH_get (H:AHeap) (mi:Nat) (m:CM):(cH H mi m).get mi=some (.amap (cmEs m) m.length):=get_upd_self
theorem cH_ne (H:AHeap) {mi i:Nat} (m:CM) (h:i≠mi):(cH H mi m).get i=H.get i:=get_upd_ne h
theorem cH_HL {H:AHeap} {mi:Nat} (m:CM) (bs:List ABlock) (h:mi < H.next):cH (HL H bs) mi m=HL (cH H mi m) bs:=upd_lt h
theorem cH_closed {H:AHeap} {mi:Nat} (m:CM) (hcl:H.Closed) (h:mi < H.next):(cH H mi m).Closed:=closed_upd hcl h (low_cm _ _)
theorem aPut0 (m:CM) (k:ByteArray):aPut (cmEs m) (.string k) (intV 0)=cmEs (cmPut m k 0):=aPut_cm m k 0
structure CntD (d:DeclsD):Prop where
 ds:d.datas.length < 1000000000000
 cons:∀ n,(namedD d n).1.cons.length < 1000000000000
 vars:∀ n,(namedD d n).1.vars.length < 4611686018427387904
 args:∀ n,∀ c∈(namedD d n).1.cons,c.args.length < 1000000000000∧∀ a∈c.args,a.cnt < 1000000000000
def CntOk (d:DeclsD) (si mi:Nat) (c:Ty→Nat→CM→Option (Nat × CM)):Prop:=∀ t s m r,s≤1000→c t s m=some r→∀ H:AHeap,H.get si=some (.cells (d.cells++[.map mi]))→H.get mi=some (.amap (cmEs m) m.length) →
 ACalls Tryz.prog 64 [.ref si 0,t.enc,intV s] H (intV r.1) (cH H mi r.2)
theorem rowK_cap {c:Ty→Nat→CM→Option (Nat × CM)} {rw_:Nat→CM→Option (Nat × CM)} {t:Ty} {s:Nat} {m:CM}:∀ {k:Nat} {r:Nat × CM},rowK c rw_ t s m k=some r→r.1≤cap1
 | 0,r,h=>by simp only [rowK,Option.some.injEq] at h;rw [←h];exact Nat.zero_le _
 | k+1,r,h=>by
  simp only [rowK] at h
  cases h1:rowK c rw_ t s m k with
  | none=>rw [h1] at h;cases h
  | some q =>
   rw [h1] at h
   simp only at h
   cases h2:c t (k+1) q.2 with
   | none=>rw [h2] at h;cases h
   | some p =>
    rw [h2] at h
    simp only at h
    split at h
    ·simp only [Option.some.injEq] at h;rw [←h];have:=rowK_cap h1;exact this
    ·split at h
     ·cases h
     ·cases h3:rw_ (s - (k+1)) p.2 with
      | none=>rw [h3] at h;cases h
      | some b =>
       rw [h3] at h
       simp only at h
       split at h
       ·cases h
       ·simp only [Option.some.injEq] at h;rw [←h];exact Nat.min_le_right _ _
theorem conK_cap {F:ConD→CM→Option (Nat × CM)} {cs:List ConD} {m:CM}:∀ {k:Nat} {r:Nat × CM},conK F cs m k=some r→r.1≤cap1
 | 0,r,h=>by simp only [conK,Option.some.injEq] at h;rw [←h];exact Nat.zero_le _
 | k+1,r,h=>by
  simp only [conK] at h
  split at h
  ·split at h
   ·split at h
    ·cases h
    ·simp only [Option.some.injEq] at h;rw [←h];exact Nat.min_le_right _ _
   ·cases h
  ·cases h
set_option maxHeartbeats 2000000 in
theorem dRows_c (d:DeclsD) (si mi:Nat) (hne:si≠mi) (c:Ty→Nat→CM→Option (Nat × CM)) (hc:CntOk d si mi c):∀ (l:List Ty),l.length < 1000000000000→∀ (s:Nat) (m:CM) (r:Nat × CM),s≤1000→rowF c l s m=some r→∀ H:AHeap,H.get si=some (.cells (d.cells++[.map mi]))→H.get mi=some (.amap (cmEs m) m.length) →
  ACalls Tryz.prog 99 [.ref si 0,.slice (l.map Ty.cells) none,intV s] H (intV r.1) (cH H mi r.2):=by
 intro l
 induction l with
 | nil =>
  intro _ s m r hs hr H h1 h2
  simp only [rowF,Option.some.injEq] at hr
  subst hr
  rw [cH_self h2]
  refine acalls_walk (fun _=>.imm) [0,1,2,6,7,8,9,12,14,21,31] Tryz.mixed Tryz.func99 rfl rfl rfl (by decide) (fun hcl hlow=>?_)
  repeat with_reducible refine awp_assoc ?_
  refine awp_sr fun K hK=>?_
  simp
  refine hK _ _ ?_
  clear hK K
  repeat with_reducible refine awp_assoc ?_
  refine awp_sr fun K hK=>?_
  simp
  refine hK _ _ ?_
  clear hK K
  repeat with_reducible refine awp_assoc ?_
  refine awp_seq_k fun K hK=>?_
  refine awp_condT rfl (by simp) ?_
  by_cases h0:s=0
  ·repeat with_reducible refine awp_assoc ?_
   refine awp_sr fun K hK=>?_
   simp [h0]
   refine hK _ _ ?_
   clear hK K
   repeat with_reducible refine awp_assoc ?_
   refine awp_seq_k fun K hK=>?_
   refine awp_condT rfl (by simp [h0]) ?_
   repeat with_reducible refine awp_assoc ?_
   refine awp_sr fun K hK=>?_
   simp
   refine hK _ _ ?_
   clear hK K
   simp [h0,reset_all hcl]
  ·have h0':¬ (s:Int)=0:=by omega
   repeat with_reducible refine awp_assoc ?_
   refine awp_sr fun K hK=>?_
   simp [h0,h0']
   refine hK _ _ ?_
   clear hK K
   repeat with_reducible refine awp_assoc ?_
   refine awp_seq_k fun K hK=>?_
   refine awp_condF rfl (by simp [h0,h0']) ?_
   refine awp_skip ?_
   refine hK _ _ ?_
   clear hK K
   repeat with_reducible refine awp_assoc ?_
   refine awp_sr fun K hK=>?_
   simp
   refine hK _ _ ?_
   clear hK K
   simp [h0,reset_all hcl]
 | cons t l ih =>
  intro hll s m r hs hr H h1 h2
  simp only [List.length_cons] at hll
  have ih2:=ih (by omega)
  clear ih
  simp only [rowF] at hr
  have hpre:=fun k hk=>rowK_le hr k hk
  have hcap:=fun k q (h:rowK c (rowF c l) t s m k=some q)=>rowK_cap h
  have hstep:∀ k,rowK c (rowF c l) t s m (k+1)=match rowK c (rowF c l) t s m k with
   | none=>none
   | some (n,m0)=>match c t (k+1) m0 with
    | none=>none
    | some (a,m1)=>if a=0 then some (n,m1) else if cap1 < a then none else match rowF c l (s - (k+1)) m1 with
     | none=>none
     | some (b,m2)=>if cap1 < b then none else some (min (n+min (a * min b cap1) cap1) cap1,m2):=fun k=>by first | (rw [rowK];done) | (rw [rowK];rfl)
  have h00:rowK c (rowF c l) t s m 0=some (0,m):=by rw [rowK]
  generalize hrk:rowK c (rowF c l) t s m=rk at hr hpre hcap hstep h00
  clear hrk
  obtain ⟨st,hst⟩:∃ st:Nat→Nat × CM,∀ k,k≤s - l.length→rk k=some (st k):=⟨fun k=>(rk k).getD (0,[]),fun k hk=>by obtain ⟨q,hq⟩:=hpre k hk;show rk k=some ((rk k).getD (0,[]));rw [hq];rfl⟩
  have hrst:st (s - l.length)=r:=by have:=hst _ (Nat.le_refl _);rw [hr] at this;exact (Option.some.inj this).symm
  have hst0:st 0=(0,m):=by have:=hst 0 (Nat.zero_le _);rw [h00] at this;exact (Option.some.inj this).symm
  refine acalls_walk (fun _=>.imm) [0,1,2,6,7,8,9,12,14,21,31] Tryz.mixed Tryz.func99 rfl rfl rfl (by decide) (fun hcl hlow=>?_)
  have hsl:si < H.next:=(hcl _ _ h1).1
  have hml:mi < H.next:=(hcl _ _ h2).1
  have hclm:=fun m'=>cH_closed m' hcl hml
  have gs:∀ m' bs,(HL (cH H mi m') bs).get si=some (.cells (d.cells++[.map mi])):=fun m' bs=>by rw [get_lt (by exact hsl),cH_ne _ _ hne];exact h1
  have gm:∀ m' bs,(HL (cH H mi m') bs).get mi=some (.amap (cmEs m') m'.length):=fun m' bs=>by rw [get_lt (by exact hml)];exact cH_get _ _ _
  have hcc:∀ (k:Nat) (q:Nat × CM) (p:Nat × CM) (bs:List ABlock),k≤1000→c t k q.2=some p→ACalls Tryz.prog 64 [.ref si 0,t.enc,intV k] (HL (cH H mi q.2) bs) (intV p.1) (HL (cH H mi p.2) bs):=fun k q p bs hk h=>by
   have:=hc t k q.2 p hk h (HL (cH H mi q.2) bs) (gs _ _) (gm _ _)
   rwa [cH_HL _ _ (by exact hml),cH_cH] at this
  have hrr:∀ (k:Nat) (q:Nat × CM) (p:Nat × CM) (bs:List ABlock),k≤1000→rowF c l k q.2=some p→ACalls Tryz.prog 99 [.ref si 0,.slice (l.map Ty.cells) none,intV k] (HL (cH H mi q.2) bs) (intV p.1) (HL (cH H mi p.2) bs):=fun k q p bs hk h=>by
   have:=ih2 k q.2 p hk h (HL (cH H mi q.2) bs) (gs _ _) (gm _ _)
   rwa [cH_HL _ _ (by exact hml),cH_cH] at this
  clear ih2 hc
  obtain ⟨tn,tl⟩:=t
  simp only [enc_mk] at hcc
  have hn0:¬ (l.length:Int)+1=0:=by omega
  repeat with_reducible refine awp_assoc ?_
  refine awp_sr fun K hK=>?_
  simp
  refine hK _ _ ?_
  clear hK K
  repeat with_reducible refine awp_assoc ?_
  refine awp_sr fun K hK=>?_
  simp [hn0]
  refine hK _ _ ?_
  clear hK K
  repeat with_reducible refine awp_assoc ?_
  refine awp_seq_k fun K hK=>?_
  refine awp_condF rfl (by simp [hn0]) ?_
  refine awp_skip ?_
  refine hK _ _ ?_
  clear hK K
  repeat with_reducible refine awp_assoc ?_
  refine awp_sr fun K hK=>?_
  simp
  refine hK _ _ ?_
  clear hK K
  repeat with_reducible refine awp_assoc ?_
  refine awp_sr fun K hK=>?_
  simp
  refine hK _ _ ?_
  clear hK K
  have w1:IntKind.i64.wrap ((s:Int) - ((l.length:Int)+1))=(s:Int) - ((l.length:Int)+1):=wrap64 (by omega) (by omega)
  have w2:IntKind.i64.wrap ((s:Int) - ((l.length:Int)+1)+1)=(s:Int) - ((l.length:Int)+1)+1:=wrap64 (by omega) (by omega)
  refine awp_seq_k fun K hK=>?_
  refine awp_block ?_
  refine awp_up (s - l.length) (fun k=>Env.ofL [(0,.ref si 0),(1,.slice ((Ty.mk tn tl::l).map Ty.cells) none),(2,intV s),(7,intV (st k).1),(8,intV ((k:Int)+1))]) (fun k=>HL (cH H mi (st k).2) []) (fun _=>True) ?_ trivial (fun k hk _=>?_) (fun _=>?_)
  ·rw [hst0,cH_self h2]
   exact weak_HL hcl rfl (by simp) (by simp [lt_nid hsl,low_map,Ty.cells])
  ·have hk1:rk k=some (st k):=hst k (by omega)
   have hk2:rk (k+1)=some (st (k+1)):=hst (k+1) (by omega)
   have hcapk:=hcap k _ hk1
   rw [hstep,hk1] at hk2
   generalize hq:st k=q at *
   generalize hq2:st (k+1)=q2 at *
   obtain ⟨n,m0⟩:=q
   simp only at hk2 hcapk
   cases hct:c (Ty.mk tn tl) (k+1) m0 with
   | none=>rw [hct] at hk2;cases hk2
   | some p =>
   obtain ⟨a,m1⟩:=p
   rw [hct] at hk2
   simp only at hk2
   have hcc2:=hcc (k+1) (n,m0) (a,m1) [] (by omega) hct
   have ek:((k+1:Nat):Int)=(k:Int)+1:=by omega
   simp only [ek] at hcc2
   have hle:(k:Int)+1≤(s:Int) - ((l.length:Int)+1)+1:=by omega
   have wk2:IntKind.i64.wrap ((k:Int)+1+1)=(k:Int)+1+1:=wrap64 (by omega) (by omega)
   repeat with_reducible refine awp_assoc ?_
   refine awp_sr fun K hK=>?_
   simp [w1,w2,hle]
   refine hK _ _ ?_
   clear hK K
   repeat with_reducible refine awp_assoc ?_
   refine awp_seq_k fun K hK=>?_
   refine awp_condT rfl (by simp) ?_
   refine awp_skip ?_
   refine hK _ _ ?_
   clear hK K
   refine awp_seq_k fun KB hKB=>?_
   refine awp_block ?_
   repeat with_reducible refine awp_assoc ?_
   refine awp_sr fun K hK=>?_
   refine aOps_split 5 fun K hK=>?_
   simp [Ty.cells]
   refine hK _ _ ?_
   clear hK K
   refine aOps_call (hcc2) (by first | rfl | simp) rfl rfl (by first | (simp;done) | rfl) ?_
   simp
   refine hK _ _ ?_
   clear hK K
   by_cases ha:a=0
   ·rw [if_pos ha] at hk2
    simp only [Option.some.injEq] at hk2
    subst ha hk2
    repeat with_reducible refine awp_assoc ?_
    refine awp_sr fun K hK=>?_
    simp
    refine hK _ _ ?_
    clear hK K
    refine awp_condF rfl (by simp) ?_
    refine awp_skip ?_
    refine hKB _ _ ?_
    clear hKB
    refine awp_region ?_
    simp [wk2]
    exact weak_HL (hclm _) rfl (by simp) (by simp [lt_nid hsl,low_map,Ty.cells])
   rw [if_neg ha] at hk2
   by_cases hac:cap1 < a
   ·rw [if_pos hac] at hk2;cases hk2
   rw [if_neg hac] at hk2
   cases hrt:rowF c l (s - (k+1)) m1 with
   | none=>rw [hrt] at hk2;cases hk2
   | some p =>
   obtain ⟨b,m2⟩:=p
   rw [hrt] at hk2
   simp only at hk2
   by_cases hbc:cap1 < b
   ·rw [if_pos hbc] at hk2;cases hk2
   rw [if_neg hbc] at hk2
   simp only [Option.some.injEq] at hk2
   subst hk2
   have hrr2:=hrr (s - (k+1)) (a,m1) (b,m2) [] (by omega) hrt
   have es:((s - (k+1):Nat):Int)=(s:Int) - ((k:Int)+1):=by omega
   simp only [es] at hrr2
   have w3:IntKind.i64.wrap ((s:Int) - ((k:Int)+1))=(s:Int) - ((k:Int)+1):=wrap64 (by omega) (by omega)
   have hapos:0 < a:=by omega
   have hab:a * b≤1000000001 * 1000000001:=Nat.mul_le_mul (by unfold cap1 at hac;omega) (by unfold cap1 at hbc;omega)
   have eab:(a:Int) * (b:Int)=((a * b:Nat):Int):=by push_cast;rfl
   have hB:(if (1000000001:Int) < (b:Int) then (1000000001:Int) else (b:Int))=b:=if_neg (by unfold cap1 at hbc;omega)
   have w4:IntKind.i64.wrap ((a:Int) * (b:Int))=(a:Int) * (b:Int):=wrap64 (by omega) (by omega)
   obtain ⟨p,hp⟩:∃ p:Int,(if (1000000001:Int) < (a:Int) * (b:Int) then (1000000001:Int) else (a:Int) * (b:Int))=p:=⟨_,rfl⟩
   have hp2:p=((min (a * b) cap1:Nat):Int):=by rw [←hp,eab];unfold cap1;split <;> omega
   have w5:IntKind.i64.wrap ((n:Int)+p)=(n:Int)+p:=wrap64 (by omega) (by unfold cap1 at hcapk hp2;omega)
   obtain ⟨z,hz⟩:∃ z:Int,(if (1000000001:Int) < (n:Int)+p then (1000000001:Int) else (n:Int)+p)=z:=⟨_,rfl⟩
   have hz2:z=((min (n+min (a * min b cap1) cap1) cap1:Nat):Int):=by
    rw [Nat.min_eq_left (show b≤cap1 by omega),←hz,hp2];unfold cap1;split <;> omega
   repeat with_reducible refine awp_assoc ?_
   refine awp_sr fun K hK=>?_
   simp [hapos]
   refine hK _ _ ?_
   clear hK K
   refine awp_condT rfl (by simp [hapos]) ?_
   refine awp_region ?_
   have etk:(l.map Ty.cells).take l.length=l.map Ty.cells:=List.take_of_length_le (by simp)
   refine aOps_split 8 fun K hK=>?_
   simp [w3,Ty.cells,aSlice,bnd,etk]
   refine ⟨by omega,hK _ _ ?_⟩
   clear hK K
   refine aOps_call (hrr2) (by first | rfl | simp) rfl rfl (by first | (simp;done) | rfl) ?_
   refine aOps_split 1 fun K hK=>?_
   simp [hB]
   refine hK _ _ ?_
   clear hK K
   refine aOps_split 1 fun K hK=>?_
   simp [w4]
   refine hK _ _ ?_
   clear hK K
   refine aOps_split 1 fun K hK=>?_
   simp [hp]
   refine hK _ _ ?_
   clear hK K
   refine aOps_split 1 fun K hK=>?_
   simp [w5]
   refine hK _ _ ?_
   clear hK K
   refine aOps_split 1 fun K hK=>?_
   simp [hz]
   refine hK _ _ ?_
   clear hK K
   simp
   refine hKB _ _ ?_
   clear hKB
   refine awp_region ?_
   simp [wk2]
   rw [hz2]
   exact weak_HL (hclm _) rfl (by simp) (by simp [lt_nid hsl,low_map,Ty.cells])
  ·have hlt:¬ ((s - l.length:Nat):Int)+1≤(s:Int) - ((l.length:Int)+1)+1:=by omega
   rw [hrst]
   generalize ((s - l.length:Nat):Int)=z at hlt ⊢
   repeat with_reducible refine awp_assoc ?_
   refine awp_sr fun K hK=>?_
   simp [w1,w2,hlt]
   refine hK _ _ ?_
   clear hK K
   repeat with_reducible refine awp_assoc ?_
   refine awp_seq_k fun K hK=>?_
   refine awp_condF rfl (by simp) ?_
   refine awp_exit ?_
   simp
   clear hK K
   refine hK _ _ ?_
   clear hK K
   repeat with_reducible refine awp_assoc ?_
   refine awp_sr fun K hK=>?_
   simp
   refine hK _ _ ?_
   clear hK K
   simp [reset_all (hclm _)]
set_option maxHeartbeats 2000000 in
theorem dCount_c (d:DeclsD) (hd:CntD d) (si mi:Nat) (hne:si≠mi):∀ f,CntOk d si mi (cntF d f):=by
 intro f
 induction f with
 | zero=>intro t s m r _ h;cases h
 | succ f ih =>
 intro t s m r hs hr H h1 h2
 have hrows:=dRows_c d si mi hne (cntF d f) ih
 clear ih
 rw [cntF] at hr
 by_cases hg:1000 < s∨1099511627776≤t.wt
 ·rw [if_pos hg] at hr;cases hr
 rw [if_neg hg] at hr
 have hkey:=dKey_c t (by omega) s hs
 have hnm:=named_c d hd.ds t.name
 have hnc:=hd.cons t.name
 have hna:=hd.args t.name
 have hfl:=fun (c:ConD) (h:c∈(namedD d t.name).1.cons)=>dFields_c d hd.ds si mi t c (hna c h).1 (fun a ha=>by have:=(hna c h).2 a ha;omega) (hd.vars t.name)
 simp only at hr
 generalize namedD d t.name=nd at *
 generalize keyB t s=kb at *
 obtain ⟨⟨dn,dv,dc⟩,db⟩:=nd
 simp only at hr hnm hnc hna hfl
 obtain ⟨tn,tl⟩:=t
 simp only [Ty.name,Ty.args] at hr hnm hfl
 simp only [enc_mk] at hkey hfl ⊢
 refine acalls_walk (fun d=>if d=10 then .late else .imm) [0,1,2,4,6,7,8,9,10,12,14,16,19,21,34,52,53,54,55] Tryz.mixed Tryz.func64 rfl rfl rfl (by decide) (fun hcl hlow=>?_)
 have hsl:si < H.next:=(hcl _ _ h1).1
 have hml:mi < H.next:=(hcl _ _ h2).1
 have hclm:=fun m'=>cH_closed m' hcl hml
 have gs0:∀ bs,(HL H bs).get si=some (.cells [.slice (d.datas.map Dat.cells) none,.slice (d.classes.map ClsD.cells) none,.slice (d.insts.map InstD.cells) none,.map mi]):=fun bs=>by rw [get_lt hsl];exact h1
 have gm0:∀ bs,(HL H bs).get mi=some (.amap (cmEs m) m.length):=fun bs=>by rw [get_lt hml];exact h2
 have gs:∀ m' bs,(HL (cH H mi m') bs).get si=some (.cells [.slice (d.datas.map Dat.cells) none,.slice (d.classes.map ClsD.cells) none,.slice (d.insts.map InstD.cells) none,.map mi]):=fun m' bs=>by rw [get_lt (by exact hsl),cH_ne _ _ hne];exact h1
 have gm:∀ m' bs,(HL (cH H mi m') bs).get mi=some (.amap (cmEs m') m'.length):=fun m' bs=>by rw [get_lt (by exact hml)];exact cH_get _ _ _
 have um0:∀ m' bs,(HL H bs).upd mi (.amap (cmEs m') m'.length)=HL (cH H mi m') bs:=fun m' bs=>upd_lt hml
 have um:∀ m' m'' bs,(HL (cH H mi m') bs).upd mi (.amap (cmEs m'') m''.length)=HL (cH H mi m'') bs:=fun m' m'' bs=>by
  have:=cH_HL (H:=cH H mi m') m'' bs (by exact hml)
  rw [cH_cH] at this;exact this
 repeat with_reducible refine awp_assoc ?_
 refine awp_sr fun K hK=>?_
 simp
 refine hK _ _ ?_
 clear hK K
 by_cases h0:s=0
 ·rw [if_pos h0] at hr
  simp only [Option.some.injEq] at hr
  subst hr
  rw [cH_self h2]
  repeat with_reducible refine awp_assoc ?_
  refine awp_sr fun K hK=>?_
  simp [h0]
  refine hK _ _ ?_
  clear hK K
  repeat with_reducible refine awp_assoc ?_
  refine awp_seq_k fun K hK=>?_
  refine awp_condT rfl (by simp [h0]) ?_
  repeat with_reducible refine awp_assoc ?_
  refine awp_sr fun K hK=>?_
  simp
  refine hK _ _ ?_
  clear hK K
  simp [reset_all hcl]
 rw [if_neg h0] at hr
 have h0':¬ (s:Int) < 1:=by omega
 repeat with_reducible refine awp_assoc ?_
 refine awp_sr fun K hK=>?_
 simp [h0']
 refine hK _ _ ?_
 clear hK K
 repeat with_reducible refine awp_assoc ?_
 refine awp_seq_k fun K hK=>?_
 refine awp_condF rfl (by simp [h0']) ?_
 refine awp_skip ?_
 refine hK _ _ ?_
 clear hK K
 by_cases hI:tn=intN
 ·replace hr:=(if_pos hI).symm.trans hr
  simp only [Option.some.injEq] at hr
  subst hr
  rw [cH_self h2]
  repeat with_reducible refine awp_assoc ?_
  refine awp_sr fun K hK=>?_
  simp [hI,intN]
  refine hK _ _ ?_
  clear hK K
  repeat with_reducible refine awp_assoc ?_
  refine awp_seq_k fun K hK=>?_
  refine awp_condT rfl (by simp [hI,intN]) ?_
  by_cases hs1:s=1
  ·subst hs1
   repeat with_reducible refine awp_assoc ?_
   refine awp_sr fun K hK=>?_
   simp
   refine hK _ _ ?_
   clear hK K
   repeat with_reducible refine awp_assoc ?_
   refine awp_seq_k fun K hK=>?_
   refine awp_condT rfl (by simp) ?_
   repeat with_reducible refine awp_assoc ?_
   refine awp_sr fun K hK=>?_
   simp
   refine hK _ _ ?_
   clear hK K
   simp [reset_all hcl]
  ·have hs1':¬ (s:Int)=1:=by omega
   repeat with_reducible refine awp_assoc ?_
   refine awp_sr fun K hK=>?_
   simp [hs1']
   refine hK _ _ ?_
   clear hK K
   repeat with_reducible refine awp_assoc ?_
   refine awp_seq_k fun K hK=>?_
   refine awp_condF rfl (by simp [hs1']) ?_
   refine awp_skip ?_
   refine hK _ _ ?_
   clear hK K
   repeat with_reducible refine awp_assoc ?_
   refine awp_sr fun K hK=>?_
   simp
   refine hK _ _ ?_
   clear hK K
   simp [hs1,reset_all hcl]
 replace hr:=(if_neg hI).symm.trans hr
 have hI':¬ tn=⟨#[73,110,116]⟩:=hI
 repeat with_reducible refine awp_assoc ?_
 refine awp_sr fun K hK=>?_
 simp [hI']
 refine hK _ _ ?_
 clear hK K
 repeat with_reducible refine awp_assoc ?_
 refine awp_seq_k fun K hK=>?_
 refine awp_condF rfl (by simp) ?_
 refine awp_skip ?_
 refine hK _ _ ?_
 clear hK K
 repeat with_reducible refine awp_assoc ?_
 refine awp_sr fun K hK=>?_
 refine aOps_split 2 fun K hK=>?_
 simp
 refine hK _ _ ?_
 clear hK K
 refine aOps_call (hkey _) (by first | rfl | simp) rfl rfl (by first | (simp;done) | rfl) ?_
 simp
 refine hK _ _ ?_
 clear hK K
 cases hlk:cmLook m kb with
 | some n =>
  rw [hlk] at hr
  simp only [Option.some.injEq] at hr
  subst hr
  rw [cH_self h2]
  repeat with_reducible refine awp_assoc ?_
  refine awp_sr fun K hK=>?_
  refine aOps_split 6 fun K hK=>?_
  simp [aLookup,gs0,gm0,keys_cm,keyOk,aLook_cm,hlk]
  refine hK _ _ ?_
  clear hK K
  simp
  refine hK _ _ ?_
  clear hK K
  repeat with_reducible refine awp_assoc ?_
  refine awp_sr fun K hK=>?_
  simp
  refine hK _ _ ?_
  clear hK K
  repeat with_reducible refine awp_assoc ?_
  refine awp_seq_k fun K hK=>?_
  refine awp_condT rfl (by simp) ?_
  repeat with_reducible refine awp_assoc ?_
  refine awp_sr fun K hK=>?_
  simp
  refine hK _ _ ?_
  clear hK K
  simp [reset_all hcl]
 | none =>
 rw [hlk] at hr
 simp only at hr
 generalize hF:(fun (c:ConD) (m:CM)=>match putDL dv tl c.args with | none=>none | some l=>rowF (cntF d f) l (s - 1) m)=F at hr
 cases hcK:conK F dc (cmPut m kb 0) dc.length with
 | none=>rw [hcK] at hr;cases hr
 | some q =>
 rw [hcK] at hr
 obtain ⟨nq,mq⟩:=q
 simp only [Option.some.injEq] at hr
 subst hr
 have hpre:=fun k hk=>conK_le hcK k hk
 have hcap:=fun k q (h:conK F dc (cmPut m kb 0) k=some q)=>conK_cap h
 have hstep:∀ k,conK F dc (cmPut m kb 0) (k+1)=match conK F dc (cmPut m kb 0) k,dc[k]? with
  | some (n,m1),some c=>(match F c m1 with
   | some (b,m2)=>if cap1 < b then none else some (min (n+b) cap1,m2)
   | none=>none)
  | _,_=>none:=fun k=>by first | (rw [conK];done) | (rw [conK];rfl)
 have h00:conK F dc (cmPut m kb 0) 0=some (0,cmPut m kb 0):=by rw [conK]
 generalize hrk:conK F dc (cmPut m kb 0)=rk at hcK hpre hcap hstep h00
 clear hrk
 obtain ⟨st,hst⟩:∃ st:Nat→Nat × CM,∀ k,k≤dc.length→rk k=some (st k):=⟨fun k=>(rk k).getD (0,[]),fun k hk=>by obtain ⟨q,hq⟩:=hpre k hk;show rk k=some ((rk k).getD (0,[]));rw [hq];rfl⟩
 have hrst:st dc.length=(nq,mq):=by have:=hst _ (Nat.le_refl _);rw [hcK] at this;exact (Option.some.inj this).symm
 have hst0:st 0=(0,cmPut m kb 0):=by have:=hst 0 (Nat.zero_le _);rw [h00] at this;exact (Option.some.inj this).symm
 have hv1:=aVer_cm m kb 0
 have hp1:=aPut0 m kb
 repeat with_reducible refine awp_assoc ?_
 refine awp_sr fun K hK=>?_
 refine aOps_split 6 fun K hK=>?_
 simp [aLookup,gs0,gm0,keys_cm,keyOk,aLook_cm,hlk]
 refine hK _ _ ?_
 clear hK K
 simp
 refine hK _ _ ?_
 clear hK K
 repeat with_reducible refine awp_assoc ?_
 refine awp_sr fun K hK=>?_
 simp
 refine hK _ _ ?_
 clear hK K
 repeat with_reducible refine awp_assoc ?_
 refine awp_seq_k fun K hK=>?_
 refine awp_condF rfl (by simp) ?_
 refine awp_skip ?_
 refine hK _ _ ?_
 clear hK K
 repeat with_reducible refine awp_assoc ?_
 refine awp_sr fun K hK=>?_
 refine aOps_split 5 fun K hK=>?_
 simp [gs0]
 refine hK _ _ ?_
 clear hK K
 simp [aMapUpdate,gm0,keys_cm,keyOk,hp1,hv1,um0]
 refine hK _ _ ?_
 clear hK K
 have hcf:∀ (c:ConD) (h:c∈dc) (r:List Ty) (q:Nat × CM) (bs:List ABlock),putDL dv tl c.args=some r→ACalls Tryz.prog 100 [.ref si 0,.agg [strV tn,.slice (tl.map Ty.cells) none],.agg [strV c.name,.slice (c.args.map Ty.cells) none]] (HL (cH H mi q.2) bs) (.slice (r.map Ty.cells) none) (HL (cH H mi q.2) bs):=fun c h r q bs hp=>hfl c h r hp _ (gs _ _)
 have hcr:∀ (l:List Ty) (q p:Nat × CM) (bs:List ABlock),l.length < 1000000000000→rowF (cntF d f) l (s - 1) q.2=some p→ACalls Tryz.prog 99 [.ref si 0,.slice (l.map Ty.cells) none,intV ((s - 1:Nat):Int)] (HL (cH H mi q.2) bs) (intV p.1) (HL (cH H mi p.2) bs):=fun l q p bs hl h=>by
  have:=hrows l hl (s - 1) q.2 p (by omega) h (HL (cH H mi q.2) bs) (gs _ _) (gm _ _)
  rwa [cH_HL _ _ (by exact hml),cH_cH] at this
 have es:((s - 1:Nat):Int)=(s:Int) - 1:=by omega
 simp only [es] at hcr
 have w1:IntKind.i64.wrap ((s:Int) - 1)=(s:Int) - 1:=wrap64 (by omega) (by omega)
 clear hrows hfl
 generalize cmPut m kb 0=mp at *
 have hF1:∀ i,i≠1→¬ nid H.next i=nid H.next 1:=fun i h=>by unfold nid;omega
 have hs1:¬ si=nid H.next 1:=by unfold nid;omega
 have hfa:fillAt (nid H.next 1) [strV ByteArray.empty,.v (.slice none 0 0),.v (.slice none 0 0)] (HL (cH H mi mp) [.cells [strV tn,.slice (tl.map Ty.cells) none],.hole])=HL (cH H mi mp) [.cells [strV tn,.slice (tl.map Ty.cells) none],.cells [strV ByteArray.empty,.v (.slice none 0 0),.v (.slice none 0 0)]]:=by simp [fillAt]
 repeat with_reducible refine awp_assoc ?_
 refine awp_sdf 1 10 (fillAt (nid H.next 1) [strV ByteArray.empty,.v (.slice none 0 0),.v (.slice none 0 0)]) [11] [[],[],[],[],[0,1,2,3],[0,1,2,3],[0],[0,1],[0,1,2,4],[0,1,2,4,8],[0,1,2,3,4,5,6,7,8,9],[9],[]] (by kernel_rfl) (by rfl) (by rfl) fun K hK=>?_
 simp only [holes,alloc_HL,List.cons_append,List.nil_append]
 refine fLex_pre (nid H.next 1) 6 (fun G i h=>fillAt_off G i h) (by rfl) fun K2 hK2=>?_
 simp [oOps,offs,AV.off,Op.operands,Call.operands,regM,litOp,isReg,isLit,noTok,gs,hs1,hF1]
 refine hK2 _ ?_
 clear hK2 K2
 refine fLex_call0 (hnm _) (hnm _) rfl rfl rfl rfl rfl (by simp) ?_
 refine fLex_pre (nid H.next 1) 3 (fun G i h=>fillAt_off G i h) (by rfl) fun K2 hK2=>?_
 simp [oOps,offs,AV.off,Op.operands,Call.operands,regM,litOp,isReg,isLit,noTok,hF1]
 refine hK2 _ ?_
 clear hK2 K2
 refine fLex_self (v:=.ref (nid H.next 1) 0) rfl rfl (det_late rfl rfl rfl (by simp;rfl) rfl (by simp)) (by simp) ?_
 refine fLex_effA rfl rfl rfl rfl rfl rfl fun K2 hK2=>?_
 simp [hfa]
 refine hK2 _ _ (by simp [fillAt]) (by simp [unord]) ?_
 clear hK2 K2
 refine fLex_pre (nid H.next 1) 1 (fun G i h=>fillAt_off G i h) (by rfl) fun K2 hK2=>?_
 simp [oOps,offs,AV.off,Op.operands,Call.operands,regM,litOp,isReg,isLit,noTok]
 refine hK2 _ ?_
 clear hK2 K2
 refine fLex_end ?_
 simp [fillAt]
 refine hK _ _ ?_
 clear hK K
 repeat with_reducible refine awp_assoc ?_
 refine awp_sr fun K hK=>?_
 simp
 refine hK _ _ ?_
 clear hK K
 repeat with_reducible refine awp_assoc ?_
 refine awp_sr fun K hK=>?_
 simp
 refine hK _ _ ?_
 clear hK K
 refine awp_seq_k fun K hK=>?_
 refine awp_block ?_
 refine awp_up dc.length (fun k=>Env.ofL [(0,.ref si 0),(2,intV s),(4,.ref (nid H.next 0) 0),(7,strV kb),(12,intV (st k).1),(52,.slice (dc.map ConD.cells) none),(53,intV (dc.length:Int)),(54,intV k)]) (fun k=>HL (cH H mi (st k).2) [.cells [strV tn,.slice (tl.map Ty.cells) none],.cells [strV dn,strs dv none,.slice (dc.map ConD.cells) none]]) (fun _=>True) ?_ trivial (fun k hk _=>?_) (fun _=>?_)
 ·rw [hst0]
  exact weak_HL (hclm _) rfl (by simp [low_map,low_strs,strs]) (by simp [lt_nid hsl,low_map,low_strs,strs])
 ·have hk1:rk k=some (st k):=hst k (by omega)
  have hk2:rk (k+1)=some (st (k+1)):=hst (k+1) (by omega)
  have hcapk:=hcap k _ hk1
  obtain ⟨c,hc⟩:∃ c,dc[k]?=some c:=⟨_,List.getElem?_eq_getElem hk⟩
  have hcm:=List.mem_of_getElem? hc
  rw [hstep,hk1,hc] at hk2
  generalize hq:st k=q at *
  generalize hq2:st (k+1)=q2 at *
  obtain ⟨n,m1⟩:=q
  simp only at hk2 hcapk
  rw [←hF] at hk2
  simp only at hk2
  cases hpd:putDL dv tl c.args with
  | none=>rw [hpd] at hk2;cases hk2
  | some l =>
  rw [hpd] at hk2
  simp only at hk2
  cases hrf:rowF (cntF d f) l (s - 1) m1 with
  | none=>rw [hrf] at hk2;cases hk2
  | some p =>
  obtain ⟨b,m2⟩:=p
  rw [hrf] at hk2
  simp only at hk2
  by_cases hbc:cap1 < b
  ·rw [if_pos hbc] at hk2;cases hk2
  rw [if_neg hbc] at hk2
  simp only [Option.some.injEq] at hk2
  subst hk2
  have hll:=putDL_len hpd
  have hca:=(hna c hcm).1
  have hcf2:=fun bs=>hcf c hcm l (n,m1) bs hpd
  have hcr2:=fun bs=>hcr l (n,m1) (b,m2) bs (by omega) hrf
  simp only at hcf2 hcr2
  obtain ⟨z,hz⟩:∃ z:Int,(if (1000000001:Int) < (n:Int)+b then (1000000001:Int) else (n:Int)+b)=z:=⟨_,rfl⟩
  have hz2:z=((min (n+b) cap1:Nat):Int):=by rw [←hz];unfold cap1;split <;> omega
  have w2:IntKind.i64.wrap ((n:Int)+b)=(n:Int)+b:=wrap64 (by omega) (by unfold cap1 at hcapk hbc;omega)
  repeat with_reducible refine awp_assoc ?_
  refine awp_sr fun K hK=>?_
  simp [hk]
  refine hK _ _ ?_
  clear hK K
  repeat with_reducible refine awp_assoc ?_
  refine awp_seq_k fun K hK=>?_
  refine awp_condT rfl (by simp) ?_
  refine awp_skip ?_
  refine hK _ _ ?_
  clear hK K
  refine awp_seq_k fun KB hKB=>?_
  refine awp_block ?_
  repeat with_reducible refine awp_assoc ?_
  refine awp_sr fun K hK=>?_
  simp [hc]
  refine hK _ _ ?_
  clear hK K
  refine awp_region ?_
  refine aOps_split 5 fun K hK=>?_
  simp
  refine hK _ _ ?_
  clear hK K
  refine aOps_call (hcf2 _) (by first | rfl | simp) rfl rfl (by first | (simp;done) | rfl) ?_
  refine aOps_split 2 fun K hK=>?_
  simp [w1]
  refine hK _ _ ?_
  clear hK K
  refine aOps_call (hcr2 _) (by first | rfl | simp) rfl rfl (by first | (simp;done) | rfl) ?_
  refine aOps_split 1 fun K hK=>?_
  simp [w2]
  refine hK _ _ ?_
  clear hK K
  refine aOps_split 1 fun K hK=>?_
  simp [hz]
  refine hK _ _ ?_
  clear hK K
  simp
  refine hKB _ _ ?_
  clear hKB
  refine awp_region ?_
  simp [wrap_succ (show k < 4611686018427387904 by omega)]
  rw [hz2]
  exact weak_HL (hclm _) rfl (by simp [low_map,low_strs,strs]) (by simp [lt_nid hsl,low_map,low_strs,strs])
 ·rw [hrst]
  have hv2:=aVer_cm mq kb nq
  repeat with_reducible refine awp_assoc ?_
  refine awp_sr fun K hK=>?_
  simp
  refine hK _ _ ?_
  clear hK K
  repeat with_reducible refine awp_assoc ?_
  refine awp_seq_k fun K hK=>?_
  refine awp_condF rfl (by simp) ?_
  refine awp_exit ?_
  simp
  clear hK K
  refine hK _ _ ?_
  clear hK K
  repeat with_reducible refine awp_assoc ?_
  refine awp_sr fun K hK=>?_
  refine aOps_split 6 fun K hK=>?_
  simp [gs]
  refine hK _ _ ?_
  clear hK K
  simp [aMapUpdate,gm,keys_cm,keyOk,aPut_cm,hv2,um]
  refine hK _ _ ?_
  clear hK K
  repeat with_reducible refine awp_assoc ?_
  refine awp_sr fun K hK=>?_
  simp
  refine hK _ _ ?_
  clear hK K
  simp [reset_all (hclm _)]
end Go.Proofs.YtlhoigpidpokfaaGreat
