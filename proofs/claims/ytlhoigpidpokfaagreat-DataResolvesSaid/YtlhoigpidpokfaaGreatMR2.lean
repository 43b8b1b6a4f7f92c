/- The reference: what a predicate comes to. -/
import Derived.Test.YtlhoigpidpokfaaGreatMR1
import Derived.Test.YtlhoigpidpokfaaGreatME2
import Derived.Test.YtlhoigpidpokfaaGreatME
import Derived.Test.YtlhoigpidpokfaaGreatME1
set_option linter.unusedVariables false
set_option linter.unusedSimpArgs false
namespace Go.Proofs.YtlhoigpidpokfaaGreat
open Go Go.Abs Go.Proofs
set_option maxRecDepth 20000
attribute [local simp] aOps wantedA aStep aop aLoad aStore aBin aUn aFieldAddr aField aIndexAddr aIndex aLen aBuild aFill aAlloc aAppend aAppendOwn aMin aMax aBuildSlice litRows newRows isMut isOwn isNilS nilsW bytesR tokW tokAV tokL ret readC splice aeval isLit isLate isCut aCut AV.celled AV.one AV.ofValue Value.oneCell' Value.cells intOp strOp get_nid upd_nid awp aEnd aResults aResult Det unord isCall isNext
attribute [local simp] low_take low_strs low_comp low_tcomp wkEs_refl' WkBs WkEnv WkB WkL WkE WkO ABlock.low lowO lowL lowR AV.low cellsL_eq Ty.low low_map Ty.cells_length Ty.cells_one
attribute [local simp] ConD.cells Dat.cells PredD.cells SigD.cells ClsD.cells InstD.cells DeclsD.cells DeclsD.enc Dat.enc low_datL low_conL low_predL low_sigL low_clsL low_instL
structure SS where
 met:List ByteArray
 out:List PredD
 bad:Bool
def SS.push (s:SS) (k:ByteArray):SS:=⟨s.met++[k],s.out,s.bad⟩
noncomputable def skey (c:ByteArray) (t:Ty):ByteArray:=c++spS++textT t 0
def solK (r:ByteArray→Ty→SS→Option SS) (vs:List ByteArray) (ts:List Ty) (l:List PredD) (s:SS):Nat→Option SS
 | 0=>some s
 | k+1=>match solK r vs ts l s k with
  | none=>none
  | some s1=>match l[k]? with
   | none=>none
   | some q=>if placeI vs q.t.name < 0 then none else match ts[(placeI vs q.t.name).toNat]? with
    | none=>none
    | some t=>r q.cls t s1
noncomputable def solF (d:DeclsD):Nat→ByteArray→Ty→SS→Option SS
 | 0,_,_,_=>none
 | f+1,c,t,s=>if 1000000 < c.size∨1099511627776≤t.wt∨t.good=false∨1000000000 < s.met.length∨1000000000 < s.out.length then none
  else if 0≤placeI s.met (skey c t) then some s
  else if t.isVar=true then some ⟨(s.push (skey c t)).met,(s.push (skey c t)).out++[⟨c,t⟩],(s.push (skey c t)).bad⟩
  else if t.name=arrowN∨instI d.insts c t.name < 0 then some ⟨(s.push (skey c t)).met,(s.push (skey c t)).out,true⟩
  else match d.insts[(instI d.insts c t.name).toNat]? with
   | none=>none
   | some x=>if x.preds=[] then some (s.push (skey c t)) else match (allD d)[(findI (allD d) t.name).toNat]? with
    | none=>none
    | some y=>if findI (allD d) t.name < 0 then none else solK (solF d f) y.vars t.args x.preds (s.push (skey c t)) x.preds.length
theorem solK_le {r:ByteArray→Ty→SS→Option SS} {vs:List ByteArray} {ts:List Ty} {l:List PredD} {s:SS}:∀ {n:Nat} {q:SS},solK r vs ts l s n=some q→∀ k,k≤n→∃ q',solK r vs ts l s k=some q'
 | 0,q,h,k,hk=>⟨q,by rw [show k=0 by omega];exact h⟩
 | n+1,q,h,k,hk=>by
  by_cases e:k=n+1
  ·exact ⟨q,by rw [e];exact h⟩
  ·cases h2:solK r vs ts l s n with
   | none=>simp only [solK,h2] at h;cases h
   | some q2=>exact solK_le h2 k (by omega)
theorem rIsAhead_c (p q:PredD) (H:AHeap):ACalls Tryz.prog 97 [.agg p.cells,.agg q.cells] H (boolV (ltP (p.cls,p.t.name) (q.cls,q.t.name))) H:=by
 obtain ⟨pc,⟨pn,pl⟩⟩:=p
 obtain ⟨qc,⟨qn,ql⟩⟩:=q
 have e0:ltP (pc,pn) (qc,qn)=if pc=qc then ltS pn qn else ltS pc qc:=rfl
 have h1:Op.bytesLess pc.toList qc.toList=ltS pc qc:=rfl
 have h2:Op.bytesLess pn.toList qn.toList=ltS pn qn:=rfl
 simp only [Ty.name]
 generalize ltP (pc,pn) (qc,qn)=r at e0 ⊢
 refine acalls_walk (fun _=>.imm) [0,1,2,3,4] Tryz.mixed Tryz.func97 rfl rfl rfl (by decide) (fun hcl hlow=>?_)
 simp only [Ty.name,Ty.args,PredD.cells]
 repeat with_reducible refine awp_assoc ?_
 refine awp_sr fun K hK=>?_
 simp
 refine hK _ _ ?_
 clear hK K
 cases hl:ltS pc qc
 rotate_left
 ·have hne:¬ pc=qc:=fun e=>by rw [e,ltS_irrefl] at hl;cases hl
  rw [if_neg hne,hl] at e0
  repeat with_reducible refine awp_assoc ?_
  refine awp_sr fun K hK=>?_
  refine aOps_split 5 fun K hK=>?_
  simp [h1,hl]
  refine hK _ _ ?_
  clear hK K
  refine aOps_split 7 fun K hK=>?_
  simp [h1,hl]
  refine hK _ _ ?_
  clear hK K
  refine aOps_split 7 fun K hK=>?_
  simp [h1,hl]
  refine hK _ _ ?_
  clear hK K
  simp [h1,hl]
  refine hK _ _ ?_
  clear hK K
  rw [e0]
  simp [reset_all hcl]
 by_cases he:pc=qc
 ·subst he
  rw [if_pos rfl] at e0
  repeat with_reducible refine awp_assoc ?_
  refine awp_sr fun K hK=>?_
  refine aOps_split 5 fun K hK=>?_
  simp [h1,hl,h2]
  refine hK _ _ ?_
  clear hK K
  refine aOps_split 7 fun K hK=>?_
  simp [h1,hl,h2]
  refine hK _ _ ?_
  clear hK K
  refine aOps_split 7 fun K hK=>?_
  simp [h1,hl,h2]
  refine hK _ _ ?_
  clear hK K
  simp [h1,hl,h2]
  refine hK _ _ ?_
  clear hK K
  rw [e0]
  simp [reset_all hcl]
 ·rw [if_neg he,hl] at e0
  repeat with_reducible refine awp_assoc ?_
  refine awp_sr fun K hK=>?_
  refine aOps_split 5 fun K hK=>?_
  simp [h1,hl,he]
  refine hK _ _ ?_
  clear hK K
  refine aOps_split 7 fun K hK=>?_
  simp [h1,hl,he]
  refine hK _ _ ?_
  clear hK K
  refine aOps_split 7 fun K hK=>?_
  simp [h1,hl,he]
  refine hK _ _ ?_
  clear hK K
  simp [h1,hl,he]
  refine hK _ _ ?_
  clear hK K
  rw [e0]
  simp [reset_all hcl]
def sH (d:DeclsD) (si t1 t2:Nat) (H:AHeap) (s:SS):AHeap:=((H.upd t2 (.tok s.out.length 3 none)).upd t1 (.tok s.met.length 1 none)).upd si (.cells [.slice (d.datas.map Dat.cells) none,.slice (d.classes.map ClsD.cells) none,.slice (d.insts.map InstD.cells) none,.slice (s.met.map fun x=>[strV x]) (some t1),.slice (s.out.map PredD.cells) (some t2),boolV s.bad])
section
variable (d:DeclsD) (si t1 t2:Nat) (H:AHeap) (s:SS)
@[simp] theorem sH_next:(sH d si t1 t2 H s).next=H.next:=Eq.trans rfl rfl
theorem sH_si:(sH d si t1 t2 H s).get si=some (.cells [.slice (d.datas.map Dat.cells) none,.slice (d.classes.map ClsD.cells) none,.slice (d.insts.map InstD.cells) none,.slice (s.met.map fun x=>[strV x]) (some t1),.slice (s.out.map PredD.cells) (some t2),boolV s.bad]):=get_upd_self
theorem sH_t1 (h:t1≠si):(sH d si t1 t2 H s).get t1=some (.tok s.met.length 1 none):=by unfold sH;rw [get_upd_ne h];exact get_upd_self
theorem sH_t2 (h:t2≠si) (h2:t2≠t1):(sH d si t1 t2 H s).get t2=some (.tok s.out.length 3 none):=by unfold sH;rw [get_upd_ne h,get_upd_ne h2];exact get_upd_self
theorem sH_sH (h1:t1≠si) (h2:t2≠si) (h3:t2≠t1) (s':SS):sH d si t1 t2 (sH d si t1 t2 H s) s'=sH d si t1 t2 H s':=by
 unfold sH
 rw [upd_comm (Ne.symm h2),upd_comm (Ne.symm h3),upd_upd,upd_comm (Ne.symm h1),upd_upd,upd_upd]
theorem sH_HL (bs:List ABlock) (hs:si < H.next) (h1:t1 < H.next) (h2:t2 < H.next):sH d si t1 t2 (HL H bs) s=HL (sH d si t1 t2 H s) bs:=by
 unfold sH
 rw [upd_lt h2,upd_lt (by exact h1),upd_lt (by exact hs)]
theorem sH_closed (hcl:H.Closed) (hs:si < H.next) (h1:t1 < H.next) (h2:t2 < H.next):(sH d si t1 t2 H s).Closed:=by
 unfold sH
 refine closed_upd (closed_upd (closed_upd hcl h2 trivial) h1 trivial) hs ?_
 simp [ABlock.low,lowL,AV.low,low_datL,low_clsL,low_instL,low_predL,h1,h2]
theorem sH_self (hs:H.get si=some (.cells [.slice (d.datas.map Dat.cells) none,.slice (d.classes.map ClsD.cells) none,.slice (d.insts.map InstD.cells) none,.slice (s.met.map fun x=>[strV x]) (some t1),.slice (s.out.map PredD.cells) (some t2),boolV s.bad])) (h1:H.get t1=some (.tok s.met.length 1 none)) (h2:H.get t2=some (.tok s.out.length 3 none)):sH d si t1 t2 H s=H:=by
 refine AHeap.ext (fun i=>?_) rfl
 show (if i=si then some _ else if i=t1 then some _ else if i=t2 then some _ else H.get i)=H.get i
 by_cases e:i=si
 ·rw [if_pos e,e,hs]
 rw [if_neg e]
 by_cases e1:i=t1
 ·rw [if_pos e1,e1,h1]
 rw [if_neg e1]
 by_cases e2:i=t2
 ·rw [if_pos e2,e2,h2]
 rw [if_neg e2]
end
theorem upd_same {H:AHeap} {i:Nat} {b:ABlock} (h:H.get i=some b):H.upd i b=H:=by
 refine AHeap.ext (fun j=>?_) rfl
 show (if j=i then some b else H.get j)=H.get j
 by_cases e:j=i
 ·rw [if_pos e,e,h]
 ·rw [if_neg e]
theorem sol_run {d:DeclsD} {f:Nat} {fi:Int} {tl:List Ty} {xp:List PredD} {s1 r:SS}
  (hr:(if xp=[] then some s1 else match (allD d)[fi.toNat]? with
    | none=>none
    | some y=>if fi < 0 then none else solK (solF d f) y.vars tl xp s1 xp.length)=some r) :
  ∃ st:Nat→SS,st 0=s1∧st xp.length=r∧∀ k q,xp[k]?=some q→∃ y a,(allD d)[fi.toNat]?=some y∧0≤fi∧0≤placeI y.vars q.t.name∧tl[(placeI y.vars q.t.name).toNat]?=some a∧solF d f q.cls a (st k)=some (st (k+1)):=by
 by_cases hx:xp=[]
 ·rw [if_pos hx] at hr
  simp only [Option.some.injEq] at hr
  subst hx hr
  exact ⟨fun _=>s1,rfl,rfl,fun k q h=>by simp at h⟩
 rw [if_neg hx] at hr
 cases hy:(allD d)[fi.toNat]? with
 | none=>rw [hy] at hr;cases hr
 | some y =>
 rw [hy] at hr
 simp only at hr
 by_cases hf:fi < 0
 ·rw [if_pos hf] at hr;cases hr
 rw [if_neg hf] at hr
 refine ⟨fun k=>(solK (solF d f) y.vars tl xp s1 k).getD s1,by simp [solK],by show (solK (solF d f) y.vars tl xp s1 xp.length).getD s1=r;rw [hr];rfl,fun k q hq=>?_⟩
 have hk:k < xp.length:=by
  rcases Nat.lt_or_ge k xp.length with h | h
  ·exact h
  ·rw [List.getElem?_eq_none h] at hq;cases hq
 obtain ⟨q1,h1⟩:=solK_le hr k (by omega)
 obtain ⟨q2,h2⟩:=solK_le hr (k+1) (by omega)
 have h3:=h2
 simp only [solK,h1,hq] at h3
 by_cases hp:placeI y.vars q.t.name < 0
 ·rw [if_pos hp] at h3;cases h3
 rw [if_neg hp] at h3
 cases ha:tl[(placeI y.vars q.t.name).toNat]? with
 | none=>rw [ha] at h3;cases h3
 | some a =>
 rw [ha] at h3
 simp only at h3
 refine ⟨y,a,rfl,by omega,by omega,ha,?_⟩
 simp only [h1,h2,Option.getD_some]
 exact h3
structure SolD (d:DeclsD):Prop where
 ds:d.datas.length < 1000000000000
 is:d.insts.length < 1000000000000
 vars:∀ x∈allD d,x.vars.length < 4611686018427387904
 preds:∀ x∈d.insts,x.preds.length < 4611686018427387904
set_option maxHeartbeats 4000000 in
theorem rSolve_c (d:DeclsD) (hd:SolD d) (si t1 t2:Nat) (h1:t1≠si) (h2:t2≠si) (h3:t2≠t1):∀ (f:Nat) (c:ByteArray) (t:Ty) (s r:SS),solF d f c t s=some r→∀ H:AHeap,H.get si=some (.cells [.slice (d.datas.map Dat.cells) none,.slice (d.classes.map ClsD.cells) none,.slice (d.insts.map InstD.cells) none,.slice (s.met.map fun x=>[strV x]) (some t1),.slice (s.out.map PredD.cells) (some t2),boolV s.bad])→H.get t1=some (.tok s.met.length 1 none)→H.get t2=some (.tok s.out.length 3 none) →
  ACalls Tryz.prog 60 [.ref si 0,.agg [strV c,strV t.name,.slice (t.args.map Ty.cells) none]] H (.tuple []) (sH d si t1 t2 H r):=by
 intro f
 induction f with
 | zero=>intro c t s r h;cases h
 | succ f ih =>
 intro c t s r hr H g1 g2 g3
 rw [solF] at hr
 by_cases hgd:1000000 < c.size∨1099511627776≤t.wt∨t.good=false∨1000000000 < s.met.length∨1000000000 < s.out.length
 ·rw [if_pos hgd] at hr;cases hr
 rw [if_neg hgd] at hr
 simp only [not_or,Nat.not_lt,Bool.not_eq_false,Nat.not_le] at hgd
 obtain ⟨hc1,hwt,hgood,hmet,hout⟩:=hgd
 have hsh:=show_c t hgood (by omega)
 have hts:=text_size t 0
 have hpl:=rPlace_c s.met (by omega) (skey c t)
 have hiv:=rIsVar_c t
 have hfi:=rFindInst_c d.insts (by have:=hd.is;omega) c t.name
 have hal:=rAll_c d hd.ds
 have hll:(allD d).length < 4611686018427387904:=by have:=hd.ds;simp [allD,baseD];omega
 have hfd:=rFind_c (allD d) hll t.name
 have hvs:=hd.vars
 have hps:=hd.preds
 have ek:c++(⟨#[32]⟩:ByteArray)++textT t 0=skey c t:=rfl
 have ekz:(skey c t).size≤1000000+1+t.wt:=by
  unfold skey;rw [ByteArray.size_append,ByteArray.size_append]
  have:spS.size=1:=rfl
  omega
 generalize textT t 0=tx at *
 generalize skey c t=key at *
 generalize hiv0:t.isVar=iv at *
 generalize instI d.insts c t.name=ii at *
 generalize findI (allD d) t.name=fi at *
 clear hiv0
 obtain ⟨tn,tl⟩:=t
 simp only [Ty.name,Ty.args] at *
 simp only [enc_mk] at hsh hiv
 refine acalls_walk (fun d=>if d=29 then .lit else if d=42 then .lit else .imm) [0,1,3,4,5,6,7,8,22,35,64,88] Tryz.mixed Tryz.func60 rfl rfl rfl (by decide) (fun hcl hlow=>?_)
 have hsl:si < H.next:=(hcl _ _ g1).1
 have h1l:t1 < H.next:=(hcl _ _ g2).1
 have h2l:t2 < H.next:=(hcl _ _ g3).1
 have hself:=sH_self d si t1 t2 H s g1 g2 g3
 have hclm:=fun s'=>sH_closed d si t1 t2 H s' hcl hsl h1l h2l
 have gsi0:∀ bs,(HL H bs).get si=some (.cells [.slice (d.datas.map Dat.cells) none,.slice (d.classes.map ClsD.cells) none,.slice (d.insts.map InstD.cells) none,.slice (s.met.map fun x=>[strV x]) (some t1),.slice (s.out.map PredD.cells) (some t2),boolV s.bad]):=fun bs=>by rw [get_lt hsl];exact g1
 have gt10:∀ bs,(HL H bs).get t1=some (.tok s.met.length 1 none):=fun bs=>by rw [get_lt h1l];exact g2
 have gsi1:∀ bs B,((HL H bs).upd t1 B).get si=some (.cells [.slice (d.datas.map Dat.cells) none,.slice (d.classes.map ClsD.cells) none,.slice (d.insts.map InstD.cells) none,.slice (s.met.map fun x=>[strV x]) (some t1),.slice (s.out.map PredD.cells) (some t2),boolV s.bad]):=fun bs B=>by rw [get_upd_ne (Ne.symm h1)];exact gsi0 bs
 have gsi:∀ s' bs,(HL (sH d si t1 t2 H s') bs).get si=some (.cells [.slice (d.datas.map Dat.cells) none,.slice (d.classes.map ClsD.cells) none,.slice (d.insts.map InstD.cells) none,.slice (s'.met.map fun x=>[strV x]) (some t1),.slice (s'.out.map PredD.cells) (some t2),boolV s'.bad]):=fun s' bs=>by rw [get_lt (by exact hsl)];exact sH_si d si t1 t2 H s'
 have gt2:∀ s' bs,(HL (sH d si t1 t2 H s') bs).get t2=some (.tok s'.out.length 3 none):=fun s' bs=>by rw [get_lt (by exact h2l)];exact sH_t2 d si t1 t2 H s' h2 h3
 have gsi2:∀ s' bs B,((HL (sH d si t1 t2 H s') bs).upd t2 B).get si=some (.cells [.slice (d.datas.map Dat.cells) none,.slice (d.classes.map ClsD.cells) none,.slice (d.insts.map InstD.cells) none,.slice (s'.met.map fun x=>[strV x]) (some t1),.slice (s'.out.map PredD.cells) (some t2),boolV s'.bad]):=fun s' bs B=>by rw [get_upd_ne (Ne.symm h2)];exact gsi s' bs
 have u1:∀ bs,((HL H bs).upd t1 (.tok (s.met.length+1) 1 none)).upd si (.cells [.slice (d.datas.map Dat.cells) none,.slice (d.classes.map ClsD.cells) none,.slice (d.insts.map InstD.cells) none,.slice (s.met.map (fun x=>[strV x])++[[strV key]]) (some t1),.slice (s.out.map PredD.cells) (some t2),boolV s.bad])=HL (sH d si t1 t2 H (s.push key)) bs:=fun bs=>by
  rw [upd_lt h1l,upd_lt (by exact hsl)]
  unfold sH SS.push
  dsimp only
  rw [upd_same g3]
  simp
 have u2:∀ s' bs,((HL (sH d si t1 t2 H s') bs).upd t2 (.tok (s'.out.length+1) 3 none)).upd si (.cells [.slice (d.datas.map Dat.cells) none,.slice (d.classes.map ClsD.cells) none,.slice (d.insts.map InstD.cells) none,.slice (s'.met.map fun x=>[strV x]) (some t1),.slice (s'.out.map PredD.cells++[[strV c,strV tn,.slice (tl.map Ty.cells) none]]) (some t2),boolV s'.bad])=HL (sH d si t1 t2 H ⟨s'.met,s'.out++[⟨c,.mk tn tl⟩],s'.bad⟩) bs:=fun s' bs=>by
  rw [upd_lt (by exact h2l),upd_lt (by exact hsl)]
  unfold sH
  rw [upd_comm (Ne.symm h2),upd_comm (Ne.symm h3),upd_upd,upd_upd]
  simp [Ty.name,Ty.args]
 have u3:∀ s' bs,(HL (sH d si t1 t2 H s') bs).upd si (.cells [.slice (d.datas.map Dat.cells) none,.slice (d.classes.map ClsD.cells) none,.slice (d.insts.map InstD.cells) none,.slice (s'.met.map fun x=>[strV x]) (some t1),.slice (s'.out.map PredD.cells) (some t2),boolV true])=HL (sH d si t1 t2 H ⟨s'.met,s'.out,true⟩) bs:=fun s' bs=>by
  rw [upd_lt (by exact hsl)]
  unfold sH
  rw [upd_upd]
 have hrec:∀ (c:ByteArray) (t:Ty) (s s':SS) (bs:List ABlock),solF d f c t s=some s'→ACalls Tryz.prog 60 [.ref si 0,.agg [strV c,strV t.name,.slice (t.args.map Ty.cells) none]] (HL (sH d si t1 t2 H s) bs) (.tuple []) (HL (sH d si t1 t2 H s') bs):=fun c t s s' bs h=>by
  have:=ih c t s s' h (HL (sH d si t1 t2 H s) bs) (gsi _ _) (by rw [get_lt (by exact h1l)];exact sH_t1 d si t1 t2 H s h1) (gt2 _ _)
  rwa [sH_HL _ _ _ _ _ _ _ (by exact hsl) (by exact h1l) (by exact h2l),sH_sH _ _ _ _ _ _ h1 h2 h3] at this
 clear ih
 repeat with_reducible refine awp_assoc ?_
 refine awp_sr fun K hK=>?_
 simp
 refine hK _ _ ?_
 clear hK K
 repeat with_reducible refine awp_assoc ?_
 refine awp_sdc [] [[],[],[],[0,1,2],[0,1,2],[0,1,2],[],[]] (by kernel_rfl) (by rfl) fun K hK=>?_
 refine aCalm_pre 3 (by rfl) fun K hK=>?_
 simp
 simp only [show (⟨#[32]⟩:ByteArray).size=1 from rfl]
 refine ⟨by omega,hK _ _ ?_⟩
 clear hK K
 refine aCalm_pre 2 (by rfl) fun K hK=>?_
 simp
 refine hK _ _ ?_
 clear hK K
 refine aCalm_call0 (hsh _) (by first | rfl | simp) rfl rfl rfl (by first | (simp;done) | rfl) ?_
 refine aCalm_pre 1 (by rfl) fun K hK=>?_
 simp
 simp only [show (⟨#[32]⟩:ByteArray).size=1 from rfl]
 refine ⟨by omega,hK _ _ ?_⟩
 clear hK K
 rw [ek]
 refine aCalm_pre 1 (by rfl) fun K hK=>?_
 simp
 refine hK _ _ ?_
 clear hK K
 refine aCalm_end ?_
 simp
 refine hK _ _ ?_
 clear hK K
 repeat with_reducible refine awp_assoc ?_
 refine awp_sr fun K hK=>?_
 refine aOps_split 5 fun K hK=>?_
 simp [gsi0]
 refine hK _ _ ?_
 clear hK K
 refine aOps_callW (hpl _) (by first | rfl | simp) rfl rfl (by simp) ?_
 by_cases hmem:0≤placeI s.met key
 ·rw [if_pos hmem] at hr
  simp only [Option.some.injEq] at hr
  subst hr
  simp [hmem]
  refine hK _ _ ?_
  clear hK K
  repeat with_reducible refine awp_assoc ?_
  refine awp_seq_k fun K hK=>?_
  refine awp_condT rfl (by simp) ?_
  simp [hself,reset_all hcl]
 rw [if_neg hmem] at hr
 simp [hmem]
 refine hK _ _ ?_
 clear hK K
 repeat with_reducible refine awp_assoc ?_
 refine awp_seq_k fun K hK=>?_
 refine awp_condF rfl (by simp) ?_
 refine awp_skip ?_
 refine hK _ _ ?_
 clear hK K
 repeat with_reducible refine awp_assoc ?_
 refine awp_sr fun K hK=>?_
 refine aOps_split 6 fun K hK=>?_
 simp [gsi0]
 refine hK _ _ ?_
 clear hK K
 refine aOps_split 2 fun K hK=>?_
 simp [gt10]
 refine ⟨by omega,hK _ _ ?_⟩
 clear hK K
 simp [gsi1,u1]
 refine hK _ _ ?_
 clear hK K
 clear u1 gsi0 gsi1 gt10 hself hpl hsh
 have ho1:(s.push key).out.length≤1000000000:=hout
 generalize s.push key=s1 at *
 repeat with_reducible refine awp_assoc ?_
 refine awp_sr fun K hK=>?_
 refine aOps_split 2 fun K hK=>?_
 simp
 refine hK _ _ ?_
 clear hK K
 refine aOps_call (hiv _) (by first | rfl | simp) rfl rfl (by first | (simp;done) | rfl) ?_
 simp
 refine hK _ _ ?_
 clear hK K
 cases iv
 rotate_left
 ·rw [if_pos rfl] at hr
  simp only [Option.some.injEq] at hr
  subst hr
  repeat with_reducible refine awp_assoc ?_
  refine awp_seq_k fun K hK=>?_
  refine awp_condT rfl (by simp) ?_
  repeat with_reducible refine awp_assoc ?_
  refine awp_sdc [7,10] [[],[0],[0],[0],[0],[0,1,2,3,4],[0,1,2,3,4],[0,1],[],[],[]] (by kernel_rfl) (by rfl) fun K hK=>?_
  refine aCalm_pre 7 (by rfl) fun K hK=>?_
  simp [gsi]
  refine hK _ _ ?_
  clear hK K
  refine aCalm_pre 1 (by rfl) fun K hK=>?_
  simp [gt2]
  refine ⟨by omega,hK _ _ ?_⟩
  clear hK K
  refine aCalm_pre 3 (by rfl) fun K hK=>?_
  simp [gsi2,u2]
  refine hK _ _ ?_
  clear hK K
  refine aCalm_end ?_
  simp
  refine hK _ _ ?_
  clear hK K
  simp [reset_all (hclm _)]
 rw [if_neg (by decide)] at hr
 repeat with_reducible refine awp_assoc ?_
 refine awp_seq_k fun K hK=>?_
 refine awp_condF rfl (by simp) ?_
 refine awp_skip ?_
 refine hK _ _ ?_
 clear hK K
 repeat with_reducible refine awp_assoc ?_
 refine awp_sdc [] [[],[],[],[],[0],[0,1,2,3,4],[0,1,2,3,4],[0,1,2,3,4,5,6],[0,1,2,3,4,5,6],[0,1,2,3,4,5,6],[0,1],[]] (by kernel_rfl) (by rfl) fun K hK=>?_
 refine aCalm_pre 5 (by rfl) fun K hK=>?_
 simp [gsi]
 refine hK _ _ ?_
 clear hK K
 refine aCalm_pre 5 (by rfl) fun K hK=>?_
 simp
 refine hK _ _ ?_
 clear hK K
 refine aCalm_call0 (hfi _) (by first | rfl | simp) rfl rfl rfl (by first | (simp;done) | rfl) ?_
 refine aCalm_pre 1 (by rfl) fun K hK=>?_
 simp
 refine hK _ _ ?_
 clear hK K
 refine aCalm_end ?_
 simp
 refine hK _ _ ?_
 clear hK K
 by_cases hbad:tn=arrowN∨ii < 0
 ·replace hr:=(if_pos hbad).symm.trans hr
  simp only [Option.some.injEq] at hr
  subst hr
  by_cases ha:tn=arrowN
  ·repeat with_reducible refine awp_assoc ?_
   refine awp_sr fun K hK=>?_
   simp [ha,arrowN]
   refine hK _ _ ?_
   clear hK K
   repeat with_reducible refine awp_assoc ?_
   refine awp_seq_k fun K hK=>?_
   refine awp_condT rfl (by simp) ?_
   repeat with_reducible refine awp_assoc ?_
   refine awp_sr fun K hK=>?_
   simp [gsi,u3]
   refine hK _ _ ?_
   clear hK K
   simp [reset_all (hclm _)]
  ·have ha':¬ tn=⟨#[45,62]⟩:=ha
   have hi:ii < 0:=hbad.resolve_left ha
   repeat with_reducible refine awp_assoc ?_
   refine awp_sr fun K hK=>?_
   simp [ha',hi]
   refine hK _ _ ?_
   clear hK K
   repeat with_reducible refine awp_assoc ?_
   refine awp_seq_k fun K hK=>?_
   refine awp_condT rfl (by simp) ?_
   repeat with_reducible refine awp_assoc ?_
   refine awp_sr fun K hK=>?_
   simp [gsi,u3]
   refine hK _ _ ?_
   clear hK K
   simp [reset_all (hclm _)]
 replace hr:=(if_neg hbad).symm.trans hr
 have ha':¬ tn=⟨#[45,62]⟩:=fun e=>hbad (.inl e)
 have hi:¬ ii < 0:=fun e=>hbad (.inr e)
 repeat with_reducible refine awp_assoc ?_
 refine awp_sr fun K hK=>?_
 simp [ha',hi]
 refine hK _ _ ?_
 clear hK K
 repeat with_reducible refine awp_assoc ?_
 refine awp_seq_k fun K hK=>?_
 refine awp_condF rfl (by simp) ?_
 refine awp_skip ?_
 refine hK _ _ ?_
 clear hK K
 cases hx:d.insts[ii.toNat]? with
 | none=>rw [hx] at hr;cases hr
 | some x =>
 rw [hx] at hr
 simp only at hr
 have hxp:=hps x (List.mem_of_getElem? hx)
 obtain ⟨st,hst0,hstn,hrun⟩:=sol_run hr
 have hij:ii=(ii.toNat:Int):=by omega
 generalize ii.toNat=ij at *
 subst hij
 obtain ⟨xc,xd,xp,xra,xrl,xrc⟩:=x
 simp only at hxp hstn hrun
 clear hr hbad
 generalize hL:allD d=L at *
 repeat with_reducible refine awp_assoc ?_
 refine awp_sdc [] [[],[],[],[],[0],[0,1,2,3,4],[0,1,2,3,4],[0,1,2,3,4],[0,1],[]] (by kernel_rfl) (by rfl) fun K hK=>?_
 refine aCalm_pre 4 (by rfl) fun K hK=>?_
 simp [gsi]
 refine hK _ _ ?_
 clear hK K
 refine aCalm_call0 (hal _) (by first | rfl | simp) rfl rfl rfl (by first | (simp;done) | rfl) ?_
 refine aCalm_pre 3 (by rfl) fun K hK=>?_
 simp
 refine hK _ _ ?_
 clear hK K
 refine aCalm_call0 (hfd _) (by first | rfl | simp) rfl rfl rfl (by first | (simp;done) | rfl) ?_
 refine aCalm_pre 1 (by rfl) fun K hK=>?_
 simp
 refine hK _ _ ?_
 clear hK K
 refine aCalm_end ?_
 simp
 refine hK _ _ ?_
 clear hK K
 repeat with_reducible refine awp_assoc ?_
 refine awp_sr fun K hK=>?_
 simp
 refine hK _ _ ?_
 clear hK K
 refine awp_block ?_
 refine awp_up xp.length (fun k=>Env.ofL [(0,.ref si 0),(3,.ref (nid H.next 0) 0),(5,intV (ij:Int)),(6,intV fi),(7,intV k)]) (fun k=>HL (sH d si t1 t2 H (st k)) [.cells [strV c,strV tn,.slice (tl.map Ty.cells) none]]) (fun _=>True) ?_ trivial (fun k hk _=>?_) (fun _=>?_)
 ·rw [hst0]
  exact weak_HL (hclm _) rfl (by simp [low_map]) (by simp [lt_nid hsl,low_map])
 ·obtain ⟨q,hq⟩:∃ q,xp[k]?=some q:=⟨_,List.getElem?_eq_getElem hk⟩
  obtain ⟨y,a,hy,hf0,hp0,ha,hs⟩:=hrun k q hq
  have hyv:=hvs y (List.mem_of_getElem? hy)
  have hpq:=rPlace_c y.vars hyv q.t.name
  have hfij:fi=(fi.toNat:Int):=by omega
  have hpi:placeI y.vars q.t.name=((placeI y.vars q.t.name).toNat:Int):=by omega
  generalize fi.toNat=fj at *
  generalize (placeI y.vars q.t.name).toNat=pj at *
  rw [hpi] at hpq
  clear hpi hp0 hrun
  subst hfij
  have hc:=fun bs=>hrec q.cls a (st k) (st (k+1)) bs hs
  obtain ⟨an,al⟩:=a
  obtain ⟨qc,⟨qn,ql⟩⟩:=q
  obtain ⟨yn,yv,yc⟩:=y
  simp only [Ty.name,Ty.args] at hc hpq hyv
  repeat with_reducible refine awp_assoc ?_
  refine awp_sr fun K hK=>?_
  refine aOps_split 6 fun K hK=>?_
  simp [gsi]
  refine hK _ _ ?_
  clear hK K
  refine aOps_split 6 fun K hK=>?_
  simp [hx,hk]
  refine hK _ _ ?_
  clear hK K
  simp
  refine hK _ _ ?_
  clear hK K
  repeat with_reducible refine awp_assoc ?_
  refine awp_seq_k fun K hK=>?_
  refine awp_condT rfl (by simp) ?_
  refine awp_skip ?_
  refine hK _ _ ?_
  clear hK K
  refine awp_seq_k fun KB hKB=>?_
  refine awp_block ?_
  repeat with_reducible refine awp_assoc ?_
  refine awp_sr fun K hK=>?_
  refine aOps_split 6 fun K hK=>?_
  simp [gsi]
  refine hK _ _ ?_
  clear hK K
  refine aOps_split 6 fun K hK=>?_
  simp [hx,hq,Ty.name,Ty.args]
  refine hK _ _ ?_
  clear hK K
  refine aOps_split 2 fun K hK=>?_
  simp
  refine hK _ _ ?_
  clear hK K
  simp
  refine hK _ _ ?_
  clear hK K
  refine awp_draw [22] [[],[0],[0],[0,1,2],[0,1,2],[0,1,2],[0,1,2,3,4,5],[0,1,2,3,4,5],[0,1,2,3,4,5],[0,1,2,3,4,5],[0,1,2,3,4,5,6],[0,1,2,3,4,5,6,7,8,9,10],[0,1,2,3,4,5,6,7],[0,1,2,3,4,5,6,7,8],[0,1,2,3,4,5,6,7,8,9],[0,1,2,3,4,5,6,7,8,9,10,11,12,13,14],[0,1,2,3,4,5,6,7,8,9,10,11,12,13,14],[0,1,2,3,4,5,6,7,8,9,10,11,12,13,14],[0,1,2,3,4,5,6,7,11],[0,1,2,6,7,8,11,12,15],[0,1,2,3,6,7,8,9,11,12,13,15,16],[0,3,4,6,7,8,9,10,11,12,13,14,15,16,17],[3,4,5,6,7,8,11,12,15]] (by kernel_rfl) ?_
  refine aLex_read rfl rfl rfl rfl fun K hK=>?_
  simp
  refine hK _ _ _ ?_
  clear hK K
  refine aLex_read rfl rfl rfl rfl fun K hK=>?_
  simp
  refine hK _ _ _ ?_
  clear hK K
  refine aLex_read rfl rfl rfl rfl fun K hK=>?_
  simp
  refine hK _ _ _ ?_
  clear hK K
  refine aLex_read rfl rfl rfl rfl fun K hK=>?_
  simp
  refine hK _ _ _ ?_
  clear hK K
  refine aLex_read rfl rfl rfl rfl fun K hK=>?_
  simp
  refine hK _ _ _ ?_
  clear hK K
  refine aLex_read rfl rfl rfl rfl fun K hK=>?_
  simp
  refine hK _ _ _ ?_
  clear hK K
  refine aLex_read rfl rfl rfl rfl fun K hK=>?_
  simp
  refine hK _ _ _ ?_
  clear hK K
  refine aLex_read rfl rfl rfl rfl fun K hK=>?_
  simp
  refine hK _ _ _ ?_
  clear hK K
  refine aLex_read rfl rfl rfl rfl fun K hK=>?_
  simp
  refine hK _ _ _ ?_
  clear hK K
  refine aLex_read rfl rfl rfl rfl fun K hK=>?_
  simp [gsi]
  refine hK _ _ _ ?_
  clear hK K
  refine aLex_call (v:=.slice (L.map Dat.cells) none) rfl rfl ?_ (by simp) ?_
  ·simp
   exact hal _
  refine aLex_read rfl rfl rfl rfl fun K hK=>?_
  simp
  refine hK _ _ _ ?_
  clear hK K
  refine aLex_read rfl rfl rfl rfl fun K hK=>?_
  simp [hy]
  refine hK _ _ _ ?_
  clear hK K
  refine aLex_read rfl rfl rfl rfl fun K hK=>?_
  simp
  refine hK _ _ _ ?_
  clear hK K
  refine aLex_read rfl rfl rfl rfl fun K hK=>?_
  simp
  refine hK _ _ _ ?_
  clear hK K
  refine aLex_read rfl rfl rfl rfl fun K hK=>?_
  simp
  refine hK _ _ _ ?_
  clear hK K
  refine aLex_read rfl rfl rfl rfl fun K hK=>?_
  simp
  refine hK _ _ _ ?_
  clear hK K
  refine aLex_read rfl rfl rfl rfl fun K hK=>?_
  simp
  refine hK _ _ _ ?_
  clear hK K
  refine aLex_call (v:=intV (pj:Int)) rfl rfl ?_ (by simp) ?_
  ·simp
   exact hpq _
  refine aLex_read rfl rfl rfl rfl fun K hK=>?_
  simp [ha,Ty.cells]
  refine hK _ _ _ ?_
  clear hK K
  refine aLex_read rfl rfl rfl rfl fun K hK=>?_
  simp
  refine hK _ _ _ ?_
  clear hK K
  refine aLex_read rfl rfl rfl rfl fun K hK=>?_
  simp
  refine hK _ _ _ ?_
  clear hK K
  refine aLex_calleA (hc _) rfl rfl rfl rfl rfl (by simp [hy]) ?_
  refine aLex_end ?_
  simp
  refine hKB _ _ ?_
  clear hKB
  refine awp_region ?_
  simp [wrap_succ (show k < 4611686018427387904 by omega)]
  exact weak_HL (hclm _) rfl (by simp [low_map]) (by simp [lt_nid hsl,low_map])
 ·rw [hstn]
  repeat with_reducible refine awp_assoc ?_
  refine awp_sr fun K hK=>?_
  refine aOps_split 6 fun K hK=>?_
  simp [gsi]
  refine hK _ _ ?_
  clear hK K
  refine aOps_split 6 fun K hK=>?_
  simp [hx]
  refine hK _ _ ?_
  clear hK K
  simp
  refine hK _ _ ?_
  clear hK K
  repeat with_reducible refine awp_assoc ?_
  refine awp_seq_k fun K hK=>?_
  refine awp_condF rfl (by simp) ?_
  refine awp_exit ?_
  simp [reset_all (hclm _)]
end Go.Proofs.YtlhoigpidpokfaaGreat
