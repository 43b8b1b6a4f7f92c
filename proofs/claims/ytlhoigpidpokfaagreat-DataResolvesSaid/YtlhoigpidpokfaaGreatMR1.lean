/- Predicates resolved: what the program computes, as a plain run. -/
import Derived.Test.YtlhoigpidpokfaaGreatMD9
import Derived.Test.YtlhoigpidpokfaaGreatME
set_option linter.unusedVariables false
set_option linter.unusedSimpArgs false
namespace Go.Proofs.YtlhoigpidpokfaaGreat
open Go Go.Abs Go.Proofs
abbrev VP:=ByteArray × ByteArray
abbrev FM:=List (ByteArray × VP)
def fkey (c v:ByteArray):ByteArray:=c++spS++v
def vpC (p:VP):List AV:=[strV p.1,strV p.2,.v (.slice none 0 0)]
def fmEs (m:FM):List (Value × AV):=m.map fun e=>(.string e.1,.agg (vpC e.2))
def fmLook (m:FM) (k:ByteArray):Option VP:=(m.find? fun p=>decide (k=p.1)).map (·.2)
def fmPut:FM→ByteArray→VP→FM
 | [],k,n=>[(k,n)]
 | p::m,k,n=>if k=p.1 then (k,n)::m else p::fmPut m k n
theorem keys_fm (m:FM):keysOk .string (fmEs m):=by
 intro e he
 obtain ⟨p,_,rfl⟩:=List.mem_map.1 he
 rfl
theorem aLook_fm (m:FM) (k:ByteArray):aLook (fmEs m) (.string k)=(fmLook m k).map fun n=>AV.agg (vpC n):=by
 unfold aLook fmLook fmEs
 rw [List.find?_map]
 simp only [Option.map_map]
 rfl
theorem aPut_fm (m:FM) (k:ByteArray) (n:VP):aPut (fmEs m) (.string k) (.agg (vpC n))=fmEs (fmPut m k n):=by
 induction m with
 | nil=>rfl
 | cons p m ih =>
  simp only [fmEs,List.map_cons,aPut,fmPut,keq] at ih ⊢
  by_cases h:k=p.1
  ·simp [h]
  ·simp [h,ih]
theorem fmPut_len (m:FM) (k:ByteArray) (n:VP):(fmPut m k n).length=if (fmLook m k).isSome=true then m.length else m.length+1:=by
 induction m with
 | nil=>rfl
 | cons p m ih =>
  by_cases h:k=p.1
  ·simp [fmPut,fmLook,h]
  ·have e:fmLook (p::m) k=fmLook m k:=by unfold fmLook;rw [List.find?_cons_of_neg (by simpa using h)]
   rw [e]
   simp only [fmPut,if_neg h,List.length_cons,ih]
   split <;> rfl
theorem aVer_fm (m:FM) (k:ByteArray) (n:VP):aVer (fmEs m) (.string k) m.length true=(fmPut m k n).length:=by
 rw [fmPut_len]
 unfold aVer
 rw [aLook_fm,Option.isSome_map]
 cases (fmLook m k).isSome <;> rfl
theorem low_fm (m:Nat) (l:FM):lowEs m (fmEs l):=by
 induction l with
 | nil=>trivial
 | cons x l ih=>exact ⟨⟨trivial,trivial,trivial,trivial⟩,ih⟩
theorem named_in' (d:DeclsD) (n:ByteArray):(namedD d n).1∈allD d∨(namedD d n).1=⟨intN,[],[]⟩∨(namedD d n).1=zeroDat:=by
 unfold namedD
 split
 ·exact .inr (.inl rfl)
 ·cases h:(allD d).find? fun x=>decide (x.name=n) with
  | none=>exact .inr (.inr rfl)
  | some x=>exact .inl (List.mem_of_find?_eq_some h)
theorem mem_takeI {α:Type} {l:List α} {i k:Nat} {x:α} (h:i < k) (hx:l[i]?=some x):x∈l.take k:=by
 refine List.mem_of_getElem? (i:=i) ?_
 rw [List.getElem?_take_of_lt h];exact hx
def redK (r:ByteArray→Ty→FM→Option (Bool × FM)) (vs:List ByteArray) (ts:List Ty) (l:List PredD) (m:FM):Nat→Option (Bool × FM)
 | 0=>some (true,m)
 | k+1=>match redK r vs ts l m k with
  | none=>none
  | some (false,m1)=>some (false,m1)
  | some (true,m1)=>match l[k]? with
   | none=>none
   | some q=>if placeI vs q.t.name < 0 then none else match ts[(placeI vs q.t.name).toNat]? with
    | none=>none
    | some t=>r q.cls t m1
def redF (d:DeclsD):Nat→ByteArray→Ty→FM→Option (Bool × FM)
 | 0,_,_,_=>none
 | f+1,c,t,m=>if 1000000 < c.size+t.name.size then none
  else if dVarB t=true then some (true,fmPut m (fkey c t.name) (c,t.name))
  else if instI d.insts c t.name < 0 then some (false,m)
  else match d.insts[(instI d.insts c t.name).toNat]? with
   | none=>none
   | some x=>redK (redF d f) (namedD d t.name).1.vars t.args x.preds m x.preds.length
theorem redK_le {r:ByteArray→Ty→FM→Option (Bool × FM)} {vs:List ByteArray} {ts:List Ty} {l:List PredD} {m:FM}:∀ {n:Nat} {q:Bool × FM},redK r vs ts l m n=some q→∀ k,k≤n→∃ q',redK r vs ts l m k=some q'∧(q'.1=false→q'=q)
 | 0,q,h,k,hk=>⟨q,by rw [show k=0 by omega];exact h,fun _=>rfl⟩
 | n+1,q,h,k,hk=>by
  by_cases e:k=n+1
  ·exact ⟨q,by rw [e];exact h,fun _=>rfl⟩
  ·cases h2:redK r vs ts l m n with
   | none=>simp only [redK,h2] at h;cases h
   | some q2 =>
    obtain ⟨q',h3,h4⟩:=redK_le h2 k (by omega)
    refine ⟨q',h3,fun hf=>?_⟩
    have h5:=h4 hf
    subst h5
    obtain ⟨b,m1⟩:=q'
    simp only at hf
    subst hf
    simp only [redK,h2,Option.some.injEq] at h
    exact h
noncomputable def dropD (d:DeclsD) (S:List VP) (p:VP):Bool:=S.any fun q=>decide (q.2=p.2) && memS p.1 (abv d.classes q.1)
def ltP (a b:VP):Bool:=if a.1=b.1 then ltS a.2 b.2 else ltS a.1 b.1
theorem ltP_irrefl (a:VP):ltP a a=false:=by simp [ltP,ltS_irrefl]
theorem ltP_trans {a b c:VP} (h:ltP a b=true) (k:ltP b c=true):ltP a c=true:=by
 unfold ltP at *
 by_cases h1:a.1=b.1
 ·rw [if_pos h1] at h
  by_cases h2:b.1=c.1
  ·rw [if_pos h2] at k
   rw [if_pos (h1.trans h2)];exact ltS_trans h k
  ·rw [if_neg h2] at k
   rw [h1,if_neg h2];exact k
 ·rw [if_neg h1] at h
  by_cases h2:b.1=c.1
  ·rw [if_pos h2] at k
   rw [←h2,if_neg h1];exact h
  ·rw [if_neg h2] at k
   have h3:=ltS_trans h k
   rw [if_neg (fun e=>by rw [e,ltS_irrefl] at h3;cases h3)];exact h3
theorem ltP_total (a b:VP):ltP a b=true∨a=b∨ltP b a=true:=by
 unfold ltP
 by_cases h1:a.1=b.1
 ·rw [if_pos h1,if_pos h1.symm]
  rcases ltS_total a.2 b.2 with h | h | h
  ·exact .inl h
  ·exact .inr (.inl (Prod.ext h1 h))
  ·exact .inr (.inr h)
 ·rw [if_neg h1,if_neg (fun e=>h1 e.symm)]
  rcases ltS_total a.1 b.1 with h | h | h
  ·exact .inl h
  ·exact absurd h h1
  ·exact .inr (.inr h)
abbrev AscP (l:List VP):Prop:=l.Pairwise fun p q=>ltP p q=true
theorem ascP_unique:∀ {a b:List VP},AscP a→AscP b→a.Perm b→a=b
 | [],b,_,_,h=>by simpa using h.symm.eq_nil
 | p::a,[],_,_,h=>by simpa using h.eq_nil
 | p::a,q::b,ha,hb,h=>by
  have hpq:p=q:=by
   rcases List.mem_cons.1 (h.subset (List.mem_cons_self ..)) with e | h1
   ·exact e
   ·rcases List.mem_cons.1 (h.symm.subset (List.mem_cons_self ..)) with e | h2
    ·exact e.symm
    ·have k1:=List.rel_of_pairwise_cons hb h1
     have k2:=List.rel_of_pairwise_cons ha h2
     have:=ltP_trans k1 k2
     rw [ltP_irrefl] at this;cases this
  subst hpq
  rw [ascP_unique ha.of_cons hb.of_cons (List.Perm.cons_inv h)]
def insP (p:VP):List VP→List VP
 | []=>[p]
 | q::l=>if ltP p q then p::q::l else q::insP p l
def sortP (l:List VP):List VP:=l.foldr insP []
theorem insP_perm (p:VP):∀ l:List VP,(insP p l).Perm (p::l)
 | []=>.refl _
 | q::l=>by
  simp only [insP]
  split
  ·exact .refl _
  ·exact ((insP_perm p l).cons q).trans (.swap p q l)
theorem sortP_perm:∀ l:List VP,(sortP l).Perm l
 | []=>.refl _
 | p::l=>(insP_perm p _).trans ((sortP_perm l).cons p)
theorem insP_asc {p:VP}:∀ {l:List VP},AscP l→(∀ q∈l,p≠q)→AscP (insP p l)
 | [],_,_=>by simp [insP]
 | q::l,h,hn=>by
  simp only [insP]
  split
  ·rename_i hlt
   refine List.Pairwise.cons (fun x hx=>?_) h
   rcases List.mem_cons.1 hx with rfl | hx
   ·exact hlt
   ·exact ltP_trans hlt (List.rel_of_pairwise_cons h hx)
  ·rename_i hlt
   refine List.Pairwise.cons (fun x hx=>?_) (insP_asc h.of_cons fun x hx=>hn x (by simp [hx]))
   rcases List.mem_cons.1 ((insP_perm p l).subset hx) with rfl | hx
   ·rcases ltP_total x q with h1 | h1 | h1
    ·exact absurd h1 hlt
    ·exact absurd h1 (hn q (by simp))
    ·exact h1
   ·exact List.rel_of_pairwise_cons h hx
theorem sortP_asc:∀ {l:List VP},l.Nodup→AscP (sortP l)
 | [],_=>.nil
 | p::l,h=>by
  simp only [List.nodup_cons] at h
  refine insP_asc (sortP_asc h.2) fun q hq e=>h.1 ?_
  rw [e];exact (sortP_perm l).subset hq
theorem sortP_eq {l a:List VP} (hn:l.Nodup) (hp:a.Perm l) (ha:AscP a):a=sortP l:=ascP_unique ha (sortP_asc hn) (hp.trans (sortP_perm l).symm)
theorem sortP_same {a b:List VP} (hn:b.Nodup) (hp:a.Perm b):sortP a=sortP b:=sortP_eq hn ((sortP_perm a).trans hp) (sortP_asc (hp.nodup_iff.2 hn))
def vpP (p:VP):PredD:=⟨p.1,.mk p.2 []⟩
noncomputable def leastP (d:DeclsD) (S:List VP):List VP:=sortP (S.filter fun p=>!dropD d S p)
def pickP (m:List VP) (seen:List Nat):List VP:=seen.filterMap fun j=>m[j]?
theorem pickP_app {m:List VP} {seen:List Nat} {j:Nat} {p:VP} (h:m[j]?=some p):pickP m (seen++[j])=pickP m seen++[p]:=by
 simp [pickP,h]
theorem pickP_range (m:List VP):pickP m (List.range m.length)=m:=by
 have key:∀ (n:Nat),pickP m (List.range n)=m.take n:=by
  intro n
  induction n with
  | zero=>rfl
  | succ n ih =>
   rw [List.range_succ,List.take_add_one,←ih]
   cases h:m[n]? with
   | none=>simp [pickP,h]
   | some p=>rw [pickP_app h];rfl
 rw [key,List.take_length]
theorem pickP_len (m:List VP):∀ (seen:List Nat),(pickP m seen).length≤seen.length
 | []=>Nat.le_refl _
 | j::s=>by
  have:=pickP_len m s
  unfold pickP at this ⊢
  rw [List.filterMap_cons]
  split <;> simp <;> omega
theorem pickP_all {m:List VP} {met:List Nat} (h:met.Perm (List.range m.length)):(pickP m met).Perm m:=by
 have:=h.filterMap (fun j=>m[j]?)
 have h2:=pickP_range m
 unfold pickP at h2 ⊢
 rwa [h2] at this
set_option maxRecDepth 20000
attribute [local simp] aOps wantedA aStep aop aLoad aStore aBin aUn aFieldAddr aField aIndexAddr aIndex aLen aBuild aFill aAlloc aAppend aAppendOwn aMin aMax aBuildSlice litRows newRows isMut isOwn isNilS nilsW bytesR tokW tokAV tokL ret readC splice aeval isLit isLate isCut aCut AV.celled AV.one AV.ofValue Value.oneCell' Value.cells intOp strOp get_nid upd_nid awp aEnd aResults aResult Det unord isCall isNext
attribute [local simp] low_take low_strs low_comp low_tcomp wkEs_refl' WkBs WkEnv WkB WkL WkE WkO ABlock.low lowO lowL lowR AV.low cellsL_eq Ty.low low_map Ty.cells_length Ty.cells_one
attribute [local simp] ConD.cells Dat.cells PredD.cells SigD.cells ClsD.cells InstD.cells DeclsD.cells DeclsD.enc Dat.enc low_datL low_conL low_predL low_sigL low_clsL low_instL
def fH (H:AHeap) (mi:Nat) (m:FM):AHeap:=H.upd mi (.amap (fmEs m) m.length)
@[simp] theorem fH_next (H:AHeap) (mi:Nat) (m:FM):(fH H mi m).next=H.next:=Eq.trans rfl rfl
theorem fH_self {H:AHeap} {mi:Nat} {m:FM} (h:H.get mi=some (.amap (fmEs m) m.length)):fH H mi m=H:=by
 refine AHeap.ext (fun i=>?_) rfl
 show (if i=mi then some _ else H.get i)=H.get i
 by_cases e:i=mi
 ·rw [if_pos e,e,h]
 ·rw [if_neg e]
@[simp] theorem fH_fH (H:AHeap) (mi:Nat) (m m':FM):fH (fH H mi m) mi m'=fH H mi m':=upd_upd
@[simp] theorem fH_get (H:AHeap) (mi:Nat) (m:FM):(fH H mi m).get mi=some (.amap (fmEs m) m.length):=get_upd_self
theorem fH_HL {H:AHeap} {mi:Nat} (m:FM) (bs:List ABlock) (h:mi < H.next):fH (HL H bs) mi m=HL (fH H mi m) bs:=upd_lt h
theorem fH_closed {H:AHeap} {mi:Nat} (m:FM) (hcl:H.Closed) (h:mi < H.next):(fH H mi m).Closed:=closed_upd hcl h (low_fm _ _)
structure RedD (d:DeclsD):Prop where
 ds:d.datas.length < 1000000000000
 is:d.insts.length < 1000000000000
 vars:∀ n,(namedD d n).1.vars.length < 4611686018427387904
 preds:∀ x∈d.insts,x.preds.length < 4611686018427387904
set_option maxHeartbeats 2000000 in
theorem dReduce_c (d:DeclsD) (hd:RedD d) (mi:Nat):∀ (f:Nat) (c:ByteArray) (t:Ty) (m:FM) (r:Bool × FM),redF d f c t m=some r→∀ H:AHeap,H.get mi=some (.amap (fmEs m) m.length) →
  ACalls Tryz.prog 12 [d.enc,.agg [strV c,strV t.name,.slice (t.args.map Ty.cells) none],.map mi] H (boolV r.1) (fH H mi r.2):=by
 intro f
 induction f with
 | zero=>intro c t m r h;cases h
 | succ f ih =>
 intro c t m r hr H h2
 have hvc:=dIsVar_c t
 have hin:=inst_c d hd.is c t.name
 have hnm:=named_c d hd.ds t.name
 have hnv:=hd.vars t.name
 have hps:=hd.preds
 rw [redF] at hr
 by_cases hsz:1000000 < c.size+t.name.size
 ·rw [if_pos hsz] at hr;cases hr
 rw [if_neg hsz] at hr
 generalize namedD d t.name=nd at *
 generalize instI d.insts c t.name=ii at *
 generalize hb:dVarB t=vb at *
 obtain ⟨⟨dn,dv,dc⟩,db⟩:=nd
 obtain ⟨tn,tl⟩:=t
 clear hb
 simp only [Ty.name,Ty.args] at hr hin hnm hsz hnv ⊢
 simp only [enc_mk] at hvc
 generalize hins:d.insts=is at *
 refine acalls_walk (fun _=>.imm) [0,1,2,3,4,6,7,8,11,12,15,39,53,54,55,56,77] Tryz.mixed Tryz.func12 rfl rfl rfl (by decide) (fun hcl hlow=>?_)
 have hml:mi < H.next:=(hcl _ _ h2).1
 have hclm:=fun m'=>fH_closed m' hcl hml
 have gm0:∀ bs,(HL H bs).get mi=some (.amap (fmEs m) m.length):=fun bs=>by rw [get_lt hml];exact h2
 have gm:∀ m' bs,(HL (fH H mi m') bs).get mi=some (.amap (fmEs m') m'.length):=fun m' bs=>by rw [get_lt (by exact hml)];exact fH_get _ _ _
 have um0:∀ m' bs,(HL H bs).upd mi (.amap (fmEs m') m'.length)=HL (fH H mi m') bs:=fun m' bs=>upd_lt hml
 have hrec:∀ (c:ByteArray) (t:Ty) (m m':FM) (b:Bool) (bs:List ABlock),redF d f c t m=some (b,m')→ACalls Tryz.prog 12 [.agg [.slice (d.datas.map Dat.cells) none,.slice (d.classes.map ClsD.cells) none,.slice (is.map InstD.cells) none],.agg [strV c,strV t.name,.slice (t.args.map Ty.cells) none],.map mi] (HL (fH H mi m) bs) (boolV b) (HL (fH H mi m') bs):=fun c t m m' b bs h=>by
  have:=ih c t m _ h (HL (fH H mi m) bs) (gm _ _)
  rw [fH_HL _ _ (by exact hml),fH_fH] at this
  rw [←hins]
  exact this
 clear ih
 simp only [DeclsD.enc,DeclsD.cells,hins] at *
 repeat with_reducible refine awp_assoc ?_
 refine awp_sr fun K hK=>?_
 simp
 refine hK _ _ ?_
 clear hK K
 repeat with_reducible refine awp_assoc ?_
 refine awp_sr fun K hK=>?_
 refine aOps_split 2 fun K hK=>?_
 simp
 refine hK _ _ ?_
 clear hK K
 refine aOps_call (hvc _) (by first | rfl | simp) rfl rfl (by first | (simp;done) | rfl) ?_
 simp
 refine hK _ _ ?_
 clear hK K
 cases vb
 rotate_left
 ·rw [if_pos rfl] at hr
  simp only [Option.some.injEq] at hr
  subst hr
  have hv1:=aVer_fm m (fkey c tn) (c,tn)
  have hp1:aPut (fmEs m) (.string (c++⟨#[32]⟩++tn)) (.agg [strV c,strV tn,.v (.slice none 0 0)])=fmEs (fmPut m (fkey c tn) (c,tn)):=aPut_fm m (fkey c tn) (c,tn)
  have hv2:aVer (fmEs m) (.string (c++⟨#[32]⟩++tn)) m.length true=(fmPut m (fkey c tn) (c,tn)).length:=hv1
  repeat with_reducible refine awp_assoc ?_
  refine awp_seq_k fun K hK=>?_
  refine awp_condT rfl (by simp) ?_
  repeat with_reducible refine awp_assoc ?_
  refine awp_sr fun K hK=>?_
  refine aOps_split 4 fun K hK=>?_
  simp
  simp only [show (⟨#[32]⟩:ByteArray).size=1 from rfl]
  refine ⟨by omega,hK _ _ ?_⟩
  clear hK K
  refine aOps_split 4 fun K hK=>?_
  simp
  simp only [show (⟨#[32]⟩:ByteArray).size=1 from rfl]
  refine ⟨by omega,hK _ _ ?_⟩
  clear hK K
  refine aOps_split 6 fun K hK=>?_
  simp
  refine hK _ _ ?_
  clear hK K
  simp [aMapUpdate,gm0,keys_fm,keyOk,hp1,hv2,um0]
  refine hK _ _ ?_
  clear hK K
  repeat with_reducible refine awp_assoc ?_
  refine awp_sr fun K hK=>?_
  simp
  refine hK _ _ ?_
  clear hK K
  simp [reset_all (hclm _)]
 rw [if_neg (by decide)] at hr
 repeat with_reducible refine awp_assoc ?_
 refine awp_seq_k fun K hK=>?_
 refine awp_condF rfl (by simp) ?_
 refine awp_skip ?_
 refine hK _ _ ?_
 clear hK K
 by_cases hii:ii < 0
 ·rw [if_pos hii] at hr
  simp only [Option.some.injEq] at hr
  subst hr
  rw [fH_self h2]
  repeat with_reducible refine awp_assoc ?_
  refine awp_sr fun K hK=>?_
  refine aOps_split 6 fun K hK=>?_
  simp
  refine hK _ _ ?_
  clear hK K
  refine aOps_call (hin _) (by first | rfl | simp) rfl rfl (by first | (simp;done) | rfl) ?_
  simp
  refine hK _ _ ?_
  clear hK K
  repeat with_reducible refine awp_assoc ?_
  refine awp_sr fun K hK=>?_
  simp [hii]
  refine hK _ _ ?_
  clear hK K
  repeat with_reducible refine awp_assoc ?_
  refine awp_seq_k fun K hK=>?_
  refine awp_condT rfl (by simp [hii]) ?_
  repeat with_reducible refine awp_assoc ?_
  refine awp_sr fun K hK=>?_
  simp
  refine hK _ _ ?_
  clear hK K
  simp [reset_all hcl]
 rw [if_neg hii] at hr
 cases hx:is[ii.toNat]? with
 | none=>rw [hx] at hr;cases hr
 | some x =>
 rw [hx] at hr
 simp only at hr
 have hxp:=hps x (List.mem_of_getElem? hx)
 have hij:ii=(ii.toNat:Int):=by omega
 generalize ii.toNat=j at *
 subst hij
 have hpre:=fun k hk=>redK_le hr k hk
 have hstep:∀ k,redK (redF d f) dv tl x.preds m (k+1)=match redK (redF d f) dv tl x.preds m k with
  | none=>none
  | some (false,m1)=>some (false,m1)
  | some (true,m1)=>match x.preds[k]? with
   | none=>none
   | some q=>if placeI dv q.t.name < 0 then none else match tl[(placeI dv q.t.name).toNat]? with
    | none=>none
    | some t=>redF d f q.cls t m1:=fun k=>by first | (rw [redK];done) | (rw [redK];rfl)
 have h00:redK (redF d f) dv tl x.preds m 0=some (true,m):=by rw [redK]
 generalize hrk:redK (redF d f) dv tl x.preds m=rk at hr hpre hstep h00
 clear hrk
 obtain ⟨st,hst⟩:∃ st:Nat→FM,∀ k,st k=((rk k).getD (true,[])).2:=⟨_,fun _=>rfl⟩
 have hst0:st 0=m:=by rw [hst,h00];rfl
 obtain ⟨xc,xd,xp,xra,xrl,xrc⟩:=x
 simp only at hxp hr hpre hstep
 repeat with_reducible refine awp_assoc ?_
 refine awp_sr fun K hK=>?_
 refine aOps_split 6 fun K hK=>?_
 simp
 refine hK _ _ ?_
 clear hK K
 refine aOps_call (hin _) (by first | rfl | simp) rfl rfl (by first | (simp;done) | rfl) ?_
 simp
 refine hK _ _ ?_
 clear hK K
 have hjn:¬ ((j:Int) < 0):=by omega
 repeat with_reducible refine awp_assoc ?_
 refine awp_sr fun K hK=>?_
 simp [hjn]
 refine hK _ _ ?_
 clear hK K
 repeat with_reducible refine awp_assoc ?_
 refine awp_seq_k fun K hK=>?_
 refine awp_condF rfl (by simp [hjn]) ?_
 refine awp_skip ?_
 refine hK _ _ ?_
 clear hK K
 repeat with_reducible refine awp_assoc ?_
 refine awp_sr fun K hK=>?_
 refine aOps_split 4 fun K hK=>?_
 simp
 refine hK _ _ ?_
 clear hK K
 refine aOps_call (hnm _) (by first | rfl | simp) rfl rfl (by first | (simp;done) | rfl) ?_
 simp
 refine hK _ _ ?_
 clear hK K
 repeat with_reducible refine awp_assoc ?_
 refine awp_sr fun K hK=>?_
 simp [hx]
 refine hK _ _ ?_
 clear hK K
 refine awp_seq_k fun KO hKO=>?_
 refine awp_block ?_
 refine awp_up xp.length (fun k=>Env.ofL [(2,.map mi),(3,.ref (nid H.next 0) 0),(4,.ref (nid H.next 1) 0),(8,.ref (nid H.next 2) 0),(53,.slice (xp.map PredD.cells) none),(54,intV (xp.length:Int)),(55,intV k)]) (fun k=>HL (fH H mi (st k)) [.cells [.slice (d.datas.map Dat.cells) none,.slice (d.classes.map ClsD.cells) none,.slice (is.map InstD.cells) none],.cells [strV c,strV tn,.slice (tl.map Ty.cells) none],.cells [strV dn,strs dv none,.slice (dc.map ConD.cells) none]]) (fun k=>rk k=some (true,st k)) ?_ (by rw [h00,hst0]) (fun k hk hvk=>?_) (fun hvk=>?_)
 ·rw [hst0,fH_self h2]
  exact weak_HL hcl rfl (by simp [low_map,low_strs,strs]) (by simp [lt_nid hml,low_map,low_strs,strs])
 ·obtain ⟨q,hq⟩:∃ q,xp[k]?=some q:=⟨_,List.getElem?_eq_getElem hk⟩
  obtain ⟨r1,hr1,hr1f⟩:=hpre (k+1) (by omega)
  have hs1:=hst (k+1)
  rw [hr1] at hs1
  simp only [Option.getD_some] at hs1
  have hr2:=hr1
  rw [hstep,hvk,hq] at hr2
  simp only at hr2
  have hix:=index_c dv q.t.name hnv
  by_cases hpl:placeI dv q.t.name < 0
  ·rw [if_pos hpl] at hr2;cases hr2
  rw [if_neg hpl] at hr2
  have hpi:placeI dv q.t.name=((placeI dv q.t.name).toNat:Int):=by omega
  generalize (placeI dv q.t.name).toNat=at_ at *
  rw [hpi] at hix
  clear hpi hpl
  cases ha:tl[at_]? with
  | none=>rw [ha] at hr2;cases hr2
  | some a =>
  rw [ha] at hr2
  simp only at hr2
  obtain ⟨b1,m1⟩:=r1
  have hc:=fun bs=>hrec q.cls a (st k) m1 b1 bs hr2
  simp only at hs1 hr1f
  obtain ⟨an,al⟩:=a
  obtain ⟨qc,qt⟩:=q
  obtain ⟨qn,ql⟩:=qt
  simp only [Ty.name,Ty.args] at hc hix
  repeat with_reducible refine awp_assoc ?_
  refine awp_sr fun K hK=>?_
  simp [hk]
  refine hK _ _ ?_
  clear hK K
  repeat with_reducible refine awp_assoc ?_
  refine awp_seq_k fun K hK=>?_
  refine awp_condT rfl (by simp) ?_
  refine awp_skip ?_
  refine hK _ _ ?_
  clear hK K
  refine awp_seq_k fun KB hKB=>?_
  refine awp_block ?_
  repeat with_reducible refine awp_assoc ?_
  refine awp_sr fun K hK=>?_
  simp [hq,Ty.name,Ty.args]
  refine hK _ _ ?_
  clear hK K
  repeat with_reducible refine awp_assoc ?_
  refine awp_sr fun K hK=>?_
  refine aOps_split 5 fun K hK=>?_
  simp [strs]
  refine hK _ _ ?_
  clear hK K
  refine aOps_call (hix _) (by first | rfl | simp) rfl rfl (by first | (simp;done) | rfl) ?_
  simp [strs]
  refine hK _ _ ?_
  clear hK K
  repeat with_reducible refine awp_assoc ?_
  refine awp_sd [11] [[],[0],[0],[0,1,2],[0,1,2],[0,1,2],[0,1,2,3,4,5],[0,1,2],[0,1,2,3],[0,3,4],[0,1,2,3,4,5,6,7,8,9],[3,4,5,6],[1,3,4,5,6,7]] (by kernel_rfl) fun K hK=>?_
  refine aLex_read rfl rfl rfl rfl fun K hK=>?_
  simp
  refine hK _ _ _ ?_
  clear hK K
  refine aLex_read rfl rfl rfl rfl fun K hK=>?_
  simp
  refine hK _ _ _ ?_
  clear hK K
  refine aLex_read rfl rfl rfl rfl fun K hK=>?_
  simp
  refine hK _ _ _ ?_
  clear hK K
  refine aLex_read rfl rfl rfl rfl fun K hK=>?_
  simp
  refine hK _ _ _ ?_
  clear hK K
  refine aLex_read rfl rfl rfl rfl fun K hK=>?_
  simp
  refine hK _ _ _ ?_
  clear hK K
  refine aLex_read rfl rfl rfl rfl fun K hK=>?_
  simp
  refine hK _ _ _ ?_
  clear hK K
  refine aLex_read rfl rfl rfl rfl fun K hK=>?_
  simp
  refine hK _ _ _ ?_
  clear hK K
  refine aLex_read rfl rfl rfl rfl fun K hK=>?_
  simp [ha,Ty.cells]
  refine hK _ _ _ ?_
  clear hK K
  refine aLex_read rfl rfl rfl rfl fun K hK=>?_
  simp
  refine hK _ _ _ ?_
  clear hK K
  refine aLex_read rfl rfl rfl rfl fun K hK=>?_
  simp
  refine hK _ _ _ ?_
  clear hK K
  refine aLex_read rfl rfl rfl rfl fun K hK=>?_
  simp
  refine hK _ _ _ ?_
  clear hK K
  refine aLex_calleA (hc _) rfl rfl rfl rfl rfl (by simp) ?_
  refine aLex_read rfl rfl rfl rfl fun K hK=>?_
  simp
  refine hK _ _ _ ?_
  clear hK K
  refine aLex_end ?_
  simp
  refine hK _ _ ?_
  clear hK K
  cases b1
  ·refine awp_condT rfl (by simp) ?_
   repeat with_reducible refine awp_assoc ?_
   refine awp_sr fun K hK=>?_
   simp
   refine hK _ _ ?_
   clear hK K
   rw [←hr1f rfl]
   simp [reset_all (hclm _)]
  ·refine awp_condF rfl (by simp) ?_
   refine awp_skip ?_
   refine hKB _ _ ?_
   clear hKB
   refine awp_region ?_
   simp [wrap_succ (show k < 4611686018427387904 by omega)]
   rw [hs1]
   exact ⟨hr1,weak_HL (hclm _) rfl (by simp [low_map,low_strs,strs]) (by simp [lt_nid hml,low_map,low_strs,strs])⟩
 ·rw [hr] at hvk
  simp only [Option.some.injEq] at hvk
  subst hvk
  repeat with_reducible refine awp_assoc ?_
  refine awp_sr fun K hK=>?_
  simp
  refine hK _ _ ?_
  clear hK K
  repeat with_reducible refine awp_assoc ?_
  refine awp_seq_k fun K hK=>?_
  refine awp_condF rfl (by simp) ?_
  refine awp_exit ?_
  simp
  refine hKO _ _ ?_
  repeat with_reducible refine awp_assoc ?_
  refine awp_sr fun K hK=>?_
  simp
  refine hK _ _ ?_
  clear hK K
  simp [reset_all (hclm _)]
theorem low_vpL (n:Nat) (l:List VP):lowR n (l.map vpC):=lowR_map fun _ _=>⟨trivial,trivial,trivial,trivial⟩
theorem wkR_vp (l:List VP):WkR (l.map vpC) (l.map vpC):=WkR.refl _
theorem wk_vp:∀ l:List VP,WkR (l.map vpC) (l.map fun p=>(vpP p).cells)
 | []=>trivial
 | _::l=>⟨⟨.refl _,.refl _,Wk.nilSlice,trivial⟩,wk_vp l⟩
theorem wkR_nil:WkR ([]:List (List AV)) []:=trivial
attribute [local simp] low_vpL wkR_vp wkR_nil
def SortOk:Prop:=∀ (l:List VP),l.Nodup→l.length < 1000000000000→∀ (H:AHeap) (i:Nat),H.get i=some (.tok l.length 3 (some (l.map vpC))) →
 ACalls Tryz.prog 44 [.vec i l.length,.fn 45 []] H (.tuple []) (H.upd i (.tok l.length 3 (some ((sortP l).map vpC))))
def lB (d:DeclsD) (mi v:Nat) (out:List VP) (left:List Nat) (cur:Option Nat):List ABlock:=[.cells [.slice (d.datas.map Dat.cells) none,.slice (d.classes.map ClsD.cells) none,.slice (d.insts.map InstD.cells) none],.tok out.length 3 (some (out.map vpC)),.iter mi v left cur]
noncomputable def keepL (d:DeclsD) (S l:List VP):List VP:=l.filter fun p=>!dropD d S p
theorem keepL_app (d:DeclsD) (S l:List VP) (p:VP):keepL d S (l++[p])=if dropD d S p=true then keepL d S l else keepL d S l++[p]:=by
 unfold keepL
 rw [List.filter_append]
 cases h:dropD d S p <;> simp [h]
theorem dropD_perm {d:DeclsD} {S S':List VP} (h:S.Perm S') (p:VP):dropD d S p=dropD d S' p:=by
 unfold dropD
 rw [Bool.eq_iff_iff,List.any_eq_true,List.any_eq_true]
 constructor
 ·rintro ⟨q,h1,h2⟩;exact ⟨q,h.subset h1,h2⟩
 ·rintro ⟨q,h1,h2⟩;exact ⟨q,h.symm.subset h1,h2⟩
theorem dropD_app (d:DeclsD) (S:List VP) (q p:VP):dropD d (S++[q]) p=(dropD d S p || (decide (q.2=p.2) && memS p.1 (abv d.classes q.1))):=by
 unfold dropD;simp
set_option maxHeartbeats 4000000 in
theorem dLeast_c (d:DeclsD) (hcls:ClsOk d) (hsort:SortOk) (m:FM) (hm:m.length < 1000000000) (hnd:(m.map (·.2)).Nodup) (mi:Nat) (H:AHeap) (hH:H.get mi=some (.amap (fmEs m) m.length)) :
  ACalls Tryz.prog 13 [d.enc,.map mi] H (.slice ((leastP d (m.map (·.2))).map fun p=>(vpP p).cells) none) H:=by
 have hab:=fun n=>above2_c d hcls n
 have hcn:=fun (n x:ByteArray)=>contains_c (sortS (abv d.classes n)) x (by
  obtain ⟨⟨f,hf⟩,hl⟩:=hcls.ab n
  have:=(sortS_perm (abv d.classes n)).length_eq
  omega)
 have hms:=fun (n x:ByteArray)=>memS_sort x (abv d.classes n)
 obtain ⟨S,hS⟩:∃ S,S=m.map (·.2):=⟨_,rfl⟩
 have hSl:S.length=m.length:=by rw [hS];simp
 have hel:(fmEs m).length=m.length:=by simp [fmEs]
 have hent:∀ (j:Nat) (s:Value) (tv:AV),(fmEs m)[j]?=some (s,tv)→∃ p,S[j]?=some p∧tv=.agg (vpC p):=fun j s tv h=>by
  rw [hS]
  simp only [fmEs,List.getElem?_map,Option.map_eq_some_iff] at h ⊢
  obtain ⟨e,h1,h2⟩:=h
  simp only [Prod.mk.injEq] at h2
  exact ⟨e.2,⟨e,h1,rfl⟩,h2.2.symm⟩
 rw [←hS] at hnd ⊢
 clear hS
 simp only [DeclsD.enc,DeclsD.cells] at *
 refine acalls_walk (fun t=>if t=5 then .nilm 3 else if t=46 then .lit else if t=50 then .frz else .imm) [0,1,2,4,5,7,8,10,12,14,18,20,43] Tryz.mixed Tryz.func13 rfl rfl rfl (by decide) (fun hcl hlow=>?_)
 have hml:mi < H.next:=(hcl _ _ hH).1
 have gm:∀ bs,(HL H bs).get mi=some (.amap (fmEs m) m.length):=fun bs=>by rw [get_lt hml];exact hH
 repeat with_reducible refine awp_assoc ?_
 refine awp_sr fun K hK=>?_
 simp
 refine hK _ _ ?_
 clear hK K
 repeat with_reducible refine awp_assoc ?_
 refine awp_sr fun K hK=>?_
 simp
 refine hK _ _ ?_
 clear hK K
 repeat with_reducible refine awp_assoc ?_
 refine awp_sr fun K hK=>?_
 simp [gm,hel]
 refine hK _ _ ?_
 clear hK K
 have hL0:∀ a b c,HL H [a,b,c]=HL H ([a,b]++[c]):=fun _ _ _=>rfl
 refine awp_seq_k fun KO hKO=>?_
 refine awp_block ?_
 refine awp_loop (fun n env H'=>∃ (met left:List Nat) (cur:Option Nat),(met++left).Perm (List.range m.length)∧n=left.length ∧
   env=Env.ofL [(1,.map mi),(2,.ref (nid H.next 0) 0),(5,.vec (nid H.next 1) (keepL d S (pickP S met)).length),(12,.ref (nid H.next 2) 0)]∧H'=HL H (lB d mi m.length (keepL d S (pickP S met)) left cur)) m.length
  (weak_HL hcl rfl (by simp [lB,pickP,keepL,lt_nid hml]) (by simp [lB,pickP,keepL,lt_nid hml])) ⟨[],List.range m.length,none,by simp,by simp,rfl,rfl⟩ ?_
 rintro n env H' ⟨met,left,cur,hp,rfl,rfl,rfl⟩
 have hpl:=pickP_len S met
 have hol:(keepL d S (pickP S met)).length≤met.length:=Nat.le_trans (List.length_filter_le _ _) hpl
 have hml2:met.length≤m.length:=by have:=hp.length_eq;simp at this;omega
 generalize hout:keepL d S (pickP S met)=out at hol ⊢
 repeat with_reducible refine awp_assoc ?_
 refine awp_sr fun K hK=>?_
 simp [aNext,lB,gm]
 refine ⟨fun hl0=>?_,fun j hj s tv he=>?_⟩
 ·refine hK _ _ ?_
  clear hK K
  repeat with_reducible refine awp_assoc ?_
  refine awp_seq_k fun K hK=>?_
  refine awp_condF rfl (by simp) ?_
  refine awp_exit ?_
  simp
  refine hKO _ _ ?_
  clear hK K
  subst hl0
  have hperm:(pickP S met).Perm S:=pickP_all (by rw [hSl];simpa using hp)
  have hop:out.Perm (keepL d S S):=by rw [←hout];exact hperm.filter _
  have hkn:(keepL d S S).Nodup:=hnd.filter _
  have hs:=hsort out (hop.nodup_iff.2 hkn) (by omega) (HL H (lB d mi m.length out [] cur)) (nid H.next 1) (by simp [lB])
  have hse:sortP out=leastP d S:=sortP_same hkn hop
  have hsl:(sortP out).length=out.length:=(sortP_perm out).length_eq
  rw [hse] at hs hsl
  simp only [lB] at hs
  repeat with_reducible refine awp_assoc ?_
  refine awp_sr fun K hK=>?_
  refine aOps_split 1 fun K hK=>?_
  simp
  refine hK _ _ ?_
  clear hK K
  refine aOps_call (hs) (by first | rfl | simp) rfl rfl (by first | (simp;done) | rfl) ?_
  simp
  refine hK _ _ ?_
  clear hK K
  refine awp_sr fun K hK=>?_
  simp [hsl]
  refine ⟨fun r a b _ h=>by subst h;simp [vpC],hK _ _ ?_⟩
  clear hK K
  simp [reset_all hcl]
  exact ⟨Wk.slice (wk_vp _),lowR_map fun p _=>low_predC _ (vpP p)⟩
 obtain ⟨p,hp2,rfl⟩:=hent j s tv he
 have hnl:left.Nodup:=(List.nodup_append.1 (hp.symm.nodup List.nodup_range)).2.1
 have hlt:(left.filter (· != j)).length < left.length:=by
  rw [←hnl.erase_eq_filter,List.length_erase_of_mem hj]
  have:=List.length_pos_of_mem hj;omega
 have hperm2:(met++[j]++left.filter (· != j)).Perm (List.range m.length):=by
  rw [←hnl.erase_eq_filter]
  refine List.Perm.trans ?_ hp
  rw [List.append_assoc]
  exact List.Perm.append_left met (List.perm_cons_erase hj).symm
 have e1:keepL d S (pickP S (met++[j]))=if dropD d S p=true then out else out++[p]:=by rw [pickP_app hp2,keepL_app,hout]
 have hfin:∀ (out':List VP) (env:Env) (T:List ABlock),out'=keepL d S (pickP S (met++[j]))→env 1=.map mi→env 2=.ref (nid H.next 0) 0→env 5=.vec (nid H.next 1) out'.length→env 12=.ref (nid H.next 2) 0 →
   ∃ m' env' H',Weak H.next env (HL H (lB d mi m.length out' (left.filter (· != j)) (some j)++T)) env' H'∧m' < left.length∧∃ (met left:List Nat),(met++left).Perm (List.range m.length)∧m'=left.length ∧
   env'=Env.ofL [(1,.map mi),(2,.ref (nid H.next 0) 0),(5,.vec (nid H.next 1) (keepL d S (pickP S met)).length),(12,.ref (nid H.next 2) 0)]∧∃ cur:Option Nat,H'=HL H (lB d mi m.length (keepL d S (pickP S met)) left cur):=by
  intro out' env T ho a1 a2 a3 a4
  subst ho
  refine ⟨_,_,_,weak_HL hcl rfl ?_ ?_,hlt,met++[j],left.filter (· != j),hperm2,rfl,rfl,some j,rfl⟩
  ·simp [lB,lt_nid hml]
  ·simp [a1,a2,a3,a4,lB,lt_nid hml]
 clear hp hj hnl
 generalize left.filter (· != j)=left' at *
 refine hK _ _ ?_
 clear hK K
 repeat with_reducible refine awp_assoc ?_
 refine awp_seq_k fun K hK=>?_
 refine awp_condT rfl (by simp) ?_
 refine awp_skip ?_
 refine hK _ _ ?_
 clear hK K
 refine awp_block ?_
 repeat with_reducible refine awp_assoc ?_
 refine awp_sr fun K hK=>?_
 simp [aEntry,gm,he,vpC]
 refine hK _ _ ?_
 clear hK K
 repeat with_reducible refine awp_assoc ?_
 refine awp_sr fun K hK=>?_
 simp
 refine hK _ _ ?_
 clear hK K
 repeat with_reducible refine awp_assoc ?_
 refine awp_sr fun K hK=>?_
 simp [gm,hel]
 refine hK _ _ ?_
 clear hK K
 refine awp_seq_k fun KI hKI=>?_
 refine awp_block ?_
 refine awp_loop (fun n env H'=>∃ (met2 left2:List Nat) (cur2:Option Nat),(met2++left2).Perm (List.range m.length)∧n=left2.length ∧
   env=Env.ofL [(1,.map mi),(2,.ref (nid H.next 0) 0),(5,.vec (nid H.next 1) out.length),(7,.ref (nid H.next 3) 0),(8,boolV (dropD d (pickP S met2) p)),(12,.ref (nid H.next 2) 0),(18,.ref (nid H.next 4) 0)] ∧
   H'=HL H [.cells [.slice (d.datas.map Dat.cells) none,.slice (d.classes.map ClsD.cells) none,.slice (d.insts.map InstD.cells) none],.tok out.length 3 (some (out.map vpC)),.iter mi m.length left' (some j),.cells [strV p.1,strV p.2,.v (.slice none 0 0)],.iter mi m.length left2 cur2]) m.length
  (weak_HL hcl rfl (by simp [lt_nid hml]) (by simp [lt_nid hml,show dropD d (pickP S []) p=false from rfl])) ⟨[],List.range m.length,none,by simp,by simp,rfl,rfl⟩ ?_
 rintro n env H' ⟨met2,left2,cur2,hq,rfl,rfl,rfl⟩
 repeat with_reducible refine awp_assoc ?_
 refine awp_sr fun K hK=>?_
 simp [aNext,gm]
 refine ⟨fun hl0=>?_,fun j2 hj2 s2 tv2 he2=>?_⟩
 ·refine hK _ _ ?_
  clear hK K
  repeat with_reducible refine awp_assoc ?_
  refine awp_seq_k fun K hK=>?_
  refine awp_condF rfl (by simp) ?_
  refine awp_exit ?_
  simp
  refine hKI _ _ ?_
  clear hK K hKI KI
  subst hl0
  have hdp:dropD d (pickP S met2) p=dropD d S p:=dropD_perm (pickP_all (by rw [hSl];simpa using hq)) p
  rw [hdp]
  repeat with_reducible refine awp_assoc ?_
  refine awp_sr fun K hK=>?_
  simp
  refine hK _ _ ?_
  clear hK K
  cases hd:dropD d S p
  ·rw [hd] at e1
   refine awp_condT rfl (by simp) ?_
   refine awp_region ?_
   simp
   refine ⟨by omega,fun r a b _ h=>by subst h;simp [vpC],?_⟩
   have e3:out.length+1=(out++[p]).length:=by simp
   have e4:out.map vpC++[[strV p.1,strV p.2,.v (.slice none 0 0)]]=(out++[p]).map vpC:=by simp [vpC]
   rw [e3,e4]
   refine hfin (out++[p]) _ [.cells [strV p.1,strV p.2,.v (.slice none 0 0)],.iter mi m.length [] cur2] (by simp [e1]) ?_ ?_ ?_ ?_ <;> rfl
  ·rw [hd] at e1
   refine awp_condF rfl (by simp) ?_
   refine awp_skip ?_
   simp
   refine hfin out _ [.cells [strV p.1,strV p.2,.v (.slice none 0 0)],.iter mi m.length [] cur2] (by simp [e1]) ?_ ?_ ?_ ?_ <;> rfl
 obtain ⟨q,hq2,rfl⟩:=hent j2 s2 tv2 he2
 have hnl:left2.Nodup:=(List.nodup_append.1 (hq.symm.nodup List.nodup_range)).2.1
 have hlt2:(left2.filter (· != j2)).length < left2.length:=by
  rw [←hnl.erase_eq_filter,List.length_erase_of_mem hj2]
  have:=List.length_pos_of_mem hj2;omega
 have hperm3:(met2++[j2]++left2.filter (· != j2)).Perm (List.range m.length):=by
  rw [←hnl.erase_eq_filter]
  refine List.Perm.trans ?_ hq
  rw [List.append_assoc]
  exact List.Perm.append_left met2 (List.perm_cons_erase hj2).symm
 have e2:dropD d (pickP S (met2++[j2])) p=(dropD d (pickP S met2) p || (decide (q.2=p.2) && memS p.1 (abv d.classes q.1))):=by rw [pickP_app hq2,dropD_app]
 generalize left2.filter (· != j2)=left3 at *
 refine hK _ _ ?_
 clear hK K
 repeat with_reducible refine awp_assoc ?_
 refine awp_seq_k fun K hK=>?_
 refine awp_condT rfl (by simp) ?_
 refine awp_skip ?_
 refine hK _ _ ?_
 clear hK K
 refine awp_block ?_
 repeat with_reducible refine awp_assoc ?_
 refine awp_sr fun K hK=>?_
 simp [aEntry,gm,he2,vpC]
 refine hK _ _ ?_
 clear hK K
 have hin:∀ (b:Bool) (env:Env),b=dropD d (pickP S (met2++[j2])) p→env 1=.map mi→env 2=.ref (nid H.next 0) 0→env 5=.vec (nid H.next 1) out.length→env 7=.ref (nid H.next 3) 0→env 8=boolV b→env 12=.ref (nid H.next 2) 0→env 18=.ref (nid H.next 4) 0 →
   ∃ m' env' H',Weak H.next env (HL H [.cells [.slice (d.datas.map Dat.cells) none,.slice (d.classes.map ClsD.cells) none,.slice (d.insts.map InstD.cells) none],.tok out.length 3 (some (out.map vpC)),.iter mi m.length left' (some j),.cells [strV p.1,strV p.2,.v (.slice none 0 0)],.iter mi m.length left3 (some j2),.cells [strV q.1,strV q.2,.v (.slice none 0 0)]]) env' H'∧m' < left2.length∧∃ (met2 left2:List Nat),(met2++left2).Perm (List.range m.length)∧m'=left2.length ∧
   env'=Env.ofL [(1,.map mi),(2,.ref (nid H.next 0) 0),(5,.vec (nid H.next 1) out.length),(7,.ref (nid H.next 3) 0),(8,boolV (dropD d (pickP S met2) p)),(12,.ref (nid H.next 2) 0),(18,.ref (nid H.next 4) 0)] ∧
   ∃ cur2:Option Nat,H'=HL H [.cells [.slice (d.datas.map Dat.cells) none,.slice (d.classes.map ClsD.cells) none,.slice (d.insts.map InstD.cells) none],.tok out.length 3 (some (out.map vpC)),.iter mi m.length left' (some j),.cells [strV p.1,strV p.2,.v (.slice none 0 0)],.iter mi m.length left2 cur2]:=by
  intro b env hb a1 a2 a5 a7 a8 a12 a18
  subst hb
  exact ⟨_,_,_,weak_HL hcl rfl (by simp [lt_nid hml]) (by simp [a1,a2,a5,a7,a8,a12,a18,lt_nid hml]),hlt2,met2++[j2],left3,hperm3,rfl,rfl,some j2,rfl⟩
 cases hb:dropD d (pickP S met2) p
 rotate_left
 ·rw [hb] at e2
  refine awp_drawc [] [[],[],[],[],[],[2,3,4],[2,3,4],[2,3,4],[],[2,5],[2,3,5,6],[2,3,5,6,10],[2,3,5,6,10],[2,3,5,6],[2,3,5,6,10,11,12,13],[2,3,5,6,10,11,12,13],[2,3,5,6],[2,3,5,6,11],[2,3,4,5,6,7,10,11,12,14],[]] (by kernel_rfl) (by rfl) ?_
  refine aCalm_pre 8 (by rfl) fun K hK=>?_
  simp
  refine hK _ _ ?_
  clear hK K
  refine aCalm_pre 5 (by rfl) fun K hK=>?_
  simp
  refine hK _ _ ?_
  clear hK K
  refine aCalm_skip (by first | rfl | simp) ?_
  refine aCalm_pre 2 (by rfl) fun K hK=>?_
  simp
  refine hK _ _ ?_
  clear hK K
  refine aCalm_skip (by first | rfl | simp) ?_
  refine aCalm_pre 3 (by rfl) fun K hK=>?_
  simp
  refine hK _ _ ?_
  clear hK K
  refine aCalm_end ?_
  simp
  refine hin true _ (by rw [e2];rfl) ?_ ?_ ?_ ?_ ?_ ?_ ?_ <;> rfl
 rw [hb] at e2
 by_cases hqp:q.2=p.2
 rotate_left
 ·refine awp_drawc [] [[],[],[],[],[],[2,3,4],[2,3,4],[2,3,4],[],[2,5],[2,3,5,6],[2,3,5,6,10],[2,3,5,6,10],[2,3,5,6],[2,3,5,6,10,11,12,13],[2,3,5,6,10,11,12,13],[2,3,5,6],[2,3,5,6,11],[2,3,4,5,6,7,10,11,12,14],[]] (by kernel_rfl) (by rfl) ?_
  refine aCalm_pre 8 (by rfl) fun K hK=>?_
  simp
  refine hK _ _ ?_
  clear hK K
  refine aCalm_pre 5 (by rfl) fun K hK=>?_
  simp [hqp]
  refine hK _ _ ?_
  clear hK K
  refine aCalm_skip (by first | rfl | simp) ?_
  refine aCalm_pre 2 (by rfl) fun K hK=>?_
  simp
  refine hK _ _ ?_
  clear hK K
  refine aCalm_skip (by first | rfl | simp) ?_
  refine aCalm_pre 3 (by rfl) fun K hK=>?_
  simp
  refine hK _ _ ?_
  clear hK K
  refine aCalm_end ?_
  simp
  refine hin false _ (by rw [e2];simp [hqp]) ?_ ?_ ?_ ?_ ?_ ?_ ?_ <;> rfl
 ·have hc1:=hab q.1
  have hc2:=hcn q.1 p.1
  rw [hms] at hc2
  refine awp_drawc [] [[],[],[],[],[],[2,3,4],[2,3,4],[2,3,4],[],[2,5],[2,3,5,6],[2,3,5,6,10],[2,3,5,6,10],[2,3,5,6],[2,3,5,6,10,11,12,13],[2,3,5,6,10,11,12,13],[2,3,5,6],[2,3,5,6,11],[2,3,4,5,6,7,10,11,12,14],[]] (by kernel_rfl) (by rfl) ?_
  refine aCalm_pre 8 (by rfl) fun K hK=>?_
  simp
  refine hK _ _ ?_
  clear hK K
  refine aCalm_pre 5 (by rfl) fun K hK=>?_
  simp [eq_true hqp]
  refine hK _ _ ?_
  clear hK K
  refine aCalm_call0 (hc1 _) (by first | rfl | simp) rfl rfl rfl (by first | (simp;done) | rfl) ?_
  refine aCalm_pre 2 (by rfl) fun K hK=>?_
  simp
  refine hK _ _ ?_
  clear hK K
  refine aCalm_call0 (hc2 _) (by first | rfl | simp) rfl rfl rfl (by first | (simp;done) | rfl) ?_
  refine aCalm_pre 3 (by rfl) fun K hK=>?_
  simp
  refine hK _ _ ?_
  clear hK K
  refine aCalm_end ?_
  simp
  refine hin (memS p.1 (abv d.classes q.1)) _ (by rw [e2];simp [hqp]) ?_ ?_ ?_ ?_ ?_ ?_ ?_ <;> rfl
end Go.Proofs.YtlhoigpidpokfaaGreat
