/- The reference: classes, instances, what is described. -/
import Derived.Test.YtlhoigpidpokfaaGreatME1
set_option linter.unusedVariables false
set_option linter.unusedSimpArgs false
namespace Go.Proofs.YtlhoigpidpokfaaGreat
open Go Go.Abs Go.Proofs
set_option maxRecDepth 20000
attribute [local simp] aOps wantedA aStep aop aLoad aStore aBin aUn aFieldAddr aField aIndexAddr aIndex aLen aBuild aFill aAlloc aAppend aAppendOwn aMin aMax aBuildSlice litRows newRows isMut isOwn isNilS nilsW bytesR tokW tokAV tokL ret readC splice aeval isLit isLate isCut aCut AV.celled AV.one AV.ofValue Value.oneCell' Value.cells intOp strOp get_nid upd_nid awp aEnd aResults aResult Det unord isCall isNext
attribute [local simp] low_take low_strs low_comp low_tcomp wkEs_refl' WkBs WkEnv WkB WkL WkE WkO ABlock.low lowO lowL lowR AV.low cellsL_eq Ty.low low_map Ty.cells_length Ty.cells_one
attribute [local simp] ConD.cells Dat.cells PredD.cells SigD.cells ClsD.cells InstD.cells DeclsD.cells DeclsD.enc Dat.enc low_datL low_conL low_predL low_sigL low_clsL low_instL
theorem findI_some {l:List Dat} {n:ByteArray} (h:¬ findI l n < 0):∃ (i:Nat) (y:Dat),findI l n=i∧l[i]?=some y∧(l.find? fun y=>decide (y.name=n))=some y:=by
 unfold findI at *
 cases hh:l.findIdx? fun x=>decide (x.name=n) with
 | none=>rw [hh] at h;simp [ixI] at h
 | some i =>
  obtain ⟨hl,h1,h2⟩:=List.findIdx?_eq_some_iff_getElem.1 hh
  refine ⟨i,l[i],rfl,List.getElem?_eq_getElem hl,?_⟩
  rw [List.find?_eq_some_iff_getElem]
  exact ⟨h1,i,hl,rfl,fun j hj=>by simpa only [Bool.not_eq_true',Bool.not_eq_true] using h2 j hj⟩
theorem findI_none {l:List Dat} {n:ByteArray} (h:findI l n < 0):(l.find? fun y=>decide (y.name=n))=none:=by
 unfold findI at *
 cases hh:l.findIdx? fun x=>decide (x.name=n) with
 | some i=>rw [hh] at h;simp [ixI] at h;omega
 | none=>rw [List.findIdx?_eq_none_iff] at hh;exact find_none hh
theorem named_find (d:DeclsD) (n:ByteArray):(n=intN∧namedD d n=(⟨intN,[],[]⟩,true))∨(n≠intN∧findI (allD d) n < 0∧namedD d n=(zeroDat,false))∨(n≠intN∧∃ (i:Nat) (y:Dat),findI (allD d) n=i∧(allD d)[i]?=some y∧namedD d n=(y,true)):=by
 by_cases h0:n=intN
 ·exact .inl ⟨h0,by unfold namedD;rw [if_pos h0]⟩
 by_cases h1:findI (allD d) n < 0
 ·exact .inr (.inl ⟨h0,h1,by unfold namedD;rw [if_neg h0,findI_none h1]⟩)
 ·obtain ⟨i,y,h2,h3,h4⟩:=findI_some h1
  exact .inr (.inr ⟨h0,i,y,h2,h3,by unfold namedD;rw [if_neg h0,h4]⟩)
theorem all_bad {α:Type} {p:α→Bool} {l:List α} {k:Nat} {x:α} (h:l[k]?=some x) (hp:p x=false):l.all p=false:=by rw [List.all_eq_false];exact ⟨x,List.mem_of_getElem? h,by simp [hp]⟩
theorem all_next {α:Type} {p:α→Bool} {l:List α} {k:Nat} {x:α} (h:l[k]?=some x) (ha:(l.take k).all p=true) (hp:p x=true):(l.take (k+1)).all p=true:=by rw [all_take h,ha,hp];rfl
theorem rIsClass_c (x:ClsD) (h4:x.supers.length < 4611686018427387904) (h5:x.ops.length < 4611686018427387904) (H:AHeap):ACalls Tryz.prog 83 [.agg x.cells] H (boolV (isClsB x)) H:=by
 have e0:isClsB x=(greatN x.name && x.supers.all greatN && x.ops.all sigB):=rfl
 generalize isClsB x=rb at e0 ⊢
 obtain ⟨n,vs,cs⟩:=x
 simp only at e0 h4 h5
 refine acalls_walk (fun _=>.imm) [0,1,2,3,4,8,13,22,27,47] Tryz.mixed Tryz.func83 rfl rfl rfl (by decide) (fun hcl hlow=>?_)
 repeat with_reducible refine awp_assoc ?_
 refine awp_sr fun K hK=>?_
 simp
 refine hK _ _ ?_
 clear hK K
 repeat with_reducible refine awp_assoc ?_
 refine awp_sr fun K hK=>?_
 refine aOps_split 2 fun K hK=>?_
 simp
 refine hK _ _ ?_
 clear hK K
 refine aOps_call (rGreatN_c n _) (by first | rfl | simp) rfl rfl (by first | (simp;done) | rfl) ?_
 cases hg:greatN n
 ·simp
  refine hK _ _ ?_
  clear hK K
  repeat with_reducible refine awp_assoc ?_
  refine awp_seq_k fun K hK=>?_
  refine awp_condT rfl (by simp) ?_
  repeat with_reducible refine awp_assoc ?_
  refine awp_sr fun K hK=>?_
  simp
  refine hK _ _ ?_
  clear hK K
  rw [e0,hg]
  simp [reset_all hcl]
 simp
 refine hK _ _ ?_
 clear hK K
 repeat with_reducible refine awp_assoc ?_
 refine awp_seq_k fun K hK=>?_
 refine awp_condF rfl (by simp) ?_
 refine awp_skip ?_
 refine hK _ _ ?_
 clear hK K
 have e1:rb=(vs.all greatN && cs.all sigB):=by rw [e0];simp [hg]
 clear e0
 repeat with_reducible refine awp_assoc ?_
 refine awp_sr fun K hK=>?_
 simp
 refine hK _ _ ?_
 clear hK K
 repeat with_reducible refine awp_assoc ?_
 refine awp_seq_k fun K hK=>?_
 refine awp_block ?_
 refine awp_up vs.length (fun k=>Env.ofL [(1,.ref (nid H.next 0) 0),(2,boolV false),(3,intV k)]) (fun k=>HL H [.cells [strV n,strs vs none,.slice (cs.map SigD.cells) none]]) (fun k=>(vs.take k).all greatN=true) (weak_HL hcl rfl (by simp) (by simp)) (by simp) (fun k hk hvk=>?_) (fun hvk=>?_)
 ·obtain ⟨v,hv⟩:∃ v,vs[k]?=some v:=⟨_,List.getElem?_eq_getElem hk⟩
  repeat with_reducible refine awp_assoc ?_
  refine awp_sr fun K hK=>?_
  simp [hk]
  refine hK _ _ ?_
  clear hK K
  repeat with_reducible refine awp_assoc ?_
  refine awp_seq_k fun K hK=>?_
  refine awp_condT rfl (by simp) ?_
  refine awp_skip ?_
  refine hK _ _ ?_
  clear hK K
  refine awp_seq_k fun KB hKB=>?_
  refine awp_block ?_
  repeat with_reducible refine awp_assoc ?_
  refine awp_sr fun K hK=>?_
  refine aOps_split 5 fun K hK=>?_
  simp [hv]
  refine hK _ _ ?_
  clear hK K
  refine aOps_call (rGreatN_c v _) (by first | rfl | simp) rfl rfl (by first | (simp;done) | rfl) ?_
  simp [hv]
  refine hK _ _ ?_
  clear hK K
  cases hs:greatN v
  ·refine awp_condT rfl (by simp [hs]) ?_
   repeat with_reducible refine awp_assoc ?_
   refine awp_sr fun K hK=>?_
   simp
   refine hK _ _ ?_
   clear hK K
   rw [e1,all_bad hv hs]
   simp [reset_all hcl]
  ·refine awp_condF rfl (by simp [hs]) ?_
   refine awp_skip ?_
   refine hKB _ _ ?_
   clear hKB
   refine awp_region ?_
   simp [wrap_succ (show k < 4611686018427387904 by omega)]
   refine ⟨?_,weak_HL hcl rfl (by simp) (by simp)⟩
   simpa using all_next hv hvk hs
 rw [List.take_length] at hvk
 rw [hvk,Bool.true_and] at e1
 clear hvk
 repeat with_reducible refine awp_assoc ?_
 refine awp_sr fun K hK=>?_
 simp
 refine hK _ _ ?_
 clear hK K
 repeat with_reducible refine awp_assoc ?_
 refine awp_seq_k fun K hK=>?_
 refine awp_condF rfl (by simp) ?_
 refine awp_exit ?_
 simp
 clear hK K
 refine hK _ _ ?_
 clear hK K
 repeat with_reducible refine awp_assoc ?_
 refine awp_sr fun K hK=>?_
 simp
 refine hK _ _ ?_
 clear hK K
 repeat with_reducible refine awp_assoc ?_
 refine awp_seq_k fun K hK=>?_
 refine awp_block ?_
 refine awp_up cs.length (fun k=>Env.ofL [(1,.ref (nid H.next 0) 0),(2,boolV false),(4,intV k)]) (fun k=>HL H [.cells [strV n,strs vs none,.slice (cs.map SigD.cells) none]]) (fun k=>(cs.take k).all sigB=true) (weak_HL hcl rfl (by simp) (by simp)) (by simp) (fun k hk hvk=>?_) (fun hvk=>?_)
 ·obtain ⟨c,hc⟩:∃ c,cs[k]?=some c:=⟨_,List.getElem?_eq_getElem hk⟩
  have ec:sigB c=(smallN c.name && decide (c.preds.length=0)):=rfl
  repeat with_reducible refine awp_assoc ?_
  refine awp_sr fun K hK=>?_
  simp [hk]
  refine hK _ _ ?_
  clear hK K
  repeat with_reducible refine awp_assoc ?_
  refine awp_seq_k fun K hK=>?_
  refine awp_condT rfl (by simp) ?_
  refine awp_skip ?_
  refine hK _ _ ?_
  clear hK K
  refine awp_seq_k fun KB hKB=>?_
  refine awp_block ?_
  repeat with_reducible refine awp_assoc ?_
  refine awp_sr fun K hK=>?_
  refine aOps_split 6 fun K hK=>?_
  simp [hc]
  refine hK _ _ ?_
  clear hK K
  refine aOps_call (rSmallN_c c.name _) (by first | rfl | simp) rfl rfl (by first | (simp;done) | rfl) ?_
  cases hg2:smallN c.name
  ·refine aOps_split 6 fun K hK=>?_
   simp
   refine hK _ _ ?_
   clear hK K
   refine aOps_split 6 fun K hK=>?_
   simp
   refine hK _ _ ?_
   clear hK K
   simp
   refine hK _ _ ?_
   clear hK K
   refine awp_condT rfl (by simp) ?_
   repeat with_reducible refine awp_assoc ?_
   refine awp_sr fun K hK=>?_
   simp
   refine hK _ _ ?_
   clear hK K
   rw [e1,all_bad hc (by rw [ec,hg2];rfl)]
   simp [reset_all hcl]
  refine aOps_split 6 fun K hK=>?_
  simp [hc]
  refine hK _ _ ?_
  clear hK K
  refine aOps_split 4 fun K hK=>?_
  simp [hc]
  refine hK _ _ ?_
  clear hK K
  by_cases ha:c.preds.length=0
  ·have ha':¬ (0:Int) < c.preds.length:=by omega
   simp [ha']
   refine hK _ _ ?_
   clear hK K
   refine awp_condF rfl (by simp [List.eq_nil_of_length_eq_zero ha]) ?_
   refine awp_skip ?_
   refine hKB _ _ ?_
   clear hKB
   refine awp_region ?_
   simp [wrap_succ (show k < 4611686018427387904 by omega)]
   refine ⟨?_,weak_HL hcl rfl (by simp) (by simp)⟩
   simpa using all_next hc hvk (by rw [ec];simp [hg2,ha])
  ·have ha':(0:Int) < c.preds.length:=by omega
   simp [ha']
   refine hK _ _ ?_
   clear hK K
   refine awp_condT rfl (by simp [show 0 < c.preds.length by omega]) ?_
   repeat with_reducible refine awp_assoc ?_
   refine awp_sr fun K hK=>?_
   simp
   refine hK _ _ ?_
   clear hK K
   rw [e1,all_bad hc (by rw [ec];simp [ha])]
   simp [reset_all hcl]
 rw [List.take_length] at hvk
 rw [hvk] at e1
 clear hvk
 repeat with_reducible refine awp_assoc ?_
 refine awp_sr fun K hK=>?_
 simp
 refine hK _ _ ?_
 clear hK K
 repeat with_reducible refine awp_assoc ?_
 refine awp_seq_k fun K hK=>?_
 refine awp_condF rfl (by simp) ?_
 refine awp_exit ?_
 simp
 clear hK K
 refine hK _ _ ?_
 clear hK K
 repeat with_reducible refine awp_assoc ?_
 refine awp_sr fun K hK=>?_
 simp
 refine hK _ _ ?_
 clear hK K
 rw [e1]
 simp [reset_all hcl]
set_option maxHeartbeats 2000000 in
theorem rIsInst_c (d:DeclsD) (hll:(allD d).length < 4611686018427387904) (hvl:∀ y∈allD d,y.vars.length < 4611686018427387904) (x:InstD) (h4:x.preds.length < 4611686018427387904) (H:AHeap):ACalls Tryz.prog 84 [.slice ((allD d).map Dat.cells) none,.agg x.cells] H (boolV (isInstB (namedD d) x)) H:=by
 have e0:isInstB (namedD d) x=(greatN x.cls && greatN x.data && x.preds.all (predB (namedD d x.data))):=rfl
 have ep:∀ p,predB (namedD d x.data) p=(greatN p.cls && decide (p.t.args.length=0) && smallN p.t.name && (!(namedD d x.data).2 || memS p.t.name (namedD d x.data).1.vars)):=fun _=>rfl
 have hnf:=named_find d x.data
 generalize isInstB (namedD d) x=rb at e0 ⊢
 obtain ⟨cn,dn,ps,ra,rl,rc⟩:=x
 simp only at e0 h4 ep hnf
 generalize predB (namedD d dn)=pB at e0 ep
 generalize namedD d dn=nm at ep hnf
 have hfc:=rFind_c (allD d) hll dn
 generalize findI (allD d) dn=fI at hnf hfc
 generalize allD d=l at *
 refine acalls_walk (fun _=>.imm) [0,1,3,4,5,6,7,17,26,54,72] Tryz.mixed Tryz.func84 rfl rfl rfl (by decide) (fun hcl hlow=>?_)
 repeat with_reducible refine awp_assoc ?_
 refine awp_sr fun K hK=>?_
 simp
 refine hK _ _ ?_
 clear hK K
 repeat with_reducible refine awp_assoc ?_
 refine awp_sr fun K hK=>?_
 refine aOps_split 2 fun K hK=>?_
 simp
 refine hK _ _ ?_
 clear hK K
 refine aOps_call (rGreatN_c cn _) (by first | rfl | simp) rfl rfl (by first | (simp;done) | rfl) ?_
 cases hg:greatN cn
 ·refine aOps_split 6 fun K hK=>?_
  simp
  refine hK _ _ ?_
  clear hK K
  simp
  refine hK _ _ ?_
  clear hK K
  repeat with_reducible refine awp_assoc ?_
  refine awp_seq_k fun K hK=>?_
  refine awp_condT rfl (by simp) ?_
  repeat with_reducible refine awp_assoc ?_
  refine awp_sr fun K hK=>?_
  simp
  refine hK _ _ ?_
  clear hK K
  rw [e0,hg]
  simp [reset_all hcl]
 refine aOps_split 4 fun K hK=>?_
 simp
 refine hK _ _ ?_
 clear hK K
 refine aOps_call (rGreatN_c dn _) (by first | rfl | simp) rfl rfl (by first | (simp;done) | rfl) ?_
 cases hg2:greatN dn
 ·simp
  refine hK _ _ ?_
  clear hK K
  repeat with_reducible refine awp_assoc ?_
  refine awp_seq_k fun K hK=>?_
  refine awp_condT rfl (by simp) ?_
  repeat with_reducible refine awp_assoc ?_
  refine awp_sr fun K hK=>?_
  simp
  refine hK _ _ ?_
  clear hK K
  rw [e0,hg2]
  simp [reset_all hcl]
 simp
 refine hK _ _ ?_
 clear hK K
 repeat with_reducible refine awp_assoc ?_
 refine awp_seq_k fun K hK=>?_
 refine awp_condF rfl (by simp) ?_
 refine awp_skip ?_
 refine hK _ _ ?_
 clear hK K
 have e1:rb=ps.all pB:=by rw [e0];simp [hg,hg2]
 clear e0
 repeat with_reducible refine awp_assoc ?_
 refine awp_sr fun K hK=>?_
 refine aOps_split 3 fun K hK=>?_
 simp
 refine hK _ _ ?_
 clear hK K
 refine aOps_call (hfc _) (by first | rfl | simp) rfl rfl (by first | (simp;done) | rfl) ?_
 simp
 refine hK _ _ ?_
 clear hK K
 repeat with_reducible refine awp_assoc ?_
 refine awp_sr fun K hK=>?_
 simp
 refine hK _ _ ?_
 clear hK K
 repeat with_reducible refine awp_assoc ?_
 refine awp_seq_k fun K hK=>?_
 refine awp_block ?_
 refine awp_up ps.length (fun k=>Env.ofL [(0,.slice (l.map Dat.cells) none),(3,.ref (nid H.next 0) 0),(4,boolV false),(5,intV fI),(6,intV k)]) (fun k=>HL H [.cells [strV cn,strV dn,.slice (ps.map PredD.cells) none,.v (.slice ra rl rc)]]) (fun k=>(ps.take k).all pB=true) (weak_HL hcl rfl (by simp) (by simp)) (by simp) (fun k hk hvk=>?_) (fun hvk=>?_)
 ·obtain ⟨p,hp⟩:∃ p,ps[k]?=some p:=⟨_,List.getElem?_eq_getElem hk⟩
  have ec:=ep p
  have hnx:=fun h=>all_next (p:=pB) hp hvk h
  have hbd:=fun h=>all_bad (p:=pB) hp h
  obtain ⟨pc,tn,tl⟩:=p
  simp only [Ty.name,Ty.args] at ec
  repeat with_reducible refine awp_assoc ?_
  refine awp_sr fun K hK=>?_
  simp [hk]
  refine hK _ _ ?_
  clear hK K
  repeat with_reducible refine awp_assoc ?_
  refine awp_seq_k fun K hK=>?_
  refine awp_condT rfl (by simp) ?_
  refine awp_skip ?_
  refine hK _ _ ?_
  clear hK K
  refine awp_seq_k fun KB hKB=>?_
  refine awp_block ?_
  repeat with_reducible refine awp_assoc ?_
  refine awp_sr fun K hK=>?_
  refine aOps_split 4 fun K hK=>?_
  simp [hp]
  refine hK _ _ ?_
  clear hK K
  refine aOps_split 2 fun K hK=>?_
  simp [hp]
  refine hK _ _ ?_
  clear hK K
  simp [hp]
  refine hK _ _ ?_
  clear hK K
  repeat with_reducible refine awp_assoc ?_
  refine awp_sr fun K hK=>?_
  refine aOps_split 6 fun K hK=>?_
  simp [hp]
  refine hK _ _ ?_
  clear hK K
  refine aOps_call (rGreatN_c pc _) (by first | rfl | simp) rfl rfl (by first | (simp;done) | rfl) ?_
  cases hg3:greatN pc
  ·refine aOps_split 6 fun K hK=>?_
   simp
   refine hK _ _ ?_
   clear hK K
   refine aOps_split 6 fun K hK=>?_
   simp
   refine hK _ _ ?_
   clear hK K
   simp
   refine hK _ _ ?_
   clear hK K
   repeat with_reducible refine awp_assoc ?_
   refine awp_seq_k fun K hK=>?_
   refine awp_condT rfl (by simp) ?_
   repeat with_reducible refine awp_assoc ?_
   refine awp_sr fun K hK=>?_
   simp
   refine hK _ _ ?_
   clear hK K
   rw [e1,hbd (by rw [ec,hg3];rfl)]
   simp [reset_all hcl]
  refine aOps_split 5 fun K hK=>?_
  simp [hp]
  refine hK _ _ ?_
  clear hK K
  by_cases ha:tl=[]
  rotate_left
  ·have ha':0 < tl.length:=by cases tl;exact absurd rfl ha;simp
   have ha0:tl.length≠0:=by omega
   refine aOps_split 6 fun K hK=>?_
   simp [Ty.args,ha']
   refine hK _ _ ?_
   clear hK K
   simp [Ty.args,ha']
   refine hK _ _ ?_
   clear hK K
   repeat with_reducible refine awp_assoc ?_
   refine awp_seq_k fun K hK=>?_
   refine awp_condT rfl (by simp) ?_
   repeat with_reducible refine awp_assoc ?_
   refine awp_sr fun K hK=>?_
   simp
   refine hK _ _ ?_
   clear hK K
   rw [e1,hbd (by rw [ec];simp [ha])]
   simp [reset_all hcl]
  refine aOps_split 5 fun K hK=>?_
  simp [Ty.args,Ty.name,ha]
  refine hK _ _ ?_
  clear hK K
  refine aOps_call (rSmallN_c tn _) (by first | rfl | simp) rfl rfl (by first | (simp;done) | rfl) ?_
  cases hg4:smallN tn
  ·simp
   refine hK _ _ ?_
   clear hK K
   repeat with_reducible refine awp_assoc ?_
   refine awp_seq_k fun K hK=>?_
   refine awp_condT rfl (by simp) ?_
   repeat with_reducible refine awp_assoc ?_
   refine awp_sr fun K hK=>?_
   simp
   refine hK _ _ ?_
   clear hK K
   rw [e1,hbd (by rw [ec,hg4];simp)]
   simp [reset_all hcl]
  simp
  refine hK _ _ ?_
  clear hK K
  repeat with_reducible refine awp_assoc ?_
  refine awp_seq_k fun K hK=>?_
  refine awp_condF rfl (by simp) ?_
  refine awp_skip ?_
  refine hK _ _ ?_
  clear hK K
  have ec2:pB ⟨pc,.mk tn tl⟩=(!nm.2 || memS tn nm.1.vars):=by rw [ec,hg3,hg4];simp [ha]
  rcases hnf with ⟨hn0,hn1⟩ | ⟨hn0,hn1,hn2⟩ | ⟨hn0,i,y,hn1,hn2,hn3⟩
  ·have hn0':dn=⟨#[73,110,116]⟩:=hn0
   repeat with_reducible refine awp_assoc ?_
   refine awp_sdc [] [[],[],[],[],[0],[0],[0],[0,1],[0,1,7],[0,1],[0,1],[0,1],[0,1,7,8,9,10,11],[0,1,7,8,9,10,11],[0,1,7,8],[0,1,7,8,9],[0,7,8,9,10,12],[0,4,7,8,9,10,11,12,13]] (by kernel_rfl) (by rfl) fun K hK=>?_
   refine aCalm_pre 4 (by rfl) fun K hK=>?_
   simp [hn0']
   refine hK _ _ ?_
   clear hK K
   refine aCalm_pre 4 (by rfl) fun K hK=>?_
   simp
   refine hK _ _ ?_
   clear hK K
   refine aCalm_pre 6 (by rfl) fun K hK=>?_
   simp
   refine hK _ _ ?_
   clear hK K
   refine aCalm_skip (by first | rfl | simp) ?_
   refine aCalm_pre 3 (by rfl) fun K hK=>?_
   simp
   refine hK _ _ ?_
   clear hK K
   refine aCalm_end ?_
   simp
   refine hK _ _ ?_
   clear hK K
   refine awp_condT rfl (by simp) ?_
   repeat with_reducible refine awp_assoc ?_
   refine awp_sr fun K hK=>?_
   simp
   refine hK _ _ ?_
   clear hK K
   rw [e1,hbd (by rw [ec2,hn1];rfl)]
   simp [reset_all hcl]
  ·have hn0':¬ dn=⟨#[73,110,116]⟩:=hn0
   have hn1':¬ 0≤fI:=by omega
   repeat with_reducible refine awp_assoc ?_
   refine awp_sdc [] [[],[],[],[],[0],[0],[0],[0,1],[0,1,7],[0,1],[0,1],[0,1],[0,1,7,8,9,10,11],[0,1,7,8,9,10,11],[0,1,7,8],[0,1,7,8,9],[0,7,8,9,10,12],[0,4,7,8,9,10,11,12,13]] (by kernel_rfl) (by rfl) fun K hK=>?_
   refine aCalm_pre 4 (by rfl) fun K hK=>?_
   simp [hn0']
   refine hK _ _ ?_
   clear hK K
   refine aCalm_pre 4 (by rfl) fun K hK=>?_
   simp [hn1']
   refine hK _ _ ?_
   clear hK K
   refine aCalm_pre 6 (by rfl) fun K hK=>?_
   simp
   refine hK _ _ ?_
   clear hK K
   refine aCalm_skip (by first | rfl | simp) ?_
   refine aCalm_pre 3 (by rfl) fun K hK=>?_
   simp
   refine hK _ _ ?_
   clear hK K
   refine aCalm_end ?_
   simp
   refine hK _ _ ?_
   clear hK K
   refine awp_condF rfl (by simp) ?_
   refine awp_skip ?_
   refine hKB _ _ ?_
   clear hKB
   refine awp_region ?_
   simp [wrap_succ (show k < 4611686018427387904 by omega)]
   refine ⟨?_,weak_HL hcl rfl (by simp) (by simp)⟩
   simpa using hnx (by rw [ec2,hn2];rfl)
  ·have hn0':¬ dn=⟨#[73,110,116]⟩:=hn0
   subst hn1
   have hpl:=rPlace_c y.vars (hvl y (List.mem_of_getElem? hn2)) tn
   have hge:=placeI_ge y.vars tn
   repeat with_reducible refine awp_assoc ?_
   refine awp_sdc [] [[],[],[],[],[0],[0],[0],[0,1],[0,1,7],[0,1],[0,1],[0,1],[0,1,7,8,9,10,11],[0,1,7,8,9,10,11],[0,1,7,8],[0,1,7,8,9],[0,7,8,9,10,12],[0,4,7,8,9,10,11,12,13]] (by kernel_rfl) (by rfl) fun K hK=>?_
   refine aCalm_pre 4 (by rfl) fun K hK=>?_
   simp [hn0']
   refine hK _ _ ?_
   clear hK K
   refine aCalm_pre 4 (by rfl) fun K hK=>?_
   simp
   refine hK _ _ ?_
   clear hK K
   refine aCalm_pre 3 (by rfl) fun K hK=>?_
   simp [hn2]
   refine hK _ _ ?_
   clear hK K
   refine aCalm_pre 3 (by rfl) fun K hK=>?_
   simp [hn2]
   refine hK _ _ ?_
   clear hK K
   refine aCalm_call0 (hpl _) (by first | rfl | simp) rfl rfl rfl (by first | (simp;done) | rfl) ?_
   cases hm:memS tn y.vars
   ·have hm':placeI y.vars tn < 0:=by rw [hm] at hge;simpa using hge
    refine aCalm_pre 3 (by rfl) fun K hK=>?_
    simp [hm']
    refine hK _ _ ?_
    clear hK K
    refine aCalm_end ?_
    simp
    refine hK _ _ ?_
    clear hK K
    refine awp_condT rfl (by simp) ?_
    repeat with_reducible refine awp_assoc ?_
    refine awp_sr fun K hK=>?_
    simp
    refine hK _ _ ?_
    clear hK K
    rw [e1,hbd (by rw [ec2,hn3,hm];rfl)]
    simp [reset_all hcl]
   ·have hm':¬ placeI y.vars tn < 0:=by rw [hm] at hge;simpa using hge
    refine aCalm_pre 3 (by rfl) fun K hK=>?_
    simp [hm']
    refine hK _ _ ?_
    clear hK K
    refine aCalm_end ?_
    simp
    refine hK _ _ ?_
    clear hK K
    refine awp_condF rfl (by simp) ?_
    refine awp_skip ?_
    refine hKB _ _ ?_
    clear hKB
    refine awp_region ?_
    simp [wrap_succ (show k < 4611686018427387904 by omega)]
    refine ⟨?_,weak_HL hcl rfl (by simp) (by simp)⟩
    simpa using hnx (by rw [ec2,hn3,hm];rfl)
 rw [List.take_length] at hvk
 rw [hvk] at e1
 clear hvk
 repeat with_reducible refine awp_assoc ?_
 refine awp_sr fun K hK=>?_
 simp
 refine hK _ _ ?_
 clear hK K
 repeat with_reducible refine awp_assoc ?_
 refine awp_seq_k fun K hK=>?_
 refine awp_condF rfl (by simp) ?_
 refine awp_exit ?_
 simp
 clear hK K
 refine hK _ _ ?_
 clear hK K
 repeat with_reducible refine awp_assoc ?_
 refine awp_sr fun K hK=>?_
 simp
 refine hK _ _ ?_
 clear hK K
 rw [e1]
 simp [reset_all hcl]
theorem rIsDescribed_c (d:DeclsD) (hr:RawD d) (hsz:d.datas.length < 1000000000000) (H:AHeap):ACalls Tryz.prog 48 [d.enc] H (boolV (argsB d)) H:=by
 have h1:=hr.datas
 have h2:=hr.classes
 have h3:=hr.insts
 have h4:=hr.vars
 have h5:=hr.cons
 have h6:=hr.supers
 have h7:=hr.ops
 have h8:=hr.preds
 have hall:=rAll_c d hsz
 have hvl:∀ y∈allD d,y.vars.length < 4611686018427387904:=by
  intro y hy
  unfold allD at hy
  rcases List.mem_append.1 hy with h | h
  ·have hb:∀ y∈baseD,y.vars.length≤2:=by decide
   have:=hb y h;omega
  ·exact h4 y h
 have hii:=rIsInst_c d (by simp [allD,baseD];omega) hvl
 have hid:=fun (x:Dat) a b=>rIsData_c x a b
 have hik:=fun (x:ClsD) a b=>rIsClass_c x a b
 have e1:argsB d=(d.datas.all isDataB && d.classes.all isClsB && d.insts.all (isInstB (namedD d))):=rfl
 generalize argsB d=rb at e1 ⊢
 generalize isInstB (namedD d)=iB at *
 generalize isDataB=dB at *
 generalize isClsB=kB at *
 generalize allD d=l at *
 clear hr
 obtain ⟨ds,cs,is⟩:=d
 simp only at e1 h1 h2 h3 h4 h5 h6 h7 h8
 refine acalls_walk (fun _=>.imm) [0,1,2,3,4,5,6,13,22,27,36,41,51] Tryz.mixed Tryz.func48 rfl rfl rfl (by decide) (fun hcl hlow=>?_)
 repeat with_reducible refine awp_assoc ?_
 refine awp_sr fun K hK=>?_
 simp
 refine hK _ _ ?_
 clear hK K
 repeat with_reducible refine awp_assoc ?_
 refine awp_sr fun K hK=>?_
 refine aOps_split 1 fun K hK=>?_
 simp
 refine hK _ _ ?_
 clear hK K
 refine aOps_call (hall _) (by first | rfl | simp) rfl rfl (by first | (simp;done) | rfl) ?_
 simp
 refine hK _ _ ?_
 clear hK K
 repeat with_reducible refine awp_assoc ?_
 refine awp_sr fun K hK=>?_
 simp
 refine hK _ _ ?_
 clear hK K
 repeat with_reducible refine awp_assoc ?_
 refine awp_seq_k fun K hK=>?_
 refine awp_block ?_
 refine awp_up ds.length (fun k=>Env.ofL [(1,.ref (nid H.next 0) 0),(2,boolV false),(3,.slice (l.map Dat.cells) none),(4,intV k)]) (fun k=>HL H [.cells [.slice (ds.map Dat.cells) none,.slice (cs.map ClsD.cells) none,.slice (is.map InstD.cells) none]]) (fun k=>(ds.take k).all dB=true) (weak_HL hcl rfl (by simp) (by simp)) (by simp) (fun k hk hvk=>?_) (fun hvk=>?_)
 ·obtain ⟨x,hx⟩:∃ x,ds[k]?=some x:=⟨_,List.getElem?_eq_getElem hk⟩
  have hxm:=List.mem_of_getElem? hx
  repeat with_reducible refine awp_assoc ?_
  refine awp_sr fun K hK=>?_
  simp [hk]
  refine hK _ _ ?_
  clear hK K
  repeat with_reducible refine awp_assoc ?_
  refine awp_seq_k fun K hK=>?_
  refine awp_condT rfl (by simp) ?_
  refine awp_skip ?_
  refine hK _ _ ?_
  clear hK K
  refine awp_seq_k fun KB hKB=>?_
  refine awp_block ?_
  repeat with_reducible refine awp_assoc ?_
  refine awp_sr fun K hK=>?_
  refine aOps_split 5 fun K hK=>?_
  simp [hx]
  refine hK _ _ ?_
  clear hK K
  refine aOps_call (hid x (h4 x hxm) (h5 x hxm) _) (by first | rfl | simp) rfl rfl (by first | (simp;done) | rfl) ?_
  simp [hx]
  refine hK _ _ ?_
  clear hK K
  cases hs:dB x
  ·refine awp_condT rfl (by simp [hs]) ?_
   repeat with_reducible refine awp_assoc ?_
   refine awp_sr fun K hK=>?_
   simp
   refine hK _ _ ?_
   clear hK K
   rw [e1,all_bad (p:=dB) hx hs]
   simp [reset_all hcl]
  ·refine awp_condF rfl (by simp [hs]) ?_
   refine awp_skip ?_
   refine hKB _ _ ?_
   clear hKB
   refine awp_region ?_
   simp [wrap_succ (show k < 4611686018427387904 by omega)]
   refine ⟨?_,weak_HL hcl rfl (by simp) (by simp)⟩
   simpa using all_next hx hvk hs
 rw [List.take_length] at hvk
 rw [hvk] at e1
 try simp only [Bool.true_and] at e1
 clear hvk
 repeat with_reducible refine awp_assoc ?_
 refine awp_sr fun K hK=>?_
 simp
 refine hK _ _ ?_
 clear hK K
 repeat with_reducible refine awp_assoc ?_
 refine awp_seq_k fun K hK=>?_
 refine awp_condF rfl (by simp) ?_
 refine awp_exit ?_
 simp
 clear hK K
 refine hK _ _ ?_
 clear hK K
 repeat with_reducible refine awp_assoc ?_
 refine awp_sr fun K hK=>?_
 simp
 refine hK _ _ ?_
 clear hK K
 repeat with_reducible refine awp_assoc ?_
 refine awp_seq_k fun K hK=>?_
 refine awp_block ?_
 refine awp_up cs.length (fun k=>Env.ofL [(1,.ref (nid H.next 0) 0),(2,boolV false),(3,.slice (l.map Dat.cells) none),(5,intV k)]) (fun k=>HL H [.cells [.slice (ds.map Dat.cells) none,.slice (cs.map ClsD.cells) none,.slice (is.map InstD.cells) none]]) (fun k=>(cs.take k).all kB=true) (weak_HL hcl rfl (by simp) (by simp)) (by simp) (fun k hk hvk=>?_) (fun hvk=>?_)
 ·obtain ⟨x,hx⟩:∃ x,cs[k]?=some x:=⟨_,List.getElem?_eq_getElem hk⟩
  have hxm:=List.mem_of_getElem? hx
  repeat with_reducible refine awp_assoc ?_
  refine awp_sr fun K hK=>?_
  simp [hk]
  refine hK _ _ ?_
  clear hK K
  repeat with_reducible refine awp_assoc ?_
  refine awp_seq_k fun K hK=>?_
  refine awp_condT rfl (by simp) ?_
  refine awp_skip ?_
  refine hK _ _ ?_
  clear hK K
  refine awp_seq_k fun KB hKB=>?_
  refine awp_block ?_
  repeat with_reducible refine awp_assoc ?_
  refine awp_sr fun K hK=>?_
  refine aOps_split 5 fun K hK=>?_
  simp [hx]
  refine hK _ _ ?_
  clear hK K
  refine aOps_call (hik x (h6 x hxm) (h7 x hxm) _) (by first | rfl | simp) rfl rfl (by first | (simp;done) | rfl) ?_
  simp [hx]
  refine hK _ _ ?_
  clear hK K
  cases hs:kB x
  ·refine awp_condT rfl (by simp [hs]) ?_
   repeat with_reducible refine awp_assoc ?_
   refine awp_sr fun K hK=>?_
   simp
   refine hK _ _ ?_
   clear hK K
   rw [e1,all_bad (p:=kB) hx hs]
   simp [reset_all hcl]
  ·refine awp_condF rfl (by simp [hs]) ?_
   refine awp_skip ?_
   refine hKB _ _ ?_
   clear hKB
   refine awp_region ?_
   simp [wrap_succ (show k < 4611686018427387904 by omega)]
   refine ⟨?_,weak_HL hcl rfl (by simp) (by simp)⟩
   simpa using all_next hx hvk hs
 rw [List.take_length] at hvk
 rw [hvk] at e1
 try simp only [Bool.true_and] at e1
 clear hvk
 repeat with_reducible refine awp_assoc ?_
 refine awp_sr fun K hK=>?_
 simp
 refine hK _ _ ?_
 clear hK K
 repeat with_reducible refine awp_assoc ?_
 refine awp_seq_k fun K hK=>?_
 refine awp_condF rfl (by simp) ?_
 refine awp_exit ?_
 simp
 clear hK K
 refine hK _ _ ?_
 clear hK K
 repeat with_reducible refine awp_assoc ?_
 refine awp_sr fun K hK=>?_
 simp
 refine hK _ _ ?_
 clear hK K
 repeat with_reducible refine awp_assoc ?_
 refine awp_seq_k fun K hK=>?_
 refine awp_block ?_
 refine awp_up is.length (fun k=>Env.ofL [(1,.ref (nid H.next 0) 0),(2,boolV false),(3,.slice (l.map Dat.cells) none),(6,intV k)]) (fun k=>HL H [.cells [.slice (ds.map Dat.cells) none,.slice (cs.map ClsD.cells) none,.slice (is.map InstD.cells) none]]) (fun k=>(is.take k).all iB=true) (weak_HL hcl rfl (by simp) (by simp)) (by simp) (fun k hk hvk=>?_) (fun hvk=>?_)
 ·obtain ⟨x,hx⟩:∃ x,is[k]?=some x:=⟨_,List.getElem?_eq_getElem hk⟩
  have hxm:=List.mem_of_getElem? hx
  repeat with_reducible refine awp_assoc ?_
  refine awp_sr fun K hK=>?_
  simp [hk]
  refine hK _ _ ?_
  clear hK K
  repeat with_reducible refine awp_assoc ?_
  refine awp_seq_k fun K hK=>?_
  refine awp_condT rfl (by simp) ?_
  refine awp_skip ?_
  refine hK _ _ ?_
  clear hK K
  refine awp_seq_k fun KB hKB=>?_
  refine awp_block ?_
  repeat with_reducible refine awp_assoc ?_
  refine awp_sr fun K hK=>?_
  refine aOps_split 6 fun K hK=>?_
  simp [hx]
  refine hK _ _ ?_
  clear hK K
  refine aOps_call (hii x (h8 x hxm) _) (by first | rfl | simp) rfl rfl (by first | (simp;done) | rfl) ?_
  simp [hx]
  refine hK _ _ ?_
  clear hK K
  cases hs:iB x
  ·refine awp_condT rfl (by simp [hs]) ?_
   repeat with_reducible refine awp_assoc ?_
   refine awp_sr fun K hK=>?_
   simp
   refine hK _ _ ?_
   clear hK K
   rw [e1,all_bad (p:=iB) hx hs]
   simp [reset_all hcl]
  ·refine awp_condF rfl (by simp [hs]) ?_
   refine awp_skip ?_
   refine hKB _ _ ?_
   clear hKB
   refine awp_region ?_
   simp [wrap_succ (show k < 4611686018427387904 by omega)]
   refine ⟨?_,weak_HL hcl rfl (by simp) (by simp)⟩
   simpa using all_next hx hvk hs
 rw [List.take_length] at hvk
 rw [hvk] at e1
 try simp only [Bool.true_and] at e1
 clear hvk
 repeat with_reducible refine awp_assoc ?_
 refine awp_sr fun K hK=>?_
 simp
 refine hK _ _ ?_
 clear hK K
 repeat with_reducible refine awp_assoc ?_
 refine awp_seq_k fun K hK=>?_
 refine awp_condF rfl (by simp) ?_
 refine awp_exit ?_
 simp
 clear hK K
 refine hK _ _ ?_
 clear hK K
 repeat with_reducible refine awp_assoc ?_
 refine awp_sr fun K hK=>?_
 simp
 refine hK _ _ ?_
 clear hK K
 rw [e1]
 simp [reset_all hcl]
def badT (l:List Dat) (n:Ty):Bool:=!n.isVar && !decide (n.name=arrowN) && !decide (n.name=intN) && decide (findI l n.name < 0)
def badA (l:List Dat) (n:Ty):Bool:=(decide (n.name=intN) && !decide (n.args.length=0)) || match l.find? (fun x=>decide (x.name=n.name)) with | some x=>!decide (n.args.length=x.vars.length) | none=>false
theorem any_nodesL (p:Ty→Bool):∀ l:List Ty,(nodesL l).any p=l.any fun t=>t.nodes.any p
 | []=>rfl
 | t::l=>by simp only [nodesL,List.any_append,List.any_cons,any_nodesL p l]
theorem any_mk (p:Ty→Bool) (n:ByteArray) (l:List Ty):(Ty.mk n l).nodes.any p=(p (.mk n l) || l.any fun t=>t.nodes.any p):=by
 simp only [Ty.nodes,List.any_cons,any_nodesL]
set_option maxHeartbeats 1000000 in
theorem rIsThere_c (L:List Dat) (hL:L.length < 4611686018427387904):∀ (t:Ty),t.cnt < 4611686018427387904→∀ H,ACalls Tryz.prog 18 [.slice (L.map Dat.cells) none,t.enc] H (boolV (!t.nodes.any (badT L))) H:=by
 intro t
 induction t using Ty.ind with
 | h n l ih =>
 intro hsz H
 have hcnt:(Ty.mk n l).cnt=(nodesL l).length+1:=by simp [Ty.cnt,Ty.nodes]
 have hll:=nodesL_len l
 have eb:badT L (.mk n l)=(!(Ty.mk n l).isVar && !decide (n=arrowN) && !decide (n=intN) && decide (findI L n < 0)):=rfl
 have hv:=rIsVar_c (.mk n l)
 have hfc:=rFind_c L hL n
 rw [any_mk,enc_mk]
 simp only [enc_mk] at hv
 generalize (Ty.mk n l).isVar=iv at hv eb
 generalize findI L n=fI at hfc eb
 generalize badT L (.mk n l)=bb at eb ⊢
 have ih':∀ (k:Nat) (x:Ty),l[k]?=some x→∀ H,ACalls Tryz.prog 18 [.slice (L.map Dat.cells) none,x.enc] H (boolV (!x.nodes.any (badT L))) H:=fun k x hx=>ih x (List.mem_of_getElem? hx) (by have:=cnt_mem hx;omega)
 generalize badT L=bT at *
 clear ih
 refine acalls_walk (fun _=>.imm) [0,1,3,4,5,25,30,40] Tryz.mixed Tryz.func18 rfl rfl rfl (by decide) (fun hcl hlow=>?_)
 repeat with_reducible refine awp_assoc ?_
 refine awp_sr fun K hK=>?_
 simp
 refine hK _ _ ?_
 clear hK K
 repeat with_reducible refine awp_assoc ?_
 refine awp_sr fun K hK=>?_
 suffices hE:K (Env.ofL [(0,.slice (L.map Dat.cells) none),(1,.agg [strV n,.slice (l.map Ty.cells) none]),(3,.ref (nid H.next 0) 0),(4,boolV false),(5,.undef),(25,boolV bb),(30,.undef),(40,.undef)]) (HL H [.cells [strV n,.slice (l.map Ty.cells) none]]) by
  clear hK
  refine aOps_split 1 fun K hK=>?_
  simp
  refine hK _ _ ?_
  clear hK K
  refine aOps_call (hv _) (by first | rfl | simp) rfl rfl (by first | (simp;done) | rfl) ?_
  cases iv with
  | true =>
   refine aOps_split 6 fun K hK=>?_
   simp
   refine hK _ _ ?_
   clear hK K
   refine aOps_split 6 fun K hK=>?_
   simp
   refine hK _ _ ?_
   clear hK K
   simp
   have e:bb=false:=by rw [eb];rfl
   subst e
   exact hE
  | false =>
  by_cases h1:n=arrowN
  ·have h1':=eq_true (show n=⟨#[45,62]⟩ from h1)
   refine aOps_split 5 fun K hK=>?_
   simp [h1']
   refine hK _ _ ?_
   clear hK K
   refine aOps_split 6 fun K hK=>?_
   simp [h1']
   refine hK _ _ ?_
   clear hK K
   simp
   have e:bb=false:=by rw [eb,h1];rfl
   subst e
   exact hE
  have h1':=eq_false (show ¬ n=⟨#[45,62]⟩ from h1)
  refine aOps_split 5 fun K hK=>?_
  simp [h1']
  refine hK _ _ ?_
  clear hK K
  by_cases h2:n=intN
  ·have h2':=eq_true (show n=⟨#[73,110,116]⟩ from h2)
   refine aOps_split 5 fun K hK=>?_
   simp [h2']
   refine hK _ _ ?_
   clear hK K
   simp
   have e:bb=false:=by rw [eb,h2];simp
   subst e
   exact hE
  have h2':=eq_false (show ¬ n=⟨#[73,110,116]⟩ from h2)
  refine aOps_split 6 fun K hK=>?_
  simp [h1',h2']
  refine hK _ _ ?_
  clear hK K
  refine aOps_split 4 fun K hK=>?_
  simp [h1',h2']
  refine hK _ _ ?_
  clear hK K
  refine aOps_call (hfc _) (by first | rfl | simp) rfl rfl (by first | (simp;done) | rfl) ?_
  have e:bb=decide (fI < 0):=by rw [eb];simp [h1,h2]
  subst e
  simp
  exact hE
 refine hK _ _ ?_
 clear hK K
 cases bb with
 | true =>
  repeat with_reducible refine awp_assoc ?_
  refine awp_seq_k fun K hK=>?_
  refine awp_condT rfl (by simp) ?_
  repeat with_reducible refine awp_assoc ?_
  refine awp_sr fun K hK=>?_
  simp
  refine hK _ _ ?_
  clear hK K
  simp [reset_all hcl]
 | false =>
 repeat with_reducible refine awp_assoc ?_
 refine awp_seq_k fun K hK=>?_
 refine awp_condF rfl (by simp) ?_
 refine awp_skip ?_
 refine hK _ _ ?_
 clear hK K
 repeat with_reducible refine awp_assoc ?_
 refine awp_sr fun K hK=>?_
 simp
 refine hK _ _ ?_
 clear hK K
 repeat with_reducible refine awp_assoc ?_
 refine awp_seq_k fun K hK=>?_
 refine awp_block ?_
 refine awp_up l.length (fun k=>Env.ofL [(0,.slice (L.map Dat.cells) none),(3,.ref (nid H.next 0) 0),(4,boolV false),(5,intV k)]) (fun k=>HL H [.cells [strV n,.slice (l.map Ty.cells) none]]) (fun k=>(l.take k).any (fun t=>t.nodes.any bT)=false) (weak_HL hcl rfl (by simp) (by simp)) (by simp) (fun k hk hvk=>?_) (fun hvk=>?_)
 ·obtain ⟨x,hx⟩:∃ x,l[k]?=some x:=⟨_,List.getElem?_eq_getElem hk⟩
  have hc:=ih' k x hx
  have hms:=miss (p:=fun t:Ty=>t.nodes.any bT) hx hvk
  have hbx:=any_at (p:=fun t:Ty=>t.nodes.any bT) hx
  have hxe:x.cells=[strV x.name,.slice (x.args.map Ty.cells) none]:=by obtain ⟨_,_⟩:=x;simp [Ty.cells,cellsL_eq,Ty.name,Ty.args]
  simp only [Ty.enc,hxe] at hc
  repeat with_reducible refine awp_assoc ?_
  refine awp_sr fun K hK=>?_
  simp [hk]
  refine hK _ _ ?_
  clear hK K
  repeat with_reducible refine awp_assoc ?_
  refine awp_seq_k fun K hK=>?_
  refine awp_condT rfl (by simp) ?_
  refine awp_skip ?_
  refine hK _ _ ?_
  clear hK K
  refine awp_seq_k fun KB hKB=>?_
  refine awp_block ?_
  repeat with_reducible refine awp_assoc ?_
  refine awp_sr fun K hK=>?_
  refine aOps_split 6 fun K hK=>?_
  simp [hx,hxe]
  refine hK _ _ ?_
  clear hK K
  refine aOps_call (hc _) (by first | rfl | simp) rfl rfl (by first | (simp;done) | rfl) ?_
  simp [hx,hxe]
  refine hK _ _ ?_
  clear hK K
  cases hb:x.nodes.any bT
  ·refine awp_condF rfl (by simp [hb]) ?_
   refine awp_skip ?_
   refine hKB _ _ ?_
   clear hKB
   refine awp_region ?_
   simp [wrap_succ (show k < 4611686018427387904 by omega)]
   refine ⟨?_,weak_HL hcl rfl (by simp) (by simp)⟩
   simpa using hms hb
  ·refine awp_condT rfl (by simp [hb]) ?_
   repeat with_reducible refine awp_assoc ?_
   refine awp_sr fun K hK=>?_
   simp
   refine hK _ _ ?_
   clear hK K
   rw [hbx hb]
   simp [reset_all hcl]
 rw [List.take_length] at hvk
 repeat with_reducible refine awp_assoc ?_
 refine awp_sr fun K hK=>?_
 simp
 refine hK _ _ ?_
 clear hK K
 repeat with_reducible refine awp_assoc ?_
 refine awp_seq_k fun K hK=>?_
 refine awp_condF rfl (by simp) ?_
 refine awp_exit ?_
 simp
 clear hK K
 refine hK _ _ ?_
 clear hK K
 repeat with_reducible refine awp_assoc ?_
 refine awp_sr fun K hK=>?_
 simp
 refine hK _ _ ?_
 clear hK K
 rw [hvk]
 simp [reset_all hcl]
set_option maxHeartbeats 1000000 in
theorem rIsApplied_c (L:List Dat) (hL:L.length < 4611686018427387904):∀ (t:Ty),t.cnt < 4611686018427387904→∀ H,ACalls Tryz.prog 19 [.slice (L.map Dat.cells) none,t.enc] H (boolV (!t.nodes.any (badA L))) H:=by
 intro t
 induction t using Ty.ind with
 | h n l ih =>
 intro hsz H
 have hcnt:(Ty.mk n l).cnt=(nodesL l).length+1:=by simp [Ty.cnt,Ty.nodes]
 have hll:=nodesL_len l
 have eb:badA L (.mk n l)=((decide (n=intN) && !decide (l.length=0)) || match L.find? (fun x=>decide (x.name=n)) with | some x=>!decide (l.length=x.vars.length) | none=>false):=rfl
 have hfc:=rFind_c L hL n
 have hfs:=findI_some (l:=L) (n:=n)
 have hfn:=findI_none (l:=L) (n:=n)
 rw [any_mk,enc_mk]
 generalize L.find? (fun x=>decide (x.name=n))=fo at eb hfs hfn
 generalize findI L n=fI at hfc eb hfs hfn
 generalize badA L (.mk n l)=bb at eb ⊢
 have ih':∀ (k:Nat) (x:Ty),l[k]?=some x→∀ H,ACalls Tryz.prog 19 [.slice (L.map Dat.cells) none,x.enc] H (boolV (!x.nodes.any (badA L))) H:=fun k x hx=>ih x (List.mem_of_getElem? hx) (by have:=cnt_mem hx;omega)
 generalize badA L=bT at *
 clear ih
 refine acalls_walk (fun _=>.imm) [0,1,3,4,5,6,35,40,50] Tryz.mixed Tryz.func19 rfl rfl rfl (by decide) (fun hcl hlow=>?_)
 repeat with_reducible refine awp_assoc ?_
 refine awp_sr fun K hK=>?_
 simp
 refine hK _ _ ?_
 clear hK K
 repeat with_reducible refine awp_assoc ?_
 refine awp_sr fun K hK=>?_
 refine aOps_split 3 fun K hK=>?_
 simp
 refine hK _ _ ?_
 clear hK K
 refine aOps_call (hfc _) (by first | rfl | simp) rfl rfl (by first | (simp;done) | rfl) ?_
 simp
 refine hK _ _ ?_
 clear hK K
 repeat with_reducible refine awp_assoc ?_
 refine awp_sdc [] [[],[],[],[],[0],[0],[0],[0],[0,4],[0,4,5],[0,1,4,5,6],[0,1,4,5,6],[0,1,4,5,6],[0,1,2,4,5,6,7],[0,1,2,4,5,6,7],[0,1,2,4,5,6,7],[0,1,2,4,5,6,7,13,14,15],[0,1,2,4,5,6,7,13,14,15,16],[0,1,2,4,5,6,7,13,14,15],[0,1,2,4,5,6,7,13,14,15],[0,1,2,4,5,6,7,13,14,15],[0,1,2,4,5,6,7,13,14,15,16,17],[0,1,2,4,5,6,7,16,17,18],[0,1,4,5,6,13,16,17,18,19],[0,1,4,5,6,10,13,14,16,17,18,19,20]] (by kernel_rfl) (by rfl) fun K hK=>?_
 suffices hE:K (Env.ofL [(0,.slice (L.map Dat.cells) none),(1,.agg [strV n,.slice (l.map Ty.cells) none]),(3,.ref (nid H.next 0) 0),(4,boolV false),(5,intV fI),(6,.undef),(35,boolV bb),(40,.undef),(50,.undef)]) (HL H [.cells [strV n,.slice (l.map Ty.cells) none]]) by
  clear hK
  by_cases h1:n=intN
  ·have h1':=eq_true (show n=⟨#[73,110,116]⟩ from h1)
   by_cases h2:l=[]
   rotate_left
   ·have h2':0 < l.length:=by cases l with | nil=>exact absurd rfl h2 | cons _ _=>simp
    have e:bb=true:=by rw [eb];simp [h1,h2]
    refine aCalm_pre 4 (by rfl) fun K hK=>?_
    simp [h1']
    refine hK _ _ ?_
    clear hK K
    refine aCalm_pre 5 (by rfl) fun K hK=>?_
    simp [h2']
    refine hK _ _ ?_
    clear hK K
    refine aCalm_pre 6 (by rfl) fun K hK=>?_
    simp
    refine hK _ _ ?_
    clear hK K
    refine aCalm_pre 6 (by rfl) fun K hK=>?_
    simp
    refine hK _ _ ?_
    clear hK K
    refine aCalm_pre 4 (by rfl) fun K hK=>?_
    simp
    refine hK _ _ ?_
    clear hK K
    refine aCalm_end ?_
    simp
    subst e
    exact hE
   subst h2
   refine aCalm_pre 4 (by rfl) fun K hK=>?_
   simp [h1']
   refine hK _ _ ?_
   clear hK K
   refine aCalm_pre 5 (by rfl) fun K hK=>?_
   simp
   refine hK _ _ ?_
   clear hK K
   by_cases hf:fI < 0
   ·have hf':¬ 0≤fI:=by omega
    have e:bb=false:=by rw [eb,hfn hf];simp
    refine aCalm_pre 4 (by rfl) fun K hK=>?_
    simp [hf']
    refine hK _ _ ?_
    clear hK K
    refine aCalm_pre 6 (by rfl) fun K hK=>?_
    simp
    refine hK _ _ ?_
    clear hK K
    refine aCalm_pre 6 (by rfl) fun K hK=>?_
    simp
    refine hK _ _ ?_
    clear hK K
    refine aCalm_end ?_
    simp
    subst e
    exact hE
   obtain ⟨i,y,hi1,hi2,hi3⟩:=hfs hf
   subst hi1
   have e:bb=!decide ((0:Int)=y.vars.length):=by
    rw [eb,hi3]
    simp
    omega
   refine aCalm_pre 4 (by rfl) fun K hK=>?_
   simp
   refine hK _ _ ?_
   clear hK K
   refine aCalm_pre 4 (by rfl) fun K hK=>?_
   simp
   refine hK _ _ ?_
   clear hK K
   refine aCalm_pre 4 (by rfl) fun K hK=>?_
   simp [hi2]
   refine hK _ _ ?_
   clear hK K
   refine aCalm_pre 4 (by rfl) fun K hK=>?_
   simp
   refine hK _ _ ?_
   clear hK K
   refine aCalm_end ?_
   simp
   subst e
   exact hE
  ·have h1':=eq_false (show ¬ n=⟨#[73,110,116]⟩ from h1)
   refine aCalm_pre 4 (by rfl) fun K hK=>?_
   simp [h1']
   refine hK _ _ ?_
   clear hK K
   refine aCalm_pre 6 (by rfl) fun K hK=>?_
   simp
   refine hK _ _ ?_
   clear hK K
   by_cases hf:fI < 0
   ·have hf':¬ 0≤fI:=by omega
    have e:bb=false:=by rw [eb,hfn hf];simp [h1]
    refine aCalm_pre 3 (by rfl) fun K hK=>?_
    simp [hf']
    refine hK _ _ ?_
    clear hK K
    refine aCalm_pre 6 (by rfl) fun K hK=>?_
    simp
    refine hK _ _ ?_
    clear hK K
    refine aCalm_pre 6 (by rfl) fun K hK=>?_
    simp
    refine hK _ _ ?_
    clear hK K
    refine aCalm_end ?_
    simp
    subst e
    exact hE
   obtain ⟨i,y,hi1,hi2,hi3⟩:=hfs hf
   subst hi1
   have e:bb=!decide (l.length=y.vars.length):=by rw [eb,hi3];simp [h1]
   refine aCalm_pre 3 (by rfl) fun K hK=>?_
   simp
   refine hK _ _ ?_
   clear hK K
   refine aCalm_pre 4 (by rfl) fun K hK=>?_
   simp
   refine hK _ _ ?_
   clear hK K
   refine aCalm_pre 4 (by rfl) fun K hK=>?_
   simp [hi2]
   refine hK _ _ ?_
   clear hK K
   refine aCalm_pre 4 (by rfl) fun K hK=>?_
   simp [show ((l.length:Int)=y.vars.length)↔l.length=y.vars.length by omega]
   refine hK _ _ ?_
   clear hK K
   refine aCalm_end ?_
   simp
   subst e
   exact hE
 refine hK _ _ ?_
 clear hK K
 cases bb with
 | true =>
  repeat with_reducible refine awp_assoc ?_
  refine awp_seq_k fun K hK=>?_
  refine awp_condT rfl (by simp) ?_
  repeat with_reducible refine awp_assoc ?_
  refine awp_sr fun K hK=>?_
  simp
  refine hK _ _ ?_
  clear hK K
  simp [reset_all hcl]
 | false =>
 repeat with_reducible refine awp_assoc ?_
 refine awp_seq_k fun K hK=>?_
 refine awp_condF rfl (by simp) ?_
 refine awp_skip ?_
 refine hK _ _ ?_
 clear hK K
 repeat with_reducible refine awp_assoc ?_
 refine awp_sr fun K hK=>?_
 simp
 refine hK _ _ ?_
 clear hK K
 repeat with_reducible refine awp_assoc ?_
 refine awp_seq_k fun K hK=>?_
 refine awp_block ?_
 refine awp_up l.length (fun k=>Env.ofL [(0,.slice (L.map Dat.cells) none),(3,.ref (nid H.next 0) 0),(4,boolV false),(5,intV fI),(6,intV k)]) (fun k=>HL H [.cells [strV n,.slice (l.map Ty.cells) none]]) (fun k=>(l.take k).any (fun t=>t.nodes.any bT)=false) (weak_HL hcl rfl (by simp) (by simp)) (by simp) (fun k hk hvk=>?_) (fun hvk=>?_)
 ·obtain ⟨x,hx⟩:∃ x,l[k]?=some x:=⟨_,List.getElem?_eq_getElem hk⟩
  have hc:=ih' k x hx
  have hms:=miss (p:=fun t:Ty=>t.nodes.any bT) hx hvk
  have hbx:=any_at (p:=fun t:Ty=>t.nodes.any bT) hx
  have hxe:x.cells=[strV x.name,.slice (x.args.map Ty.cells) none]:=by obtain ⟨_,_⟩:=x;simp [Ty.cells,cellsL_eq,Ty.name,Ty.args]
  simp only [Ty.enc,hxe] at hc
  repeat with_reducible refine awp_assoc ?_
  refine awp_sr fun K hK=>?_
  simp [hk]
  refine hK _ _ ?_
  clear hK K
  repeat with_reducible refine awp_assoc ?_
  refine awp_seq_k fun K hK=>?_
  refine awp_condT rfl (by simp) ?_
  refine awp_skip ?_
  refine hK _ _ ?_
  clear hK K
  refine awp_seq_k fun KB hKB=>?_
  refine awp_block ?_
  repeat with_reducible refine awp_assoc ?_
  refine awp_sr fun K hK=>?_
  refine aOps_split 6 fun K hK=>?_
  simp [hx,hxe]
  refine hK _ _ ?_
  clear hK K
  refine aOps_call (hc _) (by first | rfl | simp) rfl rfl (by first | (simp;done) | rfl) ?_
  simp [hx,hxe]
  refine hK _ _ ?_
  clear hK K
  cases hb:x.nodes.any bT
  ·refine awp_condF rfl (by simp [hb]) ?_
   refine awp_skip ?_
   refine hKB _ _ ?_
   clear hKB
   refine awp_region ?_
   simp [wrap_succ (show k < 4611686018427387904 by omega)]
   refine ⟨?_,weak_HL hcl rfl (by simp) (by simp)⟩
   simpa using hms hb
  ·refine awp_condT rfl (by simp [hb]) ?_
   repeat with_reducible refine awp_assoc ?_
   refine awp_sr fun K hK=>?_
   simp
   refine hK _ _ ?_
   clear hK K
   rw [hbx hb]
   simp [reset_all hcl]
 rw [List.take_length] at hvk
 repeat with_reducible refine awp_assoc ?_
 refine awp_sr fun K hK=>?_
 simp
 refine hK _ _ ?_
 clear hK K
 repeat with_reducible refine awp_assoc ?_
 refine awp_seq_k fun K hK=>?_
 refine awp_condF rfl (by simp) ?_
 refine awp_exit ?_
 simp
 clear hK K
 refine hK _ _ ?_
 clear hK K
 repeat with_reducible refine awp_assoc ?_
 refine awp_sr fun K hK=>?_
 simp
 refine hK _ _ ?_
 clear hK K
 rw [hvk]
 simp [reset_all hcl]
end Go.Proofs.YtlhoigpidpokfaaGreat
