/- The reference: none. -/
import Derived.Test.YtlhoigpidpokfaaGreatME2
import Derived.Test.YtlhoigpidpokfaaGreatME3
import Derived.Test.YtlhoigpidpokfaaGreatME
import Derived.Test.YtlhoigpidpokfaaGreatMD6
set_option linter.unusedVariables false
set_option linter.unusedSimpArgs false
namespace Go.Proofs.YtlhoigpidpokfaaGreat
open Go Go.Abs Go.Proofs
set_option maxRecDepth 20000
attribute [local simp] aOps wantedA aStep aop aLoad aStore aBin aUn aFieldAddr aField aIndexAddr aIndex aLen aBuild aFill aAlloc aAppend aAppendOwn aMin aMax aBuildSlice litRows newRows isMut isOwn isNilS nilsW bytesR tokW tokAV tokL ret readC splice aeval isLit isLate isCut aCut AV.celled AV.one AV.ofValue Value.oneCell' Value.cells intOp strOp get_nid upd_nid awp aEnd aResults aResult Det unord isCall isNext
attribute [local simp] low_take low_strs low_comp low_tcomp wkEs_refl' WkBs WkEnv WkB WkL WkE WkO ABlock.low lowO lowL lowR AV.low cellsL_eq Ty.low low_map Ty.cells_length Ty.cells_one
attribute [local simp] ConD.cells Dat.cells PredD.cells SigD.cells ClsD.cells InstD.cells DeclsD.cells DeclsD.enc Dat.enc low_datL low_conL low_predL low_sigL low_clsL low_instL
theorem clsV_snd (l:List ClsD) (n:ByteArray):(clsV l n).2=!decide (classI l n < 0):=by
 unfold clsV classI
 cases hh:l.findIdx? fun x=>decide (x.name=n) with
 | none =>
  rw [List.findIdx?_eq_none_iff] at hh
  rw [find_none hh]
  simp [ixI]
 | some i =>
  obtain ⟨hl,h1,h2⟩:=List.findIdx?_eq_some_iff_getElem.1 hh
  have hfd:l.find? (fun x=>decide (x.name=n))=some l[i]:=by
   rw [List.find?_eq_some_iff_getElem]
   exact ⟨h1,i,hl,rfl,fun j hj=>by simpa using h2 j hj⟩
  rw [hfd]
  have h0:¬ ((i:Int) < 0):=by omega
  simp [ixI,h0]
def rNoneB (d:DeclsD):Bool:=(writtenD d).any (fun t=>t.nodes.any (badT (allD d))) || d.classes.any (fun x=>x.supers.any (noCls d)) || d.insts.any (instNone d)
theorem bound_all {d:DeclsD} (h:d.datas.length < 1000000000000):(allD d).length < 4611686018427387904:=by simp [allD,baseD];omega
set_option maxHeartbeats 4000000 in
theorem rNone_c (d:DeclsD) (hr:RawD d) (hsz:d.datas.length < 1000000000000) (hwz:(writtenD d).length < 1000000000000) (hwt:∀ t∈writtenD d,t.cnt < 1000000000000) (H:AHeap):ACalls Tryz.prog 51 [d.enc] H (boolV (rNoneB d)) H:=by
 have h2:=hr.classes
 have h3:=hr.insts
 have h6:=hr.supers
 have h8:=hr.preds
 have hat:=rWritten_c d hr hwz
 have hal:=rAll_c d hsz
 have hL:=bound_all hsz
 have hT:=fun t ht=>rIsThere_c (allD d) hL t (by have:=hwt t ht;omega)
 have hfi:=fun n=>rFind_c (allD d) hL n
 have hnf:=named_find d
 have hno:∀ s,noCls d s=decide (classI d.classes s < 0):=fun _=>rfl
 have hin:∀ x,instNone d x=(!(namedD d x.data).2 || noCls d x.cls || x.preds.any (fun p=>noCls d p.cls)):=fun _=>rfl
 have e0:rNoneB d=((writtenD d).any (fun t=>t.nodes.any (badT (allD d))) || d.classes.any (fun x=>x.supers.any (noCls d)) || d.insts.any (instNone d)):=rfl
 have hFC:=rFindClass_c d.classes h2
 have hcs:=clsV_snd d.classes
 generalize rNoneB d=nb at e0 ⊢
 generalize badT (allD d)=bT at *
 generalize instNone d=iN at *
 generalize noCls d=nC at *
 have hwl:(writtenD d).length < 4611686018427387904:=by omega
 generalize writtenD d=W at *
 generalize namedD d=nm at *
 generalize findI (allD d)=fI at *
 generalize allD d=L at *
 clear hr hsz hwz hwt
 obtain ⟨ds,cs,is⟩:=d
 simp only at h2 h3 h6 h8 hno e0 hat hal hFC hcs
 simp only [←hno] at hcs
 clear hno
 generalize clsV cs=cV at *
 simp only [DeclsD.enc,DeclsD.cells,ClsD.cells] at hat hal hFC
 refine acalls_walk (fun t=>if t=8∨t=15 then .late else .imm) [0,1,2,3,4,5,6,7,9,10,11,13,14,16,24,33,38,49,68,73,102,107,123] Tryz.mixed Tryz.func51 rfl rfl rfl (by decide) (fun hcl hlow=>?_)
 repeat with_reducible refine awp_assoc ?_
 refine awp_sr fun K hK=>?_
 simp
 refine hK _ _ ?_
 clear hK K
 repeat with_reducible refine awp_assoc ?_
 refine awp_sdc [] [[],[],[0,1],[],[],[]] (by kernel_rfl) (by rfl) fun K hK=>?_
 refine aCalm_pre 1 (by rfl) fun K hK=>?_
 simp
 refine hK _ _ ?_
 clear hK K
 refine aCalm_call0 (hal _) (by first | rfl | simp) rfl rfl rfl (by first | (simp;done) | rfl) ?_
 refine aCalm_pre 1 (by rfl) fun K hK=>?_
 simp
 refine hK _ _ ?_
 clear hK K
 refine aCalm_call0 (hat _) (by first | rfl | simp) rfl rfl rfl (by first | (simp;done) | rfl) ?_
 refine aCalm_pre 2 (by rfl) fun K hK=>?_
 simp
 refine hK _ _ ?_
 clear hK K
 refine aCalm_end ?_
 simp
 refine hK _ _ ?_
 clear hK K
 repeat with_reducible refine awp_assoc ?_
 refine awp_sr fun K hK=>?_
 simp
 refine hK _ _ ?_
 clear hK K
 repeat with_reducible refine awp_assoc ?_
 refine awp_seq_k fun K hK=>?_
 refine awp_block ?_
 refine awp_up W.length (fun k=>Env.ofL [(1,.ref (nid H.next 0) 0),(2,boolV false),(3,.slice (L.map Dat.cells) none),(4,.slice (W.map Ty.cells) none),(5,intV k)]) (fun k=>HL H [.cells [.slice (ds.map Dat.cells) none,.slice (cs.map ClsD.cells) none,.slice (is.map InstD.cells) none]]) (fun k=>(W.take k).any (fun t=>t.nodes.any bT)=false) (weak_HL hcl rfl (by simp) (by simp)) (by simp) (fun k hk hvk=>?_) (fun hvk=>?_)
 ·obtain ⟨x,hx⟩:∃ x,W[k]?=some x:=⟨_,List.getElem?_eq_getElem hk⟩
  have hc:=hT x (List.mem_of_getElem? hx)
  have hms:=miss (p:=fun t:Ty=>t.nodes.any bT) hx hvk
  have hbx:=any_at (p:=fun t:Ty=>t.nodes.any bT) hx
  have hxe:x.cells=[strV x.name,.slice (x.args.map Ty.cells) none]:=by obtain ⟨_,_⟩:=x;simp [Ty.cells,cellsL_eq,Ty.name,Ty.args]
  simp only [Ty.enc,hxe] at hc
  repeat with_reducible refine awp_assoc ?_
  refine awp_sr fun K hK=>?_
  simp [hk]
  refine hK _ _ ?_
  clear hK K
  repeat with_reducible refine awp_assoc ?_
  refine awp_seq_k fun K hK=>?_
  refine awp_condT rfl (by simp) ?_
  refine awp_skip ?_
  refine hK _ _ ?_
  clear hK K
  refine awp_seq_k fun KB hKB=>?_
  refine awp_block ?_
  repeat with_reducible refine awp_assoc ?_
  refine awp_sr fun K hK=>?_
  refine aOps_split 5 fun K hK=>?_
  simp [hx,hxe]
  refine hK _ _ ?_
  clear hK K
  refine aOps_call (hc _) (by first | rfl | simp) rfl rfl (by first | (simp;done) | rfl) ?_
  simp [hx,hxe]
  refine hK _ _ ?_
  clear hK K
  cases hb:x.nodes.any bT
  ·refine awp_condF rfl (by simp [hb]) ?_
   refine awp_skip ?_
   refine hKB _ _ ?_
   clear hKB
   refine awp_region ?_
   simp [wrap_succ (show k < 4611686018427387904 by omega)]
   refine ⟨?_,weak_HL hcl rfl (by simp) (by simp)⟩
   simpa using hms hb
  ·refine awp_condT rfl (by simp [hb]) ?_
   repeat with_reducible refine awp_assoc ?_
   refine awp_sr fun K hK=>?_
   simp
   refine hK _ _ ?_
   clear hK K
   rw [e0,hbx hb]
   simp [reset_all hcl]
 rw [List.take_length] at hvk
 rename W.any _=false=>hW
 repeat with_reducible refine awp_assoc ?_
 refine awp_sr fun K hK=>?_
 simp
 refine hK _ _ ?_
 clear hK K
 repeat with_reducible refine awp_assoc ?_
 refine awp_seq_k fun K hK=>?_
 refine awp_condF rfl (by simp) ?_
 refine awp_exit ?_
 simp
 clear hK K
 refine hK _ _ ?_
 clear hK K
 repeat with_reducible refine awp_assoc ?_
 refine awp_sr fun K hK=>?_
 simp
 refine hK _ _ ?_
 clear hK K
 rw [hW,Bool.false_or] at e0
 repeat with_reducible refine awp_assoc ?_
 refine awp_seq_k fun K hK=>?_
 refine awp_block ?_
 refine awp_up cs.length (fun k=>Env.ofL [(1,.ref (nid H.next 0) 0),(2,boolV false),(3,.slice (L.map Dat.cells) none),(6,intV k)]) (fun k=>HL H [.cells [.slice (ds.map Dat.cells) none,.slice (cs.map ClsD.cells) none,.slice (is.map InstD.cells) none]]) (fun k=>(cs.take k).any (fun x=>x.supers.any nC)=false) (weak_HL hcl rfl (by simp) (by simp)) (by simp) (fun k hk hvk=>?_) (fun hvk=>?_)
 ·obtain ⟨x,hx⟩:∃ x,cs[k]?=some x:=⟨_,List.getElem?_eq_getElem hk⟩
  have g6:=h6 x (List.mem_of_getElem? hx)
  have hbx:=any_at (p:=fun x:ClsD=>x.supers.any nC) hx
  have hms:=miss (p:=fun x:ClsD=>x.supers.any nC) hx hvk
  repeat with_reducible refine awp_assoc ?_
  refine awp_sr fun K hK=>?_
  simp [hk]
  refine hK _ _ ?_
  clear hK K
  repeat with_reducible refine awp_assoc ?_
  refine awp_seq_k fun K hK=>?_
  refine awp_condT rfl (by simp) ?_
  refine awp_skip ?_
  refine hK _ _ ?_
  clear hK K
  refine awp_seq_k fun KB hKB=>?_
  refine awp_block ?_
  repeat with_reducible refine awp_assoc ?_
  refine awp_sr fun K hK=>?_
  simp [hx]
  refine hK _ _ ?_
  clear hK K
  refine awp_block ?_
  refine awp_up x.supers.length (fun j=>Env.ofL [(1,.ref (nid H.next 0) 0),(2,boolV false),(3,.slice (L.map Dat.cells) none),(6,intV k),(7,intV j)]) (fun j=>HL H [.cells [.slice (ds.map Dat.cells) none,.slice (cs.map ClsD.cells) none,.slice (is.map InstD.cells) none]]) (fun j=>(x.supers.take j).any nC=false) (weak_HL hcl rfl (by simp) (by simp)) (by simp) (fun j hj hvj=>?_) (fun hvj=>?_)
  ·obtain ⟨s,hs⟩:∃ s,x.supers[j]?=some s:=⟨_,List.getElem?_eq_getElem hj⟩
   have hbs:=any_at (p:=nC) hs
   have hss:=miss (p:=nC) hs hvj
   have hc:=hFC s
   have hcn:=hcs s
   repeat with_reducible refine awp_assoc ?_
   refine awp_sr fun K hK=>?_
   simp [hj,hx]
   refine hK _ _ ?_
   clear hK K
   repeat with_reducible refine awp_assoc ?_
   refine awp_seq_k fun K hK=>?_
   refine awp_condT rfl (by simp) ?_
   refine awp_skip ?_
   refine hK _ _ ?_
   clear hK K
   refine awp_seq_k fun KC hKC=>?_
   refine awp_block ?_
   have hF5:∀ i,i≠1→¬ nid H.next i=nid H.next 1:=fun i h=>by unfold nid;omega
   rcases hcv:cV s with ⟨⟨cn,csu,cop⟩,cb⟩
   simp only [hcv] at hc hcn
   have hfa:fillAt (nid H.next 1) [strV ByteArray.empty,.v (.slice none 0 0),.v (.slice none 0 0)] (HL H [.cells [.slice (ds.map Dat.cells) none,.slice (cs.map ClsD.cells) none,.slice (is.map InstD.cells) none],.hole])=HL H [.cells [.slice (ds.map Dat.cells) none,.slice (cs.map ClsD.cells) none,.slice (is.map InstD.cells) none],.cells [strV ByteArray.empty,.v (.slice none 0 0),.v (.slice none 0 0)]]:=by simp [fillAt]
   repeat with_reducible refine awp_assoc ?_
   refine awp_sdf 1 15 (fillAt (nid H.next 1) [strV ByteArray.empty,.v (.slice none 0 0),.v (.slice none 0 0)]) [16] [[],[],[0,1],[0,1],[0,1,2,3],[0,1],[0,1],[0,1,2],[0,1,2,3,4,5,6,7],[0,1,2,3,4],[0,1,2,3,4,5],[2,3,4,5,6],[2,3,4,5,6,7,8],[0,2,3,4,5,6,7,8,9],[0,2,3,4,5,6,7,8,9,13],[0,1,2,3,4,5,6,7,8,9,10,11,12,13,14],[14],[]] (by kernel_rfl) (by rfl) (by rfl) fun K hK=>?_
   simp only [holes,alloc_HL,List.cons_append,List.nil_append]
   refine fLex_pre (nid H.next 1) 6 (fun G i h=>fillAt_off G i h) (by rfl) fun K2 hK2=>?_
   simp [oOps,offs,AV.off,Op.operands,Call.operands,regM,litOp,isReg,isLit,noTok,hx,hF5]
   refine hK2 _ ?_
   clear hK2 K2
   refine fLex_pre (nid H.next 1) 5 (fun G i h=>fillAt_off G i h) (by rfl) fun K2 hK2=>?_
   simp [oOps,offs,AV.off,Op.operands,Call.operands,regM,litOp,isReg,isLit,noTok,hs,hF5]
   refine hK2 _ ?_
   clear hK2 K2
   refine fLex_call0 (hc _) (hc _) rfl rfl rfl rfl rfl (by simp) ?_
   refine fLex_pre (nid H.next 1) 3 (fun G i h=>fillAt_off G i h) (by rfl) fun K2 hK2=>?_
   simp [oOps,offs,AV.off,Op.operands,Call.operands,regM,litOp,isReg,isLit,noTok,hF5]
   refine hK2 _ ?_
   clear hK2 K2
   refine fLex_self (v:=.ref (nid H.next 1) 0) rfl rfl (det_late rfl rfl rfl (by simp;rfl) rfl (by simp)) (by simp) ?_
   refine fLex_effA rfl rfl rfl rfl rfl rfl fun K2 hK2=>?_
   simp [hfa]
   refine hK2 _ _ (by simp [fillAt]) (by simp [unord]) ?_
   clear hK2 K2
   refine fLex_pre (nid H.next 1) 1 (fun G i h=>fillAt_off G i h) (by rfl) fun K2 hK2=>?_
   simp [oOps,offs,AV.off,Op.operands,Call.operands,regM,litOp,isReg,isLit,noTok]
   refine hK2 _ ?_
   clear hK2 K2
   refine fLex_end ?_
   simp [fillAt]
   refine hK _ _ ?_
   clear hK K
   repeat with_reducible refine awp_assoc ?_
   refine awp_sr fun K hK=>?_
   simp
   refine hK _ _ ?_
   clear hK K
   cases hb:nC s
   ·refine awp_condF rfl (by simp [hcn,hb]) ?_
    refine awp_skip ?_
    refine hKC _ _ ?_
    clear hKC
    refine awp_region ?_
    simp [wrap_succ (show j < 4611686018427387904 by omega)]
    refine ⟨?_,weak_HL hcl rfl (by simp) (by simp)⟩
    simpa using hss hb
   ·refine awp_condT rfl (by simp [hcn,hb]) ?_
    repeat with_reducible refine awp_assoc ?_
    refine awp_sr fun K hK=>?_
    simp
    refine hK _ _ ?_
    clear hK K
    rw [e0,hbx (hbs hb)]
    simp [reset_all hcl]
  rw [List.take_length] at hvj
  repeat with_reducible refine awp_assoc ?_
  refine awp_sr fun K hK=>?_
  simp [hx]
  refine hK _ _ ?_
  clear hK K
  repeat with_reducible refine awp_assoc ?_
  refine awp_seq_k fun K hK=>?_
  refine awp_condF rfl (by simp) ?_
  refine awp_exit ?_
  simp
  refine hKB _ _ ?_
  clear hKB
  refine awp_region ?_
  simp [wrap_succ (show k < 4611686018427387904 by omega)]
  exact ⟨by simpa using hms hvj,weak_HL hcl rfl (by simp) (by simp)⟩
 rw [List.take_length] at hvk
 rw [hvk,Bool.false_or] at e0
 repeat with_reducible refine awp_assoc ?_
 refine awp_sr fun K hK=>?_
 simp
 refine hK _ _ ?_
 clear hK K
 repeat with_reducible refine awp_assoc ?_
 refine awp_seq_k fun K hK=>?_
 refine awp_condF rfl (by simp) ?_
 refine awp_exit ?_
 simp
 clear hK K
 refine hK _ _ ?_
 clear hK K
 repeat with_reducible refine awp_assoc ?_
 refine awp_sr fun K hK=>?_
 simp
 refine hK _ _ ?_
 clear hK K
 repeat with_reducible refine awp_assoc ?_
 refine awp_seq_k fun K hK=>?_
 refine awp_block ?_
 refine awp_up is.length (fun k=>Env.ofL [(1,.ref (nid H.next 0) 0),(2,boolV false),(3,.slice (L.map Dat.cells) none),(10,intV k)]) (fun k=>HL H [.cells [.slice (ds.map Dat.cells) none,.slice (cs.map ClsD.cells) none,.slice (is.map InstD.cells) none]]) (fun k=>(is.take k).any iN=false) (weak_HL hcl rfl (by simp) (by simp)) (by simp) (fun k hk hvk=>?_) (fun hvk=>?_)
 ·obtain ⟨x,hx⟩:∃ x,is[k]?=some x:=⟨_,List.getElem?_eq_getElem hk⟩
  rename (is.take k).any iN=false=>hvi
  have g8:=h8 x (List.mem_of_getElem? hx)
  have hbx:=any_at (p:=iN) hx
  have hms:=miss (p:=iN) hx hvi
  have hix:=hin x
  have hnx:=hnf x.data
  have hc:=hFC x.cls
  have hcn:=hcs x.cls
  have hfx:=hfi x.data
  generalize nm x.data=y at hix hnx
  generalize fI x.data=fx at hnx hfx
  rcases hcv:cV x.cls with ⟨⟨cn,csu,cop⟩,cb⟩
  simp only [hcv] at hc hcn
  subst hcn
  repeat with_reducible refine awp_assoc ?_
  refine awp_sr fun K hK=>?_
  simp [hk]
  refine hK _ _ ?_
  clear hK K
  repeat with_reducible refine awp_assoc ?_
  refine awp_seq_k fun K hK=>?_
  refine awp_condT rfl (by simp) ?_
  refine awp_skip ?_
  refine hK _ _ ?_
  clear hK K
  refine awp_seq_k fun KB hKB=>?_
  refine awp_block ?_
  repeat with_reducible refine awp_assoc ?_
  refine awp_sr fun K hK=>?_
  simp [hx]
  refine hK _ _ ?_
  clear hK K
  repeat with_reducible refine awp_assoc ?_
  refine awp_sr fun K hK=>?_
  refine aOps_split 4 fun K hK=>?_
  simp
  refine hK _ _ ?_
  clear hK K
  refine aOps_call (hc _) (by first | rfl | simp) rfl rfl (by first | (simp;done) | rfl) ?_
  simp
  refine hK _ _ ?_
  clear hK K
  repeat with_reducible refine awp_assoc ?_
  refine awp_sr fun K hK=>?_
  suffices hE:K (Env.ofL [(0,.undef),(1,.ref (nid H.next 0) 0),(2,boolV false),(3,.slice (L.map Dat.cells) none),(4,.undef),(5,.undef),(6,.undef),(7,.undef),(9,.undef),(10,intV k),(11,.ref (nid H.next 1) 0),(13,boolV (!nC x.cls)),(14,.undef),(16,.undef),(24,.undef),(33,.undef),(38,.undef),(49,.undef),(68,.undef),(73,boolV true),(102,boolV (nC x.cls || !y.2)),(107,.undef),(123,.undef)]) (HL H [.cells [.slice (ds.map Dat.cells) none,.slice (cs.map ClsD.cells) none,.slice (is.map InstD.cells) none],.cells [strV x.cls,strV x.data,.slice (x.preds.map PredD.cells) none,.v (.slice x.ra x.rl x.rc)],.cells [strV cn,strs csu none,.slice (cop.map SigD.cells) none]]) by
   clear hK
   cases hb:nC x.cls
   rotate_left
   ·rw [hb] at hE
    refine aOps_split 6 fun K hK=>?_
    simp
    refine hK _ _ ?_
    clear hK K
    refine aOps_split 6 fun K hK=>?_
    simp
    refine hK _ _ ?_
    clear hK K
    simp
    exact hE
   rw [hb] at hE
   rcases hnx with ⟨hn0,hn1⟩ | ⟨hn0,hn1,hn2⟩ | ⟨hn0,i,y',hn1,hn2,hn3⟩
   ·have h1':=eq_true (show x.data=⟨#[73,110,116]⟩ from hn0)
    subst hn1
    refine aOps_split 6 fun K hK=>?_
    simp [h1']
    refine hK _ _ ?_
    clear hK K
    refine aOps_split 6 fun K hK=>?_
    simp [h1']
    refine hK _ _ ?_
    clear hK K
    simp
    exact hE
   ·have h1':=eq_false (show ¬ x.data=⟨#[73,110,116]⟩ from hn0)
    subst hn2
    refine aOps_split 6 fun K hK=>?_
    simp [h1']
    refine hK _ _ ?_
    clear hK K
    refine aOps_split 4 fun K hK=>?_
    simp [h1']
    refine hK _ _ ?_
    clear hK K
    refine aOps_call (hfx _) (by first | rfl | simp) rfl rfl (by first | (simp;done) | rfl) ?_
    simp [hn1]
    exact hE
   ·have h1':=eq_false (show ¬ x.data=⟨#[73,110,116]⟩ from hn0)
    subst hn3
    subst hn1
    refine aOps_split 6 fun K hK=>?_
    simp [h1']
    refine hK _ _ ?_
    clear hK K
    refine aOps_split 4 fun K hK=>?_
    simp [h1']
    refine hK _ _ ?_
    clear hK K
    refine aOps_call (hfx _) (by first | rfl | simp) rfl rfl (by first | (simp;done) | rfl) ?_
    have hi0:¬ ((i:Int) < 0):=by omega
    simp [hi0]
    exact hE
  refine hK _ _ ?_
  clear hK K
  clear hnx hfx
  have hix2:iN x=((nC x.cls || !y.2) || x.preds.any (fun p=>nC p.cls)):=by rw [hix,Bool.or_comm (!y.2)]
  generalize (nC x.cls || !y.2)=bd at hix2 ⊢
  cases bd with
  | true =>
   repeat with_reducible refine awp_assoc ?_
   refine awp_seq_k fun K hK=>?_
   refine awp_condT rfl (by simp) ?_
   repeat with_reducible refine awp_assoc ?_
   refine awp_sr fun K hK=>?_
   simp
   refine hK _ _ ?_
   clear hK K
   rw [e0,hbx (by rw [hix2];rfl)]
   simp [reset_all hcl]
  | false =>
  rw [Bool.false_or] at hix2
  repeat with_reducible refine awp_assoc ?_
  refine awp_seq_k fun K hK=>?_
  refine awp_condF rfl (by simp) ?_
  refine awp_skip ?_
  refine hK _ _ ?_
  clear hK K
  repeat with_reducible refine awp_assoc ?_
  refine awp_sr fun K hK=>?_
  simp
  refine hK _ _ ?_
  clear hK K
  refine awp_block ?_
  refine awp_up x.preds.length (fun j=>Env.ofL [(1,.ref (nid H.next 0) 0),(2,boolV false),(3,.slice (L.map Dat.cells) none),(10,intV k),(11,.ref (nid H.next 1) 0),(14,intV j)]) (fun j=>HL H [.cells [.slice (ds.map Dat.cells) none,.slice (cs.map ClsD.cells) none,.slice (is.map InstD.cells) none],.cells [strV x.cls,strV x.data,.slice (x.preds.map PredD.cells) none,.v (.slice x.ra x.rl x.rc)],.cells [strV cn,strs csu none,.slice (cop.map SigD.cells) none]]) (fun j=>(x.preds.take j).any (fun p=>nC p.cls)=false) (weak_HL hcl rfl (by simp) (by simp)) (by simp) (fun j hj hvj=>?_) (fun hvj=>?_)
  ·obtain ⟨s,hs⟩:∃ s,x.preds[j]?=some s:=⟨_,List.getElem?_eq_getElem hj⟩
   have hbs:=any_at (p:=fun p:PredD=>nC p.cls) hs
   have hss:=miss (p:=fun p:PredD=>nC p.cls) hs hvj
   have hc2:=hFC s.cls
   have hcn2:=hcs s.cls
   rcases hcv2:cV s.cls with ⟨⟨cn2,csu2,cop2⟩,cb2⟩
   simp only [hcv2] at hc2 hcn2
   subst hcn2
   repeat with_reducible refine awp_assoc ?_
   refine awp_sr fun K hK=>?_
   simp [hj]
   refine hK _ _ ?_
   clear hK K
   repeat with_reducible refine awp_assoc ?_
   refine awp_seq_k fun K hK=>?_
   refine awp_condT rfl (by simp) ?_
   refine awp_skip ?_
   refine hK _ _ ?_
   clear hK K
   refine awp_seq_k fun KC hKC=>?_
   refine awp_block ?_
   have hF5:∀ i,i≠3→¬ nid H.next i=nid H.next 3:=fun i h=>by unfold nid;omega
   have hfa:fillAt (nid H.next 3) [strV ByteArray.empty,.v (.slice none 0 0),.v (.slice none 0 0)] (HL H [.cells [.slice (ds.map Dat.cells) none,.slice (cs.map ClsD.cells) none,.slice (is.map InstD.cells) none],.cells [strV x.cls,strV x.data,.slice (x.preds.map PredD.cells) none,.v (.slice x.ra x.rl x.rc)],.cells [strV cn,strs csu none,.slice (cop.map SigD.cells) none],.hole])=HL H [.cells [.slice (ds.map Dat.cells) none,.slice (cs.map ClsD.cells) none,.slice (is.map InstD.cells) none],.cells [strV x.cls,strV x.data,.slice (x.preds.map PredD.cells) none,.v (.slice x.ra x.rl x.rc)],.cells [strV cn,strs csu none,.slice (cop.map SigD.cells) none],.cells [strV ByteArray.empty,.v (.slice none 0 0),.v (.slice none 0 0)]]:=by simp [fillAt]
   repeat with_reducible refine awp_assoc ?_
   refine awp_sdf 1 12 (fillAt (nid H.next 3) [strV ByteArray.empty,.v (.slice none 0 0),.v (.slice none 0 0)]) [13] [[],[],[0,1],[0,1],[0,1,2,3],[0,1],[0,1],[0,1,2],[2,3,4],[2,3,4,5],[0,2,3,4,5,6],[0,2,3,4,5,6,10],[0,1,2,3,4,5,6,7,8,9,10,11],[11],[]] (by kernel_rfl) (by rfl) (by rfl) fun K hK=>?_
   simp only [holes,alloc_HL,List.cons_append,List.nil_append]
   refine fLex_pre (nid H.next 3) 4 (fun G i h=>fillAt_off G i h) (by rfl) fun K2 hK2=>?_
   simp [oOps,offs,AV.off,Op.operands,Call.operands,regM,litOp,isReg,isLit,noTok,hF5]
   refine hK2 _ ?_
   clear hK2 K2
   refine fLex_pre (nid H.next 3) 4 (fun G i h=>fillAt_off G i h) (by rfl) fun K2 hK2=>?_
   simp [oOps,offs,AV.off,Op.operands,Call.operands,regM,litOp,isReg,isLit,noTok,hs,hF5]
   refine hK2 _ ?_
   clear hK2 K2
   refine fLex_call0 (hc2 _) (hc2 _) rfl rfl rfl rfl rfl (by simp) ?_
   refine fLex_pre (nid H.next 3) 3 (fun G i h=>fillAt_off G i h) (by rfl) fun K2 hK2=>?_
   simp [oOps,offs,AV.off,Op.operands,Call.operands,regM,litOp,isReg,isLit,noTok,hF5]
   refine hK2 _ ?_
   clear hK2 K2
   refine fLex_self (v:=.ref (nid H.next 3) 0) rfl rfl (det_late rfl rfl rfl (by simp;rfl) rfl (by simp)) (by simp) ?_
   refine fLex_effA rfl rfl rfl rfl rfl rfl fun K2 hK2=>?_
   simp [hfa]
   refine hK2 _ _ (by simp [fillAt]) (by simp [unord]) ?_
   clear hK2 K2
   refine fLex_pre (nid H.next 3) 1 (fun G i h=>fillAt_off G i h) (by rfl) fun K2 hK2=>?_
   simp [oOps,offs,AV.off,Op.operands,Call.operands,regM,litOp,isReg,isLit,noTok]
   refine hK2 _ ?_
   clear hK2 K2
   refine fLex_end ?_
   simp [fillAt]
   refine hK _ _ ?_
   clear hK K
   repeat with_reducible refine awp_assoc ?_
   refine awp_sr fun K hK=>?_
   simp
   refine hK _ _ ?_
   clear hK K
   cases hb:nC s.cls
   ·refine awp_condF rfl (by simp [hb]) ?_
    refine awp_skip ?_
    refine hKC _ _ ?_
    clear hKC
    refine awp_region ?_
    simp [wrap_succ (show j < 4611686018427387904 by omega)]
    refine ⟨?_,weak_HL hcl rfl (by simp) (by simp)⟩
    simpa using hss hb
   ·refine awp_condT rfl (by simp [hb]) ?_
    repeat with_reducible refine awp_assoc ?_
    refine awp_sr fun K hK=>?_
    simp
    refine hK _ _ ?_
    clear hK K
    rw [e0,hbx (by rw [hix2];exact hbs hb)]
    simp [reset_all hcl]
  rw [List.take_length] at hvj
  repeat with_reducible refine awp_assoc ?_
  refine awp_sr fun K hK=>?_
  simp
  refine hK _ _ ?_
  clear hK K
  repeat with_reducible refine awp_assoc ?_
  refine awp_seq_k fun K hK=>?_
  refine awp_condF rfl (by simp) ?_
  refine awp_exit ?_
  simp
  refine hKB _ _ ?_
  clear hKB
  refine awp_region ?_
  simp [wrap_succ (show k < 4611686018427387904 by omega)]
  exact ⟨by simpa using hms (by rw [hix2];exact hvj),weak_HL hcl rfl (by simp) (by simp)⟩
 rename (is.take is.length).any iN=false=>hvi
 rw [List.take_length] at hvi
 rw [hvi] at e0
 repeat with_reducible refine awp_assoc ?_
 refine awp_sr fun K hK=>?_
 simp
 refine hK _ _ ?_
 clear hK K
 repeat with_reducible refine awp_assoc ?_
 refine awp_seq_k fun K hK=>?_
 refine awp_condF rfl (by simp) ?_
 refine awp_exit ?_
 simp
 clear hK K
 refine hK _ _ ?_
 clear hK K
 repeat with_reducible refine awp_assoc ?_
 refine awp_sr fun K hK=>?_
 simp
 refine hK _ _ ?_
 clear hK K
 rw [e0]
 simp [reset_all hcl]
def rConFit (x:Dat) (c:ConD):Bool:=(namesL c.args).any fun n=>!memS n x.vars
def rDatFit (x:Dat):Bool:=x.cons.any (rConFit x)
def rFitB (d:DeclsD):Bool:=(writtenD d).any (fun t=>t.nodes.any (badA (allD d))) || d.datas.any rDatFit
set_option maxHeartbeats 4000000 in
theorem rMisfit_c (d:DeclsD) (hr:RawD d) (hsz:d.datas.length < 1000000000000) (hwz:(writtenD d).length < 1000000000000) (hwt:∀ t∈writtenD d,t.cnt < 1000000000000) (hng:∀ x∈d.datas,∀ c∈x.cons,(∀ t∈c.args,t.good=true)∧(nodesL c.args).length < 1099511627776∧(namesL c.args).length < 4611686018427387904) (H:AHeap):ACalls Tryz.prog 52 [d.enc] H (boolV (rFitB d)) H:=by
 have h1:=hr.datas
 have h4:=hr.vars
 have h5:=hr.cons
 have hat:=rWritten_c d hr hwz
 have hal:=rAll_c d hsz
 have hL:=bound_all hsz
 have hT:=fun t ht=>rIsApplied_c (allD d) hL t (by have:=hwt t ht;omega)
 have e0:rFitB d=((writtenD d).any (fun t=>t.nodes.any (badA (allD d))) || d.datas.any rDatFit):=rfl
 have e1:∀ x,rDatFit x=x.cons.any (rConFit x):=fun _=>rfl
 generalize rFitB d=nb at e0 ⊢
 generalize badA (allD d)=bT at *
 have hwl:(writtenD d).length < 4611686018427387904:=by omega
 generalize writtenD d=W at *
 generalize rDatFit=rD at *
 generalize allD d=L at *
 clear hr hsz hwz hwt
 obtain ⟨ds,cs,is⟩:=d
 simp only at h1 h4 h5 e0 hat hal hng
 simp only [DeclsD.enc,DeclsD.cells] at hat hal
 refine acalls_walk (fun _=>.imm) [0,1,2,3,4,5,6,7,8,9,17,26,31,42,59,73] Tryz.mixed Tryz.func52 rfl rfl rfl (by decide) (fun hcl hlow=>?_)
 repeat with_reducible refine awp_assoc ?_
 refine awp_sr fun K hK=>?_
 simp
 refine hK _ _ ?_
 clear hK K
 repeat with_reducible refine awp_assoc ?_
 refine awp_sdc [] [[],[],[0,1],[],[],[]] (by kernel_rfl) (by rfl) fun K hK=>?_
 refine aCalm_pre 1 (by rfl) fun K hK=>?_
 simp
 refine hK _ _ ?_
 clear hK K
 refine aCalm_call0 (hal _) (by first | rfl | simp) rfl rfl rfl (by first | (simp;done) | rfl) ?_
 refine aCalm_pre 1 (by rfl) fun K hK=>?_
 simp
 refine hK _ _ ?_
 clear hK K
 refine aCalm_call0 (hat _) (by first | rfl | simp) rfl rfl rfl (by first | (simp;done) | rfl) ?_
 refine aCalm_pre 2 (by rfl) fun K hK=>?_
 simp
 refine hK _ _ ?_
 clear hK K
 refine aCalm_end ?_
 simp
 refine hK _ _ ?_
 clear hK K
 repeat with_reducible refine awp_assoc ?_
 refine awp_sr fun K hK=>?_
 simp
 refine hK _ _ ?_
 clear hK K
 repeat with_reducible refine awp_assoc ?_
 refine awp_seq_k fun K hK=>?_
 refine awp_block ?_
 refine awp_up W.length (fun k=>Env.ofL [(1,.ref (nid H.next 0) 0),(2,boolV false),(3,.slice (L.map Dat.cells) none),(4,.slice (W.map Ty.cells) none),(5,intV k)]) (fun k=>HL H [.cells [.slice (ds.map Dat.cells) none,.slice (cs.map ClsD.cells) none,.slice (is.map InstD.cells) none]]) (fun k=>(W.take k).any (fun t=>t.nodes.any bT)=false) (weak_HL hcl rfl (by simp) (by simp)) (by simp) (fun k hk hvk=>?_) (fun hvk=>?_)
 ·obtain ⟨x,hx⟩:∃ x,W[k]?=some x:=⟨_,List.getElem?_eq_getElem hk⟩
  have hc:=hT x (List.mem_of_getElem? hx)
  have hms:=miss (p:=fun t:Ty=>t.nodes.any bT) hx hvk
  have hbx:=any_at (p:=fun t:Ty=>t.nodes.any bT) hx
  have hxe:x.cells=[strV x.name,.slice (x.args.map Ty.cells) none]:=by obtain ⟨_,_⟩:=x;simp [Ty.cells,cellsL_eq,Ty.name,Ty.args]
  simp only [Ty.enc,hxe] at hc
  repeat with_reducible refine awp_assoc ?_
  refine awp_sr fun K hK=>?_
  simp [hk]
  refine hK _ _ ?_
  clear hK K
  repeat with_reducible refine awp_assoc ?_
  refine awp_seq_k fun K hK=>?_
  refine awp_condT rfl (by simp) ?_
  refine awp_skip ?_
  refine hK _ _ ?_
  clear hK K
  refine awp_seq_k fun KB hKB=>?_
  refine awp_block ?_
  repeat with_reducible refine awp_assoc ?_
  refine awp_sr fun K hK=>?_
  refine aOps_split 5 fun K hK=>?_
  simp [hx,hxe]
  refine hK _ _ ?_
  clear hK K
  refine aOps_call (hc _) (by first | rfl | simp) rfl rfl (by first | (simp;done) | rfl) ?_
  simp [hx,hxe]
  refine hK _ _ ?_
  clear hK K
  cases hb:x.nodes.any bT
  ·refine awp_condF rfl (by simp [hb]) ?_
   refine awp_skip ?_
   refine hKB _ _ ?_
   clear hKB
   refine awp_region ?_
   simp [wrap_succ (show k < 4611686018427387904 by omega)]
   refine ⟨?_,weak_HL hcl rfl (by simp) (by simp)⟩
   simpa using hms hb
  ·refine awp_condT rfl (by simp [hb]) ?_
   repeat with_reducible refine awp_assoc ?_
   refine awp_sr fun K hK=>?_
   simp
   refine hK _ _ ?_
   clear hK K
   rw [e0,hbx hb]
   simp [reset_all hcl]
 rw [List.take_length] at hvk
 rename W.any _=false=>hW
 repeat with_reducible refine awp_assoc ?_
 refine awp_sr fun K hK=>?_
 simp
 refine hK _ _ ?_
 clear hK K
 repeat with_reducible refine awp_assoc ?_
 refine awp_seq_k fun K hK=>?_
 refine awp_condF rfl (by simp) ?_
 refine awp_exit ?_
 simp
 clear hK K
 refine hK _ _ ?_
 clear hK K
 repeat with_reducible refine awp_assoc ?_
 refine awp_sr fun K hK=>?_
 simp
 refine hK _ _ ?_
 clear hK K
 rw [hW,Bool.false_or] at e0
 repeat with_reducible refine awp_assoc ?_
 refine awp_seq_k fun K hK=>?_
 refine awp_block ?_
 refine awp_up ds.length (fun k=>Env.ofL [(1,.ref (nid H.next 0) 0),(2,boolV false),(6,intV k)]) (fun k=>HL H [.cells [.slice (ds.map Dat.cells) none,.slice (cs.map ClsD.cells) none,.slice (is.map InstD.cells) none]]) (fun k=>(ds.take k).any rD=false) (weak_HL hcl rfl (by simp) (by simp)) (by simp) (fun k hk hvk=>?_) (fun hvk=>?_)
 ·obtain ⟨x,hx⟩:∃ x,ds[k]?=some x:=⟨_,List.getElem?_eq_getElem hk⟩
  have hxm:=List.mem_of_getElem? hx
  have g4:=h4 x hxm
  have g5:=h5 x hxm
  have hbx:=any_at (p:=rD) hx
  have hms:=miss (p:=rD) hx hvk
  have ex:=e1 x
  repeat with_reducible refine awp_assoc ?_
  refine awp_sr fun K hK=>?_
  simp [hk]
  refine hK _ _ ?_
  clear hK K
  repeat with_reducible refine awp_assoc ?_
  refine awp_seq_k fun K hK=>?_
  refine awp_condT rfl (by simp) ?_
  refine awp_skip ?_
  refine hK _ _ ?_
  clear hK K
  refine awp_seq_k fun KB hKB=>?_
  refine awp_block ?_
  repeat with_reducible refine awp_assoc ?_
  refine awp_sr fun K hK=>?_
  simp [hx]
  refine hK _ _ ?_
  clear hK K
  refine awp_hide fun Q hQ=>?_
  refine awp_block ?_
  refine awp_up x.cons.length (fun j=>Env.ofL [(1,.ref (nid H.next 0) 0),(2,boolV false),(6,intV k),(7,intV j)]) (fun j=>HL H [.cells [.slice (ds.map Dat.cells) none,.slice (cs.map ClsD.cells) none,.slice (is.map InstD.cells) none]]) (fun j=>(x.cons.take j).any (rConFit x)=false) (weak_HL hcl rfl (by simp) (by simp)) (by simp) (fun j hj hvj=>?_) (fun hvj=>?_)
  ·obtain ⟨c,hc⟩:∃ c,x.cons[j]?=some c:=⟨_,List.getElem?_eq_getElem hj⟩
   have hng':=hng x hxm c (List.mem_of_getElem? hc)
   have hbc:=any_at (p:=rConFit x) hc
   have hmc:=miss (p:=rConFit x) hc hvj
   have hna:=namesAll_c c.args hng'.1 hng'.2.1
   have hnl:=hng'.2.2
   have ec:rConFit x c=(namesL c.args).any fun n=>!memS n x.vars:=rfl
   generalize namesL c.args=ns at hna hnl ec
   repeat with_reducible refine awp_assoc ?_
   refine awp_sr fun K hK=>?_
   simp [hj,hx]
   refine hK _ _ ?_
   clear hK K
   repeat with_reducible refine awp_assoc ?_
   refine awp_seq_k fun K hK=>?_
   refine awp_condT rfl (by simp) ?_
   refine awp_skip ?_
   refine hK _ _ ?_
   clear hK K
   refine awp_seq_k fun KC hKC=>?_
   refine awp_block ?_
   repeat with_reducible refine awp_assoc ?_
   refine awp_sr fun K hK=>?_
   refine aOps_split 6 fun K hK=>?_
   simp [hx]
   refine hK _ _ ?_
   clear hK K
   refine aOps_split 4 fun K hK=>?_
   simp [hc]
   refine hK _ _ ?_
   clear hK K
   refine aOps_call (hna _) (by first | rfl | simp) rfl rfl (by first | (simp;done) | rfl) ?_
   simp
   refine hK _ _ ?_
   clear hK K
   repeat with_reducible refine awp_assoc ?_
   refine awp_sr fun K hK=>?_
   simp
   refine hK _ _ ?_
   clear hK K
   refine awp_block ?_
   refine awp_up ns.length (fun m=>Env.ofL [(1,.ref (nid H.next 0) 0),(2,boolV false),(6,intV k),(7,intV j),(8,strs ns none),(9,intV m)]) (fun m=>HL H [.cells [.slice (ds.map Dat.cells) none,.slice (cs.map ClsD.cells) none,.slice (is.map InstD.cells) none]]) (fun m=>(ns.take m).any (fun n=>!memS n x.vars)=false) (weak_HL hcl rfl (by simp) (by simp)) (by simp) (fun m hm hvm=>?_) (fun hvm=>?_)
   ·obtain ⟨n,hn⟩:∃ n,ns[m]?=some n:=⟨_,List.getElem?_eq_getElem hm⟩
    have hbn:=any_at (p:=fun n=>!memS n x.vars) hn
    have hmn:=miss (p:=fun n=>!memS n x.vars) hn hvm
    have hpl:=rPlace_c x.vars g4 n
    have hge:=placeI_ge x.vars n
    repeat with_reducible refine awp_assoc ?_
    refine awp_sr fun K hK=>?_
    simp [hm]
    refine hK _ _ ?_
    clear hK K
    repeat with_reducible refine awp_assoc ?_
    refine awp_seq_k fun K hK=>?_
    refine awp_condT rfl (by simp) ?_
    refine awp_skip ?_
    refine hK _ _ ?_
    clear hK K
    refine awp_seq_k fun KD hKD=>?_
    refine awp_block ?_
    repeat with_reducible refine awp_assoc ?_
    refine awp_sdc [] [[],[],[0,1],[],[],[0],[0,1,2,3,4,5],[0,1,2,3,4,5,6],[0,1,2,3,4,5],[0,1,2,3,4,5],[0,1,2],[0,1,2,3,6,7]] (by kernel_rfl) (by rfl) fun K hK=>?_
    refine aCalm_pre 6 (by rfl) fun K hK=>?_
    simp [hx]
    refine hK _ _ ?_
    clear hK K
    refine aCalm_pre 4 (by rfl) fun K hK=>?_
    simp [hn]
    refine hK _ _ ?_
    clear hK K
    refine aCalm_call0 (hpl _) (by first | rfl | simp) rfl rfl rfl (by first | (simp;done) | rfl) ?_
    cases hb:memS n x.vars
    ·have hm':placeI x.vars n < 0:=by rw [hb] at hge;simpa using hge
     refine aCalm_pre 1 (by rfl) fun K hK=>?_
     simp [hm']
     refine hK _ _ ?_
     clear hK K
     refine aCalm_end ?_
     simp
     refine hK _ _ ?_
     clear hK K
     refine awp_condT rfl (by simp) ?_
     repeat with_reducible refine awp_assoc ?_
     refine awp_sr fun K hK=>?_
     simp
     refine hK _ _ ?_
     clear hK K
     refine hQ _ _ _ ?_
     rw [e0,hbx (by rw [ex];exact hbc (by rw [ec];exact hbn (by simp [hb])))]
     simp [reset_all hcl]
    ·have hm':¬ placeI x.vars n < 0:=by rw [hb] at hge;simpa using hge
     refine aCalm_pre 1 (by rfl) fun K hK=>?_
     simp [hm']
     refine hK _ _ ?_
     clear hK K
     refine aCalm_end ?_
     simp
     refine hK _ _ ?_
     clear hK K
     refine awp_condF rfl (by simp) ?_
     refine awp_skip ?_
     refine hKD _ _ ?_
     clear hKD
     refine awp_region ?_
     simp [wrap_succ (show m < 4611686018427387904 by omega)]
     refine ⟨?_,weak_HL hcl rfl (by simp) (by simp)⟩
     simpa using hmn (by simp [hb])
   rw [List.take_length] at hvm
   repeat with_reducible refine awp_assoc ?_
   refine awp_sr fun K hK=>?_
   simp
   refine hK _ _ ?_
   clear hK K
   repeat with_reducible refine awp_assoc ?_
   refine awp_seq_k fun K hK=>?_
   refine awp_condF rfl (by simp) ?_
   refine awp_exit ?_
   simp
   refine hKC _ _ ?_
   clear hKC
   refine awp_region ?_
   simp [wrap_succ (show j < 4611686018427387904 by omega)]
   exact ⟨by simpa using hmc (by rw [ec];exact hvm),weak_HL hcl rfl (by simp) (by simp)⟩
  rw [List.take_length] at hvj
  repeat with_reducible refine awp_assoc ?_
  refine awp_sr fun K hK=>?_
  simp [hx]
  refine hK _ _ ?_
  clear hK K
  repeat with_reducible refine awp_assoc ?_
  refine awp_seq_k fun K hK=>?_
  refine awp_condF rfl (by simp) ?_
  refine awp_exit ?_
  simp
  refine hQ _ _ _ ?_
  refine hKB _ _ ?_
  clear hKB
  refine awp_region ?_
  simp [wrap_succ (show k < 4611686018427387904 by omega)]
  exact ⟨by simpa using hms (by rw [ex];exact hvj),weak_HL hcl rfl (by simp) (by simp)⟩
 rw [List.take_length] at hvk
 rw [hvk] at e0
 repeat with_reducible refine awp_assoc ?_
 refine awp_sr fun K hK=>?_
 simp
 refine hK _ _ ?_
 clear hK K
 repeat with_reducible refine awp_assoc ?_
 refine awp_seq_k fun K hK=>?_
 refine awp_condF rfl (by simp) ?_
 refine awp_exit ?_
 simp
 clear hK K
 refine hK _ _ ?_
 clear hK K
 repeat with_reducible refine awp_assoc ?_
 refine awp_sr fun K hK=>?_
 simp
 refine hK _ _ ?_
 clear hK K
 rw [e0]
 simp [reset_all hcl]
end Go.Proofs.YtlhoigpidpokfaaGreat
