/- The reference: the types written, what stands twice. -/
import Derived.Test.YtlhoigpidpokfaaGreatMD5
import Derived.Test.YtlhoigpidpokfaaGreatME2
import Derived.Test.YtlhoigpidpokfaaGreatME
set_option linter.unusedVariables false
set_option linter.unusedSimpArgs false
namespace Go.Proofs.YtlhoigpidpokfaaGreat
open Go Go.Abs Go.Proofs
set_option maxRecDepth 20000
attribute [local simp] aOps wantedA aStep aop aLoad aStore aBin aUn aFieldAddr aField aIndexAddr aIndex aLen aBuild aFill aAlloc aAppend aAppendOwn aMin aMax aBuildSlice litRows newRows isMut isOwn isNilS nilsW bytesR tokW tokAV tokL ret readC splice aeval isLit isLate isCut aCut AV.celled AV.one AV.ofValue Value.oneCell' Value.cells intOp strOp get_nid upd_nid awp aEnd aResults aResult Det unord isCall isNext
attribute [local simp] low_take low_strs low_comp low_tcomp wkEs_refl' WkBs WkEnv WkB WkL WkE WkO ABlock.low lowO lowL lowR AV.low cellsL_eq Ty.low low_map Ty.cells_length Ty.cells_one
attribute [local simp] ConD.cells Dat.cells PredD.cells SigD.cells ClsD.cells InstD.cells DeclsD.cells DeclsD.enc Dat.enc low_datL low_conL low_predL low_sigL low_clsL low_instL
set_option maxHeartbeats 2000000 in
theorem rWritten_c (d:DeclsD) (hr:RawD d) (hsz:(writtenD d).length < 1000000000000) (H:AHeap):ACalls Tryz.prog 49 [d.enc] H (.slice ((writtenD d).map Ty.cells) none) H:=by
 have h1:=hr.datas
 have h2:=hr.classes
 have h5:=hr.cons
 have h7:=hr.ops
 have e0:writtenD d=d.datas.flatMap datTys++d.classes.flatMap clsTys:=rfl
 generalize writtenD d=W at e0 hsz ⊢
 clear hr
 obtain ⟨ds,cs,is⟩:=d
 simp only at e0 h1 h2 h5 h7
 refine acalls_walk (fun t=>if t=3 then .nilv 2 else if t=67 then .lit else .imm) [0,1,2,3,4,5,6,7,12,23,42,53] Tryz.mixed Tryz.func49 rfl rfl rfl (by decide) (fun hcl hlow=>?_)
 repeat with_reducible refine awp_assoc ?_
 refine awp_sr fun K hK=>?_
 simp
 refine hK _ _ ?_
 clear hK K
 repeat with_reducible refine awp_assoc ?_
 refine awp_sr fun K hK=>?_
 simp
 refine hK _ _ ?_
 clear hK K
 repeat with_reducible refine awp_assoc ?_
 refine awp_sr fun K hK=>?_
 simp
 refine hK _ _ ?_
 clear hK K
 repeat with_reducible refine awp_assoc ?_
 refine awp_seq_k fun K hK=>?_
 refine awp_block ?_
 refine awp_up ds.length (fun k=>Env.ofL [(1,.ref (nid H.next 0) 0),(2,.v (.slice none 0 0)),(3,.slice (((ds.take k).flatMap datTys).map Ty.cells) (some (nid H.next 1))),(4,intV k)]) (fun k=>HL H [.cells [.slice (ds.map Dat.cells) none,.slice (cs.map ClsD.cells) none,.slice (is.map InstD.cells) none],.tok ((ds.take k).flatMap datTys).length 2 none]) (fun _=>True) (weak_HL hcl rfl (by simp [low_map]) (by simp [low_map])) (trivial) (fun k hk hvk=>?_) (fun hvk=>?_)
 ·obtain ⟨x,hx⟩:∃ x,ds[k]?=some x:=⟨_,List.getElem?_eq_getElem hk⟩
  have g5:=h5 x (List.mem_of_getElem? hx)
  have ew:W=(ds.take k).flatMap datTys++(datTys x++((ds.drop (k+1)).flatMap datTys++cs.flatMap clsTys)):=by rw [e0,fm_split hx];simp only [List.append_assoc]
  have en:(ds.take (k+1)).flatMap datTys=(ds.take k).flatMap datTys++x.cons.flatMap ConD.args:=fm_take hx
  rw [en]
  generalize (ds.take k).flatMap datTys=P at *
  repeat with_reducible refine awp_assoc ?_
  refine awp_sr fun K hK=>?_
  simp [hk]
  refine hK _ _ ?_
  clear hK K
  repeat with_reducible refine awp_assoc ?_
  refine awp_seq_k fun K hK=>?_
  refine awp_condT rfl (by simp) ?_
  refine awp_skip ?_
  refine hK _ _ ?_
  clear hK K
  refine awp_seq_k fun KB hKB=>?_
  refine awp_block ?_
  repeat with_reducible refine awp_assoc ?_
  refine awp_sr fun K hK=>?_
  simp [hx]
  refine hK _ _ ?_
  clear hK K
  refine awp_block ?_
  refine awp_up x.cons.length (fun j=>Env.ofL [(1,.ref (nid H.next 0) 0),(2,.v (.slice none 0 0)),(3,.slice ((P++(x.cons.take j).flatMap ConD.args).map Ty.cells) (some (nid H.next 1))),(4,intV k),(5,intV j)]) (fun j=>HL H [.cells [.slice (ds.map Dat.cells) none,.slice (cs.map ClsD.cells) none,.slice (is.map InstD.cells) none],.tok (P++(x.cons.take j).flatMap ConD.args).length 2 none]) (fun _=>True) (weak_HL hcl rfl (by simp [low_map]) (by simp [low_map])) (trivial) (fun j hj hvj=>?_) (fun hvj=>?_)
  ·obtain ⟨c,hc⟩:∃ c,x.cons[j]?=some c:=⟨_,List.getElem?_eq_getElem hj⟩
   have ew2:W=(P++(x.cons.take j).flatMap ConD.args)++(c.args++((x.cons.drop (j+1)).flatMap ConD.args++((ds.drop (k+1)).flatMap datTys++cs.flatMap clsTys))):=by rw [ew];unfold datTys;rw [fm_split hc];simp only [List.append_assoc]
   have hbd:(P++(x.cons.take j).flatMap ConD.args).length+c.args.length < 1000000000000:=by
    have:=congrArg List.length ew2
    simp only [List.length_append] at this ⊢
    omega
   rw [fm_take hc,←List.append_assoc]
   generalize P++(x.cons.take j).flatMap ConD.args=Q at hbd ⊢
   repeat with_reducible refine awp_assoc ?_
   refine awp_sr fun K hK=>?_
   simp [hj,hx]
   refine hK _ _ ?_
   clear hK K
   repeat with_reducible refine awp_assoc ?_
   refine awp_seq_k fun K hK=>?_
   refine awp_condT rfl (by simp) ?_
   refine awp_skip ?_
   refine hK _ _ ?_
   clear hK K
   refine awp_seq_k fun KC hKC=>?_
   refine awp_block ?_
   refine awp_region ?_
   refine aOps_split 6 fun K hK=>?_
   simp [hx]
   refine hK _ _ ?_
   clear hK K
   refine aOps_split 5 fun K hK=>?_
   simp [hc]
   refine hK _ _ ?_
   clear hK K
   by_cases hca:c.args=[]
   ·simp [hca]
    refine ⟨by omega,?_⟩
    refine hKC _ _ ?_
    clear hKC
    refine awp_region ?_
    simp [wrap_succ (show j < 4611686018427387904 by omega)]
    exact weak_HL hcl rfl (by simp [low_map,hca]) (by simp [low_map,hca])
   simp [hca]
   refine ⟨fun a _=>by obtain ⟨_,_⟩:=a;simp [Ty.cells],by omega,?_⟩
   refine hKC _ _ ?_
   clear hKC
   refine awp_region ?_
   simp [wrap_succ (show j < 4611686018427387904 by omega)]
   exact weak_HL hcl rfl (by simp [low_map]) (by simp [low_map])
  repeat with_reducible refine awp_assoc ?_
  refine awp_sr fun K hK=>?_
  simp [hx]
  refine hK _ _ ?_
  clear hK K
  repeat with_reducible refine awp_assoc ?_
  refine awp_seq_k fun K hK=>?_
  refine awp_condF rfl (by simp) ?_
  refine awp_exit ?_
  simp
  refine hKB _ _ ?_
  clear hKB
  refine awp_region ?_
  simp [wrap_succ (show k < 4611686018427387904 by omega)]
  exact weak_HL hcl rfl (by simp) (by simp [low_map])
 repeat with_reducible refine awp_assoc ?_
 refine awp_sr fun K hK=>?_
 simp
 refine hK _ _ ?_
 clear hK K
 repeat with_reducible refine awp_assoc ?_
 refine awp_seq_k fun K hK=>?_
 refine awp_condF rfl (by simp) ?_
 refine awp_exit ?_
 simp
 clear hK K
 refine hK _ _ ?_
 clear hK K
 repeat with_reducible refine awp_assoc ?_
 refine awp_sr fun K hK=>?_
 simp
 refine hK _ _ ?_
 clear hK K
 rw [←List.length_flatMap]
 generalize ds.flatMap datTys=P0 at *
 repeat with_reducible refine awp_assoc ?_
 refine awp_seq_k fun K hK=>?_
 refine awp_block ?_
 refine awp_up cs.length (fun k=>Env.ofL [(1,.ref (nid H.next 0) 0),(2,.v (.slice none 0 0)),(3,.slice ((P0++(cs.take k).flatMap clsTys).map Ty.cells) (some (nid H.next 1))),(6,intV k)]) (fun k=>HL H [.cells [.slice (ds.map Dat.cells) none,.slice (cs.map ClsD.cells) none,.slice (is.map InstD.cells) none],.tok (P0++(cs.take k).flatMap clsTys).length 2 none]) (fun _=>True) (weak_HL hcl rfl (by simp [low_map]) (by simp [low_map])) (trivial) (fun k hk hvk=>?_) (fun hvk=>?_)
 ·obtain ⟨x,hx⟩:∃ x,cs[k]?=some x:=⟨_,List.getElem?_eq_getElem hk⟩
  have g7:=h7 x (List.mem_of_getElem? hx)
  have ew:W=(P0++(cs.take k).flatMap clsTys)++(clsTys x++(cs.drop (k+1)).flatMap clsTys):=by rw [e0,fm_split (f:=clsTys) hx];simp only [List.append_assoc]
  have en:P0++(cs.take (k+1)).flatMap clsTys=(P0++(cs.take k).flatMap clsTys)++x.ops.map SigD.t:=by rw [fm_take hx,List.append_assoc];rfl
  rw [en]
  generalize P0++(cs.take k).flatMap clsTys=P at *
  repeat with_reducible refine awp_assoc ?_
  refine awp_sr fun K hK=>?_
  simp [hk]
  refine hK _ _ ?_
  clear hK K
  repeat with_reducible refine awp_assoc ?_
  refine awp_seq_k fun K hK=>?_
  refine awp_condT rfl (by simp) ?_
  refine awp_skip ?_
  refine hK _ _ ?_
  clear hK K
  refine awp_seq_k fun KB hKB=>?_
  refine awp_block ?_
  repeat with_reducible refine awp_assoc ?_
  refine awp_sr fun K hK=>?_
  simp [hx]
  refine hK _ _ ?_
  clear hK K
  refine awp_block ?_
  refine awp_up x.ops.length (fun j=>Env.ofL [(1,.ref (nid H.next 0) 0),(2,.v (.slice none 0 0)),(3,.slice ((P++(x.ops.take j).map SigD.t).map Ty.cells) (some (nid H.next 1))),(6,intV k),(7,intV j)]) (fun j=>HL H [.cells [.slice (ds.map Dat.cells) none,.slice (cs.map ClsD.cells) none,.slice (is.map InstD.cells) none],.tok (P++(x.ops.take j).map SigD.t).length 2 none]) (fun _=>True) (weak_HL hcl rfl (by simp [low_map]) (by simp [low_map])) (trivial) (fun j hj hvj=>?_) (fun hvj=>?_)
  ·obtain ⟨o,ho⟩:∃ o,x.ops[j]?=some o:=⟨_,List.getElem?_eq_getElem hj⟩
   have hbd:(P++(x.ops.take j).map SigD.t).length+1 < 1000000000000:=by
    have h1:=congrArg List.length ew
    have h2:(clsTys x).length=x.ops.length:=by simp [clsTys]
    simp only [List.length_append,h2] at h1
    simp only [List.length_append,List.length_map,List.length_take]
    omega
   rw [mp_take ho,←List.append_assoc]
   generalize P++(x.ops.take j).map SigD.t=Q at hbd ⊢
   repeat with_reducible refine awp_assoc ?_
   refine awp_sr fun K hK=>?_
   simp [hj,hx]
   refine hK _ _ ?_
   clear hK K
   repeat with_reducible refine awp_assoc ?_
   refine awp_seq_k fun K hK=>?_
   refine awp_condT rfl (by simp) ?_
   refine awp_skip ?_
   refine hK _ _ ?_
   clear hK K
   refine awp_seq_k fun KC hKC=>?_
   refine awp_block ?_
   refine awp_region ?_
   refine aOps_split 6 fun K hK=>?_
   simp [hx]
   refine hK _ _ ?_
   clear hK K
   refine aOps_split 5 fun K hK=>?_
   simp [ho]
   refine hK _ _ ?_
   clear hK K
   obtain ⟨on,op,tn,tl⟩:=o
   simp [Ty.name,Ty.args]
   refine ⟨by omega,?_⟩
   refine hKC _ _ ?_
   clear hKC
   refine awp_region ?_
   simp [wrap_succ (show j < 4611686018427387904 by omega)]
   refine weak_HL hcl rfl (by simp) ?_
   simp [low_map,Ty.cells,cellsL_eq]
  repeat with_reducible refine awp_assoc ?_
  refine awp_sr fun K hK=>?_
  simp [hx]
  refine hK _ _ ?_
  clear hK K
  repeat with_reducible refine awp_assoc ?_
  refine awp_seq_k fun K hK=>?_
  refine awp_condF rfl (by simp) ?_
  refine awp_exit ?_
  simp
  refine hKB _ _ ?_
  clear hKB
  refine awp_region ?_
  simp [wrap_succ (show k < 4611686018427387904 by omega)]
  exact weak_HL hcl rfl (by simp) (by simp [low_map])
 repeat with_reducible refine awp_assoc ?_
 refine awp_sr fun K hK=>?_
 simp
 refine hK _ _ ?_
 clear hK K
 repeat with_reducible refine awp_assoc ?_
 refine awp_seq_k fun K hK=>?_
 refine awp_condF rfl (by simp) ?_
 refine awp_exit ?_
 simp
 clear hK K
 refine hK _ _ ?_
 clear hK K
 repeat with_reducible refine awp_assoc ?_
 refine awp_sr fun K hK=>?_
 simp
 refine hK _ _ ?_
 clear hK K
 rw [←List.map_append,←e0]
 simp [reset_all hcl]
theorem rIsTwice_c (l:List ByteArray) (hl:l.length < 4611686018427387904) (H:AHeap):ACalls Tryz.prog 85 [strs l none] H (boolV (!nodupB l)) H:=by
 refine acalls_walk (fun _=>.imm) [0,2,3,7,18] Tryz.mixed Tryz.func85 rfl rfl rfl (by decide) (fun hcl hlow=>?_)
 repeat with_reducible refine awp_assoc ?_
 refine awp_sr fun K hK=>?_
 simp
 refine hK _ _ ?_
 clear hK K
 repeat with_reducible refine awp_assoc ?_
 refine awp_sr fun K hK=>?_
 simp
 refine hK _ _ ?_
 clear hK K
 repeat with_reducible refine awp_assoc ?_
 refine awp_seq_k fun K hK=>?_
 refine awp_block ?_
 refine awp_up l.length (fun k=>Env.ofL [(0,strs l none),(2,boolV false),(3,intV k)]) (fun k=>HL H []) (fun k=>(l.take k).Nodup) (weak_HL hcl rfl (by simp) (by simp)) (by simp) (fun k hk hvk=>?_) (fun hvk=>?_)
 ·obtain ⟨x,hx⟩:∃ x,l[k]?=some x:=⟨_,List.getElem?_eq_getElem hk⟩
  have hpl:=rPlace_c (l.take k) (by rw [List.length_take];omega) x
  have hge:=placeI_ge (l.take k) x
  simp only [strs,List.map_take] at hpl
  have hkl:(k:Int)≤l.length:=by omega
  have hkl':k≤l.length:=by omega
  repeat with_reducible refine awp_assoc ?_
  refine awp_sr fun K hK=>?_
  simp [hk]
  refine hK _ _ ?_
  clear hK K
  repeat with_reducible refine awp_assoc ?_
  refine awp_seq_k fun K hK=>?_
  refine awp_condT rfl (by simp) ?_
  refine awp_skip ?_
  refine hK _ _ ?_
  clear hK K
  refine awp_seq_k fun KB hKB=>?_
  refine awp_block ?_
  repeat with_reducible refine awp_assoc ?_
  refine awp_sdc [] [[],[0],[],[0,1,2],[0,1,2,3],[0,1,2],[0,1,2],[],[3,4]] (by kernel_rfl) (by rfl) fun K hK=>?_
  refine aCalm_pre 3 (by rfl) fun K hK=>?_
  simp [aSlice,bnd,hkl,strs,hkl']
  refine hK _ _ ?_
  clear hK K
  refine aCalm_pre 4 (by rfl) fun K hK=>?_
  simp [hx,strs]
  refine hK _ _ ?_
  clear hK K
  refine aCalm_call0 (hpl _) (by first | rfl | simp) rfl rfl rfl (by first | (simp;done) | rfl) ?_
  cases hm:memS x (l.take k)
  ·have hm':¬ 0≤placeI (l.take k) x:=by rw [hm] at hge;simpa using hge
   refine aCalm_pre 1 (by rfl) fun K hK=>?_
   simp [hm']
   refine hK _ _ ?_
   clear hK K
   refine aCalm_end ?_
   simp
   refine hK _ _ ?_
   clear hK K
   refine awp_condF rfl (by simp) ?_
   refine awp_skip ?_
   refine hKB _ _ ?_
   clear hKB
   refine awp_region ?_
   simp [wrap_succ (show k < 4611686018427387904 by omega)]
   refine ⟨?_,weak_HL hcl rfl (by simp) (by simp)⟩
   rw [take_one hx,List.nodup_append]
   refine ⟨hvk,by simp,fun a ha b hb=>?_⟩
   simp only [List.mem_singleton] at hb
   rintro rfl
   have:x ∉ l.take k:=fun h=>by rw [memS_iff.2 h] at hm;cases hm
   exact this (hb ▸ ha)
  ·have hm':0≤placeI (l.take k) x:=by rw [hm] at hge;simpa using hge
   refine aCalm_pre 1 (by rfl) fun K hK=>?_
   simp [hm']
   refine hK _ _ ?_
   clear hK K
   refine aCalm_end ?_
   simp
   refine hK _ _ ?_
   clear hK K
   refine awp_condT rfl (by simp) ?_
   repeat with_reducible refine awp_assoc ?_
   refine awp_sr fun K hK=>?_
   simp
   refine hK _ _ ?_
   clear hK K
   have e:nodupB l=false:=by
    unfold nodupB
    rw [decide_eq_false_iff_not]
    intro hn
    rw [←List.take_append_drop k l] at hn
    have h1:=memS_iff.1 hm
    have h2:x∈l.drop k:=List.mem_of_getElem? (i:=0) (by rw [List.getElem?_drop];exact hx)
    exact (List.nodup_append.1 hn).2.2 x h1 x h2 rfl
   simp [e,reset_all hcl]
 rw [List.take_length] at hvk
 repeat with_reducible refine awp_assoc ?_
 refine awp_sr fun K hK=>?_
 simp
 refine hK _ _ ?_
 clear hK K
 repeat with_reducible refine awp_assoc ?_
 refine awp_seq_k fun K hK=>?_
 refine awp_condF rfl (by simp) ?_
 refine awp_exit ?_
 simp
 clear hK K
 refine hK _ _ ?_
 clear hK K
 repeat with_reducible refine awp_assoc ?_
 refine awp_sr fun K hK=>?_
 simp
 refine hK _ _ ?_
 clear hK K
 simp [nodupB,hvk,reset_all hcl]
set_option maxHeartbeats 4000000 in
theorem rTwice_c (d:DeclsD) (hsz:d.datas.length < 1000000000000) (hal:(allD d).length < 1000000000) (hcl2:d.classes.length < 1000000000) (hil:d.insts.length < 1000000000) (hv:∀ x∈allD d,x.vars.length < 1000000000000∧x.cons.length < 1000000000000) (ho:∀ x∈d.classes,x.ops.length < 1000000000000)
  (hcn:((allD d).flatMap cnames).length < 1000000000) (hon:(d.classes.flatMap onames).length < 1000000000) (hin:∀ i∈d.insts,i.cls.size≤16∧i.data.size≤16) (H:AHeap):ACalls Tryz.prog 50 [d.enc] H (boolV (twiceB d)) H:=by
 have hall:=rAll_c d hsz
 have e0:twiceB d=((allD d).any (fun x=>!nodupB x.vars) || !nodupB (intN::(allD d).map Dat.name) || !nodupB ((allD d).flatMap cnames) || !nodupB (d.classes.map ClsD.name) || !nodupB (d.classes.flatMap onames) || !nodupB (d.insts.map iname)):=rfl
 generalize twiceB d=tb at e0 ⊢
 generalize allD d=L at *
 obtain ⟨ds,cs,is⟩:=d
 simp only at hcl2 hil ho hon hin e0
 clear hsz
 refine acalls_walk (fun t=>if t=4∨t=8∨t=9∨t=10 then .nilv 1 else if t=29∨t=57∨t=73∨t=97∨t=121 then .lit else .imm) [0,1,2,3,4,5,6,7,8,9,10,11,12,13,20,36,44,63,83,103] Tryz.mixed Tryz.func50 rfl rfl rfl (by decide) (fun hcl hlow=>?_)
 repeat with_reducible refine awp_assoc ?_
 refine awp_sr fun K hK=>?_
 simp
 refine hK _ _ ?_
 clear hK K
 repeat with_reducible refine awp_assoc ?_
 refine awp_sr fun K hK=>?_
 simp
 refine hK _ _ ?_
 clear hK K
 repeat with_reducible refine awp_assoc ?_
 refine awp_sr fun K hK=>?_
 refine aOps_split 1 fun K hK=>?_
 simp
 refine hK _ _ ?_
 clear hK K
 refine aOps_call (hall _) (by first | rfl | simp) rfl rfl (by first | (simp;done) | rfl) ?_
 simp
 refine hK _ _ ?_
 clear hK K
 repeat with_reducible refine awp_assoc ?_
 refine awp_sr fun K hK=>?_
 simp
 refine hK _ _ ?_
 clear hK K
 repeat with_reducible refine awp_assoc ?_
 refine awp_seq_k fun K hK=>?_
 refine awp_block ?_
 refine awp_up L.length (fun k=>Env.ofL [(1,.ref (nid H.next 0) 0),(2,boolV false),(3,strs (intN::(L.take k).map Dat.name) (some (nid H.next 1))),(4,strs ((L.take k).flatMap cnames) (some (nid H.next 2))),(5,.slice (L.map Dat.cells) none),(6,intV k)]) (fun k=>HL H [.cells [.slice (ds.map Dat.cells) none,.slice (cs.map ClsD.cells) none,.slice (is.map InstD.cells) none],.tok (intN::(L.take k).map Dat.name).length 1 none,.tok ((L.take k).flatMap cnames).length 1 none]) (fun k=>(L.take k).any (fun x=>!nodupB x.vars)=false) (weak_HL hcl rfl (by simp [low_strs,strs,intN]) (by simp [low_strs,strs,intN])) (by simp) (fun k hk hvk=>?_) (fun hvk=>?_)
 ·obtain ⟨x,hx⟩:∃ x,L[k]?=some x:=⟨_,List.getElem?_eq_getElem hk⟩
  have hvx:=hv x (List.mem_of_getElem? hx)
  have hq:=fl_take (f:=cnames) (l:=L) (k:=k)
  have hb5:((L.take k).flatMap cnames).length+x.cons.length≤(L.flatMap cnames).length:=by
   have h1:=congrArg List.length (fm_split (f:=cnames) hx)
   have h2:(cnames x).length=x.cons.length:=by simp [cnames]
   rw [List.length_append,List.length_append,h2] at h1
   omega
  have hb3:(intN::(L.take k).map Dat.name).length < 1000000001:=by simp;omega
  have en3:intN::(L.take (k+1)).map Dat.name=(intN::(L.take k).map Dat.name)++[x.name]:=by rw [mp_take hx];rfl
  have hms:=miss (p:=fun x:Dat=>!nodupB x.vars) hx hvk
  have hbx:=any_at (p:=fun x:Dat=>!nodupB x.vars) hx
  rw [en3,fm_take hx]
  generalize intN::(L.take k).map Dat.name=A at *
  generalize (L.take k).flatMap cnames=C at *
  repeat with_reducible refine awp_assoc ?_
  refine awp_sr fun K hK=>?_
  simp [hk]
  refine hK _ _ ?_
  clear hK K
  repeat with_reducible refine awp_assoc ?_
  refine awp_seq_k fun K hK=>?_
  refine awp_condT rfl (by simp) ?_
  refine awp_skip ?_
  refine hK _ _ ?_
  clear hK K
  refine awp_seq_k fun KB hKB=>?_
  refine awp_block ?_
  repeat with_reducible refine awp_assoc ?_
  refine awp_sr fun K hK=>?_
  refine aOps_split 6 fun K hK=>?_
  simp [hx]
  refine hK _ _ ?_
  clear hK K
  refine aOps_split 1 fun K hK=>?_
  simp
  refine hK _ _ ?_
  clear hK K
  refine aOps_split 1 fun K hK=>?_
  simp
  refine ⟨by omega,hK _ _ ?_⟩
  clear hK K
  simp
  refine hK _ _ ?_
  clear hK K
  repeat with_reducible refine awp_assoc ?_
  refine awp_sr fun K hK=>?_
  refine aOps_split 5 fun K hK=>?_
  simp [hx]
  refine hK _ _ ?_
  clear hK K
  refine aOps_call (rIsTwice_c x.vars (by omega) _) (by first | rfl | simp) rfl rfl (by first | (simp;done) | rfl) ?_
  simp [hx]
  refine hK _ _ ?_
  clear hK K
  cases hnv:nodupB x.vars
  ·repeat with_reducible refine awp_assoc ?_
   refine awp_seq_k fun K hK=>?_
   refine awp_condT rfl (by simp [hnv]) ?_
   repeat with_reducible refine awp_assoc ?_
   refine awp_sr fun K hK=>?_
   simp
   refine hK _ _ ?_
   clear hK K
   rw [e0,hbx (by simp [hnv])]
   simp [reset_all hcl]
  repeat with_reducible refine awp_assoc ?_
  refine awp_seq_k fun K hK=>?_
  refine awp_condF rfl (by simp [hnv]) ?_
  refine awp_skip ?_
  refine hK _ _ ?_
  clear hK K
  repeat with_reducible refine awp_assoc ?_
  refine awp_sr fun K hK=>?_
  simp
  refine hK _ _ ?_
  clear hK K
  refine awp_block ?_
  refine awp_up x.cons.length (fun j=>Env.ofL [(1,.ref (nid H.next 0) 0),(2,boolV false),(3,strs (A++[x.name]) (some (nid H.next 1))),(4,strs (C++(x.cons.take j).map ConD.name) (some (nid H.next 2))),(5,.slice (L.map Dat.cells) none),(6,intV k),(7,intV j)]) (fun j=>HL H [.cells [.slice (ds.map Dat.cells) none,.slice (cs.map ClsD.cells) none,.slice (is.map InstD.cells) none],.tok (A.length+1) 1 none,.tok (C++(x.cons.take j).map ConD.name).length 1 none]) (fun _=>True) (weak_HL hcl rfl (by simp [low_strs,strs]) (by simp [low_strs,strs])) (trivial) (fun j hj hvj=>?_) (fun hvj=>?_)
  ·obtain ⟨c,hc⟩:∃ c,x.cons[j]?=some c:=⟨_,List.getElem?_eq_getElem hj⟩
   have hbd:(C++(x.cons.take j).map ConD.name).length < 1000000001:=by simp;omega
   rw [mp_take hc,←List.append_assoc]
   generalize C++(x.cons.take j).map ConD.name=Q at hbd ⊢
   repeat with_reducible refine awp_assoc ?_
   refine awp_sr fun K hK=>?_
   simp [hj,hx]
   refine hK _ _ ?_
   clear hK K
   repeat with_reducible refine awp_assoc ?_
   refine awp_seq_k fun K hK=>?_
   refine awp_condT rfl (by simp) ?_
   refine awp_skip ?_
   refine hK _ _ ?_
   clear hK K
   refine awp_seq_k fun KC hKC=>?_
   refine awp_block ?_
   refine awp_region ?_
   refine aOps_split 6 fun K hK=>?_
   simp [hx]
   refine hK _ _ ?_
   clear hK K
   refine aOps_split 5 fun K hK=>?_
   simp [hc]
   refine hK _ _ ?_
   clear hK K
   simp
   refine ⟨by omega,?_⟩
   refine hKC _ _ ?_
   clear hKC
   refine awp_region ?_
   simp [wrap_succ (show j < 4611686018427387904 by omega)]
   exact weak_HL hcl rfl (by simp [low_strs,strs]) (by simp [low_strs,strs])
  repeat with_reducible refine awp_assoc ?_
  refine awp_sr fun K hK=>?_
  simp [hx]
  refine hK _ _ ?_
  clear hK K
  repeat with_reducible refine awp_assoc ?_
  refine awp_seq_k fun K hK=>?_
  refine awp_condF rfl (by simp) ?_
  refine awp_exit ?_
  simp
  refine hKB _ _ ?_
  clear hKB
  refine awp_region ?_
  simp [wrap_succ (show k < 4611686018427387904 by omega)]
  refine ⟨by simpa using hms (by simp [hnv]),?_⟩
  refine weak_HL hcl rfl (by simp [cnames]) (by simp [low_strs,low_scomp,strs,cnames])
 rw [List.take_length] at hvk
 repeat with_reducible refine awp_assoc ?_
 refine awp_sr fun K hK=>?_
 simp
 refine hK _ _ ?_
 clear hK K
 repeat with_reducible refine awp_assoc ?_
 refine awp_seq_k fun K hK=>?_
 refine awp_condF rfl (by simp) ?_
 refine awp_exit ?_
 simp
 clear hK K
 refine hK _ _ ?_
 clear hK K
 repeat with_reducible refine awp_assoc ?_
 refine awp_sr fun K hK=>?_
 simp
 refine hK _ _ ?_
 clear hK K
 rw [←List.length_flatMap]
 generalize hS3:intN::L.map Dat.name=S3 at e0 ⊢
 generalize L.flatMap cnames=S5 at *
 rw [hvk,Bool.false_or] at e0
 have hS3l:S3.length < 1000000000000:=by rw [←hS3];simp;omega
 clear hS3 hv hall
 repeat with_reducible refine awp_assoc ?_
 refine awp_sr fun K hK=>?_
 simp
 refine hK _ _ ?_
 clear hK K
 repeat with_reducible refine awp_assoc ?_
 refine awp_seq_k fun K hK=>?_
 refine awp_block ?_
 refine awp_up cs.length (fun k=>Env.ofL [(1,.ref (nid H.next 0) 0),(2,boolV false),(3,strs S3 (some (nid H.next 1))),(4,strs S5 (some (nid H.next 2))),(8,strs ((cs.take k).map ClsD.name) (some (nid H.next 3))),(9,strs ((cs.take k).flatMap onames) (some (nid H.next 4))),(10,strs [] (some (nid H.next 5))),(11,intV k)]) (fun k=>HL H [.cells [.slice (ds.map Dat.cells) none,.slice (cs.map ClsD.cells) none,.slice (is.map InstD.cells) none],.tok (L.length+1) 1 none,.tok S5.length 1 none,.tok ((cs.take k).map ClsD.name).length 1 none,.tok ((cs.take k).flatMap onames).length 1 none,.tok 0 1 none]) (fun _=>True) (weak_HL hcl rfl (by simp [low_strs,strs]) (by simp [low_strs,strs])) (trivial) (fun k hk hvk=>?_) (fun hvk=>?_)
 ·obtain ⟨x,hx⟩:∃ x,cs[k]?=some x:=⟨_,List.getElem?_eq_getElem hk⟩
  have hox:=ho x (List.mem_of_getElem? hx)
  have hb5:((cs.take k).flatMap onames).length+x.ops.length≤(cs.flatMap onames).length:=by
   have h1:=congrArg List.length (fm_split (f:=onames) hx)
   have h2:(onames x).length=x.ops.length:=by simp [onames]
   rw [List.length_append,List.length_append,h2] at h1
   omega
  have hb3:((cs.take k).map ClsD.name).length < 1000000001:=by simp;omega
  rw [mp_take hx,fm_take hx]
  generalize (cs.take k).map ClsD.name=A at *
  generalize (cs.take k).flatMap onames=C at *
  repeat with_reducible refine awp_assoc ?_
  refine awp_sr fun K hK=>?_
  simp [hk]
  refine hK _ _ ?_
  clear hK K
  repeat with_reducible refine awp_assoc ?_
  refine awp_seq_k fun K hK=>?_
  refine awp_condT rfl (by simp) ?_
  refine awp_skip ?_
  refine hK _ _ ?_
  clear hK K
  refine awp_seq_k fun KB hKB=>?_
  refine awp_block ?_
  repeat with_reducible refine awp_assoc ?_
  refine awp_sr fun K hK=>?_
  refine aOps_split 7 fun K hK=>?_
  simp [hx]
  refine hK _ _ ?_
  clear hK K
  refine aOps_split 1 fun K hK=>?_
  simp
  refine hK _ _ ?_
  clear hK K
  refine aOps_split 1 fun K hK=>?_
  simp
  refine ⟨by omega,hK _ _ ?_⟩
  clear hK K
  simp
  refine hK _ _ ?_
  clear hK K
  repeat with_reducible refine awp_assoc ?_
  refine awp_sr fun K hK=>?_
  simp
  refine hK _ _ ?_
  clear hK K
  refine awp_block ?_
  refine awp_up x.ops.length (fun j=>Env.ofL [(1,.ref (nid H.next 0) 0),(2,boolV false),(3,strs S3 (some (nid H.next 1))),(4,strs S5 (some (nid H.next 2))),(8,strs (A++[x.name]) (some (nid H.next 3))),(9,strs (C++(x.ops.take j).map SigD.name) (some (nid H.next 4))),(10,strs [] (some (nid H.next 5))),(11,intV k),(12,intV j)]) (fun j=>HL H [.cells [.slice (ds.map Dat.cells) none,.slice (cs.map ClsD.cells) none,.slice (is.map InstD.cells) none],.tok (L.length+1) 1 none,.tok S5.length 1 none,.tok (A.length+1) 1 none,.tok (C++(x.ops.take j).map SigD.name).length 1 none,.tok 0 1 none]) (fun _=>True) (weak_HL hcl rfl (by simp [low_strs,strs]) (by simp [low_strs,strs])) (trivial) (fun j hj hvj=>?_) (fun hvj=>?_)
  ·obtain ⟨c,hc⟩:∃ c,x.ops[j]?=some c:=⟨_,List.getElem?_eq_getElem hj⟩
   have hbd:(C++(x.ops.take j).map SigD.name).length < 1000000001:=by simp;omega
   rw [mp_take hc,←List.append_assoc]
   generalize C++(x.ops.take j).map SigD.name=Q at hbd ⊢
   repeat with_reducible refine awp_assoc ?_
   refine awp_sr fun K hK=>?_
   simp [hj,hx]
   refine hK _ _ ?_
   clear hK K
   repeat with_reducible refine awp_assoc ?_
   refine awp_seq_k fun K hK=>?_
   refine awp_condT rfl (by simp) ?_
   refine awp_skip ?_
   refine hK _ _ ?_
   clear hK K
   refine awp_seq_k fun KC hKC=>?_
   refine awp_block ?_
   refine awp_region ?_
   refine aOps_split 6 fun K hK=>?_
   simp [hx]
   refine hK _ _ ?_
   clear hK K
   refine aOps_split 6 fun K hK=>?_
   simp [hc]
   refine hK _ _ ?_
   clear hK K
   simp
   refine ⟨by omega,?_⟩
   refine hKC _ _ ?_
   clear hKC
   refine awp_region ?_
   simp [wrap_succ (show j < 4611686018427387904 by omega)]
   exact weak_HL hcl rfl (by simp [low_strs,strs]) (by simp [low_strs,strs])
  repeat with_reducible refine awp_assoc ?_
  refine awp_sr fun K hK=>?_
  simp [hx]
  refine hK _ _ ?_
  clear hK K
  repeat with_reducible refine awp_assoc ?_
  refine awp_seq_k fun K hK=>?_
  refine awp_condF rfl (by simp) ?_
  refine awp_exit ?_
  simp
  refine hKB _ _ ?_
  clear hKB
  refine awp_region ?_
  simp [wrap_succ (show k < 4611686018427387904 by omega)]
  refine weak_HL hcl rfl (by simp [onames]) (by simp [low_strs,low_scomp,strs,onames])
 repeat with_reducible refine awp_assoc ?_
 refine awp_sr fun K hK=>?_
 simp
 refine hK _ _ ?_
 clear hK K
 repeat with_reducible refine awp_assoc ?_
 refine awp_seq_k fun K hK=>?_
 refine awp_condF rfl (by simp) ?_
 refine awp_exit ?_
 simp
 clear hK K
 refine hK _ _ ?_
 clear hK K
 repeat with_reducible refine awp_assoc ?_
 refine awp_sr fun K hK=>?_
 simp
 refine hK _ _ ?_
 clear hK K
 rw [←List.length_flatMap]
 generalize hS4:cs.map ClsD.name=S4 at e0 ⊢
 generalize cs.flatMap onames=S6 at *
 have hS4l:S4.length=cs.length:=by rw [←hS4];simp
 rw [←hS4l]
 clear hS4
 repeat with_reducible refine awp_assoc ?_
 refine awp_seq_k fun K hK=>?_
 refine awp_block ?_
 refine awp_up is.length (fun k=>Env.ofL [(1,.ref (nid H.next 0) 0),(2,boolV false),(3,strs S3 (some (nid H.next 1))),(4,strs S5 (some (nid H.next 2))),(8,strs S4 (some (nid H.next 3))),(9,strs S6 (some (nid H.next 4))),(10,strs ((is.take k).map iname) (some (nid H.next 5))),(13,intV k)]) (fun k=>HL H [.cells [.slice (ds.map Dat.cells) none,.slice (cs.map ClsD.cells) none,.slice (is.map InstD.cells) none],.tok (L.length+1) 1 none,.tok S5.length 1 none,.tok S4.length 1 none,.tok S6.length 1 none,.tok ((is.take k).map iname).length 1 none]) (fun _=>True) (weak_HL hcl rfl (by simp [low_strs,strs]) (by simp [low_strs,strs])) (trivial) (fun k hk hvk=>?_) (fun hvk=>?_)
 ·obtain ⟨x,hx⟩:∃ x,is[k]?=some x:=⟨_,List.getElem?_eq_getElem hk⟩
  have hix:=hin x (List.mem_of_getElem? hx)
  have hb3:((is.take k).map iname).length < 1000000001:=by simp;omega
  rw [mp_take hx]
  generalize (is.take k).map iname=A at *
  have z1:(⟨#[32]⟩:ByteArray).size=1:=rfl
  repeat with_reducible refine awp_assoc ?_
  refine awp_sr fun K hK=>?_
  simp [hk]
  refine hK _ _ ?_
  clear hK K
  repeat with_reducible refine awp_assoc ?_
  refine awp_seq_k fun K hK=>?_
  refine awp_condT rfl (by simp) ?_
  refine awp_skip ?_
  refine hK _ _ ?_
  clear hK K
  refine awp_seq_k fun KB hKB=>?_
  refine awp_block ?_
  have hn5:¬ nid H.next 0=nid H.next 5:=by unfold nid;omega
  refine awp_drawf 0 16 (fun G=>G.upd (nid H.next 5) (.tok (A.length+1) 1 none)) [17] [[],[0],[0],[0,1,2],[0],[0],[0,1],[0,1,2,3],[0,1,2,3,4,5,6,7],[0,1,2,3,4,5,6,7],[0,1,2,3,4,5,6,7,8,9],[0,1,2,3,4,5,6,7],[0,1,2,3,4,5,6,7],[0,1,2,3,4,5,6,7,8],[0,1,2,3,4,8,9,10],[0,1,2,3,4,5,8,9,10,11],[1,2,3,4,5,6,8,9,10,11,12],[]] (by kernel_rfl) (by rfl) (by rfl) ?_
  simp only [holes]
  refine fLex_pre (nid H.next 5) 7 (fun G i h=>upd_off G i h) (by rfl) fun K2 hK2=>?_
  simp [oOps,offs,AV.off,Op.operands,Call.operands,regM,litOp,isReg,isLit,noTok,hx,hn5]
  refine hK2 _ ?_
  clear hK2 K2
  refine fLex_pre (nid H.next 5) 1 (fun G i h=>upd_off G i h) (by rfl) fun K2 hK2=>?_
  simp [oOps,offs,AV.off,Op.operands,Call.operands,regM,litOp,isReg,isLit,noTok]
  refine ⟨by omega,hK2 _ ?_⟩
  clear hK2 K2
  refine fLex_pre (nid H.next 5) 6 (fun G i h=>upd_off G i h) (by rfl) fun K2 hK2=>?_
  simp [oOps,offs,AV.off,Op.operands,Call.operands,regM,litOp,isReg,isLit,noTok,hx,hn5]
  refine hK2 _ ?_
  clear hK2 K2
  refine fLex_pre (nid H.next 5) 1 (fun G i h=>upd_off G i h) (by rfl) fun K2 hK2=>?_
  simp [oOps,offs,AV.off,Op.operands,Call.operands,regM,litOp,isReg,isLit,noTok]
  refine ⟨by omega,hK2 _ ?_⟩
  clear hK2 K2
  refine fLex_pre (nid H.next 5) 1 (fun G i h=>upd_off G i h) (by rfl) fun K2 hK2=>?_
  simp [oOps,offs,AV.off,Op.operands,Call.operands,regM,litOp,isReg,isLit,noTok,hx,hn5]
  refine hK2 _ ?_
  clear hK2 K2
  refine fLex_self (v:=.slice (A.map (fun s=>[strV s])++[[strV (iname x)]]) (some (nid H.next 5))) rfl rfl ?_ ?_ ?_
  ·simp [Det,iname]
   omega
  ·simp
  refine fLex_effA rfl rfl rfl rfl rfl rfl fun K2 hK2=>?_
  simp
  refine hK2 _ _ (by simp) (by simp [unord]) ?_
  clear hK2 K2
  refine fLex_end ?_
  simp
  refine hKB _ _ ?_
  clear hKB
  refine awp_region ?_
  simp [wrap_succ (show k < 4611686018427387904 by omega)]
  exact weak_HL hcl rfl (by simp [low_strs,strs,iname]) (by simp [low_strs,strs,iname])
 repeat with_reducible refine awp_assoc ?_
 refine awp_sr fun K hK=>?_
 simp
 refine hK _ _ ?_
 clear hK K
 repeat with_reducible refine awp_assoc ?_
 refine awp_seq_k fun K hK=>?_
 refine awp_condF rfl (by simp) ?_
 refine awp_exit ?_
 simp
 clear hK K
 refine hK _ _ ?_
 clear hK K
 have hS7l:(is.map iname).length < 1000000000000:=by simp;omega
 generalize is.map iname=S7 at e0 hS7l ⊢
 repeat with_reducible refine awp_assoc ?_
 refine awp_sr fun K hK=>?_
 suffices hE:K (Env.ofL [(0,.undef),(1,.ref (nid H.next 0) 0),(2,boolV tb),(3,strs S3 (some (nid H.next 1))),(4,strs S5 (some (nid H.next 2))),(5,.undef),(6,.undef),(7,.undef),(8,strs S4 (some (nid H.next 3))),(9,strs S6 (some (nid H.next 4))),(10,strs S7 (some (nid H.next 5))),(11,.undef),(12,.undef),(13,intV (is.length:Int)),(20,.undef),(36,.undef),(44,.undef),(63,.undef),(83,.undef),(103,boolV false)]) (HL H [.cells [.slice (ds.map Dat.cells) none,.slice (cs.map ClsD.cells) none,.slice (is.map InstD.cells) none],.tok (L.length+1) 1 none,.tok S5.length 1 none,.tok S4.length 1 none,.tok S6.length 1 none,.tok is.length 1 none]) by
  clear hK
  refine aOps_split 1 fun K hK=>?_
  simp
  refine hK _ _ ?_
  clear hK K
  refine aOps_callW (rIsTwice_c S3 (by omega) _) (by first | rfl | simp) rfl rfl (by simp) ?_
  cases n3:nodupB S3
  ·refine aOps_split 6 fun K hK=>?_
   simp
   refine hK _ _ ?_
   clear hK K
   refine aOps_split 6 fun K hK=>?_
   simp
   refine hK _ _ ?_
   clear hK K
   simp
   have e:tb=true:=by rw [e0];simp [n3]
   subst e
   exact hE
  refine aOps_split 2 fun K hK=>?_
  simp
  refine hK _ _ ?_
  clear hK K
  refine aOps_callW (rIsTwice_c S5 (by omega) _) (by first | rfl | simp) rfl rfl (by simp) ?_
  cases n5:nodupB S5
  ·refine aOps_split 6 fun K hK=>?_
   simp
   refine hK _ _ ?_
   clear hK K
   refine aOps_split 4 fun K hK=>?_
   simp
   refine hK _ _ ?_
   clear hK K
   simp
   have e:tb=true:=by rw [e0];simp [n5]
   subst e
   exact hE
  refine aOps_split 3 fun K hK=>?_
  simp
  refine hK _ _ ?_
  clear hK K
  refine aOps_callW (rIsTwice_c S4 (by omega) _) (by first | rfl | simp) rfl rfl (by simp) ?_
  cases n4:nodupB S4
  ·refine aOps_split 5 fun K hK=>?_
   simp
   refine hK _ _ ?_
   clear hK K
   simp
   have e:tb=true:=by rw [e0];simp [n4]
   subst e
   exact hE
  refine aOps_split 3 fun K hK=>?_
  simp
  refine hK _ _ ?_
  clear hK K
  refine aOps_callW (rIsTwice_c S6 (by omega) _) (by first | rfl | simp) rfl rfl (by simp) ?_
  cases n6:nodupB S6
  ·simp
   have e:tb=true:=by rw [e0];simp [n6]
   subst e
   exact hE
  refine aOps_split 3 fun K hK=>?_
  simp
  refine hK _ _ ?_
  clear hK K
  refine aOps_callW (rIsTwice_c S7 (by omega) _) (by first | rfl | simp) rfl rfl (by simp) ?_
  simp
  have e:tb=!nodupB S7:=by rw [e0];simp [n3,n4,n5,n6]
  subst e
  simpa using hE
 refine hK _ _ ?_
 clear hK K
 simp [reset_all hcl]
end Go.Proofs.YtlhoigpidpokfaaGreat
