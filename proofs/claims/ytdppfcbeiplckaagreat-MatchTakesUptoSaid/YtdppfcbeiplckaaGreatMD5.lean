/- What stands twice in declarations. -/
import Derived.Test.YtdppfcbeiplckaaGreatMD4
set_option linter.unusedVariables false
set_option linter.unusedSimpArgs false
namespace Go.Proofs.YtdppfcbeiplckaaGreat
open Go Go.Abs Go.Proofs
set_option maxRecDepth 20000
attribute [local simp] aOps wantedA aStep aop aLoad aStore aBin aUn aFieldAddr aField aIndexAddr aIndex aLen aBuild aFill aAlloc aAppend aAppendOwn aMin aMax aBuildSlice litRows newRows isMut isOwn isNilS nilsW bytesR tokW tokAV tokL ret readC splice aeval isLit isLate isCut aCut AV.celled AV.one AV.ofValue Value.oneCell' Value.cells intOp strOp get_nid upd_nid awp aEnd aResults aResult Det unord isCall isNext
attribute [local simp] low_take low_strs low_comp low_tcomp wkEs_refl' WkBs WkEnv WkB WkL WkE WkO ABlock.low lowO lowL lowR AV.low cellsL_eq Ty.low low_map Ty.cells_length Ty.cells_one
attribute [local simp] ConD.cells Dat.cells PredD.cells SigD.cells ClsD.cells InstD.cells DeclsD.cells DeclsD.enc Dat.enc low_datL low_conL low_predL low_sigL low_clsL low_instL
def cnames (x:Dat):List ByteArray:=x.cons.map ConD.name
def onames (x:ClsD):List ByteArray:=x.ops.map SigD.name
def iname (i:InstD):ByteArray:=i.cls++⟨#[32]⟩++i.data
def nodupB (l:List ByteArray):Bool:=decide l.Nodup
def twiceB (d:DeclsD):Bool:=(allD d).any (fun x=>!nodupB x.vars) || !nodupB (intN::(allD d).map Dat.name) || !nodupB ((allD d).flatMap cnames) || !nodupB (d.classes.map ClsD.name) || !nodupB (d.classes.flatMap onames) || !nodupB (d.insts.map iname)
theorem alike2_c (l:List ByteArray) (hl:l.length < 1000000000000) (H:AHeap):ACalls Tryz.prog 167 [strs l none] H (boolV (!nodupB l)) H:=alike_c l hl H
theorem fl_take {α β:Type} {f:α→List β} {l:List α} {k:Nat}:((l.take k).flatMap f).length≤(l.flatMap f).length:=by
 conv=>rhs;rw [←List.take_append_drop k l,List.flatMap_append,List.length_append]
 omega
theorem low_scomp {α:Type} (n:Nat) (f:α→ByteArray) (l:List α):lowR n (l.map ((fun s=>[strV s]) ∘ f)):=lowR_map fun _ _=>⟨trivial,trivial⟩
set_option maxHeartbeats 4000000 in
theorem twice_c (d:DeclsD) (hsz:d.datas.length < 1000000000000) (hal:(allD d).length < 1000000000) (hcl2:d.classes.length < 1000000000) (hil:d.insts.length < 1000000000) (hv:∀ x∈allD d,x.vars.length < 1000000000000∧x.cons.length < 1000000000000) (ho:∀ x∈d.classes,x.ops.length < 1000000000000)
  (hcn:((allD d).flatMap cnames).length < 1000000000) (hon:(d.classes.flatMap onames).length < 1000000000) (hin:∀ i∈d.insts,i.cls.size≤16∧i.data.size≤16) (H:AHeap):ACalls Tryz.prog 99 [d.enc] H (intV (if twiceB d=true then 5 else 0)) H:=by
 have hall:=dAll_c d hsz
 have e0:twiceB d=((allD d).any (fun x=>!nodupB x.vars) || !nodupB (intN::(allD d).map Dat.name) || !nodupB ((allD d).flatMap cnames) || !nodupB (d.classes.map ClsD.name) || !nodupB (d.classes.flatMap onames) || !nodupB (d.insts.map iname)):=rfl
 generalize twiceB d=tb at e0 ⊢
 generalize allD d=L at *
 obtain ⟨ds,cs,is⟩:=d
 simp only at hcl2 hil ho hon hin e0
 clear hsz
 refine acalls_walk (fun t=>if t=5∨t=6∨t=7 then .nilv 1 else if t=31∨t=49∨t=63∨t=75∨t=93 then .lit else .imm) [0,1,2,3,4,5,6,7,8,10,12,14,16,18,22,23,24,25,40,41,42,43,54,55,56,57,66,67,68,69,80,81,82,83,116] Tryz.mixed Tryz.func99 rfl rfl rfl (by decide) (fun hcl hlow=>?_)
 repeat with_reducible refine awp_assoc ?_
 refine awp_sr fun K hK=>?_
 simp
 refine hK _ _ ?_
 clear hK K
 repeat with_reducible refine awp_assoc ?_
 refine awp_sr fun K hK=>?_
 simp
 refine hK _ _ ?_
 clear hK K
 repeat with_reducible refine awp_assoc ?_
 refine awp_sr fun K hK=>?_
 simp
 refine hK _ _ ?_
 clear hK K
 repeat with_reducible refine awp_assoc ?_
 refine awp_sr fun K hK=>?_
 simp
 refine hK _ _ ?_
 clear hK K
 repeat with_reducible refine awp_assoc ?_
 refine awp_sr fun K hK=>?_
 refine aOps_split 1 fun K hK=>?_
 simp
 refine hK _ _ ?_
 clear hK K
 refine aOps_call (hall _) (by first | rfl | simp) rfl rfl (by first | (simp;done) | rfl) ?_
 simp
 refine hK _ _ ?_
 clear hK K
 repeat with_reducible refine awp_assoc ?_
 refine awp_seq_k fun K hK=>?_
 refine awp_block ?_
 refine awp_up L.length (fun k=>Env.ofL [(1,.ref (nid H.next 0) 0),(2,intV 0),(3,strs (intN::(L.take k).map Dat.name) (some (nid H.next 1))),(4,strs ([]) (some (nid H.next 2))),(5,strs ((L.take k).flatMap cnames) (some (nid H.next 3))),(6,strs ([]) (some (nid H.next 4))),(7,strs ([]) (some (nid H.next 5))),(8,boolV ((L.take k).any fun x=>!nodupB x.vars)),(22,.slice (L.map Dat.cells) none),(23,intV (L.length:Int)),(24,intV k)]) (fun k=>HL H [.cells [.slice (ds.map Dat.cells) none,.slice (cs.map ClsD.cells) none,.slice (is.map InstD.cells) none],.tok (intN::(L.take k).map Dat.name).length 1 none,.tok 0 1 none,.tok ((L.take k).flatMap cnames).length 1 none,.tok 0 1 none,.tok 0 1 none]) (fun _=>True) (weak_HL hcl rfl (by simp [low_strs,strs,intN]) (by simp [low_strs,strs,intN])) (trivial) (fun k hk hvk=>?_) (fun hvk=>?_)
 ·obtain ⟨x,hx⟩:∃ x,L[k]?=some x:=⟨_,List.getElem?_eq_getElem hk⟩
  have hvx:=hv x (List.mem_of_getElem? hx)
  have hq:=fl_take (f:=cnames) (l:=L) (k:=k)
  have hb5:((L.take k).flatMap cnames).length+x.cons.length≤(L.flatMap cnames).length:=by
   have h1:=congrArg List.length (fm_split (f:=cnames) hx)
   have h2:(cnames x).length=x.cons.length:=by simp [cnames]
   rw [List.length_append,List.length_append,h2] at h1
   omega
  have hb3:(intN::(L.take k).map Dat.name).length < 1000000001:=by simp;omega
  have en3:intN::(L.take (k+1)).map Dat.name=(intN::(L.take k).map Dat.name)++[x.name]:=by rw [mp_take hx];rfl
  rw [en3,fm_take hx,any_take hx]
  generalize intN::(L.take k).map Dat.name=A at *
  generalize (L.take k).flatMap cnames=C at *
  generalize ((L.take k).any fun x=>!nodupB x.vars)=bk
  repeat with_reducible refine awp_assoc ?_
  refine awp_sr fun K hK=>?_
  simp [hk]
  refine hK _ _ ?_
  clear hK K
  repeat with_reducible refine awp_assoc ?_
  refine awp_seq_k fun K hK=>?_
  refine awp_condT rfl (by simp) ?_
  refine awp_skip ?_
  refine hK _ _ ?_
  clear hK K
  refine awp_seq_k fun KB hKB=>?_
  refine awp_block ?_
  repeat with_reducible refine awp_assoc ?_
  refine awp_sr fun K hK=>?_
  simp [hx]
  refine hK _ _ ?_
  clear hK K
  repeat with_reducible refine awp_assoc ?_
  refine awp_sr fun K hK=>?_
  refine aOps_split 4 fun K hK=>?_
  simp
  refine hK _ _ ?_
  clear hK K
  refine aOps_split 1 fun K hK=>?_
  simp
  refine ⟨by omega,hK _ _ ?_⟩
  clear hK K
  simp
  refine hK _ _ ?_
  clear hK K
  refine awp_sr fun K hK=>?_
  suffices hE:∀ b,b=(bk || !nodupB x.vars)→K (Env.ofL [(0,.undef),(1,.ref (nid H.next 0) 0),(2,intV 0),(3,.slice (A.map (fun s=>[strV s])++[[strV x.name]]) (some (nid H.next 1))),(4,strs [] (some (nid H.next 2))),(5,strs C (some (nid H.next 3))),(6,strs [] (some (nid H.next 4))),(7,strs [] (some (nid H.next 5))),(8,boolV b),(10,.ref (nid H.next 6) 0),(12,.undef),(14,.undef),(16,.undef),(18,.undef),(22,.slice (L.map Dat.cells) none),(23,intV (L.length:Int)),(24,intV k),(25,boolV true),(40,.undef),(41,.undef),(42,.undef),(43,.undef),(54,.undef),(55,.undef),(56,.undef),(57,.undef),(66,.undef),(67,.undef),(68,.undef),(69,.undef),(80,.undef),(81,.undef),(82,.undef),(83,.undef),(116,.undef)]) (HL H [.cells [.slice (ds.map Dat.cells) none,.slice (cs.map ClsD.cells) none,.slice (is.map InstD.cells) none],.tok (A.length+1) 1 none,.tok 0 1 none,.tok C.length 1 none,.tok 0 1 none,.tok 0 1 none,.cells x.cells]) by
   clear hK
   cases bk with
   | true =>
    simp
    exact hE _ (by simp)
   | false =>
    refine aOps_split 4 fun K hK=>?_
    simp
    refine hK _ _ ?_
    clear hK K
    refine aOps_call (alike2_c x.vars hvx.1 _) (by first | rfl | simp) rfl rfl (by first | (simp;done) | rfl) ?_
    simp
    exact hE _ (by simp)
  intro b hb
  refine hK _ _ ?_
  clear hK K
  repeat with_reducible refine awp_assoc ?_
  refine awp_sr fun K hK=>?_
  simp
  refine hK _ _ ?_
  clear hK K
  refine awp_block ?_
  refine awp_up x.cons.length (fun j=>Env.ofL [(1,.ref (nid H.next 0) 0),(2,intV 0),(3,strs (A++[x.name]) (some (nid H.next 1))),(4,strs [] (some (nid H.next 2))),(5,strs (C++(x.cons.take j).map ConD.name) (some (nid H.next 3))),(6,strs [] (some (nid H.next 4))),(7,strs [] (some (nid H.next 5))),(8,boolV b),(10,.ref (nid H.next 6) 0),(22,.slice (L.map Dat.cells) none),(23,intV (L.length:Int)),(24,intV k),(40,.slice (x.cons.map ConD.cells) none),(41,intV (x.cons.length:Int)),(42,intV j)]) (fun j=>HL H [.cells [.slice (ds.map Dat.cells) none,.slice (cs.map ClsD.cells) none,.slice (is.map InstD.cells) none],.tok (A.length+1) 1 none,.tok 0 1 none,.tok (C++(x.cons.take j).map ConD.name).length 1 none,.tok 0 1 none,.tok 0 1 none,.cells x.cells]) (fun _=>True) (weak_HL hcl rfl (by simp [low_strs,strs]) (by simp [low_strs,strs])) (trivial) (fun j hj hvj=>?_) (fun hvj=>?_)
  ·obtain ⟨c,hc⟩:∃ c,x.cons[j]?=some c:=⟨_,List.getElem?_eq_getElem hj⟩
   have hbd:(C++(x.cons.take j).map ConD.name).length < 1000000001:=by simp;omega
   rw [mp_take hc,←List.append_assoc]
   generalize C++(x.cons.take j).map ConD.name=Q at hbd ⊢
   repeat with_reducible refine awp_assoc ?_
   refine awp_sr fun K hK=>?_
   simp [hj]
   refine hK _ _ ?_
   clear hK K
   repeat with_reducible refine awp_assoc ?_
   refine awp_seq_k fun K hK=>?_
   refine awp_condT rfl (by simp) ?_
   refine awp_skip ?_
   refine hK _ _ ?_
   clear hK K
   refine awp_seq_k fun KC hKC=>?_
   refine awp_block ?_
   repeat with_reducible refine awp_assoc ?_
   refine awp_sr fun K hK=>?_
   simp [hc]
   refine hK _ _ ?_
   clear hK K
   refine awp_region ?_
   refine aOps_split 4 fun K hK=>?_
   simp
   refine hK _ _ ?_
   clear hK K
   simp
   refine ⟨by omega,?_⟩
   refine hKC _ _ ?_
   clear hKC
   refine awp_region ?_
   simp [wrap_succ (show j < 4611686018427387904 by omega)]
   exact weak_HL hcl rfl (by simp [low_strs,strs]) (by simp [low_strs,strs])
  repeat with_reducible refine awp_assoc ?_
  refine awp_sr fun K hK=>?_
  simp
  refine hK _ _ ?_
  clear hK K
  repeat with_reducible refine awp_assoc ?_
  refine awp_seq_k fun K hK=>?_
  refine awp_condF rfl (by simp) ?_
  refine awp_exit ?_
  simp
  refine hKB _ _ ?_
  clear hKB
  refine awp_region ?_
  simp [wrap_succ (show k < 4611686018427387904 by omega)]
  rw [←hb]
  refine weak_HL hcl rfl (by simp [cnames]) (by simp [low_strs,low_scomp,strs,cnames])
 repeat with_reducible refine awp_assoc ?_
 refine awp_sr fun K hK=>?_
 simp
 refine hK _ _ ?_
 clear hK K
 repeat with_reducible refine awp_assoc ?_
 refine awp_seq_k fun K hK=>?_
 refine awp_condF rfl (by simp) ?_
 refine awp_exit ?_
 simp
 clear hK K
 refine hK _ _ ?_
 clear hK K
 repeat with_reducible refine awp_assoc ?_
 refine awp_sr fun K hK=>?_
 simp
 refine hK _ _ ?_
 clear hK K
 rw [←List.length_flatMap]
 generalize hS3:intN::L.map Dat.name=S3 at e0 ⊢
 generalize L.flatMap cnames=S5 at *
 generalize (L.any fun x=>!nodupB x.vars)=b8 at e0 ⊢
 have hS3l:S3.length < 1000000000000:=by rw [←hS3];simp;omega
 clear hS3 hv hall
 repeat with_reducible refine awp_assoc ?_
 refine awp_seq_k fun K hK=>?_
 refine awp_block ?_
 refine awp_up cs.length (fun k=>Env.ofL [(1,.ref (nid H.next 0) 0),(2,intV 0),(3,strs S3 (some (nid H.next 1))),(4,strs ((cs.take k).map ClsD.name) (some (nid H.next 2))),(5,strs S5 (some (nid H.next 3))),(6,strs ((cs.take k).flatMap onames) (some (nid H.next 4))),(7,strs [] (some (nid H.next 5))),(8,boolV b8),(54,.slice (cs.map ClsD.cells) none),(55,intV (cs.length:Int)),(56,intV k)]) (fun k=>HL H [.cells [.slice (ds.map Dat.cells) none,.slice (cs.map ClsD.cells) none,.slice (is.map InstD.cells) none],.tok (L.length+1) 1 none,.tok ((cs.take k).map ClsD.name).length 1 none,.tok S5.length 1 none,.tok ((cs.take k).flatMap onames).length 1 none,.tok 0 1 none]) (fun _=>True) (weak_HL hcl rfl (by simp [low_strs,strs]) (by simp [low_strs,strs])) (trivial) (fun k hk hvk=>?_) (fun hvk=>?_)
 ·obtain ⟨x,hx⟩:∃ x,cs[k]?=some x:=⟨_,List.getElem?_eq_getElem hk⟩
  have hox:=ho x (List.mem_of_getElem? hx)
  have hb5:((cs.take k).flatMap onames).length+x.ops.length≤(cs.flatMap onames).length:=by
   have h1:=congrArg List.length (fm_split (f:=onames) hx)
   have h2:(onames x).length=x.ops.length:=by simp [onames]
   rw [List.length_append,List.length_append,h2] at h1
   omega
  have hb3:((cs.take k).map ClsD.name).length < 1000000001:=by simp;omega
  rw [mp_take hx,fm_take hx]
  generalize (cs.take k).map ClsD.name=A at *
  generalize (cs.take k).flatMap onames=C at *
  repeat with_reducible refine awp_assoc ?_
  refine awp_sr fun K hK=>?_
  simp [hk]
  refine hK _ _ ?_
  clear hK K
  repeat with_reducible refine awp_assoc ?_
  refine awp_seq_k fun K hK=>?_
  refine awp_condT rfl (by simp) ?_
  refine awp_skip ?_
  refine hK _ _ ?_
  clear hK K
  refine awp_seq_k fun KB hKB=>?_
  refine awp_block ?_
  repeat with_reducible refine awp_assoc ?_
  refine awp_sr fun K hK=>?_
  simp [hx]
  refine hK _ _ ?_
  clear hK K
  repeat with_reducible refine awp_assoc ?_
  refine awp_sr fun K hK=>?_
  refine aOps_split 4 fun K hK=>?_
  simp
  refine hK _ _ ?_
  clear hK K
  refine aOps_split 1 fun K hK=>?_
  simp
  refine ⟨by omega,hK _ _ ?_⟩
  clear hK K
  simp
  refine hK _ _ ?_
  clear hK K
  repeat with_reducible refine awp_assoc ?_
  refine awp_sr fun K hK=>?_
  simp
  refine hK _ _ ?_
  clear hK K
  refine awp_block ?_
  refine awp_up x.ops.length (fun j=>Env.ofL [(1,.ref (nid H.next 0) 0),(2,intV 0),(3,strs S3 (some (nid H.next 1))),(4,strs (A++[x.name]) (some (nid H.next 2))),(5,strs S5 (some (nid H.next 3))),(6,strs (C++(x.ops.take j).map SigD.name) (some (nid H.next 4))),(7,strs [] (some (nid H.next 5))),(8,boolV b8),(14,.ref (nid H.next 6) 0),(54,.slice (cs.map ClsD.cells) none),(55,intV (cs.length:Int)),(56,intV k),(66,.slice (x.ops.map SigD.cells) none),(67,intV (x.ops.length:Int)),(68,intV j)]) (fun j=>HL H [.cells [.slice (ds.map Dat.cells) none,.slice (cs.map ClsD.cells) none,.slice (is.map InstD.cells) none],.tok (L.length+1) 1 none,.tok (A.length+1) 1 none,.tok S5.length 1 none,.tok (C++(x.ops.take j).map SigD.name).length 1 none,.tok 0 1 none,.cells x.cells]) (fun _=>True) (weak_HL hcl rfl (by simp [low_strs,strs]) (by simp [low_strs,strs])) (trivial) (fun j hj hvj=>?_) (fun hvj=>?_)
  ·obtain ⟨c,hc⟩:∃ c,x.ops[j]?=some c:=⟨_,List.getElem?_eq_getElem hj⟩
   have hbd:(C++(x.ops.take j).map SigD.name).length < 1000000001:=by simp;omega
   rw [mp_take hc,←List.append_assoc]
   generalize C++(x.ops.take j).map SigD.name=Q at hbd ⊢
   repeat with_reducible refine awp_assoc ?_
   refine awp_sr fun K hK=>?_
   simp [hj]
   refine hK _ _ ?_
   clear hK K
   repeat with_reducible refine awp_assoc ?_
   refine awp_seq_k fun K hK=>?_
   refine awp_condT rfl (by simp) ?_
   refine awp_skip ?_
   refine hK _ _ ?_
   clear hK K
   refine awp_seq_k fun KC hKC=>?_
   refine awp_block ?_
   repeat with_reducible refine awp_assoc ?_
   refine awp_sr fun K hK=>?_
   simp [hc]
   refine hK _ _ ?_
   clear hK K
   refine awp_region ?_
   refine aOps_split 4 fun K hK=>?_
   simp
   refine hK _ _ ?_
   clear hK K
   simp
   refine ⟨by omega,?_⟩
   refine hKC _ _ ?_
   clear hKC
   refine awp_region ?_
   simp [wrap_succ (show j < 4611686018427387904 by omega)]
   exact weak_HL hcl rfl (by simp [low_strs,strs]) (by simp [low_strs,strs])
  repeat with_reducible refine awp_assoc ?_
  refine awp_sr fun K hK=>?_
  simp
  refine hK _ _ ?_
  clear hK K
  repeat with_reducible refine awp_assoc ?_
  refine awp_seq_k fun K hK=>?_
  refine awp_condF rfl (by simp) ?_
  refine awp_exit ?_
  simp
  refine hKB _ _ ?_
  clear hKB
  refine awp_region ?_
  simp [wrap_succ (show k < 4611686018427387904 by omega)]
  refine weak_HL hcl rfl (by simp [onames]) (by simp [low_strs,low_scomp,strs,onames])
 repeat with_reducible refine awp_assoc ?_
 refine awp_sr fun K hK=>?_
 simp
 refine hK _ _ ?_
 clear hK K
 repeat with_reducible refine awp_assoc ?_
 refine awp_seq_k fun K hK=>?_
 refine awp_condF rfl (by simp) ?_
 refine awp_exit ?_
 simp
 clear hK K
 refine hK _ _ ?_
 clear hK K
 repeat with_reducible refine awp_assoc ?_
 refine awp_sr fun K hK=>?_
 simp
 refine hK _ _ ?_
 clear hK K
 rw [←List.length_flatMap]
 generalize hS4:cs.map ClsD.name=S4 at e0 ⊢
 generalize cs.flatMap onames=S6 at *
 have hS4l:S4.length=cs.length:=by rw [←hS4];simp
 rw [←hS4l]
 clear hS4
 repeat with_reducible refine awp_assoc ?_
 refine awp_seq_k fun K hK=>?_
 refine awp_block ?_
 refine awp_up is.length (fun k=>Env.ofL [(1,.ref (nid H.next 0) 0),(2,intV 0),(3,strs S3 (some (nid H.next 1))),(4,strs S4 (some (nid H.next 2))),(5,strs S5 (some (nid H.next 3))),(6,strs S6 (some (nid H.next 4))),(7,strs ((is.take k).map iname) (some (nid H.next 5))),(8,boolV b8),(80,.slice (is.map InstD.cells) none),(81,intV (is.length:Int)),(82,intV k)]) (fun k=>HL H [.cells [.slice (ds.map Dat.cells) none,.slice (cs.map ClsD.cells) none,.slice (is.map InstD.cells) none],.tok (L.length+1) 1 none,.tok S4.length 1 none,.tok S5.length 1 none,.tok S6.length 1 none,.tok ((is.take k).map iname).length 1 none]) (fun _=>True) (weak_HL hcl rfl (by simp [low_strs,strs]) (by simp [low_strs,strs])) (trivial) (fun k hk hvk=>?_) (fun hvk=>?_)
 ·obtain ⟨x,hx⟩:∃ x,is[k]?=some x:=⟨_,List.getElem?_eq_getElem hk⟩
  have hix:=hin x (List.mem_of_getElem? hx)
  have hb3:((is.take k).map iname).length < 1000000001:=by simp;omega
  rw [mp_take hx]
  generalize (is.take k).map iname=A at *
  have z1:(⟨#[32]⟩:ByteArray).size=1:=rfl
  repeat with_reducible refine awp_assoc ?_
  refine awp_sr fun K hK=>?_
  simp [hk]
  refine hK _ _ ?_
  clear hK K
  repeat with_reducible refine awp_assoc ?_
  refine awp_seq_k fun K hK=>?_
  refine awp_condT rfl (by simp) ?_
  refine awp_skip ?_
  refine hK _ _ ?_
  clear hK K
  refine awp_seq_k fun KB hKB=>?_
  refine awp_block ?_
  repeat with_reducible refine awp_assoc ?_
  refine awp_sr fun K hK=>?_
  simp [hx]
  refine hK _ _ ?_
  clear hK K
  refine awp_region ?_
  refine aOps_split 3 fun K hK=>?_
  simp
  refine hK _ _ ?_
  clear hK K
  refine aOps_split 1 fun K hK=>?_
  simp
  refine ⟨by omega,hK _ _ ?_⟩
  clear hK K
  refine aOps_split 2 fun K hK=>?_
  simp
  refine hK _ _ ?_
  clear hK K
  refine aOps_split 1 fun K hK=>?_
  simp
  refine ⟨by omega,hK _ _ ?_⟩
  clear hK K
  refine aOps_split 1 fun K hK=>?_
  simp
  refine hK _ _ ?_
  clear hK K
  simp
  refine ⟨by omega,?_⟩
  refine hKB _ _ ?_
  clear hKB
  refine awp_region ?_
  simp [wrap_succ (show k < 4611686018427387904 by omega)]
  exact weak_HL hcl rfl (by simp [low_strs,strs,iname]) (by simp [low_strs,strs,iname])
 repeat with_reducible refine awp_assoc ?_
 refine awp_sr fun K hK=>?_
 simp
 refine hK _ _ ?_
 clear hK K
 repeat with_reducible refine awp_assoc ?_
 refine awp_seq_k fun K hK=>?_
 refine awp_condF rfl (by simp) ?_
 refine awp_exit ?_
 simp
 clear hK K
 refine hK _ _ ?_
 clear hK K
 have hS7l:(is.map iname).length < 1000000000000:=by simp;omega
 generalize is.map iname=S7 at e0 hS7l ⊢
 repeat with_reducible refine awp_assoc ?_
 refine awp_sr fun K hK=>?_
 suffices hE:∀ b,b=tb→K (Env.ofL [(0,.undef),(1,.ref (nid H.next 0) 0),(2,intV 0),(3,strs S3 (some (nid H.next 1))),(4,strs S4 (some (nid H.next 2))),(5,strs S5 (some (nid H.next 3))),(6,strs S6 (some (nid H.next 4))),(7,strs S7 (some (nid H.next 5))),(8,boolV b8),(10,.undef),(12,.undef),(14,.undef),(16,.undef),(18,.undef),(22,.undef),(23,.undef),(24,.undef),(25,.undef),(40,.undef),(41,.undef),(42,.undef),(43,.undef),(54,.undef),(55,.undef),(56,.undef),(57,.undef),(66,.undef),(67,.undef),(68,.undef),(69,.undef),(80,.slice (is.map InstD.cells) none),(81,intV (is.length:Int)),(82,intV (is.length:Int)),(83,boolV false),(116,boolV b)]) (HL H [.cells [.slice (ds.map Dat.cells) none,.slice (cs.map ClsD.cells) none,.slice (is.map InstD.cells) none],.tok (L.length+1) 1 none,.tok S4.length 1 none,.tok S5.length 1 none,.tok S6.length 1 none,.tok is.length 1 none]) by
  clear hK
  cases b8 with
  | true =>
   refine aOps_split 8 fun K hK=>?_
   simp
   refine hK _ _ ?_
   clear hK K
   refine aOps_split 8 fun K hK=>?_
   simp
   refine hK _ _ ?_
   clear hK K
   simp
   exact hE _ (by rw [e0];simp)
  | false =>
   refine aOps_split 3 fun K hK=>?_
   simp
   refine hK _ _ ?_
   clear hK K
   refine aOps_callW (alike2_c S3 hS3l _) (by first | rfl | simp) rfl rfl (by simp) ?_
   cases n3:nodupB S3
   ·refine aOps_split 8 fun K hK=>?_
    simp
    refine hK _ _ ?_
    clear hK K
    refine aOps_split 8 fun K hK=>?_
    simp
    refine hK _ _ ?_
    clear hK K
    simp
    exact hE _ (by rw [e0];simp [n3])
   refine aOps_split 3 fun K hK=>?_
   simp
   refine hK _ _ ?_
   clear hK K
   refine aOps_callW (alike2_c S5 (by omega) _) (by first | rfl | simp) rfl rfl (by simp) ?_
   cases n5:nodupB S5
   ·refine aOps_split 8 fun K hK=>?_
    simp
    refine hK _ _ ?_
    clear hK K
    simp
    exact hE _ (by rw [e0];simp [n5])
   refine aOps_split 3 fun K hK=>?_
   simp
   refine hK _ _ ?_
   clear hK K
   refine aOps_callW (alike2_c S4 (by omega) _) (by first | rfl | simp) rfl rfl (by simp) ?_
   cases n4:nodupB S4
   ·refine aOps_split 6 fun K hK=>?_
    simp
    refine hK _ _ ?_
    clear hK K
    simp
    exact hE _ (by rw [e0];simp [n4])
   refine aOps_split 3 fun K hK=>?_
   simp
   refine hK _ _ ?_
   clear hK K
   refine aOps_callW (alike2_c S6 (by omega) _) (by first | rfl | simp) rfl rfl (by simp) ?_
   cases n6:nodupB S6
   ·refine aOps_split 3 fun K hK=>?_
    simp
    refine hK _ _ ?_
    clear hK K
    simp
    exact hE _ (by rw [e0];simp [n6])
   refine aOps_split 3 fun K hK=>?_
   simp
   refine hK _ _ ?_
   clear hK K
   refine aOps_callW (alike2_c S7 hS7l _) (by first | rfl | simp) rfl rfl (by simp) ?_
   simp
   exact hE _ (by rw [e0];simp [n3,n4,n5,n6])
 intro b hb
 refine hK _ _ ?_
 clear hK K
 subst hb
 cases b with
 | true =>
  repeat with_reducible refine awp_assoc ?_
  refine awp_seq_k fun K hK=>?_
  refine awp_condT rfl (by simp) ?_
  repeat with_reducible refine awp_assoc ?_
  refine awp_sr fun K hK=>?_
  simp
  refine hK _ _ ?_
  clear hK K
  simp [reset_all hcl]
 | false =>
  repeat with_reducible refine awp_assoc ?_
  refine awp_seq_k fun K hK=>?_
  refine awp_condF rfl (by simp) ?_
  refine awp_skip ?_
  refine hK _ _ ?_
  clear hK K
  repeat with_reducible refine awp_assoc ?_
  refine awp_sr fun K hK=>?_
  simp
  refine hK _ _ ?_
  clear hK K
  simp [reset_all hcl]
end Go.Proofs.YtdppfcbeiplckaaGreat
