/- Names and lengths in declarations (the program's args). -/
import Derived.Test.YtdppfcbeiplckaaGreatMD2
set_option linter.unusedVariables false
set_option linter.unusedSimpArgs false
namespace Go.Proofs.YtdppfcbeiplckaaGreat
open Go Go.Abs Go.Proofs
set_option maxRecDepth 20000
attribute [local simp] aOps wantedA aStep aop aLoad aStore aBin aUn aFieldAddr aField aIndexAddr aIndex aLen aBuild aFill aAlloc aAppend aAppendOwn aMin aMax aBuildSlice litRows newRows isMut isOwn isNilS nilsW bytesR tokW tokAV tokL ret readC splice aeval isLit isLate isCut aCut AV.celled AV.one AV.ofValue Value.oneCell' Value.cells intOp strOp get_nid upd_nid awp aEnd aResults aResult Det unord isCall isNext
attribute [local simp] low_take low_strs low_comp low_tcomp wkEs_refl' WkBs WkEnv WkB WkL WkE WkO ABlock.low lowO lowL lowR AV.low cellsL_eq Ty.low low_map Ty.cells_length Ty.cells_one
attribute [local simp] ConD.cells Dat.cells PredD.cells SigD.cells ClsD.cells InstD.cells DeclsD.cells DeclsD.enc Dat.enc low_datL low_conL low_predL low_sigL low_clsL low_instL
def conB (c:ConD):Bool:=greatN c.name && decide (c.args.length≤8)
def isDataB (x:Dat):Bool:=greatN x.name && decide (x.vars.length≤8) && x.vars.all smallN && x.cons.all conB
def sigB (o:SigD):Bool:=smallN o.name && decide (o.preds.length=0)
def isClsB (x:ClsD):Bool:=greatN x.name && x.supers.all greatN && x.ops.all sigB
def predB (y:Dat × Bool) (p:PredD):Bool:=greatN p.cls && decide (p.t.args.length=0) && smallN p.t.name && (!y.2 || memS p.t.name y.1.vars)
def isInstB (nm:ByteArray→Dat × Bool) (x:InstD):Bool:=greatN x.cls && greatN x.data && x.preds.all (predB (nm x.data))
def argsB (d:DeclsD):Bool:=d.datas.all isDataB && d.classes.all isClsB && d.insts.all (isInstB (namedD d))
theorem largeB_le {d:DeclsD} (h:largeB d=false):d.datas.length≤30∧d.classes.length≤12∧d.insts.length≤40∧(∀ x∈d.datas,x.cons.length≤16)∧(∀ x∈d.classes,x.ops.length≤8)∧(∀ x∈d.insts,x.preds.length≤64):=by
 simp only [largeB,Bool.or_eq_false_iff,decide_eq_false_iff_not,List.any_eq_false,decide_eq_true_eq,Nat.not_lt] at h
 exact ⟨h.1.1.1.1.1,h.1.1.1.1.2,h.1.1.1.2,h.1.1.2,h.1.2,h.2⟩
set_option maxHeartbeats 4000000 in
theorem args_c (d:DeclsD) (hr:RawD d) (hl:largeB d=false) (H:AHeap):ACalls Tryz.prog 97 [d.enc] H (intV (if argsB d=true then 0 else 1)) H:=by
 have h1:=hr.datas
 have h2:=hr.classes
 have h3:=hr.insts
 have h4:=hr.vars
 have h5:=hr.cons
 have h6:=hr.supers
 have h7:=hr.ops
 have h8:=hr.preds
 have hll:=largeB_le hl
 have hnm:=named_c d (by omega)
 have hnv:∀ n,(namedD d n).1.vars.length < 4611686018427387904:=by
  intro n
  unfold namedD
  split
  ·simp
  ·split
   ·rename_i x hx
    have:=List.mem_of_find?_eq_some hx
    unfold allD at this
    rcases List.mem_append.1 this with h | h
    ·have hb:∀ y∈baseD,y.vars.length≤2:=by decide
     have:=hb x h;simp only;omega
    ·exact h4 x h
   ·simp [zeroDat]
 have e0:argsB d=(d.datas.all isDataB && d.classes.all isClsB && d.insts.all (isInstB (namedD d))):=rfl
 generalize argsB d=ab at e0 ⊢
 generalize namedD d=nm at e0 hnm hnv
 clear hl hr hll
 obtain ⟨ds,cs,is⟩:=d
 simp only at e0 h1 h2 h3 h4 h5 h6 h7 h8
 refine acalls_walk (fun _=>.imm) [0,1,2,3,5,7,9,11,13,15,17,18,19,21,23,24,25,26,42,43,44,45,55,56,57,58,76,77,78,79,89,90,91,92,102,103,104,105,123,124,125,126,148,149,150,151,188] Tryz.mixed Tryz.func97 rfl rfl rfl (by decide) (fun hcl hlow=>?_)
 repeat with_reducible refine awp_assoc ?_
 refine awp_sr fun K hK=>?_
 simp
 refine hK _ _ ?_
 clear hK K
 repeat with_reducible refine awp_assoc ?_
 refine awp_sr fun K hK=>?_
 simp
 refine hK _ _ ?_
 clear hK K
 repeat with_reducible refine awp_assoc ?_
 refine awp_sr fun K hK=>?_
 simp
 refine hK _ _ ?_
 clear hK K
 refine awp_seq_k fun K hK=>?_
 refine awp_block ?_
 refine awp_up ds.length (fun k=>Env.ofL [(1,.ref (nid H.next 0) 0),(2,intV 0),(3,boolV ((ds.take k).all isDataB)),(23,.slice (ds.map Dat.cells) none),(24,intV (ds.length:Int)),(25,intV k)]) (fun k=>HL H [.cells [.slice (ds.map Dat.cells) none,.slice (cs.map ClsD.cells) none,.slice (is.map InstD.cells) none]]) (fun k=>True) (weak_HL hcl rfl (by simp) (by simp)) trivial (fun k hk _=>?_) (fun _=>?_)
 ·obtain ⟨x,hx⟩:∃ x,ds[k]?=some x:=⟨_,List.getElem?_eq_getElem hk⟩
  have hxm:=List.mem_of_getElem? hx
  have g4:=h4 x hxm
  have g5:=h5 x hxm
  rw [all_take hx]
  generalize (ds.take k).all isDataB=ok
  repeat with_reducible refine awp_assoc ?_
  refine awp_sr fun K hK=>?_
  simp [hk]
  refine hK _ _ ?_
  clear hK K
  repeat with_reducible refine awp_assoc ?_
  refine awp_seq_k fun K hK=>?_
  refine awp_condT rfl (by simp) ?_
  refine awp_skip ?_
  refine hK _ _ ?_
  clear hK K
  refine awp_seq_k fun KB hKB=>?_
  refine awp_block ?_
  repeat with_reducible refine awp_assoc ?_
  refine awp_sr fun K hK=>?_
  simp [hx]
  refine hK _ _ ?_
  clear hK K
  refine awp_sr fun K hK=>?_
  suffices hE:∀ b,b=(ok && greatN x.name && decide (x.vars.length≤8))→K (Env.ofL [(0,.undef),(1,.ref (nid H.next 0) 0),(2,intV 0),(3,boolV b),(5,.ref (nid H.next 1) 0),(7,.undef),(9,.undef),(11,.undef),(13,.undef),(15,.undef),(17,.undef),(18,.undef),(19,.undef),(21,.undef),(23,.slice (ds.map Dat.cells) none),(24,intV (ds.length:Int)),(25,intV k),(26,boolV true),(42,.undef),(43,.undef),(44,.undef),(45,.undef),(55,.undef),(56,.undef),(57,.undef),(58,.undef),(76,.undef),(77,.undef),(78,.undef),(79,.undef),(89,.undef),(90,.undef),(91,.undef),(92,.undef),(102,.undef),(103,.undef),(104,.undef),(105,.undef),(123,.undef),(124,.undef),(125,.undef),(126,.undef),(148,.undef),(149,.undef),(150,.undef),(151,.undef),(188,.undef)]) (HL H [.cells [.slice (ds.map Dat.cells) none,.slice (cs.map ClsD.cells) none,.slice (is.map InstD.cells) none],.cells [strV x.name,strs x.vars none,.slice (x.cons.map ConD.cells) none]]) by
   clear hK
   cases ok with
   | false =>
    refine aOps_split 8 fun K hK=>?_
    simp
    refine hK _ _ ?_
    clear hK K
    simp
    exact hE _ (by simp)
   | true =>
    refine aOps_split 4 fun K hK=>?_
    simp
    refine hK _ _ ?_
    clear hK K
    refine aOps_call (isGreat_c x.name _) (by first | rfl | simp) rfl rfl (by first | (simp;done) | rfl) ?_
    cases hg:greatN x.name
    ·refine aOps_split 4 fun K hK=>?_
     simp
     refine hK _ _ ?_
     clear hK K
     simp
     exact hE _ (by simp [hg])
    refine aOps_split 5 fun K hK=>?_
    simp
    refine hK _ _ ?_
    clear hK K
    by_cases hv:x.vars.length≤8
    ·have hv':(x.vars.length:Int)≤8:=by omega
     simp [hv']
     exact hE _ (by simp [hg,hv])
    ·have hv':¬ (x.vars.length:Int)≤8:=by omega
     simp [hv']
     exact hE _ (by simp [hg,hv])
  intro b hb
  refine hK _ _ ?_
  clear hK K
  have e1:(ok && isDataB x)=(b && x.vars.all smallN && x.cons.all conB):=by rw [hb];unfold isDataB;simp only [Bool.and_assoc]
  clear hb
  repeat with_reducible refine awp_assoc ?_
  refine awp_sr fun K hK=>?_
  simp
  refine hK _ _ ?_
  clear hK K
  refine awp_seq_k fun K hK=>?_
  refine awp_block ?_
  refine awp_up x.vars.length (fun j=>Env.ofL [(1,.ref (nid H.next 0) 0),(2,intV 0),(3,boolV (b && (x.vars.take j).all smallN)),(5,.ref (nid H.next 1) 0),(23,.slice (ds.map Dat.cells) none),(24,intV (ds.length:Int)),(25,intV k),(42,strs x.vars none),(43,intV (x.vars.length:Int)),(44,intV j)]) (fun j=>HL H [.cells [.slice (ds.map Dat.cells) none,.slice (cs.map ClsD.cells) none,.slice (is.map InstD.cells) none],.cells [strV x.name,strs x.vars none,.slice (x.cons.map ConD.cells) none]]) (fun _=>True) (weak_HL hcl rfl (by simp) (by simp)) trivial (fun j hj _=>?_) (fun _=>?_)
  ·obtain ⟨v,hv⟩:∃ v,x.vars[j]?=some v:=⟨_,List.getElem?_eq_getElem hj⟩
   rw [all_take hv,←Bool.and_assoc]
   generalize (b && (x.vars.take j).all smallN)=ok
   repeat with_reducible refine awp_assoc ?_
   refine awp_sr fun K hK=>?_
   simp [hj]
   refine hK _ _ ?_
   clear hK K
   repeat with_reducible refine awp_assoc ?_
   refine awp_seq_k fun K hK=>?_
   refine awp_condT rfl (by simp) ?_
   refine awp_skip ?_
   refine hK _ _ ?_
   clear hK K
   refine awp_seq_k fun K2 hK2=>?_
   refine awp_block ?_
   repeat with_reducible refine awp_assoc ?_
   refine awp_sr fun K hK=>?_
   simp [hv]
   refine hK _ _ ?_
   clear hK K
   refine awp_region ?_
   cases ok with
   | false =>
    simp
    refine hK2 _ _ ?_
    clear hK2 K2
    refine awp_region ?_
    simp [wrap_succ (show j < 4611686018427387904 by omega)]
    exact weak_HL hcl rfl (by simp) (by simp)
   | true =>
    refine aOps_split 3 fun K hK=>?_
    simp
    refine hK _ _ ?_
    clear hK K
    refine aOps_call (dSmall_c v _) (by first | rfl | simp) rfl rfl (by first | (simp;done) | rfl) ?_
    simp
    refine hK2 _ _ ?_
    clear hK2 K2
    refine awp_region ?_
    simp [wrap_succ (show j < 4611686018427387904 by omega)]
    exact weak_HL hcl rfl (by simp) (by simp)
  repeat with_reducible refine awp_assoc ?_
  refine awp_sr fun K hK=>?_
  simp
  refine hK _ _ ?_
  clear hK K
  repeat with_reducible refine awp_assoc ?_
  refine awp_seq_k fun K hK=>?_
  refine awp_condF rfl (by simp) ?_
  refine awp_exit ?_
  simp
  clear hK K
  refine hK _ _ ?_
  clear hK K
  generalize (b && x.vars.all smallN)=b2 at e1 ⊢
  repeat with_reducible refine awp_assoc ?_
  refine awp_sr fun K hK=>?_
  simp
  refine hK _ _ ?_
  clear hK K
  refine awp_block ?_
  refine awp_up x.cons.length (fun j=>Env.ofL [(1,.ref (nid H.next 0) 0),(2,intV 0),(3,boolV (b2 && (x.cons.take j).all conB)),(5,.ref (nid H.next 1) 0),(23,.slice (ds.map Dat.cells) none),(24,intV (ds.length:Int)),(25,intV k),(55,.slice (x.cons.map ConD.cells) none),(56,intV (x.cons.length:Int)),(57,intV j)]) (fun j=>HL H [.cells [.slice (ds.map Dat.cells) none,.slice (cs.map ClsD.cells) none,.slice (is.map InstD.cells) none],.cells [strV x.name,strs x.vars none,.slice (x.cons.map ConD.cells) none]]) (fun _=>True) (weak_HL hcl rfl (by simp) (by simp)) trivial (fun j hj _=>?_) (fun _=>?_)
  ·obtain ⟨v,hv⟩:∃ v,x.cons[j]?=some v:=⟨_,List.getElem?_eq_getElem hj⟩
   rw [all_take hv,←Bool.and_assoc]
   generalize (b2 && (x.cons.take j).all conB)=ok
   repeat with_reducible refine awp_assoc ?_
   refine awp_sr fun K hK=>?_
   simp [hj]
   refine hK _ _ ?_
   clear hK K
   repeat with_reducible refine awp_assoc ?_
   refine awp_seq_k fun K hK=>?_
   refine awp_condT rfl (by simp) ?_
   refine awp_skip ?_
   refine hK _ _ ?_
   clear hK K
   refine awp_seq_k fun K2 hK2=>?_
   refine awp_block ?_
   repeat with_reducible refine awp_assoc ?_
   refine awp_sr fun K hK=>?_
   simp [hv]
   refine hK _ _ ?_
   clear hK K
   refine awp_region ?_
   cases ok with
   | false =>
    refine aOps_split 8 fun K hK=>?_
    simp
    refine hK _ _ ?_
    clear hK K
    simp
    refine hK2 _ _ ?_
    clear hK2 K2
    refine awp_region ?_
    simp [wrap_succ (show j < 4611686018427387904 by omega)]
    exact weak_HL hcl rfl (by simp) (by simp)
   | true =>
    refine aOps_split 4 fun K hK=>?_
    simp
    refine hK _ _ ?_
    clear hK K
    refine aOps_call (isGreat_c v.name _) (by first | rfl | simp) rfl rfl (by first | (simp;done) | rfl) ?_
    cases hg:greatN v.name
    ·simp
     refine hK2 _ _ ?_
     clear hK2 K2
     refine awp_region ?_
     simp [wrap_succ (show j < 4611686018427387904 by omega)]
     exact weak_HL hcl rfl (by simp) (by simp [conB,hg])
    refine aOps_split 5 fun K hK=>?_
    simp
    refine hK _ _ ?_
    clear hK K
    by_cases ha:v.args.length≤8
    ·have ha':(v.args.length:Int)≤8:=by omega
     simp [ha']
     refine hK2 _ _ ?_
     clear hK2 K2
     refine awp_region ?_
     simp [wrap_succ (show j < 4611686018427387904 by omega)]
     exact weak_HL hcl rfl (by simp) (by simp [conB,hg,ha])
    ·have ha':¬ (v.args.length:Int)≤8:=by omega
     simp [ha']
     refine hK2 _ _ ?_
     clear hK2 K2
     refine awp_region ?_
     simp [wrap_succ (show j < 4611686018427387904 by omega)]
     exact weak_HL hcl rfl (by simp) (by simp [conB,hg,ha])
  repeat with_reducible refine awp_assoc ?_
  refine awp_sr fun K hK=>?_
  simp
  refine hK _ _ ?_
  clear hK K
  repeat with_reducible refine awp_assoc ?_
  refine awp_seq_k fun K hK=>?_
  refine awp_condF rfl (by simp) ?_
  refine awp_exit ?_
  simp
  refine hKB _ _ ?_
  clear hK hKB
  refine awp_region ?_
  simp [wrap_succ (show k < 4611686018427387904 by omega)]
  rw [e1]
  exact weak_HL hcl rfl (by simp) (by simp)
 repeat with_reducible refine awp_assoc ?_
 refine awp_sr fun K hK=>?_
 simp
 refine hK _ _ ?_
 clear hK K
 repeat with_reducible refine awp_assoc ?_
 refine awp_seq_k fun K hK=>?_
 refine awp_condF rfl (by simp) ?_
 refine awp_exit ?_
 simp
 clear hK K
 refine hK _ _ ?_
 clear hK K
 generalize ds.all isDataB=b1 at e0 ⊢
 repeat with_reducible refine awp_assoc ?_
 refine awp_sr fun K hK=>?_
 simp
 refine hK _ _ ?_
 clear hK K
 refine awp_seq_k fun K hK=>?_
 refine awp_block ?_
 refine awp_up cs.length (fun k=>Env.ofL [(1,.ref (nid H.next 0) 0),(2,intV 0),(3,boolV (b1 && (cs.take k).all isClsB)),(76,.slice (cs.map ClsD.cells) none),(77,intV (cs.length:Int)),(78,intV k)]) (fun k=>HL H [.cells [.slice (ds.map Dat.cells) none,.slice (cs.map ClsD.cells) none,.slice (is.map InstD.cells) none]]) (fun k=>True) (weak_HL hcl rfl (by simp) (by simp)) trivial (fun k hk _=>?_) (fun _=>?_)
 ·obtain ⟨x,hx⟩:∃ x,cs[k]?=some x:=⟨_,List.getElem?_eq_getElem hk⟩
  have hxm:=List.mem_of_getElem? hx
  have g4:=h6 x hxm
  have g5:=h7 x hxm
  rw [all_take hx,←Bool.and_assoc]
  generalize (b1 && (cs.take k).all isClsB)=ok
  repeat with_reducible refine awp_assoc ?_
  refine awp_sr fun K hK=>?_
  simp [hk]
  refine hK _ _ ?_
  clear hK K
  repeat with_reducible refine awp_assoc ?_
  refine awp_seq_k fun K hK=>?_
  refine awp_condT rfl (by simp) ?_
  refine awp_skip ?_
  refine hK _ _ ?_
  clear hK K
  refine awp_seq_k fun KB hKB=>?_
  refine awp_block ?_
  repeat with_reducible refine awp_assoc ?_
  refine awp_sr fun K hK=>?_
  simp [hx]
  refine hK _ _ ?_
  clear hK K
  refine awp_sr fun K hK=>?_
  suffices hE:∀ b,b=(ok && greatN x.name)→K (Env.ofL [(0,.undef),(1,.ref (nid H.next 0) 0),(2,intV 0),(3,boolV b),(5,.undef),(7,.undef),(9,.undef),(11,.ref (nid H.next 1) 0),(13,.undef),(15,.undef),(17,.undef),(18,.undef),(19,.undef),(21,.undef),(23,.undef),(24,.undef),(25,.undef),(26,.undef),(42,.undef),(43,.undef),(44,.undef),(45,.undef),(55,.undef),(56,.undef),(57,.undef),(58,.undef),(76,.slice (cs.map ClsD.cells) none),(77,intV (cs.length:Int)),(78,intV k),(79,boolV true),(89,.undef),(90,.undef),(91,.undef),(92,.undef),(102,.undef),(103,.undef),(104,.undef),(105,.undef),(123,.undef),(124,.undef),(125,.undef),(126,.undef),(148,.undef),(149,.undef),(150,.undef),(151,.undef),(188,.undef)]) (HL H [.cells [.slice (ds.map Dat.cells) none,.slice (cs.map ClsD.cells) none,.slice (is.map InstD.cells) none],.cells [strV x.name,strs x.supers none,.slice (x.ops.map SigD.cells) none]]) by
   clear hK
   cases ok with
   | false =>
    simp
    exact hE _ (by simp)
   | true =>
    refine aOps_split 4 fun K hK=>?_
    simp
    refine hK _ _ ?_
    clear hK K
    refine aOps_call (isGreat_c x.name _) (by first | rfl | simp) rfl rfl (by first | (simp;done) | rfl) ?_
    simp
    exact hE _ (by simp)
  intro b hb
  refine hK _ _ ?_
  clear hK K
  have e1:(ok && isClsB x)=(b && x.supers.all greatN && x.ops.all sigB):=by rw [hb];unfold isClsB;simp only [Bool.and_assoc]
  clear hb
  repeat with_reducible refine awp_assoc ?_
  refine awp_sr fun K hK=>?_
  simp
  refine hK _ _ ?_
  clear hK K
  refine awp_seq_k fun K hK=>?_
  refine awp_block ?_
  refine awp_up x.supers.length (fun j=>Env.ofL [(1,.ref (nid H.next 0) 0),(2,intV 0),(3,boolV (b && (x.supers.take j).all greatN)),(11,.ref (nid H.next 1) 0),(76,.slice (cs.map ClsD.cells) none),(77,intV (cs.length:Int)),(78,intV k),(89,strs x.supers none),(90,intV (x.supers.length:Int)),(91,intV j)]) (fun j=>HL H [.cells [.slice (ds.map Dat.cells) none,.slice (cs.map ClsD.cells) none,.slice (is.map InstD.cells) none],.cells [strV x.name,strs x.supers none,.slice (x.ops.map SigD.cells) none]]) (fun _=>True) (weak_HL hcl rfl (by simp) (by simp)) trivial (fun j hj _=>?_) (fun _=>?_)
  ·obtain ⟨v,hv⟩:∃ v,x.supers[j]?=some v:=⟨_,List.getElem?_eq_getElem hj⟩
   rw [all_take hv,←Bool.and_assoc]
   generalize (b && (x.supers.take j).all greatN)=ok
   repeat with_reducible refine awp_assoc ?_
   refine awp_sr fun K hK=>?_
   simp [hj]
   refine hK _ _ ?_
   clear hK K
   repeat with_reducible refine awp_assoc ?_
   refine awp_seq_k fun K hK=>?_
   refine awp_condT rfl (by simp) ?_
   refine awp_skip ?_
   refine hK _ _ ?_
   clear hK K
   refine awp_seq_k fun K2 hK2=>?_
   refine awp_block ?_
   repeat with_reducible refine awp_assoc ?_
   refine awp_sr fun K hK=>?_
   simp [hv]
   refine hK _ _ ?_
   clear hK K
   refine awp_region ?_
   cases ok with
   | false =>
    simp
    refine hK2 _ _ ?_
    clear hK2 K2
    refine awp_region ?_
    simp [wrap_succ (show j < 4611686018427387904 by omega)]
    exact weak_HL hcl rfl (by simp) (by simp)
   | true =>
    refine aOps_split 3 fun K hK=>?_
    simp
    refine hK _ _ ?_
    clear hK K
    refine aOps_call (isGreat_c v _) (by first | rfl | simp) rfl rfl (by first | (simp;done) | rfl) ?_
    simp
    refine hK2 _ _ ?_
    clear hK2 K2
    refine awp_region ?_
    simp [wrap_succ (show j < 4611686018427387904 by omega)]
    exact weak_HL hcl rfl (by simp) (by simp)
  repeat with_reducible refine awp_assoc ?_
  refine awp_sr fun K hK=>?_
  simp
  refine hK _ _ ?_
  clear hK K
  repeat with_reducible refine awp_assoc ?_
  refine awp_seq_k fun K hK=>?_
  refine awp_condF rfl (by simp) ?_
  refine awp_exit ?_
  simp
  clear hK K
  refine hK _ _ ?_
  clear hK K
  generalize (b && x.supers.all greatN)=b2 at e1 ⊢
  repeat with_reducible refine awp_assoc ?_
  refine awp_sr fun K hK=>?_
  simp
  refine hK _ _ ?_
  clear hK K
  refine awp_block ?_
  refine awp_up x.ops.length (fun j=>Env.ofL [(1,.ref (nid H.next 0) 0),(2,intV 0),(3,boolV (b2 && (x.ops.take j).all sigB)),(11,.ref (nid H.next 1) 0),(76,.slice (cs.map ClsD.cells) none),(77,intV (cs.length:Int)),(78,intV k),(102,.slice (x.ops.map SigD.cells) none),(103,intV (x.ops.length:Int)),(104,intV j)]) (fun j=>HL H [.cells [.slice (ds.map Dat.cells) none,.slice (cs.map ClsD.cells) none,.slice (is.map InstD.cells) none],.cells [strV x.name,strs x.supers none,.slice (x.ops.map SigD.cells) none]]) (fun _=>True) (weak_HL hcl rfl (by simp) (by simp)) trivial (fun j hj _=>?_) (fun _=>?_)
  ·obtain ⟨v,hv⟩:∃ v,x.ops[j]?=some v:=⟨_,List.getElem?_eq_getElem hj⟩
   rw [all_take hv,←Bool.and_assoc]
   generalize (b2 && (x.ops.take j).all sigB)=ok
   repeat with_reducible refine awp_assoc ?_
   refine awp_sr fun K hK=>?_
   simp [hj]
   refine hK _ _ ?_
   clear hK K
   repeat with_reducible refine awp_assoc ?_
   refine awp_seq_k fun K hK=>?_
   refine awp_condT rfl (by simp) ?_
   refine awp_skip ?_
   refine hK _ _ ?_
   clear hK K
   refine awp_seq_k fun K2 hK2=>?_
   refine awp_block ?_
   repeat with_reducible refine awp_assoc ?_
   refine awp_sr fun K hK=>?_
   simp [hv]
   refine hK _ _ ?_
   clear hK K
   refine awp_region ?_
   cases ok with
   | false =>
    refine aOps_split 8 fun K hK=>?_
    simp
    refine hK _ _ ?_
    clear hK K
    simp
    refine hK2 _ _ ?_
    clear hK2 K2
    refine awp_region ?_
    simp [wrap_succ (show j < 4611686018427387904 by omega)]
    exact weak_HL hcl rfl (by simp) (by simp)
   | true =>
    refine aOps_split 4 fun K hK=>?_
    simp
    refine hK _ _ ?_
    clear hK K
    refine aOps_call (dSmall_c v.name _) (by first | rfl | simp) rfl rfl (by first | (simp;done) | rfl) ?_
    cases hg:smallN v.name
    ·simp
     refine hK2 _ _ ?_
     clear hK2 K2
     refine awp_region ?_
     simp [wrap_succ (show j < 4611686018427387904 by omega)]
     exact weak_HL hcl rfl (by simp) (by simp [sigB,hg])
    refine aOps_split 5 fun K hK=>?_
    simp
    refine hK _ _ ?_
    clear hK K
    by_cases ha:v.preds=[]
    ·simp [ha]
     refine hK2 _ _ ?_
     clear hK2 K2
     refine awp_region ?_
     simp [wrap_succ (show j < 4611686018427387904 by omega)]
     exact weak_HL hcl rfl (by simp) (by simp [sigB,hg,ha])
    ·simp [ha]
     refine hK2 _ _ ?_
     clear hK2 K2
     refine awp_region ?_
     simp [wrap_succ (show j < 4611686018427387904 by omega)]
     exact weak_HL hcl rfl (by simp) (by simp [sigB,hg,ha])
  repeat with_reducible refine awp_assoc ?_
  refine awp_sr fun K hK=>?_
  simp
  refine hK _ _ ?_
  clear hK K
  repeat with_reducible refine awp_assoc ?_
  refine awp_seq_k fun K hK=>?_
  refine awp_condF rfl (by simp) ?_
  refine awp_exit ?_
  simp
  refine hKB _ _ ?_
  clear hK hKB
  refine awp_region ?_
  simp [wrap_succ (show k < 4611686018427387904 by omega)]
  rw [e1]
  exact weak_HL hcl rfl (by simp) (by simp)
 repeat with_reducible refine awp_assoc ?_
 refine awp_sr fun K hK=>?_
 simp
 refine hK _ _ ?_
 clear hK K
 repeat with_reducible refine awp_assoc ?_
 refine awp_seq_k fun K hK=>?_
 refine awp_condF rfl (by simp) ?_
 refine awp_exit ?_
 simp
 clear hK K
 refine hK _ _ ?_
 clear hK K
 generalize (b1 && cs.all isClsB)=b2 at e0 ⊢
 repeat with_reducible refine awp_assoc ?_
 refine awp_sr fun K hK=>?_
 simp
 refine hK _ _ ?_
 clear hK K
 refine awp_seq_k fun K hK=>?_
 refine awp_block ?_
 refine awp_up is.length (fun k=>Env.ofL [(1,.ref (nid H.next 0) 0),(2,intV 0),(3,boolV (b2 && (is.take k).all (isInstB nm))),(123,.slice (is.map InstD.cells) none),(124,intV (is.length:Int)),(125,intV k)]) (fun k=>HL H [.cells [.slice (ds.map Dat.cells) none,.slice (cs.map ClsD.cells) none,.slice (is.map InstD.cells) none]]) (fun k=>True) (weak_HL hcl rfl (by simp) (by simp)) trivial (fun k hk _=>?_) (fun _=>?_)
 ·obtain ⟨x,hx⟩:∃ x,is[k]?=some x:=⟨_,List.getElem?_eq_getElem hk⟩
  have hxm:=List.mem_of_getElem? hx
  have g4:=h8 x hxm
  rw [all_take hx,←Bool.and_assoc]
  generalize (b2 && (is.take k).all (isInstB nm))=ok
  repeat with_reducible refine awp_assoc ?_
  refine awp_sr fun K hK=>?_
  simp [hk]
  refine hK _ _ ?_
  clear hK K
  repeat with_reducible refine awp_assoc ?_
  refine awp_seq_k fun K hK=>?_
  refine awp_condT rfl (by simp) ?_
  refine awp_skip ?_
  refine hK _ _ ?_
  clear hK K
  refine awp_seq_k fun KB hKB=>?_
  refine awp_block ?_
  repeat with_reducible refine awp_assoc ?_
  refine awp_sr fun K hK=>?_
  simp [hx]
  refine hK _ _ ?_
  clear hK K
  refine awp_sr fun K hK=>?_
  suffices hE:∀ b,b=(ok && greatN x.cls && greatN x.data)→K (Env.ofL [(0,.undef),(1,.ref (nid H.next 0) 0),(2,intV 0),(3,boolV b),(5,.undef),(7,.undef),(9,.undef),(11,.undef),(13,.undef),(15,.undef),(17,.ref (nid H.next 1) 0),(18,.undef),(19,.undef),(21,.undef),(23,.undef),(24,.undef),(25,.undef),(26,.undef),(42,.undef),(43,.undef),(44,.undef),(45,.undef),(55,.undef),(56,.undef),(57,.undef),(58,.undef),(76,.undef),(77,.undef),(78,.undef),(79,.undef),(89,.undef),(90,.undef),(91,.undef),(92,.undef),(102,.undef),(103,.undef),(104,.undef),(105,.undef),(123,.slice (is.map InstD.cells) none),(124,intV (is.length:Int)),(125,intV k),(126,boolV true),(148,.undef),(149,.undef),(150,.undef),(151,.undef),(188,.undef)]) (HL H [.cells [.slice (ds.map Dat.cells) none,.slice (cs.map ClsD.cells) none,.slice (is.map InstD.cells) none],.cells x.cells]) by
   clear hK
   cases ok with
   | false =>
    refine aOps_split 8 fun K hK=>?_
    simp
    refine hK _ _ ?_
    clear hK K
    simp
    exact hE _ (by simp)
   | true =>
    refine aOps_split 4 fun K hK=>?_
    simp
    refine hK _ _ ?_
    clear hK K
    refine aOps_call (isGreat_c x.cls _) (by first | rfl | simp) rfl rfl (by first | (simp;done) | rfl) ?_
    cases hg:greatN x.cls
    ·refine aOps_split 4 fun K hK=>?_
     simp
     refine hK _ _ ?_
     clear hK K
     simp
     exact hE _ (by simp [hg])
    refine aOps_split 4 fun K hK=>?_
    simp
    refine hK _ _ ?_
    clear hK K
    refine aOps_call (isGreat_c x.data _) (by first | rfl | simp) rfl rfl (by first | (simp;done) | rfl) ?_
    simp
    exact hE _ (by simp [hg])
  intro b hb
  refine hK _ _ ?_
  clear hK K
  have e1:(ok && isInstB nm x)=(b && x.preds.all (predB (nm x.data))):=by rw [hb];unfold isInstB;simp only [Bool.and_assoc]
  clear hb
  have hn:=hnm x.data
  have hnv2:=hnv x.data
  generalize nm x.data=y at e1 hn hnv2
  obtain ⟨y1,y2⟩:=y
  simp only at hn hnv2
  repeat with_reducible refine awp_assoc ?_
  refine awp_sr fun K hK=>?_
  refine aOps_split 3 fun K hK=>?_
  simp
  refine hK _ _ ?_
  clear hK K
  refine aOps_call (hn _) (by first | rfl | simp) rfl rfl (by first | (simp;done) | rfl) ?_
  refine aOps_split 4 fun K hK=>?_
  simp
  refine hK _ _ ?_
  clear hK K
  simp
  refine hK _ _ ?_
  clear hK K
  repeat with_reducible refine awp_assoc ?_
  refine awp_sr fun K hK=>?_
  simp
  refine hK _ _ ?_
  clear hK K
  refine awp_block ?_
  refine awp_up x.preds.length (fun j=>Env.ofL [(1,.ref (nid H.next 0) 0),(2,intV 0),(3,boolV (b && (x.preds.take j).all (predB (y1,y2)))),(17,.ref (nid H.next 1) 0),(18,.ref (nid H.next 2) 0),(19,boolV y2),(123,.slice (is.map InstD.cells) none),(124,intV (is.length:Int)),(125,intV k),(148,.slice (x.preds.map PredD.cells) none),(149,intV (x.preds.length:Int)),(150,intV j)]) (fun j=>HL H [.cells [.slice (ds.map Dat.cells) none,.slice (cs.map ClsD.cells) none,.slice (is.map InstD.cells) none],.cells x.cells,.cells [strV y1.name,strs y1.vars none,.slice (y1.cons.map ConD.cells) none]]) (fun _=>True) (weak_HL hcl rfl (by simp) (by simp)) trivial (fun j hj _=>?_) (fun _=>?_)
  ·obtain ⟨v,hv⟩:∃ v,x.preds[j]?=some v:=⟨_,List.getElem?_eq_getElem hj⟩
   rw [all_take hv,←Bool.and_assoc]
   generalize (b && (x.preds.take j).all (predB (y1,y2)))=ok
   repeat with_reducible refine awp_assoc ?_
   refine awp_sr fun K hK=>?_
   simp [hj]
   refine hK _ _ ?_
   clear hK K
   repeat with_reducible refine awp_assoc ?_
   refine awp_seq_k fun K hK=>?_
   refine awp_condT rfl (by simp) ?_
   refine awp_skip ?_
   refine hK _ _ ?_
   clear hK K
   refine awp_seq_k fun K2 hK2=>?_
   refine awp_block ?_
   repeat with_reducible refine awp_assoc ?_
   refine awp_sr fun K hK=>?_
   simp [hv]
   refine hK _ _ ?_
   clear hK K
   refine awp_region ?_
   cases ok with
   | false =>
    refine aOps_split 8 fun K hK=>?_
    simp
    refine hK _ _ ?_
    clear hK K
    refine aOps_split 8 fun K hK=>?_
    simp
    refine hK _ _ ?_
    clear hK K
    refine aOps_split 8 fun K hK=>?_
    simp
    refine hK _ _ ?_
    clear hK K
    simp
    refine hK2 _ _ ?_
    clear hK2 K2
    refine awp_region ?_
    simp [wrap_succ (show j < 4611686018427387904 by omega)]
    exact weak_HL hcl rfl (by simp) (by simp)
   | true =>
    refine aOps_split 4 fun K hK=>?_
    simp
    refine hK _ _ ?_
    clear hK K
    refine aOps_call (isGreat_c v.cls _) (by first | rfl | simp) rfl rfl (by first | (simp;done) | rfl) ?_
    cases hg:greatN v.cls
    ·refine aOps_split 8 fun K hK=>?_
     simp
     refine hK _ _ ?_
     clear hK K
     refine aOps_split 8 fun K hK=>?_
     simp
     refine hK _ _ ?_
     clear hK K
     refine aOps_split 8 fun K hK=>?_
     simp
     refine hK _ _ ?_
     clear hK K
     simp
     refine hK2 _ _ ?_
     clear hK2 K2
     refine awp_region ?_
     simp [wrap_succ (show j < 4611686018427387904 by omega)]
     exact weak_HL hcl rfl (by simp) (by simp [predB,hg])
    refine aOps_split 6 fun K hK=>?_
    simp
    refine hK _ _ ?_
    clear hK K
    by_cases ha:v.t.args=[]
    rotate_left
    ·refine aOps_split 8 fun K hK=>?_
     simp [ha]
     refine hK _ _ ?_
     clear hK K
     refine aOps_split 8 fun K hK=>?_
     simp [ha]
     refine hK _ _ ?_
     clear hK K
     refine aOps_split 8 fun K hK=>?_
     simp [ha]
     refine hK _ _ ?_
     clear hK K
     simp [ha]
     refine hK2 _ _ ?_
     clear hK2 K2
     refine awp_region ?_
     simp [wrap_succ (show j < 4611686018427387904 by omega)]
     exact weak_HL hcl rfl (by simp) (by simp [predB,hg,ha])
    refine aOps_split 6 fun K hK=>?_
    simp [ha]
    refine hK _ _ ?_
    clear hK K
    refine aOps_call (dSmall_c v.t.name _) (by first | rfl | simp) rfl rfl (by first | (simp;done) | rfl) ?_
    cases hs:smallN v.t.name
    ·refine aOps_split 8 fun K hK=>?_
     simp
     refine hK _ _ ?_
     clear hK K
     refine aOps_split 8 fun K hK=>?_
     simp
     refine hK _ _ ?_
     clear hK K
     simp
     refine hK2 _ _ ?_
     clear hK2 K2
     refine awp_region ?_
     simp [wrap_succ (show j < 4611686018427387904 by omega)]
     exact weak_HL hcl rfl (by simp) (by simp [predB,hg,ha,hs])
    cases y2 with
    | false =>
     refine aOps_split 8 fun K hK=>?_
     simp
     refine hK _ _ ?_
     clear hK K
     refine aOps_split 8 fun K hK=>?_
     simp
     refine hK _ _ ?_
     clear hK K
     simp
     refine hK2 _ _ ?_
     clear hK2 K2
     refine awp_region ?_
     simp [wrap_succ (show j < 4611686018427387904 by omega)]
     exact weak_HL hcl rfl (by simp) (by simp [predB,hg,ha,hs])
    | true =>
     refine aOps_split 5 fun K hK=>?_
     simp
     refine hK _ _ ?_
     clear hK K
     refine aOps_split 5 fun K hK=>?_
     simp
     refine hK _ _ ?_
     clear hK K
     refine aOps_call (contains_c y1.vars v.t.name hnv2 _) (by first | rfl | simp) rfl rfl (by first | (simp;done) | rfl) ?_
     simp
     refine hK2 _ _ ?_
     clear hK2 K2
     refine awp_region ?_
     simp [wrap_succ (show j < 4611686018427387904 by omega)]
     exact weak_HL hcl rfl (by simp) (by simp [predB,hg,ha,hs])
  repeat with_reducible refine awp_assoc ?_
  refine awp_sr fun K hK=>?_
  simp
  refine hK _ _ ?_
  clear hK K
  repeat with_reducible refine awp_assoc ?_
  refine awp_seq_k fun K hK=>?_
  refine awp_condF rfl (by simp) ?_
  refine awp_exit ?_
  simp
  refine hKB _ _ ?_
  clear hK hKB
  refine awp_region ?_
  simp [wrap_succ (show k < 4611686018427387904 by omega)]
  rw [e1]
  exact weak_HL hcl rfl (by simp) (by simp)
 repeat with_reducible refine awp_assoc ?_
 refine awp_sr fun K hK=>?_
 simp
 refine hK _ _ ?_
 clear hK K
 repeat with_reducible refine awp_assoc ?_
 refine awp_seq_k fun K hK=>?_
 refine awp_condF rfl (by simp) ?_
 refine awp_exit ?_
 simp
 clear hK K
 refine hK _ _ ?_
 clear hK K
 rw [←e0]
 clear e0
 repeat with_reducible refine awp_assoc ?_
 refine awp_sr fun K hK=>?_
 simp
 refine hK _ _ ?_
 clear hK K
 cases ab with
 | true =>
  repeat with_reducible refine awp_assoc ?_
  refine awp_seq_k fun K hK=>?_
  refine awp_condF rfl (by simp) ?_
  refine awp_skip ?_
  refine hK _ _ ?_
  clear hK K
  repeat with_reducible refine awp_assoc ?_
  refine awp_sr fun K hK=>?_
  simp
  refine hK _ _ ?_
  clear hK K
  simp [reset_all hcl]
 | false =>
  repeat with_reducible refine awp_assoc ?_
  refine awp_seq_k fun K hK=>?_
  refine awp_condT rfl (by simp) ?_
  repeat with_reducible refine awp_assoc ?_
  refine awp_sr fun K hK=>?_
  simp
  refine hK _ _ ?_
  clear hK K
  simp [reset_all hcl]
end Go.Proofs.YtdppfcbeiplckaaGreat
