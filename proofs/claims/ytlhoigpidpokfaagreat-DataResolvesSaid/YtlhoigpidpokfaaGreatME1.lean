/- The reference: what there is, places. -/
import Derived.Test.YtlhoigpidpokfaaGreatMD2
import Derived.Test.YtlhoigpidpokfaaGreatMD3
import Derived.Test.YtlhoigpidpokfaaGreatMD6
set_option linter.unusedVariables false
set_option linter.unusedSimpArgs false
namespace Go.Proofs.YtlhoigpidpokfaaGreat
open Go Go.Abs Go.Proofs
set_option maxRecDepth 20000
attribute [local simp] aOps wantedA aStep aop aLoad aStore aBin aUn aFieldAddr aField aIndexAddr aIndex aLen aBuild aFill aAlloc aAppend aAppendOwn aMin aMax aBuildSlice litRows newRows isMut isOwn isNilS nilsW bytesR tokW tokAV tokL ret readC splice aeval isLit isLate isCut aCut AV.celled AV.one AV.ofValue Value.oneCell' Value.cells intOp strOp get_nid upd_nid awp aEnd aResults aResult Det unord isCall isNext
attribute [local simp] low_take low_strs low_comp low_tcomp wkEs_refl' WkBs WkEnv WkB WkL WkE WkO ABlock.low lowO lowL lowR AV.low cellsL_eq Ty.low low_map Ty.cells_length Ty.cells_one
attribute [local simp] ConD.cells Dat.cells PredD.cells SigD.cells ClsD.cells InstD.cells DeclsD.cells DeclsD.enc Dat.enc low_datL low_conL low_predL low_sigL low_clsL low_instL
theorem rv_c (n:ByteArray) (H:AHeap):ACalls Tryz.prog 93 [strV n] H (.agg [strV n,.slice [] none]) H:=by
 refine acalls_walk (fun _=>.imm) [0,2] Tryz.mixed Tryz.func93 rfl rfl rfl (by decide) (fun hcl hlow=>?_)
 repeat with_reducible refine awp_assoc ?_
 refine awp_sr fun K hK=>?_
 simp
 refine hK _ _ ?_
 clear hK K
 repeat with_reducible refine awp_assoc ?_
 refine awp_sr fun K hK=>?_
 simp
 refine hK _ _ ?_
 clear hK K
 simp [reset_all hcl]
 exact Wk.agg ⟨.refl _,Wk.nilSlice,trivial⟩
theorem rc_c (n:ByteArray) (l:List Ty) (H:AHeap):ACalls Tryz.prog 94 [strV n,.slice (l.map Ty.cells) none] H (.agg [strV n,.slice (l.map Ty.cells) none]) H:=by
 refine acalls_walk (fun _=>.imm) [0,1,4] Tryz.mixed Tryz.func94 rfl rfl rfl (by decide) (fun hcl hlow=>?_)
 repeat with_reducible refine awp_assoc ?_
 refine awp_sr fun K hK=>?_
 simp
 refine hK _ _ ?_
 clear hK K
 repeat with_reducible refine awp_assoc ?_
 refine awp_sr fun K hK=>?_
 simp
 refine hK _ _ ?_
 clear hK K
 simp [reset_all hcl]
theorem rBase_c (H:AHeap):ACalls Tryz.prog 57 [] H (.slice (baseD.map Dat.cells) (some (nid H.next 0))) (HL H [.tok 5 3 none]):=by
 have hcl1:=rc_c listN [.mk aS []]
 have hcl2:=rc_c natN []
 simp only [List.map_cons,List.map_nil,Ty.cells,cellsL_eq] at hcl1 hcl2
 refine acalls_walk (fun d=>if d=31 then .imm else .lit) [0] Tryz.mixed Tryz.func57 rfl rfl rfl (by decide) (fun hcl hlow=>?_)
 repeat with_reducible refine awp_assoc ?_
 refine awp_sr fun K hK=>?_
 simp
 refine hK _ _ ?_
 clear hK K
 repeat with_reducible refine awp_assoc ?_
 refine awp_sr fun K hK=>?_
 refine aOps_split 5 fun K hK=>?_
 simp
 refine hK _ _ ?_
 clear hK K
 refine aOps_split 4 fun K hK=>?_
 simp
 refine hK _ _ ?_
 clear hK K
 refine aOps_call (rv_c aS _) (by first | rfl | simp) rfl rfl (by first | (simp;done) | rfl) ?_
 refine aOps_call (rv_c aS _) (by first | rfl | simp) rfl rfl (by first | (simp;done) | rfl) ?_
 refine aOps_split 1 fun K hK=>?_
 simp
 refine hK _ _ ?_
 clear hK K
 refine aOps_call (hcl1 _) (by first | rfl | simp) rfl rfl (by first | (simp;done) | rfl) ?_
 refine aOps_split 5 fun K hK=>?_
 simp
 refine hK _ _ ?_
 clear hK K
 refine aOps_call (rv_c aS _) (by first | rfl | simp) rfl rfl (by first | (simp;done) | rfl) ?_
 refine aOps_call (rv_c bS _) (by first | rfl | simp) rfl rfl (by first | (simp;done) | rfl) ?_
 refine aOps_split 5 fun K hK=>?_
 simp
 refine hK _ _ ?_
 clear hK K
 refine aOps_callW (hcl2 _) (by first | rfl | simp) rfl rfl ⟨.refl _,Wk.nilSlice,trivial⟩ ?_
 simp
 refine hK _ _ ?_
 clear hK K
 simp [baseD,strs,Ty.cells,cellsL]
 refine ⟨Wk.sliceT ?_,reset_HL hcl ?_,le_nid⟩
 ·simp only [WkR,WkE]
  repeat' first | exact Wk.refl _ | exact Wk.nilSlice | refine Wk.slice ?_ | (simp only [WkR,WkE];done) | (simp only [WkR,WkE]) | refine And.intro ?_ ?_ | exact trivial
 ·simp
theorem rAll_c (d:DeclsD) (hsz:d.datas.length < 1000000000000) (H:AHeap):ACalls Tryz.prog 16 [d.enc] H (.slice ((allD d).map Dat.cells) none) H:=by
 have hb:=rBase_c
 have e1:(allD d).map Dat.cells=baseD.map Dat.cells++d.datas.map Dat.cells:=by unfold allD;rw [List.map_append]
 have hbl:(baseD.map Dat.cells).length=5:=rfl
 have hb3:∀ r∈baseD.map Dat.cells,r.length=3:=by simp [Dat.cells]
 rw [e1]
 have hlB:∀ n,lowR n (baseD.map Dat.cells):=fun n=>low_datL n _
 generalize baseD.map Dat.cells=B at hb hbl hb3 hlB ⊢
 refine acalls_walk (fun _=>.imm) [0,1,2] Tryz.mixed Tryz.func16 rfl rfl rfl (by decide) (fun hcl hlow=>?_)
 repeat with_reducible refine awp_assoc ?_
 refine awp_sr fun K hK=>?_
 simp
 refine hK _ _ ?_
 clear hK K
 repeat with_reducible refine awp_assoc ?_
 refine awp_sd [0,3] [[],[0],[0],[],[]] (by kernel_rfl) fun K hK=>?_
 refine aLex_calleA (hb _) rfl rfl rfl rfl rfl (by simp) ?_
 refine aLex_read rfl rfl rfl rfl fun K hK=>?_
 simp
 refine hK _ _ _ ?_
 clear hK K
 refine aLex_read rfl rfl rfl rfl fun K hK=>?_
 simp
 refine hK _ _ _ ?_
 clear hK K
 by_cases hd:d.datas=[]
 ·refine aLex_eff rfl rfl rfl rfl fun K hK=>?_
  simp [hbl,hd]
  refine ⟨hb3,hK _ _ ?_⟩
  clear hK K
  refine aLex_read rfl rfl rfl rfl fun K hK=>?_
  simp
  refine hK _ _ _ ?_
  clear hK K
  refine aLex_end ?_
  simp
  refine hK _ _ ?_
  clear hK K
  simp [hd,reset_all hcl]
  exact hlB _
 refine aLex_eff rfl rfl rfl rfl fun K hK=>?_
 simp [hbl,hd]
 refine ⟨by omega,hb3,hK _ _ ?_⟩
 clear hK K
 refine aLex_read rfl rfl rfl rfl fun K hK=>?_
 simp
 refine hK _ _ _ ?_
 clear hK K
 refine aLex_end ?_
 simp
 refine hK _ _ ?_
 clear hK K
 simp [reset_all hcl]
 exact hlB _
theorem rFind_c (l:List Dat) (hl:l.length < 4611686018427387904) (n:ByteArray) (H:AHeap):ACalls Tryz.prog 59 [.slice (l.map Dat.cells) none,strV n] H (intV (findI l n)) H:=by
 refine acalls_walk (fun _=>.imm) [0,1,4,5,9,18] Tryz.mixed Tryz.func59 rfl rfl rfl (by decide) (fun hcl hlow=>?_)
 repeat with_reducible refine awp_assoc ?_
 refine awp_sr fun K hK=>?_
 simp
 refine hK _ _ ?_
 clear hK K
 repeat with_reducible refine awp_assoc ?_
 refine awp_sr fun K hK=>?_
 simp
 refine hK _ _ ?_
 clear hK K
 repeat with_reducible refine awp_assoc ?_
 refine awp_seq_k fun K hK=>?_
 refine awp_block ?_
 refine awp_up l.length (fun k=>Env.ofL [(0,.slice (l.map Dat.cells) none),(1,strV n),(4,intV 0),(5,intV k)]) (fun k=>HL H []) (fun k=>∀ y∈l.take k,(decide (y.name=n))=false) (weak_HL hcl rfl (by simp) (by simp)) (by simp) (fun k hk hvk=>?_) (fun hvk=>?_)
 ·obtain ⟨x,hx⟩:∃ x,l[k]?=some x:=⟨_,List.getElem?_eq_getElem hk⟩
  repeat with_reducible refine awp_assoc ?_
  refine awp_sr fun K hK=>?_
  simp [hk]
  refine hK _ _ ?_
  clear hK K
  repeat with_reducible refine awp_assoc ?_
  refine awp_seq_k fun K hK=>?_
  refine awp_condT rfl (by simp) ?_
  refine awp_skip ?_
  refine hK _ _ ?_
  clear hK K
  refine awp_seq_k fun KB hKB=>?_
  refine awp_block ?_
  repeat with_reducible refine awp_assoc ?_
  refine awp_sr fun K hK=>?_
  simp [hx]
  refine hK _ _ ?_
  clear hK K
  by_cases hs:x.name=n
  ·refine awp_condT rfl (by simp [hs]) ?_
   repeat with_reducible refine awp_assoc ?_
   refine awp_sr fun K hK=>?_
   simp
   refine hK _ _ ?_
   clear hK K
   have e:findI l n=k:=by unfold findI;rw [ix_at hx (by simp [hs]) hvk];rfl
   simp [e,reset_all hcl]
  ·refine awp_condF rfl (by simp [hs]) ?_
   refine awp_skip ?_
   refine hKB _ _ ?_
   clear hKB
   refine awp_region ?_
   simp [wrap_succ (show k < 4611686018427387904 by omega)]
   refine ⟨?_,weak_HL hcl rfl (by simp) (by simp)⟩
   simpa using take_all (p:=fun y=>(decide (y.name=n))=false) hx (by simp [hs]) hvk
 rw [List.take_length] at hvk
 repeat with_reducible refine awp_assoc ?_
 refine awp_sr fun K hK=>?_
 simp
 refine hK _ _ ?_
 clear hK K
 repeat with_reducible refine awp_assoc ?_
 refine awp_seq_k fun K hK=>?_
 refine awp_condF rfl (by simp) ?_
 refine awp_exit ?_
 simp
 clear hK K
 refine hK _ _ ?_
 clear hK K
 repeat with_reducible refine awp_assoc ?_
 refine awp_sr fun K hK=>?_
 simp
 refine hK _ _ ?_
 clear hK K
 have e:findI l n=-1:=by unfold findI;rw [ix_none hvk];rfl
 simp [e,reset_all hcl]
theorem rPlace_c (l:List ByteArray) (hl:l.length < 4611686018427387904) (n:ByteArray) (H:AHeap):ACalls Tryz.prog 87 [strs l none,strV n] H (intV (placeI l n)) H:=by
 refine acalls_walk (fun _=>.imm) [0,1,4,5,9,17] Tryz.mixed Tryz.func87 rfl rfl rfl (by decide) (fun hcl hlow=>?_)
 repeat with_reducible refine awp_assoc ?_
 refine awp_sr fun K hK=>?_
 simp
 refine hK _ _ ?_
 clear hK K
 repeat with_reducible refine awp_assoc ?_
 refine awp_sr fun K hK=>?_
 simp
 refine hK _ _ ?_
 clear hK K
 repeat with_reducible refine awp_assoc ?_
 refine awp_seq_k fun K hK=>?_
 refine awp_block ?_
 refine awp_up l.length (fun k=>Env.ofL [(0,strs l none),(1,strV n),(4,intV 0),(5,intV k)]) (fun k=>HL H []) (fun k=>∀ y∈l.take k,(decide (y=n))=false) (weak_HL hcl rfl (by simp) (by simp)) (by simp) (fun k hk hvk=>?_) (fun hvk=>?_)
 ·obtain ⟨x,hx⟩:∃ x,l[k]?=some x:=⟨_,List.getElem?_eq_getElem hk⟩
  repeat with_reducible refine awp_assoc ?_
  refine awp_sr fun K hK=>?_
  simp [hk]
  refine hK _ _ ?_
  clear hK K
  repeat with_reducible refine awp_assoc ?_
  refine awp_seq_k fun K hK=>?_
  refine awp_condT rfl (by simp) ?_
  refine awp_skip ?_
  refine hK _ _ ?_
  clear hK K
  refine awp_seq_k fun KB hKB=>?_
  refine awp_block ?_
  repeat with_reducible refine awp_assoc ?_
  refine awp_sr fun K hK=>?_
  simp [hx]
  refine hK _ _ ?_
  clear hK K
  by_cases hs:x=n
  ·refine awp_condT rfl (by simp [hs]) ?_
   repeat with_reducible refine awp_assoc ?_
   refine awp_sr fun K hK=>?_
   simp
   refine hK _ _ ?_
   clear hK K
   have e:placeI l n=k:=by unfold placeI;rw [ix_at hx (by simp [hs]) hvk];rfl
   simp [e,reset_all hcl]
  ·refine awp_condF rfl (by simp [hs]) ?_
   refine awp_skip ?_
   refine hKB _ _ ?_
   clear hKB
   refine awp_region ?_
   simp [wrap_succ (show k < 4611686018427387904 by omega)]
   refine ⟨?_,weak_HL hcl rfl (by simp) (by simp)⟩
   simpa using take_all (p:=fun y=>(decide (y=n))=false) hx (by simp [hs]) hvk
 rw [List.take_length] at hvk
 repeat with_reducible refine awp_assoc ?_
 refine awp_sr fun K hK=>?_
 simp
 refine hK _ _ ?_
 clear hK K
 repeat with_reducible refine awp_assoc ?_
 refine awp_seq_k fun K hK=>?_
 refine awp_condF rfl (by simp) ?_
 refine awp_exit ?_
 simp
 clear hK K
 refine hK _ _ ?_
 clear hK K
 repeat with_reducible refine awp_assoc ?_
 refine awp_sr fun K hK=>?_
 simp
 refine hK _ _ ?_
 clear hK K
 have e:placeI l n=-1:=by unfold placeI;rw [ix_none hvk];rfl
 simp [e,reset_all hcl]
theorem rFindInst_c (l:List InstD) (hl:l.length < 4611686018427387904) (c n:ByteArray) (H:AHeap):ACalls Tryz.prog 90 [.slice (l.map InstD.cells) none,strV c,strV n] H (intV (instI l c n)) H:=by
 refine acalls_walk (fun _=>.imm) [0,1,2,6,7,11,29] Tryz.mixed Tryz.func90 rfl rfl rfl (by decide) (fun hcl hlow=>?_)
 repeat with_reducible refine awp_assoc ?_
 refine awp_sr fun K hK=>?_
 simp
 refine hK _ _ ?_
 clear hK K
 repeat with_reducible refine awp_assoc ?_
 refine awp_sr fun K hK=>?_
 simp
 refine hK _ _ ?_
 clear hK K
 repeat with_reducible refine awp_assoc ?_
 refine awp_seq_k fun K hK=>?_
 refine awp_block ?_
 refine awp_up l.length (fun k=>Env.ofL [(0,.slice (l.map InstD.cells) none),(1,strV c),(2,strV n),(6,intV 0),(7,intV k)]) (fun k=>HL H []) (fun k=>∀ y∈l.take k,(decide (y.cls=c) && decide (y.data=n))=false) (weak_HL hcl rfl (by simp) (by simp)) (by simp) (fun k hk hvk=>?_) (fun hvk=>?_)
 ·obtain ⟨x,hx⟩:∃ x,l[k]?=some x:=⟨_,List.getElem?_eq_getElem hk⟩
  repeat with_reducible refine awp_assoc ?_
  refine awp_sr fun K hK=>?_
  simp [hk]
  refine hK _ _ ?_
  clear hK K
  repeat with_reducible refine awp_assoc ?_
  refine awp_seq_k fun K hK=>?_
  refine awp_condT rfl (by simp) ?_
  refine awp_skip ?_
  refine hK _ _ ?_
  clear hK K
  refine awp_seq_k fun KB hKB=>?_
  refine awp_block ?_
  by_cases h1:x.cls=c
  rotate_left
  ·have hs:(decide (x.cls=c) && decide (x.data=n))=false:=by simp [h1]
   repeat with_reducible refine awp_assoc ?_
   refine awp_sr fun K hK=>?_
   refine aOps_split 5 fun K hK=>?_
   simp [hx]
   refine hK _ _ ?_
   clear hK K
   refine aOps_split 6 fun K hK=>?_
   simp [h1]
   refine hK _ _ ?_
   clear hK K
   simp [h1]
   refine hK _ _ ?_
   clear hK K
   refine awp_condF rfl (by simp) ?_
   refine awp_skip ?_
   refine hKB _ _ ?_
   clear hKB
   refine awp_region ?_
   simp [wrap_succ (show k < 4611686018427387904 by omega)]
   refine ⟨?_,weak_HL hcl rfl (by simp) (by simp)⟩
   simpa using take_all (p:=fun y:InstD=>(decide (y.cls=c) && decide (y.data=n))=false) hx hs hvk
  repeat with_reducible refine awp_assoc ?_
  refine awp_sr fun K hK=>?_
  refine aOps_split 5 fun K hK=>?_
  simp [hx]
  refine hK _ _ ?_
  clear hK K
  refine aOps_split 6 fun K hK=>?_
  simp [hx,h1]
  refine hK _ _ ?_
  clear hK K
  simp [hx,h1]
  refine hK _ _ ?_
  clear hK K
  by_cases h2:x.data=n
  ·have hs:(decide (x.cls=c) && decide (x.data=n))=true:=by simp [h1,h2]
   refine awp_condT rfl (by simp [h2]) ?_
   repeat with_reducible refine awp_assoc ?_
   refine awp_sr fun K hK=>?_
   simp
   refine hK _ _ ?_
   clear hK K
   have e:instI l c n=k:=by unfold instI;rw [ix_at hx hs hvk];rfl
   simp [e,reset_all hcl]
  ·have hs:(decide (x.cls=c) && decide (x.data=n))=false:=by simp [h2]
   refine awp_condF rfl (by simp [h2]) ?_
   refine awp_skip ?_
   refine hKB _ _ ?_
   clear hKB
   refine awp_region ?_
   simp [wrap_succ (show k < 4611686018427387904 by omega)]
   refine ⟨?_,weak_HL hcl rfl (by simp) (by simp)⟩
   simpa using take_all (p:=fun y:InstD=>(decide (y.cls=c) && decide (y.data=n))=false) hx hs hvk
 rw [List.take_length] at hvk
 repeat with_reducible refine awp_assoc ?_
 refine awp_sr fun K hK=>?_
 simp
 refine hK _ _ ?_
 clear hK K
 repeat with_reducible refine awp_assoc ?_
 refine awp_seq_k fun K hK=>?_
 refine awp_condF rfl (by simp) ?_
 refine awp_exit ?_
 simp
 clear hK K
 refine hK _ _ ?_
 clear hK K
 repeat with_reducible refine awp_assoc ?_
 refine awp_sr fun K hK=>?_
 simp
 refine hK _ _ ?_
 clear hK K
 have e:instI l c n=-1:=by unfold instI;rw [ix_none hvk];rfl
 simp [e,reset_all hcl]
def zeroCls:ClsD:=⟨ByteArray.empty,[],[]⟩
def clsV (l:List ClsD) (n:ByteArray):ClsD × Bool:=match l.find? fun x=>decide (x.name=n) with | some x=>(x,true) | none=>(zeroCls,false)
theorem rFindClass_c (l:List ClsD) (hl:l.length < 4611686018427387904) (n:ByteArray) (H:AHeap):ACalls Tryz.prog 17 [.slice (l.map ClsD.cells) none,strV n] H (.tuple [.agg (clsV l n).1.cells,boolV (clsV l n).2]) H:=by
 have e0:clsV l n=match l.find? fun x=>decide (x.name=n) with | some x=>(x,true) | none=>(zeroCls,false):=rfl
 generalize clsV l n=cv at e0 ⊢
 refine acalls_walk (fun _=>.imm) [0,1,4,5,6,10,19] Tryz.mixed Tryz.func17 rfl rfl rfl (by decide) (fun hcl hlow=>?_)
 repeat with_reducible refine awp_assoc ?_
 refine awp_sr fun K hK=>?_
 simp
 refine hK _ _ ?_
 clear hK K
 repeat with_reducible refine awp_assoc ?_
 refine awp_sr fun K hK=>?_
 simp
 refine hK _ _ ?_
 clear hK K
 repeat with_reducible refine awp_assoc ?_
 refine awp_seq_k fun K hK=>?_
 refine awp_block ?_
 refine awp_up l.length (fun k=>Env.ofL [(0,.slice (l.map ClsD.cells) none),(1,strV n),(4,.ref (nid H.next 0) 0),(5,boolV false),(6,intV k)]) (fun k=>HL H [.cells [strV ByteArray.empty,.v (.slice none 0 0),.v (.slice none 0 0)]]) (fun k=>∀ y∈l.take k,decide (y.name=n)=false) (weak_HL hcl rfl (by simp) (by simp)) (by simp) (fun k hk hvk=>?_) (fun hvk=>?_)
 ·obtain ⟨x,hx⟩:∃ x,l[k]?=some x:=⟨_,List.getElem?_eq_getElem hk⟩
  repeat with_reducible refine awp_assoc ?_
  refine awp_sr fun K hK=>?_
  simp [hk]
  refine hK _ _ ?_
  clear hK K
  repeat with_reducible refine awp_assoc ?_
  refine awp_seq_k fun K hK=>?_
  refine awp_condT rfl (by simp) ?_
  refine awp_skip ?_
  refine hK _ _ ?_
  clear hK K
  refine awp_seq_k fun KB hKB=>?_
  refine awp_block ?_
  repeat with_reducible refine awp_assoc ?_
  refine awp_sr fun K hK=>?_
  simp [hx]
  refine hK _ _ ?_
  clear hK K
  by_cases hs:x.name=n
  ·refine awp_condT rfl (by simp [hs]) ?_
   repeat with_reducible refine awp_assoc ?_
   refine awp_sr fun K hK=>?_
   simp [hx]
   refine hK _ _ ?_
   clear hK K
   rw [e0,find_at hx (by simpa using hs) hvk]
   simp [reset_all hcl]
  ·refine awp_condF rfl (by simp [hs]) ?_
   refine awp_skip ?_
   refine hKB _ _ ?_
   clear hKB
   refine awp_region ?_
   simp [wrap_succ (show k < 4611686018427387904 by omega)]
   refine ⟨?_,weak_HL hcl rfl (by simp) (by simp)⟩
   simpa using take_all (p:=fun y:ClsD=>decide (y.name=n)=false) hx (by simpa using hs) hvk
 rw [List.take_length] at hvk
 repeat with_reducible refine awp_assoc ?_
 refine awp_sr fun K hK=>?_
 simp
 refine hK _ _ ?_
 clear hK K
 repeat with_reducible refine awp_assoc ?_
 refine awp_seq_k fun K hK=>?_
 refine awp_condF rfl (by simp) ?_
 refine awp_exit ?_
 simp
 clear hK K
 refine hK _ _ ?_
 clear hK K
 repeat with_reducible refine awp_assoc ?_
 refine awp_sr fun K hK=>?_
 simp
 refine hK _ _ ?_
 clear hK K
 rw [e0,find_none hvk]
 simp [zeroCls,reset_all hcl]
 exact Wk.tuple ⟨Wk.agg ⟨.refl _,Wk.nilSlice,Wk.nilSlice,trivial⟩,.refl _,trivial⟩
theorem rIsLarge_c (d:DeclsD) (hr:RawD d) (H:AHeap):ACalls Tryz.prog 47 [d.enc] H (boolV (largeB d)) H:=by
 have h1:=hr.datas
 have h2:=hr.classes
 have h3:=hr.insts
 clear hr
 have e0:largeB d=(decide (30 < d.datas.length) || decide (12 < d.classes.length) || decide (40 < d.insts.length) || d.datas.any (fun x=>decide (16 < x.cons.length)) || d.classes.any (fun x=>decide (8 < x.ops.length)) || d.insts.any (fun x=>decide (64 < x.preds.length))):=rfl
 generalize largeB d=lb at e0 ⊢
 obtain ⟨ds,cs,is⟩:=d
 simp only at e0 h1 h2 h3
 refine acalls_walk (fun _=>.imm) [0,1,2,3,4,5,21,26,36,41,51,56,66] Tryz.mixed Tryz.func47 rfl rfl rfl (by decide) (fun hcl hlow=>?_)
 repeat with_reducible refine awp_assoc ?_
 refine awp_sr fun K hK=>?_
 simp
 refine hK _ _ ?_
 clear hK K
 repeat with_reducible refine awp_assoc ?_
 refine awp_sr fun K hK=>?_
 refine aOps_split 4 fun K hK=>?_
 simp
 refine hK _ _ ?_
 clear hK K
 by_cases c1:30 < ds.length
 ·have c1':(30:Int) < ds.length:=by omega
  refine aOps_split 6 fun K hK=>?_
  simp [c1']
  refine hK _ _ ?_
  clear hK K
  simp [c1']
  refine hK _ _ ?_
  clear hK K
  repeat with_reducible refine awp_assoc ?_
  refine awp_seq_k fun K hK=>?_
  refine awp_condT rfl (by simp) ?_
  repeat with_reducible refine awp_assoc ?_
  refine awp_sr fun K hK=>?_
  simp
  refine hK _ _ ?_
  clear hK K
  rw [e0]
  simp [c1,reset_all hcl]
 have c1':¬ (30:Int) < ds.length:=by omega
 refine aOps_split 5 fun K hK=>?_
 simp [c1']
 refine hK _ _ ?_
 clear hK K
 by_cases c2:12 < cs.length
 ·have c2':(12:Int) < cs.length:=by omega
  simp [c1',c2']
  refine hK _ _ ?_
  clear hK K
  repeat with_reducible refine awp_assoc ?_
  refine awp_seq_k fun K hK=>?_
  refine awp_condT rfl (by simp) ?_
  repeat with_reducible refine awp_assoc ?_
  refine awp_sr fun K hK=>?_
  simp
  refine hK _ _ ?_
  clear hK K
  rw [e0]
  simp [c1,c2,reset_all hcl]
 have c2':¬ (12:Int) < cs.length:=by omega
 by_cases c3:40 < is.length
 ·have c3':(40:Int) < is.length:=by omega
  simp [c1',c2',c3']
  refine hK _ _ ?_
  clear hK K
  repeat with_reducible refine awp_assoc ?_
  refine awp_seq_k fun K hK=>?_
  refine awp_condT rfl (by simp) ?_
  repeat with_reducible refine awp_assoc ?_
  refine awp_sr fun K hK=>?_
  simp
  refine hK _ _ ?_
  clear hK K
  rw [e0]
  simp [c1,c2,c3,reset_all hcl]
 have c3':¬ (40:Int) < is.length:=by omega
 simp [c1',c2',c3']
 refine hK _ _ ?_
 clear hK K
 repeat with_reducible refine awp_assoc ?_
 refine awp_seq_k fun K hK=>?_
 refine awp_condF rfl (by simp) ?_
 refine awp_skip ?_
 refine hK _ _ ?_
 clear hK K
 have e1:lb=(ds.any (fun x=>decide (16 < x.cons.length)) || cs.any (fun x=>decide (8 < x.ops.length)) || is.any (fun x=>decide (64 < x.preds.length))):=by rw [e0];simp [c1,c2,c3]
 clear e0
 repeat with_reducible refine awp_assoc ?_
 refine awp_sr fun K hK=>?_
 simp
 refine hK _ _ ?_
 clear hK K
 repeat with_reducible refine awp_assoc ?_
 refine awp_seq_k fun K hK=>?_
 refine awp_block ?_
 refine awp_up ds.length (fun k=>Env.ofL [(1,.ref (nid H.next 0) 0),(2,boolV false),(3,intV k)]) (fun k=>HL H [.cells [.slice (ds.map Dat.cells) none,.slice (cs.map ClsD.cells) none,.slice (is.map InstD.cells) none]]) (fun k=>(ds.take k).any (fun x=>decide (16 < x.cons.length))=false) (weak_HL hcl rfl (by simp) (by simp)) (by simp) (fun k hk hvk=>?_) (fun hvk=>?_)
 ·obtain ⟨x,hx⟩:∃ x,ds[k]?=some x:=⟨_,List.getElem?_eq_getElem hk⟩
  have hbx:=any_at (p:=fun x=>decide (16 < x.cons.length)) hx
  have hms:=miss (p:=fun x=>decide (16 < x.cons.length)) hx hvk
  repeat with_reducible refine awp_assoc ?_
  refine awp_sr fun K hK=>?_
  simp [hk]
  refine hK _ _ ?_
  clear hK K
  repeat with_reducible refine awp_assoc ?_
  refine awp_seq_k fun K hK=>?_
  refine awp_condT rfl (by simp) ?_
  refine awp_skip ?_
  refine hK _ _ ?_
  clear hK K
  refine awp_seq_k fun KB hKB=>?_
  refine awp_block ?_
  repeat with_reducible refine awp_assoc ?_
  refine awp_sr fun K hK=>?_
  simp [hx]
  refine hK _ _ ?_
  clear hK K
  by_cases hb:16 < x.cons.length
  ·have hb':(16:Int) < x.cons.length:=by omega
   refine awp_condT rfl (by simp [hb']) ?_
   repeat with_reducible refine awp_assoc ?_
   refine awp_sr fun K hK=>?_
   simp
   refine hK _ _ ?_
   clear hK K
   rw [e1,hbx (by simp [hb])]
   simp [reset_all hcl]
  ·have hb':¬ (16:Int) < x.cons.length:=by omega
   refine awp_condF rfl (by simp [hb']) ?_
   refine awp_skip ?_
   refine hKB _ _ ?_
   clear hKB
   refine awp_region ?_
   simp [wrap_succ (show k < 4611686018427387904 by omega)]
   refine ⟨?_,weak_HL hcl rfl (by simp) (by simp)⟩
   simpa using hms (by simp [hb])
 rw [List.take_length] at hvk
 rw [hvk] at e1
 try simp only [Bool.false_or,Bool.or_false] at e1
 clear hvk
 repeat with_reducible refine awp_assoc ?_
 refine awp_sr fun K hK=>?_
 simp
 refine hK _ _ ?_
 clear hK K
 repeat with_reducible refine awp_assoc ?_
 refine awp_seq_k fun K hK=>?_
 refine awp_condF rfl (by simp) ?_
 refine awp_exit ?_
 simp
 clear hK K
 refine hK _ _ ?_
 clear hK K
 repeat with_reducible refine awp_assoc ?_
 refine awp_sr fun K hK=>?_
 simp
 refine hK _ _ ?_
 clear hK K
 repeat with_reducible refine awp_assoc ?_
 refine awp_seq_k fun K hK=>?_
 refine awp_block ?_
 refine awp_up cs.length (fun k=>Env.ofL [(1,.ref (nid H.next 0) 0),(2,boolV false),(4,intV k)]) (fun k=>HL H [.cells [.slice (ds.map Dat.cells) none,.slice (cs.map ClsD.cells) none,.slice (is.map InstD.cells) none]]) (fun k=>(cs.take k).any (fun x=>decide (8 < x.ops.length))=false) (weak_HL hcl rfl (by simp) (by simp)) (by simp) (fun k hk hvk=>?_) (fun hvk=>?_)
 ·obtain ⟨x,hx⟩:∃ x,cs[k]?=some x:=⟨_,List.getElem?_eq_getElem hk⟩
  have hbx:=any_at (p:=fun x=>decide (8 < x.ops.length)) hx
  have hms:=miss (p:=fun x=>decide (8 < x.ops.length)) hx hvk
  repeat with_reducible refine awp_assoc ?_
  refine awp_sr fun K hK=>?_
  simp [hk]
  refine hK _ _ ?_
  clear hK K
  repeat with_reducible refine awp_assoc ?_
  refine awp_seq_k fun K hK=>?_
  refine awp_condT rfl (by simp) ?_
  refine awp_skip ?_
  refine hK _ _ ?_
  clear hK K
  refine awp_seq_k fun KB hKB=>?_
  refine awp_block ?_
  repeat with_reducible refine awp_assoc ?_
  refine awp_sr fun K hK=>?_
  simp [hx]
  refine hK _ _ ?_
  clear hK K
  by_cases hb:8 < x.ops.length
  ·have hb':(8:Int) < x.ops.length:=by omega
   refine awp_condT rfl (by simp [hb']) ?_
   repeat with_reducible refine awp_assoc ?_
   refine awp_sr fun K hK=>?_
   simp
   refine hK _ _ ?_
   clear hK K
   rw [e1,hbx (by simp [hb])]
   simp [reset_all hcl]
  ·have hb':¬ (8:Int) < x.ops.length:=by omega
   refine awp_condF rfl (by simp [hb']) ?_
   refine awp_skip ?_
   refine hKB _ _ ?_
   clear hKB
   refine awp_region ?_
   simp [wrap_succ (show k < 4611686018427387904 by omega)]
   refine ⟨?_,weak_HL hcl rfl (by simp) (by simp)⟩
   simpa using hms (by simp [hb])
 rw [List.take_length] at hvk
 rw [hvk] at e1
 try simp only [Bool.false_or,Bool.or_false] at e1
 clear hvk
 repeat with_reducible refine awp_assoc ?_
 refine awp_sr fun K hK=>?_
 simp
 refine hK _ _ ?_
 clear hK K
 repeat with_reducible refine awp_assoc ?_
 refine awp_seq_k fun K hK=>?_
 refine awp_condF rfl (by simp) ?_
 refine awp_exit ?_
 simp
 clear hK K
 refine hK _ _ ?_
 clear hK K
 repeat with_reducible refine awp_assoc ?_
 refine awp_sr fun K hK=>?_
 simp
 refine hK _ _ ?_
 clear hK K
 repeat with_reducible refine awp_assoc ?_
 refine awp_seq_k fun K hK=>?_
 refine awp_block ?_
 refine awp_up is.length (fun k=>Env.ofL [(1,.ref (nid H.next 0) 0),(2,boolV false),(5,intV k)]) (fun k=>HL H [.cells [.slice (ds.map Dat.cells) none,.slice (cs.map ClsD.cells) none,.slice (is.map InstD.cells) none]]) (fun k=>(is.take k).any (fun x=>decide (64 < x.preds.length))=false) (weak_HL hcl rfl (by simp) (by simp)) (by simp) (fun k hk hvk=>?_) (fun hvk=>?_)
 ·obtain ⟨x,hx⟩:∃ x,is[k]?=some x:=⟨_,List.getElem?_eq_getElem hk⟩
  have hbx:=any_at (p:=fun x=>decide (64 < x.preds.length)) hx
  have hms:=miss (p:=fun x=>decide (64 < x.preds.length)) hx hvk
  repeat with_reducible refine awp_assoc ?_
  refine awp_sr fun K hK=>?_
  simp [hk]
  refine hK _ _ ?_
  clear hK K
  repeat with_reducible refine awp_assoc ?_
  refine awp_seq_k fun K hK=>?_
  refine awp_condT rfl (by simp) ?_
  refine awp_skip ?_
  refine hK _ _ ?_
  clear hK K
  refine awp_seq_k fun KB hKB=>?_
  refine awp_block ?_
  repeat with_reducible refine awp_assoc ?_
  refine awp_sr fun K hK=>?_
  simp [hx]
  refine hK _ _ ?_
  clear hK K
  by_cases hb:64 < x.preds.length
  ·have hb':(64:Int) < x.preds.length:=by omega
   refine awp_condT rfl (by simp [hb']) ?_
   repeat with_reducible refine awp_assoc ?_
   refine awp_sr fun K hK=>?_
   simp
   refine hK _ _ ?_
   clear hK K
   rw [e1,hbx (by simp [hb])]
   simp [reset_all hcl]
  ·have hb':¬ (64:Int) < x.preds.length:=by omega
   refine awp_condF rfl (by simp [hb']) ?_
   refine awp_skip ?_
   refine hKB _ _ ?_
   clear hKB
   refine awp_region ?_
   simp [wrap_succ (show k < 4611686018427387904 by omega)]
   refine ⟨?_,weak_HL hcl rfl (by simp) (by simp)⟩
   simpa using hms (by simp [hb])
 rw [List.take_length] at hvk
 rw [hvk] at e1
 try simp only [Bool.false_or,Bool.or_false] at e1
 clear hvk
 repeat with_reducible refine awp_assoc ?_
 refine awp_sr fun K hK=>?_
 simp
 refine hK _ _ ?_
 clear hK K
 repeat with_reducible refine awp_assoc ?_
 refine awp_seq_k fun K hK=>?_
 refine awp_condF rfl (by simp) ?_
 refine awp_exit ?_
 simp
 clear hK K
 refine hK _ _ ?_
 clear hK K
 repeat with_reducible refine awp_assoc ?_
 refine awp_sr fun K hK=>?_
 simp
 refine hK _ _ ?_
 clear hK K
 rw [e1]
 simp [reset_all hcl]
theorem rIsData_c (x:Dat) (h4:x.vars.length < 4611686018427387904) (h5:x.cons.length < 4611686018427387904) (H:AHeap):ACalls Tryz.prog 82 [x.enc] H (boolV (isDataB x)) H:=by
 have e0:isDataB x=(greatN x.name && decide (x.vars.length≤8) && x.vars.all smallN && x.cons.all conB):=rfl
 generalize isDataB x=rb at e0 ⊢
 obtain ⟨n,vs,cs⟩:=x
 simp only at e0 h4 h5
 refine acalls_walk (fun _=>.imm) [0,1,2,3,4,14,19,28,33,53] Tryz.mixed Tryz.func82 rfl rfl rfl (by decide) (fun hcl hlow=>?_)
 repeat with_reducible refine awp_assoc ?_
 refine awp_sr fun K hK=>?_
 simp
 refine hK _ _ ?_
 clear hK K
 repeat with_reducible refine awp_assoc ?_
 refine awp_sr fun K hK=>?_
 refine aOps_split 2 fun K hK=>?_
 simp
 refine hK _ _ ?_
 clear hK K
 refine aOps_call (rGreatN_c n _) (by first | rfl | simp) rfl rfl (by first | (simp;done) | rfl) ?_
 cases hg:greatN n
 ·refine aOps_split 6 fun K hK=>?_
  simp
  refine hK _ _ ?_
  clear hK K
  simp
  refine hK _ _ ?_
  clear hK K
  repeat with_reducible refine awp_assoc ?_
  refine awp_seq_k fun K hK=>?_
  refine awp_condT rfl (by simp) ?_
  repeat with_reducible refine awp_assoc ?_
  refine awp_sr fun K hK=>?_
  simp
  refine hK _ _ ?_
  clear hK K
  rw [e0,hg]
  simp [reset_all hcl]
 refine aOps_split 5 fun K hK=>?_
 simp
 refine hK _ _ ?_
 clear hK K
 by_cases hv:vs.length≤8
 rotate_left
 ·have hv':(8:Int) < vs.length:=by omega
  simp [hv']
  refine hK _ _ ?_
  clear hK K
  repeat with_reducible refine awp_assoc ?_
  refine awp_seq_k fun K hK=>?_
  refine awp_condT rfl (by simp) ?_
  repeat with_reducible refine awp_assoc ?_
  refine awp_sr fun K hK=>?_
  simp
  refine hK _ _ ?_
  clear hK K
  rw [e0]
  simp [hv,reset_all hcl]
 have hv':¬ (8:Int) < vs.length:=by omega
 simp [hv']
 refine hK _ _ ?_
 clear hK K
 repeat with_reducible refine awp_assoc ?_
 refine awp_seq_k fun K hK=>?_
 refine awp_condF rfl (by simp) ?_
 refine awp_skip ?_
 refine hK _ _ ?_
 clear hK K
 have e1:rb=(vs.all smallN && cs.all conB):=by rw [e0];simp [hg,hv]
 clear e0
 repeat with_reducible refine awp_assoc ?_
 refine awp_sr fun K hK=>?_
 simp
 refine hK _ _ ?_
 clear hK K
 repeat with_reducible refine awp_assoc ?_
 refine awp_seq_k fun K hK=>?_
 refine awp_block ?_
 refine awp_up vs.length (fun k=>Env.ofL [(1,.ref (nid H.next 0) 0),(2,boolV false),(3,intV k)]) (fun k=>HL H [.cells [strV n,strs vs none,.slice (cs.map ConD.cells) none]]) (fun k=>(vs.take k).all smallN=true) (weak_HL hcl rfl (by simp) (by simp)) (by simp) (fun k hk hvk=>?_) (fun hvk=>?_)
 ·obtain ⟨v,hv⟩:∃ v,vs[k]?=some v:=⟨_,List.getElem?_eq_getElem hk⟩
  have hat:=all_take (p:=smallN) hv
  repeat with_reducible refine awp_assoc ?_
  refine awp_sr fun K hK=>?_
  simp [hk]
  refine hK _ _ ?_
  clear hK K
  repeat with_reducible refine awp_assoc ?_
  refine awp_seq_k fun K hK=>?_
  refine awp_condT rfl (by simp) ?_
  refine awp_skip ?_
  refine hK _ _ ?_
  clear hK K
  refine awp_seq_k fun KB hKB=>?_
  refine awp_block ?_
  repeat with_reducible refine awp_assoc ?_
  refine awp_sr fun K hK=>?_
  refine aOps_split 5 fun K hK=>?_
  simp [hv]
  refine hK _ _ ?_
  clear hK K
  refine aOps_call (rSmallN_c v _) (by first | rfl | simp) rfl rfl (by first | (simp;done) | rfl) ?_
  simp [hv]
  refine hK _ _ ?_
  clear hK K
  cases hs:smallN v
  ·refine awp_condT rfl (by simp [hs]) ?_
   repeat with_reducible refine awp_assoc ?_
   refine awp_sr fun K hK=>?_
   simp
   refine hK _ _ ?_
   clear hK K
   have e2:vs.all smallN=false:=by rw [List.all_eq_false];exact ⟨v,List.mem_of_getElem? hv,by simp [hs]⟩
   rw [e1,e2]
   simp [reset_all hcl]
  ·refine awp_condF rfl (by simp [hs]) ?_
   refine awp_skip ?_
   refine hKB _ _ ?_
   clear hKB
   refine awp_region ?_
   simp [wrap_succ (show k < 4611686018427387904 by omega)]
   refine ⟨?_,weak_HL hcl rfl (by simp) (by simp)⟩
   simpa [hvk,hs] using hat
 rw [List.take_length] at hvk
 rw [hvk,Bool.true_and] at e1
 clear hvk
 repeat with_reducible refine awp_assoc ?_
 refine awp_sr fun K hK=>?_
 simp
 refine hK _ _ ?_
 clear hK K
 repeat with_reducible refine awp_assoc ?_
 refine awp_seq_k fun K hK=>?_
 refine awp_condF rfl (by simp) ?_
 refine awp_exit ?_
 simp
 clear hK K
 refine hK _ _ ?_
 clear hK K
 repeat with_reducible refine awp_assoc ?_
 refine awp_sr fun K hK=>?_
 simp
 refine hK _ _ ?_
 clear hK K
 repeat with_reducible refine awp_assoc ?_
 refine awp_seq_k fun K hK=>?_
 refine awp_block ?_
 refine awp_up cs.length (fun k=>Env.ofL [(1,.ref (nid H.next 0) 0),(2,boolV false),(4,intV k)]) (fun k=>HL H [.cells [strV n,strs vs none,.slice (cs.map ConD.cells) none]]) (fun k=>(cs.take k).all conB=true) (weak_HL hcl rfl (by simp) (by simp)) (by simp) (fun k hk hvk=>?_) (fun hvk=>?_)
 ·obtain ⟨c,hc⟩:∃ c,cs[k]?=some c:=⟨_,List.getElem?_eq_getElem hk⟩
  have hat:=all_take (p:=conB) hc
  have ec:conB c=(greatN c.name && decide (c.args.length≤8)):=rfl
  have e2:conB c=false→cs.all conB=false:=fun h=>by rw [List.all_eq_false];exact ⟨c,List.mem_of_getElem? hc,by simp [h]⟩
  repeat with_reducible refine awp_assoc ?_
  refine awp_sr fun K hK=>?_
  simp [hk]
  refine hK _ _ ?_
  clear hK K
  repeat with_reducible refine awp_assoc ?_
  refine awp_seq_k fun K hK=>?_
  refine awp_condT rfl (by simp) ?_
  refine awp_skip ?_
  refine hK _ _ ?_
  clear hK K
  refine awp_seq_k fun KB hKB=>?_
  refine awp_block ?_
  repeat with_reducible refine awp_assoc ?_
  refine awp_sr fun K hK=>?_
  refine aOps_split 6 fun K hK=>?_
  simp [hc]
  refine hK _ _ ?_
  clear hK K
  refine aOps_call (rGreatN_c c.name _) (by first | rfl | simp) rfl rfl (by first | (simp;done) | rfl) ?_
  cases hg2:greatN c.name
  ·refine aOps_split 6 fun K hK=>?_
   simp
   refine hK _ _ ?_
   clear hK K
   refine aOps_split 6 fun K hK=>?_
   simp
   refine hK _ _ ?_
   clear hK K
   simp
   refine hK _ _ ?_
   clear hK K
   refine awp_condT rfl (by simp) ?_
   repeat with_reducible refine awp_assoc ?_
   refine awp_sr fun K hK=>?_
   simp
   refine hK _ _ ?_
   clear hK K
   rw [e1,e2 (by rw [ec,hg2];rfl)]
   simp [reset_all hcl]
  refine aOps_split 6 fun K hK=>?_
  simp [hc]
  refine hK _ _ ?_
  clear hK K
  refine aOps_split 4 fun K hK=>?_
  simp [hc]
  refine hK _ _ ?_
  clear hK K
  by_cases ha:c.args.length≤8
  ·have ha':¬ (8:Int) < c.args.length:=by omega
   simp [ha']
   refine hK _ _ ?_
   clear hK K
   refine awp_condF rfl (by simp) ?_
   refine awp_skip ?_
   refine hKB _ _ ?_
   clear hKB
   refine awp_region ?_
   simp [wrap_succ (show k < 4611686018427387904 by omega)]
   refine ⟨?_,weak_HL hcl rfl (by simp) (by simp)⟩
   simpa [hvk,ec,hg2,ha] using hat
  ·have ha':(8:Int) < c.args.length:=by omega
   simp [ha']
   refine hK _ _ ?_
   clear hK K
   refine awp_condT rfl (by simp) ?_
   repeat with_reducible refine awp_assoc ?_
   refine awp_sr fun K hK=>?_
   simp
   refine hK _ _ ?_
   clear hK K
   rw [e1,e2 (by rw [ec];simp [ha])]
   simp [reset_all hcl]
 rw [List.take_length] at hvk
 rw [hvk] at e1
 clear hvk
 repeat with_reducible refine awp_assoc ?_
 refine awp_sr fun K hK=>?_
 simp
 refine hK _ _ ?_
 clear hK K
 repeat with_reducible refine awp_assoc ?_
 refine awp_seq_k fun K hK=>?_
 refine awp_condF rfl (by simp) ?_
 refine awp_exit ?_
 simp
 clear hK K
 refine hK _ _ ?_
 clear hK K
 repeat with_reducible refine awp_assoc ?_
 refine awp_sr fun K hK=>?_
 simp
 refine hK _ _ ?_
 clear hK K
 rw [e1]
 simp [reset_all hcl]
end Go.Proofs.YtlhoigpidpokfaaGreat
