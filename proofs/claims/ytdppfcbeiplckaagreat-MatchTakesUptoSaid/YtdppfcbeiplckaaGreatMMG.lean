/- The program: the document's example. -/
import Derived.Test.YtdppfcbeiplckaaGreatMMF
import Derived.Test.YtdppfcbeiplckaaGreatMMC
import Derived.Test.YtdppfcbeiplckaaGreatMMA
import Derived.Test.YtdppfcbeiplckaaGreatMM8
import Derived.Test.YtdppfcbeiplckaaGreatMN1
import Derived.Test.YtdppfcbeiplckaaGreatMM3
import Derived.Test.YtdppfcbeiplckaaGreatMM4
set_option linter.unusedVariables false
set_option linter.unusedSimpArgs false
namespace Go.Proofs.YtdppfcbeiplckaaGreat
open Go Go.Abs Go.Proofs
set_option maxRecDepth 20000
attribute [local simp] aOps wantedA aStep aop aLoad aStore aBin aUn aFieldAddr aField aIndexAddr aIndex aLen aBuild aFill aAlloc aAppend aAppendOwn aMin aMax aBuildSlice litRows newRows isMut isOwn isNilS nilsW bytesR tokW tokAV tokL ret readC splice aeval isLit isLate isCut aCut AV.celled AV.one AV.ofValue Value.oneCell' Value.cells intOp strOp get_nid upd_nid awp aEnd aResults aResult Det unord isCall isNext
attribute [local simp] low_take low_strs low_comp low_tcomp wkEs_refl' WkBs WkEnv WkB WkL WkE WkO ABlock.low lowO lowL lowR AV.low cellsL_eq Ty.low low_map Ty.cells_length Ty.cells_one
attribute [local simp] ConD.cells Dat.cells PredD.cells SigD.cells ClsD.cells InstD.cells DeclsD.cells DeclsD.enc Dat.enc low_datL low_conL low_predL low_sigL low_clsL low_instL
attribute [local simp] cellsNd_eq low_nds Nd.cells_length Nd.cells_one low_ints low_rows low_strs low_strR low_rowR low_pls low_pths
def zeroB:ByteArray:=⟨#[90,101,114,111]⟩
def succB:ByteArray:=⟨#[83,117,99,99]⟩
def nZero:Nd:=.mk 3 zeroB 0 []
def nSucc (t:Nd):Nd:=.mk 3 succB 0 [t]
def kRows:List (List Nd):=[[nZero],[nSucc nZero]]
def dE:DeclsD:=⟨[],[],[]⟩
theorem kn_run:findF (entsL (baseD++dE.datas)) kRows 4 5 (List.replicate 1 anyN) []=some (some [nSucc (nSucc anyN)],[[0],[0,0]]):=by kernel_rfl
theorem kn_raw:RawD dE:=by constructor <;> simp [dE]
theorem kn_valid:validD dE=0:=by
 unfold validD validL
 rw [if_neg (show ¬ largeB dE=true by decide +kernel),if_pos (show argsB dE=true by decide +kernel),show allV (writtenD dE)=0 by decide +kernel,if_neg (show ¬ twiceB dE=true by decide +kernel),if_neg (show ¬ noneB dE=true by decide +kernel),if_neg (show ¬ fitB dE=true by decide +kernel),if_neg (show ¬ loopB dE=true by simp [loopB,dE]),if_neg (show ¬ ruleB dE=true by simp [ruleB,dE])]
 rfl
theorem kn_shape:shapeV sortB compB kRows=0:=by decide +kernel
theorem kn_mval:mvalV 0 0 (entsL (baseD++dE.datas)) kRows=0:=by decide +kernel
theorem kn_nodup:((entsL (baseD++dE.datas)).map (·.1)).Nodup:=by decide +kernel
theorem con_c (s:ByteArray) (l:List Nd) (H:AHeap):ACalls Tryz.prog 32 [strV s,.slice (l.map Nd.cells) none] H (.agg [intV 3,strV s,intV 0,.slice (l.map Nd.cells) none]) H:=by
 refine acalls_walk (fun _=>.imm) [0,1,4] Tryz.mixed Tryz.func32 rfl rfl rfl (by decide) (fun hcl hlow=>?_)
 repeat with_reducible refine awp_assoc ?_
 refine awp_sr fun K hK=>?_
 simp
 refine hK _ _ ?_
 clear hK K
 repeat with_reducible refine awp_assoc ?_
 refine awp_sr fun K hK=>?_
 simp
 refine hK _ _ ?_
 clear hK K
 simp [reset_all hcl]
set_option maxHeartbeats 1000000 in
theorem known_c (H:AHeap):ACalls Tryz.prog 11 [] H (boolV true) H:=by
 have hsh:∀ r∈kRows,r.length < 1000∧∀ t∈r,t.Sh 1000:=by
  have h:kRows.all (fun r=>decide (r.length < 1000) && shL 1000 r)=true:=by decide +kernel
  intro r hr
  have:=List.all_eq_true.1 h r hr
  rw [Bool.and_eq_true] at this
  exact ⟨of_decide_eq_true this.1,shL_sh this.2⟩
 have hshape:=fun H=>mShape_c (srt:=sortB) (cmp:=compB) (fun l=>by simp [sortB]) sortB_ok compB_ok (b:=1000) (by omega) kRows (by decide) hsh (fun hb r hr=>by have:=few_names hb (fun r hr=>by have:=(hsh r hr).1;omega) r hr;omega) H
 rw [kn_shape] at hshape
 have hv:=fun H=>mValidate_c dE (b:=1000) (by omega) kRows (by decide) hsh (fun H=>dValidate_c dE kn_raw H) (fun _=>⟨by decide,by decide +kernel,kn_nodup⟩) hshape (fun _=>by decide +kernel) H
 rw [kn_valid,kn_mval] at hv
 have hm:=fun H=>missing_c dE (rows:=kRows) (r0:=[nZero]) rfl (by decide) hsh (depth:=4) (by omega) (by omega) hv (by decide) (by decide +kernel) kn_nodup kn_run H
 have hrows:kRows.map rowR=[[.slice [[intV 3,strV zeroB,intV 0,.slice [] none]] none],[.slice [[intV 3,strV succB,intV 0,.slice [[intV 3,strV zeroB,intV 0,.slice [] none]] none]] none]]:=rfl
 have hres:((some [nSucc (nSucc anyN)]).getD []).map Nd.cells=[[intV 3,strV succB,intV 0,.slice [[intV 3,strV succB,intV 0,.slice [[intV 1,strV ByteArray.empty,intV 0,.slice [] none]] none]] none]]:=rfl
 have hdE:dE.enc=.agg [.slice [] none,.slice [] none,.slice [] none]:=rfl
 have hsome:(some [nSucc (nSucc anyN)]).isSome=true:=rfl
 simp only [hrows,hres,hdE,hsome] at hm
 have h1:∀ H,ACalls Tryz.prog 32 [strV zeroB,.slice [] none] H (.agg [intV 3,strV zeroB,intV 0,.slice [] none]) H:=con_c zeroB []
 have h2:∀ H,ACalls Tryz.prog 32 [strV succB,.slice [[intV 3,strV zeroB,intV 0,.slice [] none]] none] H (.agg [intV 3,strV succB,intV 0,.slice [[intV 3,strV zeroB,intV 0,.slice [] none]] none]) H:=con_c succB [nZero]
 clear hv hshape hsh hrows hres hdE hsome
 refine acalls_walk (fun d=>if d=6 then .lit else if d=8 then .lit else if d=10 then .lit else if d=11 then .lit else .imm) [0,1,2,3,4] Tryz.mixed Tryz.func11 rfl rfl rfl (by decide) (fun hcl hlow=>?_)
 repeat with_reducible refine awp_assoc ?_
 refine awp_sr fun K hK=>?_
 simp
 refine hK _ _ ?_
 clear hK K
 repeat with_reducible refine awp_assoc ?_
 refine awp_sr fun K hK=>?_
 refine aOps_callW (h1 _) (by first | rfl | simp) rfl rfl ⟨.refl _,Wk.nilSlice,trivial⟩ ?_
 refine aOps_split 1 fun K hK=>?_
 simp
 refine hK _ _ ?_
 clear hK K
 refine aOps_callW (h1 _) (by first | rfl | simp) rfl rfl ⟨.refl _,Wk.nilSlice,trivial⟩ ?_
 refine aOps_split 1 fun K hK=>?_
 simp
 refine hK _ _ ?_
 clear hK K
 refine aOps_call (h2 _) (by first | rfl | simp) rfl rfl (by first | (simp;done) | rfl) ?_
 refine aOps_split 2 fun K hK=>?_
 simp
 refine hK _ _ ?_
 clear hK K
 simp
 refine hK _ _ ?_
 clear hK K
 repeat with_reducible refine awp_assoc ?_
 refine awp_sr fun K hK=>?_
 refine aOps_split 2 fun K hK=>?_
 simp
 refine hK _ _ ?_
 clear hK K
 refine aOps_callW (hm _) (by first | rfl | simp) rfl rfl ⟨Wk.agg ⟨Wk.nilSlice,Wk.nilSlice,Wk.nilSlice,trivial⟩,.refl _,.refl _,trivial⟩ ?_
 refine aOps_split 4 fun K hK=>?_
 simp
 refine hK _ _ ?_
 clear hK K
 simp
 refine hK _ _ ?_
 clear hK K
 have hsu:(⟨#[83,117,99,99]⟩:ByteArray)=succB:=rfl
 repeat with_reducible refine awp_assoc ?_
 refine awp_sr fun K hK=>?_
 refine aOps_split 6 fun K hK=>?_
 simp [succB]
 refine hK _ _ ?_
 clear hK K
 refine aOps_split 6 fun K hK=>?_
 simp [succB]
 refine hK _ _ ?_
 clear hK K
 refine aOps_split 8 fun K hK=>?_
 simp [succB]
 refine hK _ _ ?_
 clear hK K
 refine aOps_split 8 fun K hK=>?_
 simp [succB]
 refine hK _ _ ?_
 clear hK K
 refine aOps_split 8 fun K hK=>?_
 simp [succB]
 refine hK _ _ ?_
 clear hK K
 simp [succB]
 refine hK _ _ ?_
 clear hK K
 simp [reset_all hcl]
end Go.Proofs.YtdppfcbeiplckaaGreat
namespace Go.Proofs.YtdppfcbeiplckaaGreat
open Go Go.Abs Go.Proofs
set_option maxRecDepth 20000
attribute [local simp] aOps wantedA aStep aop aLoad aStore aBin aUn aFieldAddr aField aIndexAddr aIndex aLen aBuild aFill aAlloc aAppend aAppendOwn aMin aMax aBuildSlice litRows newRows isMut isOwn isNilS nilsW bytesR tokW tokAV tokL ret readC splice aeval isLit isLate isCut aCut AV.celled AV.one AV.ofValue Value.oneCell' Value.cells intOp strOp get_nid upd_nid awp aEnd aResults aResult Det unord isCall isNext
attribute [local simp] low_take low_strs low_comp low_tcomp wkEs_refl' WkBs WkEnv WkB WkL WkE WkO ABlock.low lowO lowL lowR AV.low cellsL_eq Ty.low low_map Ty.cells_length Ty.cells_one
attribute [local simp] low_ints
theorem sameInts_c (a b:List Int) (ha:a.length < 4611686018427387904) (H:AHeap):ACalls Tryz.prog 10 [.slice (a.map intR) none,.slice (b.map intR) none] H (boolV (decide (a=b))) H:=by
 refine acalls_walk (fun _=>.imm) [0,1,4,5,10,14,25] Tryz.mixed Tryz.func10 rfl rfl rfl (by decide) (fun hcl hlow=>?_)
 by_cases hl:a.length=b.length
 rotate_left
 ·have hl2:¬ ((a.length:Int)=(b.length:Int)):=by omega
  have hne:a≠b:=fun h=>hl (by rw [h])
  repeat with_reducible refine awp_assoc ?_
  refine awp_sr fun K hK=>?_
  simp
  refine hK _ _ ?_
  clear hK K
  repeat with_reducible refine awp_assoc ?_
  refine awp_sr fun K hK=>?_
  simp [hl2]
  refine hK _ _ ?_
  clear hK K
  repeat with_reducible refine awp_assoc ?_
  refine awp_seq_k fun K hK=>?_
  refine awp_condT rfl (by simp) ?_
  repeat with_reducible refine awp_assoc ?_
  refine awp_sr fun K hK=>?_
  simp
  refine hK _ _ ?_
  clear hK K
  simp [hne,reset_all hcl]
 have hl2:(a.length:Int)=(b.length:Int):=by omega
 repeat with_reducible refine awp_assoc ?_
 refine awp_sr fun K hK=>?_
 simp
 refine hK _ _ ?_
 clear hK K
 repeat with_reducible refine awp_assoc ?_
 refine awp_sr fun K hK=>?_
 simp [hl2]
 refine hK _ _ ?_
 clear hK K
 repeat with_reducible refine awp_assoc ?_
 refine awp_seq_k fun K hK=>?_
 refine awp_condF rfl (by simp) ?_
 refine awp_skip ?_
 refine hK _ _ ?_
 clear hK K
 repeat with_reducible refine awp_assoc ?_
 refine awp_sr fun K hK=>?_
 simp
 refine hK _ _ ?_
 clear hK K
 repeat with_reducible refine awp_assoc ?_
 refine awp_seq_k fun K hK=>?_
 refine awp_block ?_
 refine awp_up a.length (fun k=>Env.ofL [(5,intV k),(1,.slice (b.map intR) none),(0,.slice (a.map intR) none)]) (fun k=>HL H []) (fun k=>a.take k=b.take k) (weak_HL hcl rfl (by simp) (by simp)) (by simp) (fun k hk hvk=>?_) (fun hvk=>?_)
 ·obtain ⟨x,hx⟩:∃ x,a[k]?=some x:=⟨_,List.getElem?_eq_getElem hk⟩
  obtain ⟨y,hy⟩:∃ y,b[k]?=some y:=⟨_,List.getElem?_eq_getElem (by omega)⟩
  have hx':(a.map intR)[k]?=some [intV x]:=by simp [hx,intR]
  have hy':(b.map intR)[k]?=some [intV y]:=by simp [hy,intR]
  repeat with_reducible refine awp_assoc ?_
  refine awp_sr fun K hK=>?_
  simp [hk]
  refine hK _ _ ?_
  clear hK K
  repeat with_reducible refine awp_assoc ?_
  refine awp_seq_k fun K hK=>?_
  refine awp_condT rfl (by simp) ?_
  refine awp_skip ?_
  refine hK _ _ ?_
  clear hK K
  refine awp_seq_k fun K hK=>?_
  refine awp_block ?_
  repeat with_reducible refine awp_assoc ?_
  refine awp_sdo [] [[],[0],[],[],[0,1,2,3],[0,1,2,3,4],[0,1,2,3],[0,1,2,3],[]] (by kernel_rfl) (by rfl) (by rfl) fun K hK=>?_
  simp [hx',hy']
  refine hK _ _ ?_
  clear hK K
  by_cases hxy:x=y
  rotate_left
  ·have hne:a≠b:=fun h=>hxy (by rw [h,hy] at hx;exact (Option.some.inj hx).symm)
   refine awp_condT rfl (by simp [hxy]) ?_
   repeat with_reducible refine awp_assoc ?_
   refine awp_sr fun K hK=>?_
   simp
   refine hK _ _ ?_
   clear hK K
   simp [hne,reset_all hcl]
  ·refine awp_condF rfl (by simp [hxy]) ?_
   refine awp_skip ?_
   refine hK _ _ ?_
   clear hK K
   refine awp_region ?_
   simp [wrap_succ (show k < 4611686018427387904 by omega)]
   refine ⟨?_,weak_HL hcl rfl (by simp) (by simp)⟩
   rw [take_one hx,take_one hy,hvk,hxy]
 ·rw [List.take_length,hl,List.take_length] at hvk
  repeat with_reducible refine awp_assoc ?_
  refine awp_sr fun K hK=>?_
  simp
  refine hK _ _ ?_
  clear hK K
  repeat with_reducible refine awp_assoc ?_
  refine awp_seq_k fun K hK=>?_
  refine awp_condF rfl (by simp) ?_
  refine awp_exit ?_
  simp
  clear hK K
  refine hK _ _ ?_
  clear hK K
  repeat with_reducible refine awp_assoc ?_
  refine awp_sr fun K hK=>?_
  simp
  refine hK _ _ ?_
  clear hK K
  simp [hvk,reset_all hcl]
end Go.Proofs.YtdppfcbeiplckaaGreat
namespace Go.Proofs.YtdppfcbeiplckaaGreat
open Go Go.Abs Go.Proofs
set_option maxRecDepth 20000
attribute [local simp] aOps wantedA aStep aop aLoad aStore aBin aUn aFieldAddr aField aIndexAddr aIndex aLen aBuild aFill aAlloc aAppend aAppendOwn aMin aMax aBuildSlice litRows newRows isMut isOwn isNilS nilsW bytesR tokW tokAV tokL ret readC splice aeval isLit isLate isCut aCut AV.celled AV.one AV.ofValue Value.oneCell' Value.cells intOp strOp get_nid upd_nid awp aEnd aResults aResult Det unord isCall isNext
attribute [local simp] low_take low_strs low_comp low_tcomp wkEs_refl' WkBs WkEnv WkB WkL WkE WkO ABlock.low lowO lowL lowR AV.low cellsL_eq Ty.low low_map Ty.cells_length Ty.cells_one
attribute [local simp] cellsNd_eq low_nds Nd.cells_length Nd.cells_one cellsDT_eq low_dts DT.kcells_length DT.kcells_one low_ints
theorem putN_len (m:List Int) (x:Int):(putN m x).length≤m.length+1:=by unfold putN;split <;> simp
theorem putsN_len:∀ (l m:List Int),(putsN m l).length≤m.length+l.length
 | [],m=>by simp [putsN]
 | x::l,m=>by
  have h1:=putsN_len l (putN m x)
  have h2:=putN_len m x
  show (putsN (putN m x) l).length≤_
  simp only [List.length_cons]
  omega
theorem takeV_len {b:Nat} (hb:b≤1073741824) (t:DT) (hs:t.Sh b) (args:List Nd):(takeV sortI Lib.compact t args).1.length < 1099511627776:=by
 unfold takeV
 cases hw:treeB t with
 | false=>simp
 | true =>
  have h1:=(treeB_wf hw).2
  have h2:t.sz * b≤400 * 1073741824:=Nat.mul_le_mul h1 hb
  have h3:=tk_len args t hs
  have h4:=compact_le (sortI (t.tk args).2)
  have h5:(sortI (t.tk args).2).length=(t.tk args).2.length:=by simp [sortI]
  split
  ·simp
  split
  ·simp
  split
  ·simp
  ·simp only;omega
theorem law_c {b:Nat} (hb:b≤1073741824) (t:DT) (hs:t.Sh b) (args:List Nd) (ha:args.length < b∧∀ x∈args,x.Sh b) (H:AHeap):ACalls Tryz.prog 3 [t.enc,.slice (args.map Nd.cells) none] H (boolV true) H:=by
 have h1:=fun H=>Take_c sortI_ok compI_ok hb t hs args ha H
 have h2:=fun H=>rTakeTop_c hb t hs args ha (fun hw hok=>by
  have g1:=(treeB_wf hw).2
  have g2:t.sz * b≤400 * 1073741824:=Nat.mul_le_mul g1 hb
  have g3:=tk_len args t hs
  obtain ⟨g4,g5⟩:=tk_same args t []
  rw [g5 (by rw [←g4];exact hok)]
  have:=putsN_len (t.tk args).2 []
  simp only [List.length_nil] at this
  omega) H
 have h3:=fun H=>Alone_c (b:=b) (by omega) t hs H
 have h4:=fun H=>rAlone_c (b:=b) (by omega) t hs H
 have hl:=takeV_len hb t hs args
 have h5:=fun H=>sameInts_c (takeV sortI Lib.compact t args).1 (takeV sortI Lib.compact t args).1 (by omega) H
 rw [←take_same] at h2
 simp only [decide_true] at h5
 generalize takeV sortI Lib.compact t args=R at *
 obtain ⟨r,e⟩:=R
 simp only at *
 generalize (if treeB t=true then t.aloneB else false)=a at *
 generalize (if treeB t=true then (0:Int) else 1)=g at *
 have h6:=known_c
 obtain ⟨s,n,k,p,q,l⟩:=t
 simp only [DT.enc_mk] at *
 refine acalls_walk (fun _=>.imm) [0,1,2,4,5,6,7,8,9,10,11,12] Tryz.mixed Tryz.func3 rfl rfl rfl (by decide) (fun hcl hlow=>?_)
 repeat with_reducible refine awp_assoc ?_
 refine awp_sr fun K hK=>?_
 simp
 refine hK _ _ ?_
 clear hK K
 repeat with_reducible refine awp_assoc ?_
 refine awp_sr fun K hK=>?_
 refine aOps_split 2 fun K hK=>?_
 simp
 refine hK _ _ ?_
 clear hK K
 refine aOps_call (h1 _) (by first | rfl | simp) rfl rfl (by first | (simp;done) | rfl) ?_
 simp
 refine hK _ _ ?_
 clear hK K
 repeat with_reducible refine awp_assoc ?_
 refine awp_sr fun K hK=>?_
 refine aOps_split 2 fun K hK=>?_
 simp
 refine hK _ _ ?_
 clear hK K
 refine aOps_call (h2 _) (by first | rfl | simp) rfl rfl (by first | (simp;done) | rfl) ?_
 simp
 refine hK _ _ ?_
 clear hK K
 repeat with_reducible refine awp_assoc ?_
 refine awp_sr fun K hK=>?_
 refine aOps_split 1 fun K hK=>?_
 simp
 refine hK _ _ ?_
 clear hK K
 refine aOps_call (h3 _) (by first | rfl | simp) rfl rfl (by first | (simp;done) | rfl) ?_
 simp
 refine hK _ _ ?_
 clear hK K
 repeat with_reducible refine awp_assoc ?_
 refine awp_sr fun K hK=>?_
 refine aOps_split 1 fun K hK=>?_
 simp
 refine hK _ _ ?_
 clear hK K
 refine aOps_call (h4 _) (by first | rfl | simp) rfl rfl (by first | (simp;done) | rfl) ?_
 simp
 refine hK _ _ ?_
 clear hK K
 repeat with_reducible refine awp_assoc ?_
 refine awp_sr fun K hK=>?_
 refine aOps_split 2 fun K hK=>?_
 simp
 refine hK _ _ ?_
 clear hK K
 refine aOps_call (h5 _) (by first | rfl | simp) rfl rfl (by first | (simp;done) | rfl) ?_
 refine aOps_split 6 fun K hK=>?_
 simp
 refine hK _ _ ?_
 clear hK K
 refine aOps_split 5 fun K hK=>?_
 simp
 refine hK _ _ ?_
 clear hK K
 refine aOps_split 5 fun K hK=>?_
 simp
 refine hK _ _ ?_
 clear hK K
 refine aOps_call (h6 _) (by first | rfl | simp) rfl rfl (by first | (simp;done) | rfl) ?_
 simp
 refine hK _ _ ?_
 clear hK K
 simp [reset_all hcl]
end Go.Proofs.YtdppfcbeiplckaaGreat
