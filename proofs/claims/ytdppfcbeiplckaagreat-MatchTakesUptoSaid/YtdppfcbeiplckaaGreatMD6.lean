/- What is named that there is not; what does not fit. -/
import Derived.Test.YtdppfcbeiplckaaGreatMD4
set_option linter.unusedVariables false
set_option linter.unusedSimpArgs false
namespace Go.Proofs.YtdppfcbeiplckaaGreat
open Go Go.Abs Go.Proofs
set_option maxRecDepth 20000
attribute [local simp] aOps wantedA aStep aop aLoad aStore aBin aUn aFieldAddr aField aIndexAddr aIndex aLen aBuild aFill aAlloc aAppend aAppendOwn aMin aMax aBuildSlice litRows newRows isMut isOwn isNilS nilsW bytesR tokW tokAV tokL ret readC splice aeval isLit isLate isCut aCut AV.celled AV.one AV.ofValue Value.oneCell' Value.cells intOp strOp get_nid upd_nid awp aEnd aResults aResult Det unord isCall isNext
attribute [local simp] low_take low_strs low_comp low_tcomp wkEs_refl' WkBs WkEnv WkB WkL WkE WkO ABlock.low lowO lowL lowR AV.low cellsL_eq Ty.low low_map Ty.cells_length Ty.cells_one
attribute [local simp] ConD.cells Dat.cells PredD.cells SigD.cells ClsD.cells InstD.cells DeclsD.cells DeclsD.enc Dat.enc low_datL low_conL low_predL low_sigL low_clsL low_instL
def noCls (d:DeclsD) (s:ByteArray):Bool:=decide (classI d.classes s < 0)
def badK (d:DeclsD) (want:Int) (t:Ty):Bool:=decide (kindsV d want t≠0)
def instNone (d:DeclsD) (x:InstD):Bool:=!(namedD d x.data).2 || noCls d x.cls || x.preds.any (fun p=>noCls d p.cls)
def noneB (d:DeclsD):Bool:=(writtenD d).any (badK d 4) || d.classes.any (fun x=>x.supers.any (noCls d)) || d.insts.any (instNone d)
def alien (x:Dat) (n:Ty):Bool:=dVarB n && !memS n.name x.vars
def datFit (x:Dat):Bool:=x.cons.any fun c=>c.args.any fun t=>t.nodes.any (alien x)
def fitB (d:DeclsD):Bool:=(writtenD d).any (badK d 8) || d.datas.any datFit
theorem miss {α:Type} {p:α→Bool} {l:List α} {k:Nat} {x:α} (hx:l[k]?=some x) (h:(l.take k).any p=false) (hp:p x=false):(l.take (k+1)).any p=false:=by rw [any_take hx,h,hp];rfl
set_option maxHeartbeats 4000000 in
theorem none_c (d:DeclsD) (hr:RawD d) (hsz:d.datas.length < 1000000000000) (hcz:d.classes.length < 1000000000000) (hwz:(writtenD d).length < 1000000000000) (hwt:∀ t∈writtenD d,t.cnt < 1000000000000) (H:AHeap):ACalls Tryz.prog 100 [d.enc] H (intV (if noneB d=true then 4 else 0)) H:=by
 have h2:=hr.classes
 have h3:=hr.insts
 have h6:=hr.supers
 have h8:=hr.preds
 have hat:=allTypes_c d hr hwz
 have hkc:=fun t ht=>kinds_c d hsz t (hwt t ht) 4
 have hnm:=named_c d hsz
 have hcc:=class_c d hcz
 have hb:∀ t,badK d 4 t=decide (kindsV d 4 t≠0):=fun _=>rfl
 have hno:∀ s,noCls d s=decide (classI d.classes s < 0):=fun _=>rfl
 have hin:∀ x,instNone d x=(!(namedD d x.data).2 || noCls d x.cls || x.preds.any (fun p=>noCls d p.cls)):=fun _=>rfl
 have e0:noneB d=((writtenD d).any (badK d 4) || d.classes.any (fun x=>x.supers.any (noCls d)) || d.insts.any (instNone d)):=rfl
 generalize noneB d=nb at e0 ⊢
 generalize badK d 4=bk at *
 generalize kindsV d 4=kv at *
 generalize instNone d=iN at *
 generalize noCls d=nC at *
 have hwl:(writtenD d).length < 4611686018427387904:=by omega
 generalize writtenD d=W at *
 generalize namedD d=nm at *
 clear hr hsz hcz hwz hwt
 obtain ⟨ds,cs,is⟩:=d
 simp only at h2 h3 h6 h8 hno e0 hat
 refine acalls_walk (fun _=>.imm) [0,1,2,4,6,8,10,12,14,16,17,18,19,25,28,29,30,31,35,36,37,38,44,48,49,50,51,69,71,72,73,74,81] Tryz.mixed Tryz.func100 rfl rfl rfl (by decide) (fun hcl hlow=>?_)
 repeat with_reducible refine awp_assoc ?_
 refine awp_sr fun K hK=>?_
 simp
 refine hK _ _ ?_
 clear hK K
 repeat with_reducible refine awp_assoc ?_
 refine awp_sr fun K hK=>?_
 refine aOps_split 1 fun K hK=>?_
 simp
 refine hK _ _ ?_
 clear hK K
 refine aOps_call (hat _) (by first | rfl | simp) rfl rfl (by first | (simp;done) | rfl) ?_
 simp
 refine hK _ _ ?_
 clear hK K
 repeat with_reducible refine awp_assoc ?_
 refine awp_seq_k fun K hK=>?_
 refine awp_block ?_
 refine awp_up W.length (fun k=>Env.ofL [(1,.ref (nid H.next 0) 0),(2,intV 0),(16,.slice (W.map Ty.cells) none),(17,intV (W.length:Int)),(18,intV k)]) (fun k=>HL H [.cells [.slice (ds.map Dat.cells) none,.slice (cs.map ClsD.cells) none,.slice (is.map InstD.cells) none]]) (fun k=>(W.take k).any bk=false) (weak_HL hcl rfl (by simp) (by simp)) (by simp) (fun k hk hvk=>?_) (fun hvk=>?_)
 ·obtain ⟨t,ht⟩:∃ t,W[k]?=some t:=⟨_,List.getElem?_eq_getElem hk⟩
  have hc:=hkc t (List.mem_of_getElem? ht)
  have hbk:=hb t
  have hbx:=any_at (p:=bk) ht
  have hms:=miss (p:=bk) ht hvk
  obtain ⟨tn,tl⟩:=t
  simp only [enc_mk] at hc
  repeat with_reducible refine awp_assoc ?_
  refine awp_sr fun K hK=>?_
  simp [hk]
  refine hK _ _ ?_
  clear hK K
  repeat with_reducible refine awp_assoc ?_
  refine awp_seq_k fun K hK=>?_
  refine awp_condT rfl (by simp) ?_
  refine awp_skip ?_
  refine hK _ _ ?_
  clear hK K
  refine awp_seq_k fun KB hKB=>?_
  refine awp_block ?_
  repeat with_reducible refine awp_assoc ?_
  refine awp_sr fun K hK=>?_
  simp [ht,Ty.cells]
  refine hK _ _ ?_
  clear hK K
  repeat with_reducible refine awp_assoc ?_
  refine awp_sr fun K hK=>?_
  refine aOps_split 2 fun K hK=>?_
  simp
  refine hK _ _ ?_
  clear hK K
  refine aOps_call (hc _) (by first | rfl | simp) rfl rfl (by first | (simp;done) | rfl) ?_
  simp
  refine hK _ _ ?_
  clear hK K
  by_cases h0:kv (.mk tn tl)=0
  ·refine awp_condF rfl (by simp [h0]) ?_
   refine awp_skip ?_
   refine hKB _ _ ?_
   clear hKB
   refine awp_region ?_
   simp [wrap_succ (show k < 4611686018427387904 by omega)]
   refine ⟨?_,weak_HL hcl rfl (by simp) (by simp)⟩
   simpa using hms (by rw [hbk];simp [h0])
  ·refine awp_condT rfl (by simp [h0]) ?_
   repeat with_reducible refine awp_assoc ?_
   refine awp_sr fun K hK=>?_
   simp
   refine hK _ _ ?_
   clear hK K
   rw [e0,hbx (by rw [hbk];simp [h0])]
   simp [reset_all hcl]
 rw [List.take_length] at hvk
 rename W.any bk=false=>hW
 repeat with_reducible refine awp_assoc ?_
 refine awp_sr fun K hK=>?_
 simp
 refine hK _ _ ?_
 clear hK K
 repeat with_reducible refine awp_assoc ?_
 refine awp_seq_k fun K hK=>?_
 refine awp_condF rfl (by simp) ?_
 refine awp_exit ?_
 simp
 clear hK K
 refine hK _ _ ?_
 clear hK K
 repeat with_reducible refine awp_assoc ?_
 refine awp_sr fun K hK=>?_
 simp
 refine hK _ _ ?_
 clear hK K
 rw [hW,Bool.false_or] at e0
 repeat with_reducible refine awp_assoc ?_
 refine awp_seq_k fun K hK=>?_
 refine awp_block ?_
 refine awp_up cs.length (fun k=>Env.ofL [(1,.ref (nid H.next 0) 0),(2,intV 0),(28,.slice (cs.map ClsD.cells) none),(29,intV (cs.length:Int)),(30,intV k)]) (fun k=>HL H [.cells [.slice (ds.map Dat.cells) none,.slice (cs.map ClsD.cells) none,.slice (is.map InstD.cells) none]]) (fun k=>(cs.take k).any (fun x=>x.supers.any nC)=false) (weak_HL hcl rfl (by simp) (by simp)) (by simp) (fun k hk hvk=>?_) (fun hvk=>?_)
 ·obtain ⟨x,hx⟩:∃ x,cs[k]?=some x:=⟨_,List.getElem?_eq_getElem hk⟩
  have g6:=h6 x (List.mem_of_getElem? hx)
  have hbx:=any_at (p:=fun x:ClsD=>x.supers.any nC) hx
  have hms:=miss (p:=fun x:ClsD=>x.supers.any nC) hx hvk
  repeat with_reducible refine awp_assoc ?_
  refine awp_sr fun K hK=>?_
  simp [hk]
  refine hK _ _ ?_
  clear hK K
  repeat with_reducible refine awp_assoc ?_
  refine awp_seq_k fun K hK=>?_
  refine awp_condT rfl (by simp) ?_
  refine awp_skip ?_
  refine hK _ _ ?_
  clear hK K
  refine awp_seq_k fun KB hKB=>?_
  refine awp_block ?_
  repeat with_reducible refine awp_assoc ?_
  refine awp_sr fun K hK=>?_
  simp [hx]
  refine hK _ _ ?_
  clear hK K
  repeat with_reducible refine awp_assoc ?_
  refine awp_sr fun K hK=>?_
  simp
  refine hK _ _ ?_
  clear hK K
  refine awp_block ?_
  refine awp_up x.supers.length (fun j=>Env.ofL [(1,.ref (nid H.next 0) 0),(2,intV 0),(6,.ref (nid H.next 1) 0),(28,.slice (cs.map ClsD.cells) none),(29,intV (cs.length:Int)),(30,intV k),(35,strs x.supers none),(36,intV (x.supers.length:Int)),(37,intV j)]) (fun j=>HL H [.cells [.slice (ds.map Dat.cells) none,.slice (cs.map ClsD.cells) none,.slice (is.map InstD.cells) none],.cells x.cells]) (fun j=>(x.supers.take j).any nC=false) (weak_HL hcl rfl (by simp) (by simp)) (by simp) (fun j hj hvj=>?_) (fun hvj=>?_)
  ·obtain ⟨s,hs⟩:∃ s,x.supers[j]?=some s:=⟨_,List.getElem?_eq_getElem hj⟩
   have hbs:=any_at (p:=nC) hs
   have hss:=miss (p:=nC) hs hvj
   have hc:=hcc s
   have hn:=hno s
   repeat with_reducible refine awp_assoc ?_
   refine awp_sr fun K hK=>?_
   simp [hj]
   refine hK _ _ ?_
   clear hK K
   repeat with_reducible refine awp_assoc ?_
   refine awp_seq_k fun K hK=>?_
   refine awp_condT rfl (by simp) ?_
   refine awp_skip ?_
   refine hK _ _ ?_
   clear hK K
   refine awp_seq_k fun KC hKC=>?_
   refine awp_block ?_
   repeat with_reducible refine awp_assoc ?_
   refine awp_sr fun K hK=>?_
   simp [hs]
   refine hK _ _ ?_
   clear hK K
   repeat with_reducible refine awp_assoc ?_
   refine awp_sr fun K hK=>?_
   refine aOps_split 2 fun K hK=>?_
   simp
   refine hK _ _ ?_
   clear hK K
   refine aOps_call (hc _) (by first | rfl | simp) rfl rfl (by first | (simp;done) | rfl) ?_
   simp
   refine hK _ _ ?_
   clear hK K
   by_cases h0:classI cs s < 0
   ·refine awp_condT rfl (by simp [h0]) ?_
    repeat with_reducible refine awp_assoc ?_
    refine awp_sr fun K hK=>?_
    simp
    refine hK _ _ ?_
    clear hK K
    rw [e0,hbx (hbs (by rw [hn];simp [h0]))]
    simp [reset_all hcl]
   ·refine awp_condF rfl (by simp [h0]) ?_
    refine awp_skip ?_
    refine hKC _ _ ?_
    clear hKC
    refine awp_region ?_
    simp [wrap_succ (show j < 4611686018427387904 by omega)]
    refine ⟨?_,weak_HL hcl rfl (by simp) (by simp)⟩
    simpa using hss (by rw [hn];simp [h0])
  rw [List.take_length] at hvj
  repeat with_reducible refine awp_assoc ?_
  refine awp_sr fun K hK=>?_
  simp
  refine hK _ _ ?_
  clear hK K
  repeat with_reducible refine awp_assoc ?_
  refine awp_seq_k fun K hK=>?_
  refine awp_condF rfl (by simp) ?_
  refine awp_exit ?_
  simp
  refine hKB _ _ ?_
  clear hKB
  refine awp_region ?_
  simp [wrap_succ (show k < 4611686018427387904 by omega)]
  exact ⟨by simpa using hms hvj,weak_HL hcl rfl (by simp) (by simp)⟩
 rw [List.take_length] at hvk
 rw [hvk,Bool.false_or] at e0
 repeat with_reducible refine awp_assoc ?_
 refine awp_sr fun K hK=>?_
 simp
 refine hK _ _ ?_
 clear hK K
 repeat with_reducible refine awp_assoc ?_
 refine awp_seq_k fun K hK=>?_
 refine awp_condF rfl (by simp) ?_
 refine awp_exit ?_
 simp
 clear hK K
 refine hK _ _ ?_
 clear hK K
 repeat with_reducible refine awp_assoc ?_
 refine awp_sr fun K hK=>?_
 simp
 refine hK _ _ ?_
 clear hK K
 repeat with_reducible refine awp_assoc ?_
 refine awp_seq_k fun K hK=>?_
 refine awp_block ?_
 refine awp_up is.length (fun k=>Env.ofL [(1,.ref (nid H.next 0) 0),(2,intV 0),(48,.slice (is.map InstD.cells) none),(49,intV (is.length:Int)),(50,intV k)]) (fun k=>HL H [.cells [.slice (ds.map Dat.cells) none,.slice (cs.map ClsD.cells) none,.slice (is.map InstD.cells) none]]) (fun k=>(is.take k).any iN=false) (weak_HL hcl rfl (by simp) (by simp)) (by simp) (fun k hk hvk=>?_) (fun hvk=>?_)
 ·obtain ⟨x,hx⟩:∃ x,is[k]?=some x:=⟨_,List.getElem?_eq_getElem hk⟩
  rename (is.take k).any iN=false=>hvi
  have g8:=h8 x (List.mem_of_getElem? hx)
  have hbx:=any_at (p:=iN) hx
  have hms:=miss (p:=iN) hx hvi
  have hix:=hin x
  have hn:=hnm x.data
  have hc:=hcc x.cls
  have hnc:=hno x.cls
  rcases hy:nm x.data with ⟨y1,y2⟩
  simp only [hy] at hn hix
  repeat with_reducible refine awp_assoc ?_
  refine awp_sr fun K hK=>?_
  simp [hk]
  refine hK _ _ ?_
  clear hK K
  repeat with_reducible refine awp_assoc ?_
  refine awp_seq_k fun K hK=>?_
  refine awp_condT rfl (by simp) ?_
  refine awp_skip ?_
  refine hK _ _ ?_
  clear hK K
  refine awp_seq_k fun KB hKB=>?_
  refine awp_block ?_
  repeat with_reducible refine awp_assoc ?_
  refine awp_sr fun K hK=>?_
  simp [hx]
  refine hK _ _ ?_
  clear hK K
  repeat with_reducible refine awp_assoc ?_
  refine awp_sr fun K hK=>?_
  refine aOps_split 3 fun K hK=>?_
  simp
  refine hK _ _ ?_
  clear hK K
  refine aOps_call (hn _) (by first | rfl | simp) rfl rfl (by first | (simp;done) | rfl) ?_
  simp
  refine hK _ _ ?_
  clear hK K
  cases y2 with
  | false =>
   repeat with_reducible refine awp_assoc ?_
   refine awp_sr fun K hK=>?_
   refine aOps_split 6 fun K hK=>?_
   simp
   refine hK _ _ ?_
   clear hK K
   simp
   refine hK _ _ ?_
   clear hK K
   repeat with_reducible refine awp_assoc ?_
   refine awp_seq_k fun K hK=>?_
   refine awp_condT rfl (by simp) ?_
   repeat with_reducible refine awp_assoc ?_
   refine awp_sr fun K hK=>?_
   simp
   refine hK _ _ ?_
   clear hK K
   rw [e0,hbx (by rw [hix];rfl)]
   simp [reset_all hcl]
  | true =>
  repeat with_reducible refine awp_assoc ?_
  refine awp_sr fun K hK=>?_
  refine aOps_split 6 fun K hK=>?_
  simp
  refine hK _ _ ?_
  clear hK K
  refine aOps_call (hc _) (by first | rfl | simp) rfl rfl (by first | (simp;done) | rfl) ?_
  by_cases h0:classI cs x.cls < 0
  ·simp [h0]
   refine hK _ _ ?_
   clear hK K
   repeat with_reducible refine awp_assoc ?_
   refine awp_seq_k fun K hK=>?_
   refine awp_condT rfl (by simp) ?_
   repeat with_reducible refine awp_assoc ?_
   refine awp_sr fun K hK=>?_
   simp
   refine hK _ _ ?_
   clear hK K
   rw [e0,hbx (by rw [hix,hnc];simp [h0])]
   simp [reset_all hcl]
  simp [h0]
  refine hK _ _ ?_
  clear hK K
  repeat with_reducible refine awp_assoc ?_
  refine awp_seq_k fun K hK=>?_
  refine awp_condF rfl (by simp) ?_
  refine awp_skip ?_
  refine hK _ _ ?_
  clear hK K
  have hix2:iN x=x.preds.any (fun p=>nC p.cls):=by rw [hix,hnc];simp [h0]
  repeat with_reducible refine awp_assoc ?_
  refine awp_sr fun K hK=>?_
  simp
  refine hK _ _ ?_
  clear hK K
  refine awp_block ?_
  refine awp_up x.preds.length (fun j=>Env.ofL [(1,.ref (nid H.next 0) 0),(2,intV 0),(10,.ref (nid H.next 1) 0),(48,.slice (is.map InstD.cells) none),(49,intV (is.length:Int)),(50,intV k),(71,.slice (x.preds.map PredD.cells) none),(72,intV (x.preds.length:Int)),(73,intV j)]) (fun j=>HL H [.cells [.slice (ds.map Dat.cells) none,.slice (cs.map ClsD.cells) none,.slice (is.map InstD.cells) none],.cells x.cells,.cells y1.cells]) (fun j=>(x.preds.take j).any (fun p=>nC p.cls)=false) (weak_HL hcl rfl (by simp) (by simp)) (by simp) (fun j hj hvj=>?_) (fun hvj=>?_)
  ·obtain ⟨s,hs⟩:∃ s,x.preds[j]?=some s:=⟨_,List.getElem?_eq_getElem hj⟩
   have hbs:=any_at (p:=fun p:PredD=>nC p.cls) hs
   have hss:=miss (p:=fun p:PredD=>nC p.cls) hs hvj
   have hc:=hcc s.cls
   have hn:=hno s.cls
   repeat with_reducible refine awp_assoc ?_
   refine awp_sr fun K hK=>?_
   simp [hj]
   refine hK _ _ ?_
   clear hK K
   repeat with_reducible refine awp_assoc ?_
   refine awp_seq_k fun K hK=>?_
   refine awp_condT rfl (by simp) ?_
   refine awp_skip ?_
   refine hK _ _ ?_
   clear hK K
   refine awp_seq_k fun KC hKC=>?_
   refine awp_block ?_
   repeat with_reducible refine awp_assoc ?_
   refine awp_sr fun K hK=>?_
   simp [hs]
   refine hK _ _ ?_
   clear hK K
   repeat with_reducible refine awp_assoc ?_
   refine awp_sr fun K hK=>?_
   refine aOps_split 3 fun K hK=>?_
   simp
   refine hK _ _ ?_
   clear hK K
   refine aOps_call (hc _) (by first | rfl | simp) rfl rfl (by first | (simp;done) | rfl) ?_
   simp
   refine hK _ _ ?_
   clear hK K
   by_cases h0:classI cs s.cls < 0
   ·refine awp_condT rfl (by simp [h0]) ?_
    repeat with_reducible refine awp_assoc ?_
    refine awp_sr fun K hK=>?_
    simp
    refine hK _ _ ?_
    clear hK K
    rw [e0,hbx (by rw [hix2];exact hbs (by rw [hn];simp [h0]))]
    simp [reset_all hcl]
   ·refine awp_condF rfl (by simp [h0]) ?_
    refine awp_skip ?_
    refine hKC _ _ ?_
    clear hKC
    refine awp_region ?_
    simp [wrap_succ (show j < 4611686018427387904 by omega)]
    refine ⟨?_,weak_HL hcl rfl (by simp) (by simp)⟩
    simpa using hss (by rw [hn];simp [h0])
  rw [List.take_length] at hvj
  repeat with_reducible refine awp_assoc ?_
  refine awp_sr fun K hK=>?_
  simp
  refine hK _ _ ?_
  clear hK K
  repeat with_reducible refine awp_assoc ?_
  refine awp_seq_k fun K hK=>?_
  refine awp_condF rfl (by simp) ?_
  refine awp_exit ?_
  simp
  refine hKB _ _ ?_
  clear hKB
  refine awp_region ?_
  simp [wrap_succ (show k < 4611686018427387904 by omega)]
  exact ⟨by simpa using hms (by rw [hix2];exact hvj),weak_HL hcl rfl (by simp) (by simp)⟩
 rename (is.take is.length).any iN=false=>hvi
 rw [List.take_length] at hvi
 rw [hvi] at e0
 repeat with_reducible refine awp_assoc ?_
 refine awp_sr fun K hK=>?_
 simp
 refine hK _ _ ?_
 clear hK K
 repeat with_reducible refine awp_assoc ?_
 refine awp_seq_k fun K hK=>?_
 refine awp_condF rfl (by simp) ?_
 refine awp_exit ?_
 simp
 clear hK K
 refine hK _ _ ?_
 clear hK K
 repeat with_reducible refine awp_assoc ?_
 refine awp_sr fun K hK=>?_
 simp
 refine hK _ _ ?_
 clear hK K
 rw [e0]
 simp [reset_all hcl]
theorem awp_hide {P:Program} {md:Nat→Go.Abs.Mode} {n0:Nat} {L:List Nat} {c:Code} {Q:AExit→Env→AHeap→Prop} {env:Env} {H:AHeap} (h:∀ Qh:AExit→Env→AHeap→Prop,(∀ e env H,Q e env H→Qh e env H)→awp P md n0 L c Qh env H):awp P md n0 L c Q env H:=h Q fun _ _ _ h=>h
set_option maxHeartbeats 4000000 in
theorem fit_c (d:DeclsD) (hr:RawD d) (hsz:d.datas.length < 1000000000000) (hwz:(writtenD d).length < 1000000000000) (hwt:∀ t∈writtenD d,t.cnt < 1000000000000) (hct:∀ x∈d.datas,∀ c∈x.cons,∀ t∈c.args,t.cnt < 1000000000000) (H:AHeap):ACalls Tryz.prog 101 [d.enc] H (intV (if fitB d=true then 8 else 0)) H:=by
 have h1:=hr.datas
 have h4:=hr.vars
 have h5:=hr.cons
 have h6:=hr.cargs
 have hat:=allTypes_c d hr hwz
 have hkc:=fun t ht=>kinds_c d hsz t (hwt t ht) 8
 have hb:∀ t,badK d 8 t=decide (kindsV d 8 t≠0):=fun _=>rfl
 have e0:fitB d=((writtenD d).any (badK d 8) || d.datas.any datFit):=rfl
 generalize fitB d=nb at e0 ⊢
 generalize badK d 8=bk at *
 generalize kindsV d 8=kv at *
 have hwl:(writtenD d).length < 4611686018427387904:=by omega
 generalize writtenD d=W at *
 clear hr hsz hwz hwt
 obtain ⟨ds,cs,is⟩:=d
 simp only at h1 h4 h5 h6 hct e0 hat
 refine acalls_walk (fun _=>.imm) [0,1,2,4,6,8,10,12,14,15,16,17,23,26,27,28,29,33,34,35,36,40,41,42,43,47,48,49,50,62] Tryz.mixed Tryz.func101 rfl rfl rfl (by decide) (fun hcl hlow=>?_)
 repeat with_reducible refine awp_assoc ?_
 refine awp_sr fun K hK=>?_
 simp
 refine hK _ _ ?_
 clear hK K
 repeat with_reducible refine awp_assoc ?_
 refine awp_sr fun K hK=>?_
 refine aOps_split 1 fun K hK=>?_
 simp
 refine hK _ _ ?_
 clear hK K
 refine aOps_call (hat _) (by first | rfl | simp) rfl rfl (by first | (simp;done) | rfl) ?_
 simp
 refine hK _ _ ?_
 clear hK K
 repeat with_reducible refine awp_assoc ?_
 refine awp_seq_k fun K hK=>?_
 refine awp_block ?_
 refine awp_up W.length (fun k=>Env.ofL [(1,.ref (nid H.next 0) 0),(2,intV 0),(14,.slice (W.map Ty.cells) none),(15,intV (W.length:Int)),(16,intV k)]) (fun k=>HL H [.cells [.slice (ds.map Dat.cells) none,.slice (cs.map ClsD.cells) none,.slice (is.map InstD.cells) none]]) (fun k=>(W.take k).any bk=false) (weak_HL hcl rfl (by simp) (by simp)) (by simp) (fun k hk hvk=>?_) (fun hvk=>?_)
 ·obtain ⟨t,ht⟩:∃ t,W[k]?=some t:=⟨_,List.getElem?_eq_getElem hk⟩
  have hc:=hkc t (List.mem_of_getElem? ht)
  have hbk:=hb t
  have hbx:=any_at (p:=bk) ht
  have hms:=miss (p:=bk) ht hvk
  obtain ⟨tn,tl⟩:=t
  simp only [enc_mk] at hc
  repeat with_reducible refine awp_assoc ?_
  refine awp_sr fun K hK=>?_
  simp [hk]
  refine hK _ _ ?_
  clear hK K
  repeat with_reducible refine awp_assoc ?_
  refine awp_seq_k fun K hK=>?_
  refine awp_condT rfl (by simp) ?_
  refine awp_skip ?_
  refine hK _ _ ?_
  clear hK K
  refine awp_seq_k fun KB hKB=>?_
  refine awp_block ?_
  repeat with_reducible refine awp_assoc ?_
  refine awp_sr fun K hK=>?_
  simp [ht,Ty.cells]
  refine hK _ _ ?_
  clear hK K
  repeat with_reducible refine awp_assoc ?_
  refine awp_sr fun K hK=>?_
  refine aOps_split 2 fun K hK=>?_
  simp
  refine hK _ _ ?_
  clear hK K
  refine aOps_call (hc _) (by first | rfl | simp) rfl rfl (by first | (simp;done) | rfl) ?_
  simp
  refine hK _ _ ?_
  clear hK K
  by_cases h0:kv (.mk tn tl)=0
  ·refine awp_condF rfl (by simp [h0]) ?_
   refine awp_skip ?_
   refine hKB _ _ ?_
   clear hKB
   refine awp_region ?_
   simp [wrap_succ (show k < 4611686018427387904 by omega)]
   refine ⟨?_,weak_HL hcl rfl (by simp) (by simp)⟩
   simpa using hms (by rw [hbk];simp [h0])
  ·refine awp_condT rfl (by simp [h0]) ?_
   repeat with_reducible refine awp_assoc ?_
   refine awp_sr fun K hK=>?_
   simp
   refine hK _ _ ?_
   clear hK K
   rw [e0,hbx (by rw [hbk];simp [h0])]
   simp [reset_all hcl]
 rw [List.take_length] at hvk
 rename W.any bk=false=>hW
 repeat with_reducible refine awp_assoc ?_
 refine awp_sr fun K hK=>?_
 simp
 refine hK _ _ ?_
 clear hK K
 repeat with_reducible refine awp_assoc ?_
 refine awp_seq_k fun K hK=>?_
 refine awp_condF rfl (by simp) ?_
 refine awp_exit ?_
 simp
 clear hK K
 refine hK _ _ ?_
 clear hK K
 repeat with_reducible refine awp_assoc ?_
 refine awp_sr fun K hK=>?_
 simp
 refine hK _ _ ?_
 clear hK K
 rw [hW,Bool.false_or] at e0
 repeat with_reducible refine awp_assoc ?_
 refine awp_seq_k fun K hK=>?_
 refine awp_block ?_
 refine awp_up ds.length (fun k=>Env.ofL [(1,.ref (nid H.next 0) 0),(2,intV 0),(26,.slice (ds.map Dat.cells) none),(27,intV (ds.length:Int)),(28,intV k)]) (fun k=>HL H [.cells [.slice (ds.map Dat.cells) none,.slice (cs.map ClsD.cells) none,.slice (is.map InstD.cells) none]]) (fun k=>(ds.take k).any datFit=false) (weak_HL hcl rfl (by simp) (by simp)) (by simp) (fun k hk hvk=>?_) (fun hvk=>?_)
 ·obtain ⟨x,hx⟩:∃ x,ds[k]?=some x:=⟨_,List.getElem?_eq_getElem hk⟩
  have g4:=h4 x (List.mem_of_getElem? hx)
  have g5:=h5 x (List.mem_of_getElem? hx)
  have g6:=h6 x (List.mem_of_getElem? hx)
  have gt:=hct x (List.mem_of_getElem? hx)
  have hbx:=any_at (p:=datFit) hx
  have hms:=miss (p:=datFit) hx hvk
  have ex:datFit x=x.cons.any fun c=>c.args.any fun t=>t.nodes.any (alien x):=rfl
  have eal:∀ n,alien x n=(dVarB n && !memS n.name x.vars):=fun _=>rfl
  generalize datFit x=dx at *
  generalize alien x=al at *
  repeat with_reducible refine awp_assoc ?_
  refine awp_sr fun K hK=>?_
  simp [hk]
  refine hK _ _ ?_
  clear hK K
  repeat with_reducible refine awp_assoc ?_
  refine awp_seq_k fun K hK=>?_
  refine awp_condT rfl (by simp) ?_
  refine awp_skip ?_
  refine hK _ _ ?_
  clear hK K
  refine awp_seq_k fun KB hKB=>?_
  refine awp_block ?_
  repeat with_reducible refine awp_assoc ?_
  refine awp_sr fun K hK=>?_
  simp [hx]
  refine hK _ _ ?_
  clear hK K
  repeat with_reducible refine awp_assoc ?_
  refine awp_sr fun K hK=>?_
  simp
  refine hK _ _ ?_
  clear hK K
  refine awp_hide fun Q1 hQ1=>?_
  refine awp_block ?_
  refine awp_up x.cons.length (fun j=>Env.ofL [(1,.ref (nid H.next 0) 0),(2,intV 0),(6,.ref (nid H.next 1) 0),(26,.slice (ds.map Dat.cells) none),(27,intV (ds.length:Int)),(28,intV k),(33,.slice (x.cons.map ConD.cells) none),(34,intV (x.cons.length:Int)),(35,intV j)]) (fun j=>HL H [.cells [.slice (ds.map Dat.cells) none,.slice (cs.map ClsD.cells) none,.slice (is.map InstD.cells) none],.cells x.cells]) (fun j=>(x.cons.take j).any (fun c=>c.args.any fun t=>t.nodes.any al)=false) (weak_HL hcl rfl (by simp) (by simp)) (by simp) (fun j hj hvj=>?_) (fun hvj=>?_)
  ·obtain ⟨c,hc⟩:∃ c,x.cons[j]?=some c:=⟨_,List.getElem?_eq_getElem hj⟩
   have g7:=g6 c (List.mem_of_getElem? hc)
   have gu:=gt c (List.mem_of_getElem? hc)
   have hbc:=any_at (p:=fun c:ConD=>c.args.any fun t=>t.nodes.any al) hc
   have hmc:=miss (p:=fun c:ConD=>c.args.any fun t=>t.nodes.any al) hc hvj
   repeat with_reducible refine awp_assoc ?_
   refine awp_sr fun K hK=>?_
   simp [hj]
   refine hK _ _ ?_
   clear hK K
   repeat with_reducible refine awp_assoc ?_
   refine awp_seq_k fun K hK=>?_
   refine awp_condT rfl (by simp) ?_
   refine awp_skip ?_
   refine hK _ _ ?_
   clear hK K
   refine awp_seq_k fun KC hKC=>?_
   refine awp_block ?_
   repeat with_reducible refine awp_assoc ?_
   refine awp_sr fun K hK=>?_
   simp [hc]
   refine hK _ _ ?_
   clear hK K
   repeat with_reducible refine awp_assoc ?_
   refine awp_sr fun K hK=>?_
   simp
   refine hK _ _ ?_
   clear hK K
   refine awp_hide fun Q2 hQ2=>?_
   refine awp_block ?_
   refine awp_up c.args.length (fun m=>Env.ofL [(1,.ref (nid H.next 0) 0),(2,intV 0),(6,.ref (nid H.next 1) 0),(8,.ref (nid H.next 2) 0),(26,.slice (ds.map Dat.cells) none),(27,intV (ds.length:Int)),(28,intV k),(33,.slice (x.cons.map ConD.cells) none),(34,intV (x.cons.length:Int)),(35,intV j),(40,.slice (c.args.map Ty.cells) none),(41,intV (c.args.length:Int)),(42,intV m)]) (fun m=>HL H [.cells [.slice (ds.map Dat.cells) none,.slice (cs.map ClsD.cells) none,.slice (is.map InstD.cells) none],.cells x.cells,.cells c.cells]) (fun m=>(c.args.take m).any (fun t=>t.nodes.any al)=false) (weak_HL hcl rfl (by simp) (by simp)) (by simp) (fun m hm hvm=>?_) (fun hvm=>?_)
   ·obtain ⟨t,ht⟩:∃ t,c.args[m]?=some t:=⟨_,List.getElem?_eq_getElem hm⟩
    have hnd:=nodes_c t (gu t (List.mem_of_getElem? ht))
    have hnl:t.nodes.length < 4611686018427387904:=by have:=gu t (List.mem_of_getElem? ht);unfold Ty.cnt at this;omega
    have hbt:=any_at (p:=fun t:Ty=>t.nodes.any al) ht
    have hmt:=miss (p:=fun t:Ty=>t.nodes.any al) ht hvm
    obtain ⟨tn,tl⟩:=t
    simp only [enc_mk] at hnd
    repeat with_reducible refine awp_assoc ?_
    refine awp_sr fun K hK=>?_
    simp [hm]
    refine hK _ _ ?_
    clear hK K
    repeat with_reducible refine awp_assoc ?_
    refine awp_seq_k fun K hK=>?_
    refine awp_condT rfl (by simp) ?_
    refine awp_skip ?_
    refine hK _ _ ?_
    clear hK K
    refine awp_seq_k fun KD hKD=>?_
    refine awp_block ?_
    repeat with_reducible refine awp_assoc ?_
    refine awp_sr fun K hK=>?_
    simp [ht,Ty.cells]
    refine hK _ _ ?_
    clear hK K
    repeat with_reducible refine awp_assoc ?_
    refine awp_sr fun K hK=>?_
    refine aOps_split 1 fun K hK=>?_
    simp
    refine hK _ _ ?_
    clear hK K
    refine aOps_call (hnd _) (by first | rfl | simp) rfl rfl (by first | (simp;done) | rfl) ?_
    simp
    refine hK _ _ ?_
    clear hK K
    generalize (Ty.mk tn tl).nodes=N at hnd hnl hbt hmt ⊢
    refine awp_hide fun Q3 hQ3=>?_
    refine awp_block ?_
    refine awp_up N.length (fun q=>Env.ofL [(1,.ref (nid H.next 0) 0),(2,intV 0),(6,.ref (nid H.next 1) 0),(8,.ref (nid H.next 2) 0),(10,.ref (nid H.next 3) 0),(26,.slice (ds.map Dat.cells) none),(27,intV (ds.length:Int)),(28,intV k),(33,.slice (x.cons.map ConD.cells) none),(34,intV (x.cons.length:Int)),(35,intV j),(40,.slice (c.args.map Ty.cells) none),(41,intV (c.args.length:Int)),(42,intV m),(47,.slice (N.map Ty.cells) none),(48,intV (N.length:Int)),(49,intV q)]) (fun q=>HL H [.cells [.slice (ds.map Dat.cells) none,.slice (cs.map ClsD.cells) none,.slice (is.map InstD.cells) none],.cells x.cells,.cells c.cells,.cells [strV tn,.slice (tl.map Ty.cells) none]]) (fun q=>(N.take q).any al=false) (weak_HL hcl rfl (by simp) (by simp)) (by simp) (fun q hq hvq=>?_) (fun hvq=>?_)
    ·obtain ⟨n,hn⟩:∃ n,N[q]?=some n:=⟨_,List.getElem?_eq_getElem hq⟩
     have hbn:=any_at (p:=al) hn
     have hmn:=miss (p:=al) hn hvq
     have en:=eal n
     have hvc:=dIsVar_c n
     obtain ⟨nn,nl⟩:=n
     simp only [enc_mk,Ty.name] at hvc en
     have hcc:=contains_c x.vars nn g4
     repeat with_reducible refine awp_assoc ?_
     refine awp_sr fun K hK=>?_
     simp [hq]
     refine hK _ _ ?_
     clear hK K
     repeat with_reducible refine awp_assoc ?_
     refine awp_seq_k fun K hK=>?_
     refine awp_condT rfl (by simp) ?_
     refine awp_skip ?_
     refine hK _ _ ?_
     clear hK K
     refine awp_seq_k fun KE hKE=>?_
     refine awp_block ?_
     repeat with_reducible refine awp_assoc ?_
     refine awp_sr fun K hK=>?_
     simp [hn,Ty.cells]
     refine hK _ _ ?_
     clear hK K
     cases hdv:dVarB (.mk nn nl)
     ·repeat with_reducible refine awp_assoc ?_
      refine awp_sr fun K hK=>?_
      refine aOps_split 1 fun K hK=>?_
      simp
      refine hK _ _ ?_
      clear hK K
      refine aOps_call (hvc _) (by first | rfl | simp) rfl rfl (by first | (simp;done) | rfl) ?_
      refine aOps_split 6 fun K hK=>?_
      simp [hdv]
      refine hK _ _ ?_
      clear hK K
      simp [hdv]
      refine hK _ _ ?_
      clear hK K
      refine awp_condF rfl (by simp) ?_
      refine awp_skip ?_
      refine hKE _ _ ?_
      clear hKE
      refine awp_region ?_
      simp [wrap_succ (show q < 4611686018427387904 by omega)]
      refine ⟨?_,weak_HL hcl rfl (by simp) (by simp)⟩
      simpa using hmn (by rw [en,hdv];rfl)
     repeat with_reducible refine awp_assoc ?_
     refine awp_sr fun K hK=>?_
     refine aOps_split 1 fun K hK=>?_
     simp
     refine hK _ _ ?_
     clear hK K
     refine aOps_call (hvc _) (by first | rfl | simp) rfl rfl (by first | (simp;done) | rfl) ?_
     refine aOps_split 5 fun K hK=>?_
     simp [hdv]
     refine hK _ _ ?_
     clear hK K
     refine aOps_call (hcc _) (by first | rfl | simp) rfl rfl (by first | (simp;done) | rfl) ?_
     simp [hdv]
     refine hK _ _ ?_
     clear hK K
     cases hm:memS nn x.vars
     ·refine awp_condT rfl (by simp [hm]) ?_
      repeat with_reducible refine awp_assoc ?_
      refine awp_sr fun K hK=>?_
      simp
      refine hK _ _ ?_
      clear hK K
      simp
      refine hQ3 _ _ _ ?_
      simp
      refine hQ2 _ _ _ ?_
      simp
      refine hQ1 _ _ _ ?_
      clear hQ1 hQ2 hQ3
      rw [e0,hbx (by rw [ex];exact hbc (hbt (hbn (by rw [en,hdv,hm];rfl))))]
      simp [reset_all hcl]
     ·refine awp_condF rfl (by simp [hm]) ?_
      refine awp_skip ?_
      refine hKE _ _ ?_
      clear hKE
      refine awp_region ?_
      simp [wrap_succ (show q < 4611686018427387904 by omega)]
      refine ⟨?_,weak_HL hcl rfl (by simp) (by simp)⟩
      simpa using hmn (by rw [en,hdv,hm];rfl)
    rw [List.take_length] at hvq
    repeat with_reducible refine awp_assoc ?_
    refine awp_sr fun K hK=>?_
    simp
    refine hK _ _ ?_
    clear hK K
    repeat with_reducible refine awp_assoc ?_
    refine awp_seq_k fun K hK=>?_
    refine awp_condF rfl (by simp) ?_
    refine awp_exit ?_
    simp
    refine hQ3 _ _ _ ?_
    clear hQ3
    refine hKD _ _ ?_
    clear hKD
    refine awp_region ?_
    simp [wrap_succ (show m < 4611686018427387904 by omega)]
    exact ⟨by simpa using hmt hvq,weak_HL hcl rfl (by simp) (by simp)⟩
   rw [List.take_length] at hvm
   repeat with_reducible refine awp_assoc ?_
   refine awp_sr fun K hK=>?_
   simp
   refine hK _ _ ?_
   clear hK K
   repeat with_reducible refine awp_assoc ?_
   refine awp_seq_k fun K hK=>?_
   refine awp_condF rfl (by simp) ?_
   refine awp_exit ?_
   simp
   refine hQ2 _ _ _ ?_
   clear hQ2
   refine hKC _ _ ?_
   clear hKC
   refine awp_region ?_
   simp [wrap_succ (show j < 4611686018427387904 by omega)]
   exact ⟨by simpa using hmc hvm,weak_HL hcl rfl (by simp) (by simp)⟩
  rw [List.take_length] at hvj
  repeat with_reducible refine awp_assoc ?_
  refine awp_sr fun K hK=>?_
  simp
  refine hK _ _ ?_
  clear hK K
  repeat with_reducible refine awp_assoc ?_
  refine awp_seq_k fun K hK=>?_
  refine awp_condF rfl (by simp) ?_
  refine awp_exit ?_
  simp
  refine hQ1 _ _ _ ?_
  clear hQ1
  refine hKB _ _ ?_
  clear hKB
  refine awp_region ?_
  simp [wrap_succ (show k < 4611686018427387904 by omega)]
  exact ⟨by simpa using hms (by rw [ex];exact hvj),weak_HL hcl rfl (by simp) (by simp)⟩
 rw [List.take_length] at hvk
 rw [hvk] at e0
 repeat with_reducible refine awp_assoc ?_
 refine awp_sr fun K hK=>?_
 simp
 refine hK _ _ ?_
 clear hK K
 repeat with_reducible refine awp_assoc ?_
 refine awp_seq_k fun K hK=>?_
 refine awp_condF rfl (by simp) ?_
 refine awp_exit ?_
 simp
 clear hK K
 refine hK _ _ ?_
 clear hK K
 repeat with_reducible refine awp_assoc ?_
 refine awp_sr fun K hK=>?_
 simp
 refine hK _ _ ?_
 clear hK K
 rw [e0]
 simp [reset_all hcl]
end Go.Proofs.YtdppfcbeiplckaaGreat
