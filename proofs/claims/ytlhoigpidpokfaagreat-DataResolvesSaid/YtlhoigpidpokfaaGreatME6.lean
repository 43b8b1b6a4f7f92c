/- The reference's answers and the program's: where they are the same. -/
import Derived.Test.YtlhoigpidpokfaaGreatMD9
import Derived.Test.YtlhoigpidpokfaaGreatME5
import Derived.Test.YtlhoigpidpokfaaGreatME4
import Derived.Test.YtlhoigpidpokfaaGreatME3
import Derived.Test.YtlhoigpidpokfaaGreatMD7
set_option linter.unusedVariables false
set_option linter.unusedSimpArgs false
namespace Go.Proofs.YtlhoigpidpokfaaGreat
open Go Go.Abs Go.Proofs
theorem valid_good {t:Ty} (h:t.valid=0):t.good=true:=by
 unfold Ty.valid at h
 cases hg:t.good with
 | true=>rfl
 | false =>
  rw [hg] at h
  split at h
  ·exact absurd h (by decide)
  ·simp at h
theorem good_node {t n:Ty} (h:t.good=true) (hn:n∈t.nodes):n.node=true:=List.all_eq_true.1 h n hn
theorem arrow_head:headP smallB arrowN=false:=by decide
theorem small_head {s:ByteArray} (h:smallN s=true):headP smallB s=true:=by
 unfold smallN at h
 simp only [Bool.and_eq_true] at h
 exact h.1.2
theorem node_var {n:Ty} (h:n.node=true):n.isVar=dVarB n:=by
 unfold Ty.node at h
 unfold dVarB
 by_cases ha:n.name=arrowN
 ·rw [if_pos ha] at h
  have h1:n.isVar=false:=by unfold Ty.isVar;rw [ha];exact arrow_head
  have h2:n.args≠[]:=fun h3=>by rw [h3] at h;simp at h
  rw [h1]
  simp [h2]
 rw [if_neg ha] at h
 by_cases hv:n.isVar=true
 ·rw [if_pos hv] at h
  simp only [Bool.and_eq_true,decide_eq_true_eq] at h
  have h2:n.args=[]:=by cases hl:n.args with | nil=>rfl | cons a l=>rw [hl] at h;simp at h;omega
  rw [hv,h.1]
  simp [h2]
 ·have hs:smallN n.name=false:=by
   cases hs:smallN n.name with
   | false=>rfl
   | true=>exact absurd (small_head hs) hv
  rw [hs]
  simpa using hv
theorem badT_kind (d:DeclsD) {n:Ty} (h:n.node=true):badT (allD d) n=kindB d 4 n:=by
 unfold badT kindB
 rw [node_var h]
 rcases named_find d n.name with ⟨h0,h1⟩ | ⟨h0,h1,h2⟩ | ⟨h0,i,y,h1,h2,h3⟩
 ·rw [h1];simp [h0]
 ·rw [h2];simp [h0,h1]
 ·have:¬ ((i:Int) < 0):=by omega
  rw [h3];simp [h0,h1,this]
theorem any_nodes {p q:Ty→Bool} {t:Ty} (hg:t.good=true) (h:∀ n:Ty,n.node=true→p n=q n):t.nodes.any p=t.nodes.any q:=by
 have hh:∀ n∈t.nodes,p n=q n:=fun n hn=>h n (good_node hg hn)
 generalize t.nodes=l at hh
 induction l with
 | nil=>rfl
 | cons a l ih=>simp only [List.any_cons];rw [hh a (by simp),ih fun n hn=>hh n (by simp [hn])]
theorem any_same {α:Type} {p q:α→Bool} {l:List α} (h:∀ x∈l,p x=q x):l.any p=l.any q:=by
 induction l with
 | nil=>rfl
 | cons a l ih=>simp only [List.any_cons];rw [h a (by simp),ih fun n hn=>h n (by simp [hn])]
theorem badK_any (d:DeclsD) (w:Int) (hw:w≠0) (t:Ty):badK d w t=t.nodes.any (kindB d w):=by
 unfold badK kindsV
 cases t.nodes.any (kindB d w) <;> simp [hw]
theorem none_same {d:DeclsD} (hv:allV (writtenD d)=0):rNoneB d=noneB d:=by
 unfold rNoneB noneB
 congr 2
 refine any_same fun t ht=>?_
 rw [badK_any d 4 (by decide)]
 exact any_nodes (valid_good (allV_mem hv t ht)) fun n hn=>badT_kind d hn
theorem nameStep_mem' {s:ByteArray} {out:List ByteArray} {t:Ty}:s∈nameStep out t↔s∈out∨(t.isVar=true∧t.name=s):=by
 unfold nameStep
 by_cases hv:t.isVar=true
 ·rw [if_pos hv]
  split
  ·rename_i hm
   refine ⟨.inl,?_⟩
   rintro (h | ⟨_,rfl⟩)
   ·exact h
   ·exact memS_iff.1 hm
  ·simp [hv,eq_comm]
 ·rw [if_neg hv];simp [hv]
theorem fold_mem' {s:ByteArray}:∀ {L:List Ty} {out:List ByteArray},s∈L.foldl nameStep out↔s∈out∨∃ x∈L,x.isVar=true∧x.name=s
 | [],out=>by simp
 | t::L,out=>by
  rw [List.foldl_cons,fold_mem',nameStep_mem']
  simp only [List.mem_cons,exists_eq_or_imp,or_assoc]
theorem mem_nodesL' {x:Ty}:∀ {l:List Ty},x∈nodesL l↔∃ t∈l,x∈t.nodes
 | []=>by simp [nodesL]
 | t::ts=>by simp [nodesL,mem_nodesL' (l:=ts)]
theorem conFit_same {x:Dat} {c:ConD} (hg:∀ t∈c.args,t.good=true):rConFit x c=c.args.any fun t=>t.nodes.any (alien x):=by
 unfold rConFit
 rw [Bool.eq_iff_iff]
 simp only [List.any_eq_true]
 constructor
 ·rintro ⟨s,hs,hb⟩
  unfold namesL at hs
  rw [fold_mem'] at hs
  simp only [List.not_mem_nil,false_or] at hs
  obtain ⟨n,hn,hv,rfl⟩:=hs
  obtain ⟨t,ht,hnt⟩:=mem_nodesL'.1 hn
  refine ⟨t,ht,n,hnt,?_⟩
  unfold alien
  rw [←node_var (good_node (hg t ht) hnt),hv]
  simpa using hb
 ·rintro ⟨t,ht,n,hnt,hb⟩
  unfold alien at hb
  rw [←node_var (good_node (hg t ht) hnt)] at hb
  simp only [Bool.and_eq_true] at hb
  refine ⟨n.name,?_,hb.2⟩
  unfold namesL
  rw [fold_mem']
  exact .inr ⟨n,mem_nodesL'.2 ⟨t,ht,hnt⟩,hb.1,rfl⟩
theorem great_not_arrow:greatN arrowN=false:=by decide
theorem great_not_small {s:ByteArray} (h:greatN s=true):smallN s=false:=by
 cases hs:smallN s with
 | false=>rfl
 | true =>
  have h1:=small_head hs
  unfold greatN at h
  simp only [Bool.and_eq_true] at h
  have h2:=h.2
  unfold headP at h1 h2
  cases hc:s.data.toList[0]? with
  | none=>rw [hc] at h1;cases h1
  | some c =>
   rw [hc] at h1 h2
   simp only [smallB,greatB,Bool.and_eq_true,decide_eq_true_eq] at h1 h2
   omega
theorem badA_kind (d:DeclsD) (hgr:∀ x∈allD d,greatN x.name=true) (hni:∀ x∈allD d,x.name≠intN) (n:Ty):badA (allD d) n=kindB d 8 n:=by
 unfold badA kindB
 rcases named_find d n.name with ⟨h0,h1⟩ | ⟨h0,h1,h2⟩ | ⟨h0,i,y,h1,h2,h3⟩
 ·have hf:(allD d).find? (fun x=>decide (x.name=n.name))=none:=by
   rw [List.find?_eq_none]
   intro x hx
   simpa [h0] using hni x hx
  have hd:dVarB n=false:=by
   unfold dVarB
   have:smallN n.name=false:=by rw [h0];decide
   simp [this]
  have ha:n.name≠arrowN:=by rw [h0];decide
  have ha':intN≠arrowN:=by decide
  rw [hf,h1,hd]
  simp [h0,ha']
 ·rw [findI_none h1,h2]
  simp [h0]
 ·have hf:(allD d).find? (fun x=>decide (x.name=n.name))=some y:=by
   obtain ⟨i',y',e1,e2,e3⟩:=findI_some (l:=allD d) (n:=n.name) (by rw [h1];omega)
   rw [h1] at e1
   have:i=i':=by omega
   subst this
   rw [h2] at e2
   cases e2
   exact e3
  have hym:=List.mem_of_getElem? h2
  have hyn:y.name=n.name:=by simpa using List.find?_some hf
  have hgn:greatN n.name=true:=by rw [←hyn];exact hgr y hym
  have hd:dVarB n=false:=by
   unfold dVarB
   rw [great_not_small hgn]
   simp
  have ha:n.name≠arrowN:=fun h=>by rw [h,great_not_arrow] at hgn;cases hgn
  rw [hf,h3,hd]
  simp [h0,ha]
theorem fit_same {d:DeclsD} (hv:allV (writtenD d)=0) (hgr:∀ x∈allD d,greatN x.name=true) (hni:∀ x∈allD d,x.name≠intN):rFitB d=fitB d:=by
 unfold rFitB fitB
 congr 1
 ·refine any_same fun t ht=>?_
  rw [badK_any d 8 (by decide)]
  exact any_same fun n _=>badA_kind d hgr hni n
 ·refine any_same fun x hx=>?_
  unfold rDatFit datFit
  exact any_same fun c hc=>conFit_same fun t ht=>valid_good (allV_mem hv t (written_con hx hc ht))
theorem opBad_same {o:SigD} (hg:o.t.good=true):rOpBad o=opBad o:=by
 unfold rOpBad opBad
 congr 1
 rw [Bool.eq_iff_iff,memS_iff,fold_mem',List.any_eq_true]
 simp only [List.not_mem_nil,false_or]
 constructor
 ·rintro ⟨n,hn,hv,he⟩
  refine ⟨n,hn,?_⟩
  unfold aVar
  rw [←node_var (good_node hg hn),hv,he]
  simp
 ·rintro ⟨n,hn,hb⟩
  unfold aVar at hb
  rw [←node_var (good_node hg hn)] at hb
  simp only [Bool.and_eq_true,decide_eq_true_eq] at hb
  exact ⟨n,hn,hb.1,hb.2⟩
theorem rule_same {d:DeclsD} (hv:allV (writtenD d)=0):rRuleB d=ruleB d:=by
 unfold rRuleB ruleB
 congr 1
 refine any_same fun x hx=>any_same fun o ho=>opBad_same (valid_good (allV_mem hv _ (written_op hx ho)))
theorem all_great {d:DeclsD} (h:argsB d=true):∀ x∈allD d,greatN x.name=true:=by
 intro x hx
 unfold allD at hx
 rcases List.mem_append.1 hx with h1 | h1
 ·have hb:∀ y∈baseD,greatN y.name=true:=by decide
  exact hb x h1
 ·unfold argsB at h
  simp only [Bool.and_eq_true] at h
  have:=all_ok h.1.1 x h1
  unfold isDataB at this
  simp only [Bool.and_eq_true] at this
  exact this.1.1.1
theorem all_notInt {d:DeclsD} (h:twiceB d=false):∀ x∈allD d,x.name≠intN:=by
 intro x hx he
 unfold twiceB at h
 simp only [Bool.or_eq_false_iff] at h
 have h1:nodupB (intN::(allD d).map Dat.name)=true:=by simpa using h.1.1.1.1.2
 unfold nodupB at h1
 have h2:=of_decide_eq_true h1
 rw [List.nodup_cons] at h2
 exact h2.1 (he ▸ List.mem_map_of_mem hx)
set_option maxRecDepth 20000
attribute [local simp] aOps wantedA aStep aop aLoad aStore aBin aUn aFieldAddr aField aIndexAddr aIndex aLen aBuild aFill aAlloc aAppend aAppendOwn aMin aMax aBuildSlice litRows newRows isMut isOwn isNilS nilsW bytesR tokW tokAV tokL ret readC splice aeval isLit isLate isCut aCut AV.celled AV.one AV.ofValue Value.oneCell' Value.cells intOp strOp get_nid upd_nid awp aEnd aResults aResult Det unord isCall isNext
attribute [local simp] low_take low_strs low_comp low_tcomp wkEs_refl' WkBs WkEnv WkB WkL WkE WkO ABlock.low lowO lowL lowR AV.low cellsL_eq Ty.low low_map Ty.cells_length Ty.cells_one
attribute [local simp] ConD.cells Dat.cells PredD.cells SigD.cells ClsD.cells InstD.cells DeclsD.cells DeclsD.enc Dat.enc low_datL low_conL low_predL low_sigL low_clsL low_instL
theorem validD_eq (d:DeclsD):validD d=if largeB d=true then 3 else if argsB d=false then 1 else if allV (writtenD d)≠0 then allV (writtenD d) else if twiceB d=true then 5 else if noneB d=true then 4 else if fitB d=true then 8 else if loopB d=true then 10 else if ruleB d=true then 7 else 0:=by
 unfold validD validL
 cases largeB d <;> cases argsB d <;> simp [firstNZ]
 by_cases h:allV (writtenD d)=0
 ·cases twiceB d <;> cases noneB d <;> cases fitB d <;> cases loopB d <;> cases ruleB d <;> simp [h]
 ·simp [h]
set_option maxHeartbeats 2000000 in
theorem rValid_c (d:DeclsD) (hr:RawD d) (H:AHeap):ACalls Tryz.prog 14 [d.enc] H (intV (validD d)) H:=by
 have e0:=validD_eq d
 have c1:=rIsLarge_c d hr
 have c2:largeB d=false→∀ H,ACalls Tryz.prog 48 [d.enc] H (boolV (argsB d)) H:=fun h=>rIsDescribed_c d hr (by have:=largeB_le h;omega)
 have hwl:largeB d=false→argsB d=true→(writtenD d).length≤4000:=fun h h2=>written_len h (named1 h2)
 have c3:largeB d=false→argsB d=true→∀ H,ACalls Tryz.prog 49 [d.enc] H (.slice ((writtenD d).map Ty.cells) none) H:=fun h h2=>rWritten_c d hr (by have:=hwl h h2;omega)
 have hwt:allV (writtenD d)=0→∀ t∈writtenD d,t.cnt < 1000000000000:=fun h t ht=>by have:=valid_cnt2 (allV_mem h t ht);omega
 have c4:largeB d=false→argsB d=true→∀ H,ACalls Tryz.prog 50 [d.enc] H (boolV (twiceB d)) H:=fun hlg har H=>by
  have hn:=named1 har
  have hl:=largeB_le hlg
  have ham:=allD_mem hlg hn
  have hal:(allD d).length≤35:=by unfold allD;rw [List.length_append];have:baseD.length=5:=rfl;omega
  have h1:((allD d).flatMap cnames).length≤(allD d).length * 16:=flat_le fun x hx=>by unfold cnames;rw [List.length_map];exact (ham x hx).2
  have h2:(d.classes.flatMap onames).length≤d.classes.length * 8:=flat_le fun x hx=>by unfold onames;rw [List.length_map];exact hl.2.2.2.2.1 x hx
  exact rTwice_c d (by omega) (by omega) (by omega) (by omega) (fun x hx=>by have:=ham x hx;omega) (fun x hx=>by have:=hl.2.2.2.2.1 x hx;omega) (by omega) (by omega) hn.inst H
 have c5:largeB d=false→argsB d=true→allV (writtenD d)=0→∀ H,ACalls Tryz.prog 51 [d.enc] H (boolV (noneB d)) H:=fun hlg har hv H=>by
  have hl:=largeB_le hlg
  rw [←none_same hv]
  exact rNone_c d hr (by omega) (by have:=hwl hlg har;omega) (hwt hv) H
 have c6:largeB d=false→argsB d=true→allV (writtenD d)=0→twiceB d=false→∀ H,ACalls Tryz.prog 52 [d.enc] H (boolV (fitB d)) H:=fun hlg har hv htw H=>by
  have hl:=largeB_le hlg
  rw [←fit_same hv (all_great har) (all_notInt htw)]
  refine rMisfit_c d hr (by omega) (by have:=hwl hlg har;omega) (hwt hv) (fun x hx c hc=>?_) H
  have ha:=(named1 har).args x hx c hc
  have hvc:∀ t∈c.args,t.valid=0:=fun t ht=>allV_mem hv t (written_con hx hc ht)
  have hnl:∀ l:List Ty,(∀ t∈l,t.valid=0)→(nodesL l).length≤l.length * 200:=by
   intro l
   induction l with
   | nil=>intro _;simp [nodesL]
   | cons t l ih =>
    intro h
    have h1:=ih fun t ht=>h t (by simp [ht])
    have h2:=valid_cnt2 (h t (by simp))
    unfold Ty.cnt at h2
    simp only [nodesL,List.length_append,List.length_cons]
    omega
  have h1:=hnl c.args hvc
  have h2:=names_len c.args
  exact ⟨fun t ht=>valid_good (hvc t ht),by omega,by omega⟩
 have c7:largeB d=false→noneB d=false→∀ H,ACalls Tryz.prog 53 [d.enc] H (boolV (loopB d)) H:=fun hlg hno=>rLoops_c d (clsOk_of hr hlg hno)
 have c8:largeB d=false→noneB d=false→allV (writtenD d)=0→∀ H,ACalls Tryz.prog 54 [d.enc] H (boolV (ruleB d)) H:=fun hlg hno hv H=>by
  rw [←rule_same hv]
  refine rUnruly_c d (clsOk_of hr hlg hno) hr (fun x hx o ho=>?_) H
  have h1:=allV_mem hv _ (written_op hx ho)
  exact ⟨valid_good h1,by have:=valid_cnt2 h1;omega⟩
 generalize validD d=vv at e0 ⊢
 generalize largeB d=b1 at *
 generalize argsB d=b2 at *
 generalize twiceB d=b4 at *
 generalize noneB d=b5 at *
 generalize fitB d=b6 at *
 generalize loopB d=b7 at *
 generalize ruleB d=b8 at *
 generalize writtenD d=W at *
 clear hwt
 have hDc:d.enc=.agg d.cells:=rfl
 rw [hDc] at *
 have hlo:∀ n,lowL n d.cells:=fun n=>low_decls n d
 have hlen:d.cells.length=3:=rfl
 obtain ⟨ds,cs,is⟩:=d
 simp only [DeclsD.cells] at *
 clear hlo hlen hDc hr
 refine acalls_walk (fun _=>.imm) [0,1,2,3,4,5,6,9,18,27,29,32,35,38,41] Tryz.mixed Tryz.func14 rfl rfl rfl (by decide) (fun hcl hlow=>?_)
 repeat with_reducible refine awp_assoc ?_
 refine awp_sr fun K hK=>?_
 simp
 refine hK _ _ ?_
 clear hK K
 refine awp_seq_k fun KO hKO=>?_
 refine awp_block ?_
 repeat with_reducible refine awp_assoc ?_
 refine awp_sr fun K hK=>?_
 refine aOps_split 1 fun K hK=>?_
 simp
 refine hK _ _ ?_
 clear hK K
 refine aOps_call (c1 _) (by first | rfl | simp) rfl rfl (by first | (simp;done) | rfl) ?_
 simp
 refine hK _ _ ?_
 clear hK K
 cases b1 with
 | true =>
  refine awp_condT rfl (by simp) ?_
  repeat with_reducible refine awp_assoc ?_
  refine awp_sr fun K hK=>?_
  simp
  refine hK _ _ ?_
  clear hK K
  rw [e0]
  simp [reset_all hcl]
 | false =>
 refine awp_condF rfl (by simp) ?_
 repeat with_reducible refine awp_assoc ?_
 refine awp_sr fun K hK=>?_
 refine aOps_split 1 fun K hK=>?_
 simp
 refine hK _ _ ?_
 clear hK K
 refine aOps_call (c2 rfl _) (by first | rfl | simp) rfl rfl (by first | (simp;done) | rfl) ?_
 simp
 refine hK _ _ ?_
 clear hK K
 cases b2 with
 | false =>
  refine awp_condT rfl (by simp) ?_
  repeat with_reducible refine awp_assoc ?_
  refine awp_sr fun K hK=>?_
  simp
  refine hK _ _ ?_
  clear hK K
  rw [e0]
  simp [reset_all hcl]
 | true =>
 refine awp_condF rfl (by simp) ?_
 refine awp_skip ?_
 refine hKO _ _ ?_
 clear hKO
 repeat with_reducible refine awp_assoc ?_
 refine awp_sr fun K hK=>?_
 refine aOps_split 1 fun K hK=>?_
 simp
 refine hK _ _ ?_
 clear hK K
 refine aOps_call (c3 rfl rfl _) (by first | rfl | simp) rfl rfl (by first | (simp;done) | rfl) ?_
 simp
 refine hK _ _ ?_
 clear hK K
 repeat with_reducible refine awp_assoc ?_
 refine awp_sr fun K hK=>?_
 simp
 refine hK _ _ ?_
 clear hK K
 have hwl2:=hwl rfl rfl
 repeat with_reducible refine awp_assoc ?_
 refine awp_seq_k fun K hK=>?_
 refine awp_block ?_
 refine awp_up W.length (fun k=>Env.ofL [(1,.ref (nid H.next 0) 0),(2,intV 0),(3,.slice (W.map Ty.cells) none),(4,intV k)]) (fun k=>HL H [.cells [.slice (ds.map Dat.cells) none,.slice (cs.map ClsD.cells) none,.slice (is.map InstD.cells) none]]) (fun k=>∀ y∈W.take k,y.valid=0) (weak_HL hcl rfl (by simp) (by simp)) (by simp) (fun k hk hvk=>?_) (fun hvk=>?_)
 ·obtain ⟨t,ht⟩:∃ t,W[k]?=some t:=⟨_,List.getElem?_eq_getElem hk⟩
  have hvc:=rValidate_c t
  have hxe:t.cells=[strV t.name,.slice (t.args.map Ty.cells) none]:=by obtain ⟨_,_⟩:=t;simp [Ty.cells,cellsL_eq,Ty.name,Ty.args]
  simp only [Ty.enc,hxe] at hvc
  repeat with_reducible refine awp_assoc ?_
  refine awp_sr fun K hK=>?_
  simp [hk]
  refine hK _ _ ?_
  clear hK K
  repeat with_reducible refine awp_assoc ?_
  refine awp_seq_k fun K hK=>?_
  refine awp_condT rfl (by simp) ?_
  refine awp_skip ?_
  refine hK _ _ ?_
  clear hK K
  refine awp_seq_k fun KB hKB=>?_
  refine awp_block ?_
  repeat with_reducible refine awp_assoc ?_
  refine awp_sr fun K hK=>?_
  refine aOps_split 4 fun K hK=>?_
  simp [ht,hxe]
  refine hK _ _ ?_
  clear hK K
  refine aOps_call (hvc _) (by first | rfl | simp) rfl rfl (by first | (simp;done) | rfl) ?_
  simp [ht,hxe]
  refine hK _ _ ?_
  clear hK K
  repeat with_reducible refine awp_assoc ?_
  refine awp_sr fun K hK=>?_
  simp
  refine hK _ _ ?_
  clear hK K
  by_cases hb:t.valid=0
  ·refine awp_condF rfl (by simp [hb]) ?_
   refine awp_skip ?_
   refine hKB _ _ ?_
   clear hKB
   refine awp_region ?_
   simp [wrap_succ (show k < 4611686018427387904 by omega)]
   refine ⟨?_,weak_HL hcl rfl (by simp) (by simp)⟩
   simpa using take_all (p:=fun y:Ty=>y.valid=0) ht hb hvk
  ·refine awp_condT rfl (by simp [hb]) ?_
   repeat with_reducible refine awp_assoc ?_
   refine awp_sr fun K hK=>?_
   simp
   refine hK _ _ ?_
   clear hK K
   have e1:=allV_of ht hvk hb
   rw [e0,e1]
   simp [hb,reset_all hcl]
 rw [List.take_length] at hvk
 have hv0:=allV_zero hvk
 repeat with_reducible refine awp_assoc ?_
 refine awp_sr fun K hK=>?_
 simp
 refine hK _ _ ?_
 clear hK K
 repeat with_reducible refine awp_assoc ?_
 refine awp_seq_k fun K hK=>?_
 refine awp_condF rfl (by simp) ?_
 refine awp_exit ?_
 simp
 clear hK K
 refine hK _ _ ?_
 clear hK K
 refine awp_seq_k fun KO hKO=>?_
 refine awp_block ?_
 repeat with_reducible refine awp_assoc ?_
 refine awp_sr fun K hK=>?_
 refine aOps_split 1 fun K hK=>?_
 simp
 refine hK _ _ ?_
 clear hK K
 refine aOps_call (c4 rfl rfl _) (by first | rfl | simp) rfl rfl (by first | (simp;done) | rfl) ?_
 simp
 refine hK _ _ ?_
 clear hK K
 cases b4 with
 | true =>
  refine awp_condT rfl (by simp) ?_
  repeat with_reducible refine awp_assoc ?_
  refine awp_sr fun K hK=>?_
  simp
  refine hK _ _ ?_
  clear hK K
  rw [e0]
  simp [hv0,reset_all hcl]
 | false =>
 refine awp_condF rfl (by simp) ?_
 repeat with_reducible refine awp_assoc ?_
 refine awp_sr fun K hK=>?_
 refine aOps_split 1 fun K hK=>?_
 simp
 refine hK _ _ ?_
 clear hK K
 refine aOps_call (c5 rfl rfl hv0 _) (by first | rfl | simp) rfl rfl (by first | (simp;done) | rfl) ?_
 simp
 refine hK _ _ ?_
 clear hK K
 cases b5 with
 | true =>
  refine awp_condT rfl (by simp) ?_
  repeat with_reducible refine awp_assoc ?_
  refine awp_sr fun K hK=>?_
  simp
  refine hK _ _ ?_
  clear hK K
  rw [e0]
  simp [hv0,reset_all hcl]
 | false =>
 refine awp_condF rfl (by simp) ?_
 repeat with_reducible refine awp_assoc ?_
 refine awp_sr fun K hK=>?_
 refine aOps_split 1 fun K hK=>?_
 simp
 refine hK _ _ ?_
 clear hK K
 refine aOps_call (c6 rfl rfl hv0 rfl _) (by first | rfl | simp) rfl rfl (by first | (simp;done) | rfl) ?_
 simp
 refine hK _ _ ?_
 clear hK K
 cases b6 with
 | true =>
  refine awp_condT rfl (by simp) ?_
  repeat with_reducible refine awp_assoc ?_
  refine awp_sr fun K hK=>?_
  simp
  refine hK _ _ ?_
  clear hK K
  rw [e0]
  simp [hv0,reset_all hcl]
 | false =>
 refine awp_condF rfl (by simp) ?_
 repeat with_reducible refine awp_assoc ?_
 refine awp_sr fun K hK=>?_
 refine aOps_split 1 fun K hK=>?_
 simp
 refine hK _ _ ?_
 clear hK K
 refine aOps_call (c7 rfl rfl _) (by first | rfl | simp) rfl rfl (by first | (simp;done) | rfl) ?_
 simp
 refine hK _ _ ?_
 clear hK K
 cases b7 with
 | true =>
  refine awp_condT rfl (by simp) ?_
  repeat with_reducible refine awp_assoc ?_
  refine awp_sr fun K hK=>?_
  simp
  refine hK _ _ ?_
  clear hK K
  rw [e0]
  simp [hv0,reset_all hcl]
 | false =>
 refine awp_condF rfl (by simp) ?_
 repeat with_reducible refine awp_assoc ?_
 refine awp_sr fun K hK=>?_
 refine aOps_split 1 fun K hK=>?_
 simp
 refine hK _ _ ?_
 clear hK K
 refine aOps_call (c8 rfl rfl hv0 _) (by first | rfl | simp) rfl rfl (by first | (simp;done) | rfl) ?_
 simp
 refine hK _ _ ?_
 clear hK K
 cases b8 with
 | true =>
  refine awp_condT rfl (by simp) ?_
  repeat with_reducible refine awp_assoc ?_
  refine awp_sr fun K hK=>?_
  simp
  refine hK _ _ ?_
  clear hK K
  rw [e0]
  simp [hv0,reset_all hcl]
 | false =>
 refine awp_condF rfl (by simp) ?_
 refine awp_skip ?_
 refine hKO _ _ ?_
 clear hKO
 repeat with_reducible refine awp_assoc ?_
 refine awp_sr fun K hK=>?_
 simp
 refine hK _ _ ?_
 clear hK K
 rw [e0]
 simp [hv0,reset_all hcl]
end Go.Proofs.YtlhoigpidpokfaaGreat
namespace Go.Proofs.YtlhoigpidpokfaaGreat
open Go Go.Abs Go.Proofs
set_option maxRecDepth 20000
attribute [local simp] aOps wantedA aStep aop aLoad aStore aBin aUn aFieldAddr aField aIndexAddr aIndex aLen aBuild aFill aAlloc aAppend aAppendOwn aMin aMax aBuildSlice litRows newRows isMut isOwn isNilS nilsW bytesR tokW tokAV tokL ret readC splice aeval isLit isLate isCut aCut AV.celled AV.one AV.ofValue Value.oneCell' Value.cells intOp strOp get_nid upd_nid awp aEnd aResults aResult Det unord isCall isNext
attribute [local simp] low_take low_strs low_comp low_tcomp wkEs_refl' WkBs WkEnv WkB WkL WkE WkO ABlock.low lowO lowL lowR AV.low cellsL_eq Ty.low low_map Ty.cells_length Ty.cells_one
set_option maxHeartbeats 4000000 in
theorem wkR_rows (l:List ByteArray):WkR (rowsS l) (rowsS l):=WkR.refl _
attribute [local simp] wkR_rows
end Go.Proofs.YtlhoigpidpokfaaGreat
