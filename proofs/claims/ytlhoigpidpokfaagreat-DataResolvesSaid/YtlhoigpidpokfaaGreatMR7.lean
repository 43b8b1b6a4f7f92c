/- The law of predicates resolved, by its parts. -/
import Derived.Test.YtlhoigpidpokfaaGreatMR5
import Derived.Test.YtlhoigpidpokfaaGreatMG4
import Derived.Test.YtlhoigpidpokfaaGreatMG5
set_option linter.unusedVariables false
set_option linter.unusedSimpArgs false
namespace Go.Proofs.YtlhoigpidpokfaaGreat
open Go Go.Abs Go.Proofs
set_option maxRecDepth 20000
attribute [local simp] aOps wantedA aStep aop aLoad aStore aBin aUn aFieldAddr aField aIndexAddr aIndex aLen aBuild aFill aAlloc aAppend aAppendOwn aMin aMax aBuildSlice litRows newRows isMut isOwn isNilS nilsW bytesR tokW tokAV tokL ret readC splice aeval isLit isLate isCut aCut AV.celled AV.one AV.ofValue Value.oneCell' Value.cells intOp strOp get_nid upd_nid awp aEnd aResults aResult Det unord isCall isNext
attribute [local simp] low_take low_strs low_comp low_tcomp wkEs_refl' WkBs WkEnv WkB WkL WkE WkO ABlock.low lowO lowL lowR AV.low cellsL_eq Ty.low low_map Ty.cells_length Ty.cells_one
attribute [local simp] ConD.cells Dat.cells PredD.cells SigD.cells ClsD.cells InstD.cells DeclsD.cells DeclsD.enc Dat.enc low_datL low_conL low_predL low_sigL low_clsL low_instL
theorem samePreds_c (l:List PredD) (hl:l.length < 4611686018427387904) (ht:∀ p∈l,p.t.cnt < 4611686018427387904) (H:AHeap):ACalls Tryz.prog 6 [.slice (l.map PredD.cells) none,.slice (l.map PredD.cells) none] H (boolV true) H:=by
 refine acalls_walk (fun _=>.imm) [0,1,4,5,10,14,41] Tryz.mixed Tryz.func6 rfl rfl rfl (by decide) (fun hcl hlow=>?_)
 repeat with_reducible refine awp_assoc ?_
 refine awp_sr fun K hK=>?_
 simp
 refine hK _ _ ?_
 clear hK K
 repeat with_reducible refine awp_assoc ?_
 refine awp_sr fun K hK=>?_
 simp
 refine hK _ _ ?_
 clear hK K
 repeat with_reducible refine awp_assoc ?_
 refine awp_seq_k fun K hK=>?_
 refine awp_condF rfl (by simp) ?_
 refine awp_skip ?_
 refine hK _ _ ?_
 clear hK K
 repeat with_reducible refine awp_assoc ?_
 refine awp_sr fun K hK=>?_
 simp
 refine hK _ _ ?_
 clear hK K
 repeat with_reducible refine awp_assoc ?_
 refine awp_seq_k fun K hK=>?_
 refine awp_block ?_
 refine awp_up l.length (fun k=>Env.ofL [(0,.slice (l.map PredD.cells) none),(1,.slice (l.map PredD.cells) none),(5,intV k)]) (fun k=>HL H []) (fun _=>True) (weak_HL hcl rfl (by simp) (by simp)) (trivial) (fun k hk hvk=>?_) (fun hvk=>?_)
 ·obtain ⟨p,hp⟩:∃ p,l[k]?=some p:=⟨_,List.getElem?_eq_getElem hk⟩
  have h1:=same_c p.t p.t (ht p (List.mem_of_getElem? hp))
  rw [show eqT p.t p.t=true from by rw [eqT_iff]] at h1
  obtain ⟨pc,⟨pn,pl⟩⟩:=p
  simp only [enc_mk] at h1
  repeat with_reducible refine awp_assoc ?_
  refine awp_sr fun K hK=>?_
  simp [hk]
  refine hK _ _ ?_
  clear hK K
  repeat with_reducible refine awp_assoc ?_
  refine awp_seq_k fun K hK=>?_
  refine awp_condT rfl (by simp) ?_
  refine awp_skip ?_
  refine hK _ _ ?_
  clear hK K
  refine awp_seq_k fun KB hKB=>?_
  refine awp_block ?_
  repeat with_reducible refine awp_assoc ?_
  refine awp_sdc [] [[],[0],[],[],[],[0,1,2,3,4],[0,1,2,3,4,5],[0,1,2,3,4],[0,1,2,3,4],[0,1,2,3,4],[0,1,5,6],[0,1,2,5,6,7],[0,1,2,3,5,6,7,8],[0,1,2,3,5,6,7,8,12],[0,1,2,3,5,6,7,8],[0,1,2,3,5,6,7,8],[0,1,2,3,5,6,7,8],[0,1,2,3,5,6,7,8,12,13,14,15,16],[0,1,2,3,5,6,7,8,12,13,14,15,16,17],[0,1,2,3,5,6,7,8,12,13,14,15,16],[0,1,2,3,5,6,7,8,12,13,14,15,16],[0,1,2,3,5,6,7,8,12,13,14,15,16],[0,1,2,3,5,6,7,8,12,13,17,18],[0,1,2,3,5,6,7,8,12,13,14,17,18,19],[0,1,2,3,5,6,7,8,12,13,14,15,17,18,19,20]] (by kernel_rfl) (by rfl) fun K hK=>?_
  refine aCalm_pre 6 (by rfl) fun K hK=>?_
  simp [hp,Ty.name,Ty.args]
  refine hK _ _ ?_
  clear hK K
  refine aCalm_pre 6 (by rfl) fun K hK=>?_
  simp [hp,Ty.name,Ty.args]
  refine hK _ _ ?_
  clear hK K
  refine aCalm_pre 5 (by rfl) fun K hK=>?_
  simp [hp,Ty.name,Ty.args]
  refine hK _ _ ?_
  clear hK K
  refine aCalm_pre 5 (by rfl) fun K hK=>?_
  simp [hp,Ty.name,Ty.args]
  refine hK _ _ ?_
  clear hK K
  refine aCalm_call0 (h1 _) (by first | rfl | simp) rfl rfl rfl (by first | (simp;done) | rfl) ?_
  refine aCalm_pre 2 (by rfl) fun K hK=>?_
  simp
  refine hK _ _ ?_
  clear hK K
  refine aCalm_end ?_
  simp
  refine hK _ _ ?_
  clear hK K
  refine awp_condF rfl (by simp) ?_
  refine awp_skip ?_
  refine hKB _ _ ?_
  clear hKB
  refine awp_region ?_
  simp [wrap_succ (show k < 4611686018427387904 by omega)]
  exact weak_HL hcl rfl (by simp) (by simp)
 repeat with_reducible refine awp_assoc ?_
 refine awp_sr fun K hK=>?_
 simp
 refine hK _ _ ?_
 clear hK K
 repeat with_reducible refine awp_assoc ?_
 refine awp_seq_k fun K hK=>?_
 refine awp_condF rfl (by simp) ?_
 refine awp_exit ?_
 simp
 clear hK K
 refine hK _ _ ?_
 clear hK K
 repeat with_reducible refine awp_assoc ?_
 refine awp_sr fun K hK=>?_
 simp
 refine hK _ _ ?_
 clear hK K
 simp [reset_all hcl]
theorem pred_rows (l:List PredD):∀ r∈l.map PredD.cells,r.length=3∧∀ a∈r,a.one=true:=by
 intro r hr
 obtain ⟨p,_,rfl⟩:=List.mem_map.1 hr
 exact ⟨rfl,by simp [PredD.cells,AV.one,Value.oneCell']⟩
set_option maxHeartbeats 2000000 in
theorem resolves_c (d:DeclsD) (l:List PredD) (hl:l.length < 4611686018427387904) (A:List VP) (hAl:A.length < 1000000000) (e:Int)
  (hA:∀ H,ACalls Tryz.prog 4 [d.enc,.slice (l.map PredD.cells) none] H (.tuple [.slice ((A.map vpP).map PredD.cells) none,intV e]) H)
  (hB:∀ H,ACalls Tryz.prog 5 [d.enc,.slice (l.map PredD.cells) none] H (.tuple [.slice ((A.map vpP).map PredD.cells) none,intV e]) H)
  (hX:e=0→A.length+l.length≤64→∀ H,ACalls Tryz.prog 4 [d.enc,.slice ((A.map vpP).map PredD.cells) none] H (.tuple [.slice ((A.map vpP).map PredD.cells) none,intV 0]) H)
  (hY:e=0→A.length+l.length≤64→∀ H,ACalls Tryz.prog 4 [d.enc,.slice ((l++A.map vpP).map PredD.cells) none] H (.tuple [.slice ((A.map vpP).map PredD.cells) none,intV 0]) H) (H:AHeap) :
  ACalls Tryz.prog 3 [d.enc,.slice (l.map PredD.cells) none] H (boolV true) H:=by
 have hS:=samePreds_c (A.map vpP) (by simp;omega) (by
  intro p hp
  obtain ⟨q,_,rfl⟩:=List.mem_map.1 hp
  simp [vpP,Ty.cnt,Ty.nodes,nodesL])
 have hK0:=known_c
 have hR3:=pred_rows (A.map vpP)
 have hL3:=pred_rows l
 have hRl:((A.map vpP).map PredD.cells).length=A.length:=by simp
 have hLl:(l.map PredD.cells).length=l.length:=by simp
 have hLR:(l++A.map vpP).map PredD.cells=l.map PredD.cells++(A.map vpP).map PredD.cells:=List.map_append
 have hlowR:∀ n,lowR n ((A.map vpP).map PredD.cells):=fun n=>low_predL n _
 rw [hLR] at hY
 clear hLR
 generalize (A.map vpP).map PredD.cells=R at *
 generalize l.map PredD.cells=L at *
 generalize A.length=an at *
 generalize l.length=ln at *
 refine acalls_walk (fun _=>.imm) [0,1,2,4,5,6,7,8,9,10,11,12,33,43] Tryz.mixed Tryz.func3 rfl rfl rfl (by decide) (fun hcl hlow=>?_)
 repeat with_reducible refine awp_assoc ?_
 refine awp_sr fun K hK=>?_
 simp
 refine hK _ _ ?_
 clear hK K
 repeat with_reducible refine awp_assoc ?_
 refine awp_sr fun K hK=>?_
 refine aOps_split 2 fun K hK=>?_
 simp
 refine hK _ _ ?_
 clear hK K
 refine aOps_call (hA _) (by first | rfl | simp) rfl rfl (by first | (simp;done) | rfl) ?_
 simp
 refine hK _ _ ?_
 clear hK K
 repeat with_reducible refine awp_assoc ?_
 refine awp_sr fun K hK=>?_
 refine aOps_split 2 fun K hK=>?_
 simp
 refine hK _ _ ?_
 clear hK K
 refine aOps_call (hB _) (by first | rfl | simp) rfl rfl (by first | (simp;done) | rfl) ?_
 simp
 refine hK _ _ ?_
 clear hK K
 repeat with_reducible refine awp_assoc ?_
 refine awp_sr fun K hK=>?_
 refine aOps_split 2 fun K hK=>?_
 simp
 refine hK _ _ ?_
 clear hK K
 refine aOps_call (hS _) (by first | rfl | simp) rfl rfl (by first | (simp;done) | rfl) ?_
 simp
 refine hK _ _ ?_
 clear hK K
 repeat with_reducible refine awp_assoc ?_
 refine awp_seq_k fun K hK=>?_
 refine awp_condF rfl (by simp) ?_
 refine awp_skip ?_
 refine hK _ _ ?_
 clear hK K
 by_cases he:e=0
 rotate_left
 ·repeat with_reducible refine awp_assoc ?_
  refine awp_sr fun K hK=>?_
  refine aOps_split 5 fun K hK=>?_
  simp [he]
  refine hK _ _ ?_
  clear hK K
  refine aOps_split 5 fun K hK=>?_
  simp [he]
  refine hK _ _ ?_
  clear hK K
  simp
  refine hK _ _ ?_
  clear hK K
  repeat with_reducible refine awp_assoc ?_
  refine awp_seq_k fun K hK=>?_
  refine awp_condT rfl (by simp) ?_
  refine awp_sr fun K hK=>?_
  refine aOps_call (hK0 _) (by first | rfl | simp) rfl rfl (by first | (simp;done) | rfl) ?_
  simp
  refine hK _ _ ?_
  simp [reset_all hcl]
 subst he
 by_cases hsz:64 < an+ln
 ·have hsz':(64:Int) < (an:Int)+ln:=by omega
  have w1:IntKind.i64.wrap ((an:Int)+ln)=(an:Int)+ln:=wrap64 (by omega) (by omega)
  repeat with_reducible refine awp_assoc ?_
  refine awp_sr fun K hK=>?_
  refine aOps_split 5 fun K hK=>?_
  simp [hRl,hLl]
  refine hK _ _ ?_
  clear hK K
  refine aOps_split 5 fun K hK=>?_
  simp [hRl,hLl,w1,hsz']
  refine hK _ _ ?_
  clear hK K
  simp
  refine hK _ _ ?_
  clear hK K
  repeat with_reducible refine awp_assoc ?_
  refine awp_seq_k fun K hK=>?_
  refine awp_condT rfl (by simp) ?_
  refine awp_sr fun K hK=>?_
  refine aOps_call (hK0 _) (by first | rfl | simp) rfl rfl (by first | (simp;done) | rfl) ?_
  simp
  refine hK _ _ ?_
  simp [reset_all hcl]
 have hsz':¬ (64:Int) < (an:Int)+ln:=by omega
 have w1:IntKind.i64.wrap ((an:Int)+ln)=(an:Int)+ln:=wrap64 (by omega) (by omega)
 have hX2:=hX rfl (by omega)
 have hY2:=hY rfl (by omega)
 repeat with_reducible refine awp_assoc ?_
 refine awp_sr fun K hK=>?_
 refine aOps_split 5 fun K hK=>?_
 simp [hRl,hLl]
 refine hK _ _ ?_
 clear hK K
 refine aOps_split 5 fun K hK=>?_
 simp [hRl,hLl,w1,hsz']
 refine hK _ _ ?_
 clear hK K
 simp
 refine hK _ _ ?_
 clear hK K
 repeat with_reducible refine awp_assoc ?_
 refine awp_seq_k fun K hK=>?_
 refine awp_condF rfl (by simp) ?_
 refine awp_skip ?_
 refine hK _ _ ?_
 clear hK K
 repeat with_reducible refine awp_assoc ?_
 refine awp_sr fun K hK=>?_
 refine aOps_split 2 fun K hK=>?_
 simp
 refine hK _ _ ?_
 clear hK K
 refine aOps_call (hX2 _) (by first | rfl | simp) rfl rfl (by first | (simp;done) | rfl) ?_
 simp
 refine hK _ _ ?_
 clear hK K
 have hr3:∀ (Q:List (List AV)),(∀ r∈Q,r.length=3∧∀ a∈r,a.one=true)→∀ r∈Q,r.length=3:=fun Q h r hr=>(h r hr).1
 repeat with_reducible refine awp_assoc ?_
 refine awp_sd [2,4] [[],[0],[0],[0,1,2],[0],[],[1],[1,2,3],[1,2,3,7],[8],[]] (by kernel_rfl) fun K hK=>?_
 suffices hgo:∀ bs,K (Env.ofL [(0,AV.agg [.slice (d.datas.map Dat.cells) none,.slice (d.classes.map ClsD.cells) none,.slice (d.insts.map InstD.cells) none]),(1,.slice L none),(2,.ref (nid H.next 0) 0),(4,boolV false),(5,.slice R none),(6,intV 0),(7,.slice R none),(8,intV 0),(9,.slice R none),(10,intV 0),(11,.slice R none),(12,intV 0),(33,boolV false),(43,boolV false)]) (HL H ([.cells [.slice (d.datas.map Dat.cells) none,.slice (d.classes.map ClsD.cells) none,.slice (d.insts.map InstD.cells) none]]++bs)) by
  refine aLex_read rfl rfl rfl rfl fun K hK=>?_
  simp
  refine hK _ _ _ ?_
  clear hK K
  refine aLex_read rfl rfl rfl rfl fun K hK=>?_
  simp
  refine hK _ _ _ ?_
  clear hK K
  by_cases hLe:L=[]
  ·subst hLe
   refine aLex_eff rfl rfl rfl rfl fun K2 hK2=>?_
   simp
   refine hK2 _ _ ?_
   clear hK2 K2
   refine aLex_read rfl rfl rfl rfl fun K hK=>?_
   simp
   refine hK _ _ _ ?_
   clear hK K
   by_cases hRe:R=[]
   ·subst hRe
    refine aLex_eff rfl rfl rfl rfl fun K2 hK2=>?_
    simp
    refine hK2 _ _ ?_
    clear hK2 K2
    refine aLex_callW (hY2 _) rfl rfl rfl rfl ⟨.refl _,Wk.nilSlice,trivial⟩ (by simp [unord]) ?_
    refine aLex_read rfl rfl rfl rfl fun K hK=>?_
    simp
    refine hK _ _ _ ?_
    clear hK K
    refine aLex_read rfl rfl rfl rfl fun K hK=>?_
    simp
    refine hK _ _ _ ?_
    clear hK K
    refine aLex_read rfl rfl rfl rfl fun K hK=>?_
    simp
    refine hK _ _ _ ?_
    clear hK K
    refine aLex_read rfl rfl rfl rfl fun K hK=>?_
    simp
    refine hK _ _ _ ?_
    clear hK K
    refine aLex_read rfl rfl rfl rfl fun K hK=>?_
    simp
    refine hK _ _ _ ?_
    clear hK K
    refine aLex_end ?_
    simp
    exact hgo []
   ·refine aLex_eff rfl rfl rfl rfl fun K2 hK2=>?_
    simp [hRe]
    refine ⟨hR3,by omega,hK2 _ _ ?_⟩
    clear hK2 K2
    refine aLex_callW (hY2 _) rfl rfl rfl rfl ⟨.refl _,Wk.tok _ _,trivial⟩ (by simp [unord]) ?_
    refine aLex_read rfl rfl rfl rfl fun K hK=>?_
    simp
    refine hK _ _ _ ?_
    clear hK K
    refine aLex_read rfl rfl rfl rfl fun K hK=>?_
    simp
    refine hK _ _ _ ?_
    clear hK K
    refine aLex_read rfl rfl rfl rfl fun K hK=>?_
    simp
    refine hK _ _ _ ?_
    clear hK K
    refine aLex_read rfl rfl rfl rfl fun K hK=>?_
    simp
    refine hK _ _ _ ?_
    clear hK K
    refine aLex_read rfl rfl rfl rfl fun K hK=>?_
    simp
    refine hK _ _ _ ?_
    clear hK K
    refine aLex_end ?_
    simp
    exact hgo [.tok R.length 3 none]
  ·refine aLex_eff rfl rfl rfl rfl fun K2 hK2=>?_
   simp [hLe]
   refine ⟨hL3,by omega,hK2 _ _ ?_⟩
   clear hK2 K2
   refine aLex_read rfl rfl rfl rfl fun K hK=>?_
   simp
   refine hK _ _ _ ?_
   clear hK K
   by_cases hRe:R=[]
   ·subst hRe
    refine aLex_eff rfl rfl rfl rfl fun K2 hK2=>?_
    simp
    refine ⟨by omega,fun r hr=>(hL3 r hr).1,hK2 _ _ ?_⟩
    clear hK2 K2
    rw [List.append_nil] at hY2
    refine aLex_callW (hY2 _) rfl rfl rfl rfl ⟨.refl _,Wk.tok _ _,trivial⟩ (by simp [unord]) ?_
    refine aLex_read rfl rfl rfl rfl fun K hK=>?_
    simp
    refine hK _ _ _ ?_
    clear hK K
    refine aLex_read rfl rfl rfl rfl fun K hK=>?_
    simp
    refine hK _ _ _ ?_
    clear hK K
    refine aLex_read rfl rfl rfl rfl fun K hK=>?_
    simp
    refine hK _ _ _ ?_
    clear hK K
    refine aLex_read rfl rfl rfl rfl fun K hK=>?_
    simp
    refine hK _ _ _ ?_
    clear hK K
    refine aLex_read rfl rfl rfl rfl fun K hK=>?_
    simp
    refine hK _ _ _ ?_
    clear hK K
    refine aLex_end ?_
    simp
    exact hgo [.tok L.length 3 none]
   ·refine aLex_eff rfl rfl rfl rfl fun K2 hK2=>?_
    simp [hRe]
    refine ⟨hR3,by omega,fun r hr=>(hL3 r hr).1,hK2 _ _ ?_⟩
    clear hK2 K2
    refine aLex_callW (hY2 _) rfl rfl rfl rfl ⟨.refl _,Wk.tok _ _,trivial⟩ (by simp [unord]) ?_
    refine aLex_read rfl rfl rfl rfl fun K hK=>?_
    simp
    refine hK _ _ _ ?_
    clear hK K
    refine aLex_read rfl rfl rfl rfl fun K hK=>?_
    simp
    refine hK _ _ _ ?_
    clear hK K
    refine aLex_read rfl rfl rfl rfl fun K hK=>?_
    simp
    refine hK _ _ _ ?_
    clear hK K
    refine aLex_read rfl rfl rfl rfl fun K hK=>?_
    simp
    refine hK _ _ _ ?_
    clear hK K
    refine aLex_read rfl rfl rfl rfl fun K hK=>?_
    simp
    refine hK _ _ _ ?_
    clear hK K
    refine aLex_end ?_
    simp
    exact hgo [.tok (L.length+R.length) 3 none]
 intro bs
 refine hK _ _ ?_
 clear hK K
 repeat with_reducible refine awp_assoc ?_
 refine awp_sr fun K hK=>?_
 refine aOps_split 6 fun K hK=>?_
 simp
 refine hK _ _ ?_
 clear hK K
 refine aOps_split 3 fun K hK=>?_
 simp
 refine hK _ _ ?_
 clear hK K
 refine aOps_call (hS _) (by first | rfl | simp) rfl rfl (by first | (simp;done) | rfl) ?_
 refine aOps_split 4 fun K hK=>?_
 simp
 refine hK _ _ ?_
 clear hK K
 refine aOps_call (hS _) (by first | rfl | simp) rfl rfl (by first | (simp;done) | rfl) ?_
 refine aOps_split 2 fun K hK=>?_
 simp
 refine hK _ _ ?_
 clear hK K
 refine aOps_call (hK0 _) (by first | rfl | simp) rfl rfl (by first | (simp;done) | rfl) ?_
 simp
 refine hK _ _ ?_
 clear hK K
 simp [reset_all hcl]
end Go.Proofs.YtlhoigpidpokfaaGreat
