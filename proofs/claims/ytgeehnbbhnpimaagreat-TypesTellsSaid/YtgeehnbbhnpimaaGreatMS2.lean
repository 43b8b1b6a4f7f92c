/- Part of the law: renames. -/
import Derived.Test.YtgeehnbbhnpimaaGreatMS1
set_option linter.unusedVariables false
set_option linter.unusedSimpArgs false
namespace Go.Proofs.YtgeehnbbhnpimaaGreat
open Go Go.Abs Go.Proofs
set_option maxRecDepth 20000
attribute [local simp] aOps wantedA aStep aop aLoad aStore aBin aUn aFieldAddr aField aIndexAddr aIndex aLen aBuild aFill aAlloc aAppend aBuildSlice litRows newRows isMut isOwn isNilS nilsW bytesR tokW tokAV tokL ret readC splice aeval isLit isLate AV.celled AV.one AV.ofValue Value.oneCell' Value.cells intOp strOp get_nid upd_nid awp aEnd aResults aResult Det unord isCall isNext
attribute [local simp] low_take low_strs low_comp low_tcomp wkEs_refl' WkBs WkEnv WkB WkL WkE WkO ABlock.low lowO lowL lowR AV.low cellsL_eq Ty.low low_map Ty.cells_length Ty.cells_one
attribute [local simp] low_bind
def pickN (fr:List ByteArray) (k:Nat) (s:ByteArray):ByteArray:=match fr[k]? with
 | some f=>if smallN f=true then f else s
 | none=>s
def renAt (vs fr:List ByteArray) (k:Nat):ByteArray × Ty:=(vs.getD k ByteArray.empty,varT (pickN fr k (vs.getD k ByteArray.empty)))
def renL (vs fr:List ByteArray) (n:Nat):TyM:=(List.range n).map (renAt vs fr)
theorem renL_len (vs fr:List ByteArray) (n:Nat):(renL vs fr n).length=n:=by simp [renL]
theorem renL_succ (vs fr:List ByteArray) (n:Nat):renL vs fr (n+1)=renL vs fr n++[renAt vs fr n]:=by simp [renL,List.range_succ]
def Apart (m:TyM):Prop:=∀ (i j:Nat) (p q:ByteArray × Ty),i < j→m[i]?=some p→m[j]?=some q→p.2.name≠q.2.name
theorem bindC_len3 (b:ByteArray × Ty):(bindC b).length=3:=by simp [bindC,Ty.cells_length]
set_option maxHeartbeats 1000000 in
theorem renames_c (t:Ty) (fr:List ByteArray) (hfl:fr.length < 4611686018427387904)
  (hb:t.valid=0→Apart (renL (varsR t) fr (varsR t).length)→(putT (renL (varsR t) fr (varsR t).length) t).valid=0∧normM (putT (renL (varsR t) fr (varsR t).length) t)=normM t∧(matchV t (putT (renL (varsR t) fr (varsR t).length) t)).2=0∧(matchV (putT (renL (varsR t) fr (varsR t).length) t) t).2=0)
  (hc:(normM t).cnt < 4611686018427387904) (hk:URun kA kB kL 0) (H:AHeap):ACalls Tryz.prog 7 [t.enc,strs fr none] H (boolV true) H:=by
 have h1:=Vars_c t
 have hkn:=known_c hk
 have hvl:=fun h=>varsR_len t h
 have hpt:=fun (h:t.valid=0) (m:TyM) hm hml=>rPut_c m hm hml t (Ty.good_of h) (by have:=large_cnt (Ty.not_large h);omega)
 have hn:=Normal_c t
 have hn2:=Normal_c
 have hm2:=Match_c
 have hs2:=same_c (normM t) (normM t) hc
 rw [show eqT (normM t) (normM t)=true from (eqT_iff _ _).2 rfl] at hs2
 obtain ⟨n,al⟩:=t
 simp only [enc_mk] at *
 refine acalls_walk (fun d=>if d=7 then .nilv 3 else .imm) [0,1,2,4,5,6,7,8,9,10,11,12,13,14,15,16,18,20,27,32,49,67,72,87] Tryz.mixed Tryz.func7 rfl rfl rfl (by decide) (fun hcl hlow=>?_)
 refine awp_sr fun K hK=>?_;simp;apply hK;clear hK K;refine awp_sr fun K hK=>?_;refine aOps_split 1 fun K hK=>?_;simp;apply hK;clear hK K;refine aOps_call (h1 _) (by first | rfl | simp) rfl rfl (by first | (simp;done) | rfl) ?_;simp;apply hK;clear hK K
 by_cases hv:(Ty.mk n al).valid=0
 rotate_left
 ·repeat with_reducible refine awp_assoc ?_
  refine awp_sr fun K hK=>?_;simp [hv];apply hK;clear hK K;refine awp_seq_k fun K hK=>?_;refine awp_condT rfl (by simp [hv]) ?_;refine awp_sr fun K hK=>?_;refine aOps_call (hkn _) (by first | rfl | simp) rfl rfl (by first | (simp;done) | rfl) ?_;simp;apply hK;clear hK K;simp [reset_all hcl]
 rw [hv] at hn
 repeat with_reducible refine awp_assoc ?_
 refine awp_sr fun K hK=>?_;simp [hv];apply hK;clear hK K;refine awp_seq_k fun K hK=>?_;refine awp_condF rfl (by simp) ?_;refine awp_skip ?_;apply hK;clear hK K
 replace hb:=hb hv
 replace hvl:=hvl hv
 replace hpt:=hpt hv
 have evr:varsR (.mk n al)=(Ty.mk n al).nodes.foldl nameStep []:=by unfold varsR;rw [if_pos hv];unfold namesL;rw [nodesL_one]
 rw [←evr] at hvl
 clear evr
 generalize varsR (.mk n al)=vs at *
 refine awp_sr fun K hK=>?_;simp;apply hK;clear hK K;repeat with_reducible refine awp_assoc ?_
 refine awp_sr fun K hK=>?_;simp;apply hK;clear hK K;refine awp_seq_k fun K0 hK0=>?_;refine awp_block ?_
 refine awp_up vs.length (fun k=>Env.ofL [(1,strs fr none),(2,.ref (nid H.next 0) 0),(5,strs vs none),(7,.slice ((renL vs fr k).map bindC) (some (nid H.next 1))),(8,intV (k:Int))])
  (fun k=>HL H [.cells [strV n,.slice (al.map Ty.cells) none],.tok k 3 none]) (fun _=>True) (weak_HL hcl rfl (by simp) (by simp [renL,low_strs])) trivial (fun k hk _=>?_) (fun _=>?_)
 ·obtain ⟨s,hs⟩:∃ s,vs[k]?=some s:=⟨_,List.getElem?_eq_getElem hk⟩
  have es:vs.getD k ByteArray.empty=s:=by rw [List.getD_eq_getElem?_getD,hs];rfl
  have e1:(renL vs fr (k+1)).map bindC=(renL vs fr k).map bindC++[[strV s,strV (pickN fr k s),.slice [] none]]:=by
   rw [renL_succ,List.map_append,renAt,es];rfl
  rw [e1]
  have hrl:=renL_len vs fr k
  generalize renL vs fr k=m at *
  repeat with_reducible refine awp_assoc ?_
  refine awp_sr fun K hK=>?_;simp [hk];apply hK;clear hK K;refine awp_seq_k fun K hK=>?_;refine awp_condT rfl (by simp [hk]) ?_;refine awp_skip ?_;apply hK;clear hK K;refine awp_seq_k fun KB hKB=>?_;refine awp_block ?_;refine awp_sr fun K hK=>?_;simp [hs];apply hK;clear hK K;refine awp_seq_k fun KC hKC=>?_
  have hE:∀ b32 b49,KC (Env.ofL [(0,.undef),(1,strs fr none),(2,.ref (nid H.next 0) 0),(4,.undef),(5,strs vs none),(6,.undef),(7,.slice (m.map bindC) (some (nid H.next 1))),(8,intV (k:Int)),(9,strV (pickN fr k s)),(10,.undef),(11,.undef),(12,.undef),(13,.undef),(14,.undef),(15,.undef),(16,.undef),(18,.undef),(20,.undef),(27,.undef),(32,b32),(49,b49),(67,.undef),(72,.undef),(87,.undef)])
    (HL H [.cells [strV n,.slice (al.map Ty.cells) none],.tok k 3 none]):=by
   intro b32 b49
   refine hKC _ _ ?_
   clear hKC
   generalize pickN fr k s=u at *
   refine awp_rk fun K hK=>?_;refine aOps_split 5 fun K hK=>?_;simp [hs];apply hK;clear hK K;refine aOps_split 3 fun K hK=>?_;simp;apply hK;clear hK K;simp [hrl]
   refine ⟨by omega,fun r x y _ h=>by rw [←h];simp [bindC,Ty.cells_length],hK _ _ ?_⟩
   refine hKB _ _ ?_
   clear hKB hK K
   refine awp_rk fun K2 hK2=>?_;simp [wrap_succ (show k < 4611686018427387904 by omega)]
   refine hK2 _ _ ⟨trivial,?_⟩
   refine weak_HL hcl rfl (by simp) (by simp [low_strs];exact Wk.sliceT (wkR_append (WkR.refl _) ⟨⟨.refl _,.refl _,Wk.nilSlice,trivial⟩,trivial⟩))
  by_cases hkf:k < fr.length
  rotate_left
  ·have hp:pickN fr k s=s:=by unfold pickN;rw [List.getElem?_eq_none (by omega)]
   rw [hp] at hE
   refine awp_sr fun K hK=>?_;refine aOps_split 4 fun K hK=>?_;simp;apply hK;clear hK K;refine aOps_split 4 fun K hK=>?_;simp [hkf];apply hK;clear hK K;simp [hkf];apply hK;clear hK K;refine awp_condF rfl (by simp [hkf]) ?_;refine awp_skip ?_
   exact hE _ _
  obtain ⟨f,hf⟩:∃ f,fr[k]?=some f:=⟨_,List.getElem?_eq_getElem hkf⟩
  have hp:pickN fr k s=if smallN f=true then f else s:=by unfold pickN;rw [hf]
  have hsf:=rSmallN_c f
  refine awp_sr fun K hK=>?_;refine aOps_split 4 fun K hK=>?_;simp [hkf];apply hK;clear hK K;refine aOps_split 4 fun K hK=>?_;simp [hf];apply hK;clear hK K;refine aOps_split 1 fun K hK=>?_;simp [hf];apply hK;clear hK K;refine aOps_call (hsf _) (by first | rfl | simp) rfl rfl (by first | (simp;done) | rfl) ?_;simp;apply hK;clear hK K
  by_cases hsm:smallN f=true
  ·rw [if_pos hsm] at hp
   rw [hp] at hE
   refine awp_condT rfl (by simp [hsm]) ?_;refine awp_rk fun K hK=>?_;simp [hf];apply hK
   exact hE _ _
  ·rw [if_neg hsm] at hp
   rw [hp] at hE
   refine awp_condF rfl (by simpa using hsm) ?_;refine awp_skip ?_
   exact hE _ _
 repeat with_reducible refine awp_assoc ?_
 refine awp_sr fun K hK=>?_;simp;apply hK;clear hK K;refine awp_seq_k fun K hK=>?_;refine awp_condF rfl (by simp) ?_;refine awp_exit ?_;simp
 refine hK0 _ _ ?_
 clear hK0
 have hml:=renL_len vs fr vs.length
 have hmc:∀ p∈renL vs fr vs.length,p.2.cnt < 1099511627776:=by
  intro p hp
  obtain ⟨k,_,rfl⟩:=List.mem_map.1 hp
  simp [renAt,varT,Ty.cnt,Ty.nodes,nodesL]
 generalize renL vs fr vs.length=m at *
 repeat with_reducible refine awp_assoc ?_
 refine awp_sr fun K hK=>?_;simp;apply hK;clear hK K;refine awp_seq_k fun K0 hK0=>?_;refine awp_block ?_
 refine awp_up m.length (fun k=>Env.ofL [(1,strs fr none),(2,.ref (nid H.next 0) 0),(5,strs vs none),(7,.slice (m.map bindC) (some (nid H.next 1))),(10,intV (k:Int))])
  (fun k=>HL H [.cells [strV n,.slice (al.map Ty.cells) none],.tok vs.length 3 none]) (fun k=>∀ (i j:Nat) (p q:ByteArray × Ty),i < j→j < k→m[i]?=some p→m[j]?=some q→p.2.name≠q.2.name) (weak_HL hcl rfl (by simp) (by simp [low_strs,Wk.refl])) (fun i j p q _ h=>by omega) (fun k hk hap=>?_) (fun hap=>?_)
 ·obtain ⟨⟨s,tn,tl⟩,hs⟩:∃ s,m[k]?=some s:=⟨_,List.getElem?_eq_getElem hk⟩
  repeat with_reducible refine awp_assoc ?_
  refine awp_sr fun K hK=>?_;simp [hk];apply hK;clear hK K;refine awp_seq_k fun K hK=>?_;refine awp_condT rfl (by simp [hk]) ?_;refine awp_skip ?_;apply hK;clear hK K;refine awp_seq_k fun KB hKB=>?_;refine awp_block ?_;refine awp_sr fun K hK=>?_;simp;apply hK;clear hK K;refine awp_block ?_
  refine awp_up k (fun j=>Env.ofL [(1,strs fr none),(2,.ref (nid H.next 0) 0),(5,strs vs none),(7,.slice (m.map bindC) (some (nid H.next 1))),(10,intV (k:Int)),(11,intV (j:Int))])
   (fun j=>HL H [.cells [strV n,.slice (al.map Ty.cells) none],.tok vs.length 3 none]) (fun j=>∀ (i:Nat) (p:ByteArray × Ty),i < j→m[i]?=some p→p.2.name≠tn) (weak_HL hcl rfl (by simp) (by simp [low_strs,Wk.refl])) (fun i p h=>by omega) (fun j hj hap2=>?_) (fun hap2=>?_)
  ·obtain ⟨⟨u,un,ul⟩,hu⟩:∃ s,m[j]?=some s:=⟨_,List.getElem?_eq_getElem (by omega)⟩
   repeat with_reducible refine awp_assoc ?_
   refine awp_sr fun K hK=>?_;simp [hj];apply hK;clear hK K;refine awp_seq_k fun K hK=>?_;refine awp_condT rfl (by simp [hj]) ?_;refine awp_skip ?_;apply hK;clear hK K;refine awp_seq_k fun KD hKD=>?_;refine awp_block ?_;refine awp_sdc [] [[],[0],[],[],[],[0,1],[0,1,2,3,4,5],[0,1,2,3,4,5,6],[0,1,2,3,4,5],[0,1,2,3,4,5],[0,1,2,3,4,5],[0,1,2,3,4,5,6,7],[0,1,2,6,7,8]] (by kernel_rfl) (by rfl) fun K hK=>?_;refine aCalm_pre 3 (by rfl) fun K hK=>?_;simp [hs,bindC_len3];apply hK;clear hK K;refine aCalm_pre 3 (by rfl) fun K hK=>?_;simp [bindC,cells_eq];apply hK;clear hK K;refine aCalm_pre 3 (by rfl) fun K hK=>?_;simp [hu,bindC_len3];apply hK;clear hK K;refine aCalm_pre 4 (by rfl) fun K hK=>?_;simp [bindC,cells_eq];apply hK;clear hK K;refine aCalm_end ?_;simp;apply hK;clear hK K
   by_cases hne:tn=un
   ·refine awp_condT rfl (by simp [hne,Ty.name]) ?_;refine awp_sr fun K hK=>?_;refine aOps_call (hkn _) (by first | rfl | simp) rfl rfl (by first | (simp;done) | rfl) ?_;simp;apply hK;clear hK K;simp [reset_all hcl]
   ·refine awp_condF rfl (by simp [hne,Ty.name]) ?_;refine awp_skip ?_
    refine hKD _ _ ?_
    clear hKD
    refine awp_rk fun K2 hK2=>?_;simp [wrap_succ (show j < 4611686018427387904 by omega)]
    refine hK2 _ _ ⟨?_,?_⟩
    ·intro i p hi hp
     by_cases hij:i < j
     ·exact hap2 i p hij hp
     ·obtain rfl:i=j:=by omega
      rw [hu] at hp
      obtain rfl:=Option.some.inj hp
      exact fun h=>hne h.symm
    ·exact weak_HL hcl rfl (by simp) (by simp [low_strs,Wk.refl])
  repeat with_reducible refine awp_assoc ?_
  refine awp_sr fun K hK=>?_;simp;apply hK;clear hK K;refine awp_seq_k fun K hK=>?_;refine awp_condF rfl (by simp) ?_;refine awp_exit ?_;simp
  refine hKB _ _ ?_
  clear hKB
  refine awp_rk fun K2 hK2=>?_;simp [wrap_succ (show k < 4611686018427387904 by omega)]
  refine hK2 _ _ ⟨?_,?_⟩
  ·intro i j p q hij hj hp hq
   by_cases hjk:j < k
   ·exact hap i j p q hij hjk hp hq
   ·obtain rfl:j=k:=by omega
    rw [hs] at hq
    obtain rfl:=Option.some.inj hq
    exact hap2 i p hij hp
  ·exact weak_HL hcl rfl (by simp) (by simp [low_strs,Wk.refl])
 repeat with_reducible refine awp_assoc ?_
 refine awp_sr fun K hK=>?_;simp;apply hK;clear hK K;refine awp_seq_k fun K hK=>?_;refine awp_condF rfl (by simp) ?_;refine awp_exit ?_;simp
 refine hK0 _ _ ?_
 clear hK0
 have hap':Apart m:=fun i j p q h hp hq=>hap i j p q h (by have:=List.getElem?_eq_some_iff.1 hq;exact this.1) hp hq
 obtain ⟨b1,b2,b3,b4⟩:=hb hap'
 have hpt:=hpt m hmc (by omega)
 have hn2:=hn2 (putT m (.mk n al))
 rw [b2,b1] at hn2
 have hm3:=hm2 (.mk n al) (putT m (.mk n al))
 have hm4:=hm2 (putT m (.mk n al)) (.mk n al)
 rw [b3] at hm3
 rw [b4] at hm4
 clear hb hap hap' b1 b2 b3 b4 hc hvl hm2
 generalize (matchV (.mk n al) (putT m (.mk n al))).1=l3 at *
 generalize (matchV (putT m (.mk n al)) (.mk n al)).1=l4 at *
 generalize putT m (.mk n al)=t2 at *
 generalize normM (.mk n al)=nm at *
 obtain ⟨tn,tl⟩:=t2
 obtain ⟨nn,nl⟩:=nm
 simp only [enc_mk] at *;refine awp_sr fun K hK=>?_;refine aOps_split 2 fun K hK=>?_;simp;apply hK;clear hK K;refine aOps_callW (hpt _) (by first | rfl | simp) rfl rfl ⟨Wk.tok _ _,.refl _,trivial⟩ ?_;simp;apply hK;clear hK K;refine awp_sr fun K hK=>?_;refine aOps_split 1 fun K hK=>?_;simp;apply hK;clear hK K;refine aOps_call (hn _) (by first | rfl | simp) rfl rfl (by first | (simp;done) | rfl) ?_;refine aOps_split 4 fun K hK=>?_;simp;apply hK;clear hK K;simp;apply hK;clear hK K;refine awp_sr fun K hK=>?_;refine aOps_split 1 fun K hK=>?_;simp;apply hK;clear hK K;refine aOps_call (hn2 _) (by first | rfl | simp) rfl rfl (by first | (simp;done) | rfl) ?_;refine aOps_split 4 fun K hK=>?_;simp;apply hK;clear hK K;simp;apply hK;clear hK K;refine awp_sr fun K hK=>?_;refine aOps_split 2 fun K hK=>?_;simp;apply hK;clear hK K;refine aOps_call (hm3 _) (by first | rfl | simp) rfl rfl (by first | (simp;done) | rfl) ?_;simp;apply hK;clear hK K;refine awp_sr fun K hK=>?_;refine aOps_split 2 fun K hK=>?_;simp;apply hK;clear hK K;refine aOps_call (hm4 _) (by first | rfl | simp) rfl rfl (by first | (simp;done) | rfl) ?_;simp;apply hK;clear hK K;refine awp_sr fun K hK=>?_;refine aOps_split 4 fun K hK=>?_;simp;apply hK;clear hK K;refine aOps_split 4 fun K hK=>?_;simp;apply hK;clear hK K;refine aOps_split 4 fun K hK=>?_;simp;apply hK;clear hK K;refine aOps_split 4 fun K hK=>?_;simp;apply hK;clear hK K;refine aOps_split 1 fun K hK=>?_;simp;apply hK;clear hK K;refine aOps_call (hs2 _) (by first | rfl | simp) rfl rfl (by first | (simp;done) | rfl) ?_;refine aOps_split 2 fun K hK=>?_;simp;apply hK;clear hK K;refine aOps_call (hkn _) (by first | rfl | simp) rfl rfl (by first | (simp;done) | rfl) ?_;simp;apply hK;clear hK K;simp [reset_all hcl]
theorem law_c (a b:Ty) (s:TyM) (x:ByteArray) (fr:List ByteArray) (pd:List Int)
  (h1:∀ H,ACalls Tryz.prog 4 [a.enc] H (boolV true) H)
  (h2:∀ H,ACalls Tryz.prog 5 [strV x] H (boolV true) H)
  (h3:∀ H,ACalls Tryz.prog 6 [a.enc,intsV pd none] H (boolV true) H)
  (h4:∀ H,ACalls Tryz.prog 7 [a.enc,strs fr none] H (boolV true) H)
  (h5:∀ H,ACalls Tryz.prog 8 [.slice (s.map bindC) none,a.enc] H (boolV true) H)
  (h6:∀ H,ACalls Tryz.prog 9 [a.enc,b.enc] H (boolV true) H)
  (h7:∀ H,ACalls Tryz.prog 10 [a.enc,b.enc] H (boolV true) H) (H:AHeap) :
  ACalls Tryz.prog 3 [a.enc,b.enc,.slice (s.map bindC) none,strV x,strs fr none,intsV pd none] H (boolV true) H:=by
 obtain ⟨n,al⟩:=a
 obtain ⟨tn,tl⟩:=b
 simp only [enc_mk] at *
 refine acalls_walk (fun _=>.imm) [0,1,2,3,4,5,6,7,12] Tryz.mixed Tryz.func3 rfl rfl rfl (by decide) (fun hcl hlow=>?_)
 refine awp_sr fun K hK=>?_;simp;apply hK;clear hK K;refine awp_sr fun K hK=>?_;refine aOps_split 1 fun K hK=>?_;simp;apply hK;clear hK K;refine aOps_call (h1 _) (by first | rfl | simp) rfl rfl (by first | (simp;done) | rfl) ?_;refine aOps_split 2 fun K hK=>?_;simp;apply hK;clear hK K;refine aOps_call (h2 _) (by first | rfl | simp) rfl rfl (by first | (simp;done) | rfl) ?_;refine aOps_split 4 fun K hK=>?_;simp;apply hK;clear hK K;refine aOps_call (h3 _) (by first | rfl | simp) rfl rfl (by first | (simp;done) | rfl) ?_;refine aOps_split 4 fun K hK=>?_;simp;apply hK;clear hK K;refine aOps_call (h4 _) (by first | rfl | simp) rfl rfl (by first | (simp;done) | rfl) ?_;refine aOps_split 4 fun K hK=>?_;simp;apply hK;clear hK K;refine aOps_call (h5 _) (by first | rfl | simp) rfl rfl (by first | (simp;done) | rfl) ?_;refine aOps_split 4 fun K hK=>?_;simp;apply hK;clear hK K;refine aOps_call (h6 _) (by first | rfl | simp) rfl rfl (by first | (simp;done) | rfl) ?_;refine aOps_split 4 fun K hK=>?_;simp;apply hK;clear hK K;refine aOps_call (h7 _) (by first | rfl | simp) rfl rfl (by first | (simp;done) | rfl) ?_;simp;apply hK;clear hK K;simp [reset_all hcl]
end Go.Proofs.YtgeehnbbhnpimaaGreat
