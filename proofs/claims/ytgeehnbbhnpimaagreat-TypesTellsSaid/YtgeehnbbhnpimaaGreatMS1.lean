/- The reference's Unify; the law's unifies. -/
import Derived.Test.YtgeehnbbhnpimaaGreatMR9
import Derived.Test.YtgeehnbbhnpimaaGreatMW6
set_option linter.unusedVariables false
set_option linter.unusedSimpArgs false
namespace Go.Proofs.YtgeehnbbhnpimaaGreat
open Go Go.Abs Go.Proofs
set_option maxRecDepth 20000
attribute [local simp] aOps wantedA aStep aop aLoad aStore aBin aUn aFieldAddr aField aIndexAddr aIndex aLen aBuild aFill aAlloc aAppend aBuildSlice litRows newRows isMut isOwn isNilS nilsW bytesR tokW tokAV tokL ret readC splice aeval isLit isLate AV.celled AV.one AV.ofValue Value.oneCell' Value.cells intOp strOp get_nid upd_nid awp aEnd aResults aResult Det unord isCall isNext
attribute [local simp] low_take low_strs low_comp low_tcomp wkEs_refl' WkBs WkEnv WkB WkL WkE WkO ABlock.low lowO lowL lowR AV.low cellsL_eq Ty.low low_map Ty.cells_length Ty.cells_one
attribute [local simp] low_bind
noncomputable def uniV (a b:Ty) (r:List Nat × Bool) (ts:List Ty):TyM × Int:=if a.valid=0 then (if b.valid=0 then uRes a b r ts else ([],b.valid)) else ([],a.valid)
theorem rUnify_c (a b:Ty) (r:List Nat × Bool) (ts:List Ty) (hU:a.valid=0→b.valid=0→UOk a b r ts) (H:AHeap):ACalls Tryz.prog 30 [a.enc,b.enc] H (.tuple [.slice ((uniV a b r ts).1.map bindC) none,intV (uniV a b r ts).2]) H:=by
 have hvp:=rValidate_c a
 have hvt:=rValidate_c b
 have hm:=fun (h1:a.valid=0) (h2:b.valid=0)=>unifier_c a b r ts (hU h1 h2)
 have he:uniV a b r ts=if a.valid=0 then (if b.valid=0 then uRes a b r ts else ([],b.valid)) else ([],a.valid):=rfl
 generalize uniV a b r ts=res at he ⊢
 generalize uRes a b r ts=u at hm he
 clear hU
 obtain ⟨n,l⟩:=a
 obtain ⟨tn,tl⟩:=b
 simp only [enc_mk] at hm hvp hvt
 refine acalls_walk (fun _=>.imm) [0,1,2,3,4,5,6,7,11,16] Tryz.mixed Tryz.func30 rfl rfl rfl (by decide) (fun hcl hlow=>?_)
 simp only [enc_mk];refine awp_sr fun K hK=>?_;simp;apply hK;clear hK K;repeat with_reducible refine awp_assoc ?_
 refine awp_sr fun K hK=>?_;refine aOps_split 1 fun K hK=>?_;simp;apply hK;clear hK K;refine aOps_call (hvp _) (by first | rfl | simp) rfl rfl rfl ?_;simp;apply hK;clear hK K
 by_cases h1:(Ty.mk n l).valid=0
 rotate_left
 ·rw [if_neg h1] at he
  repeat with_reducible refine awp_assoc ?_
  refine awp_sr fun K hK=>?_;simp [h1];apply hK;clear hK K;refine awp_seq_k fun K hK=>?_;refine awp_condT rfl (by simp [h1]) ?_;refine awp_sr fun K hK=>?_;simp;apply hK;clear hK K
  rw [he]
  simp [reset_all hcl]
  exact Wk.tuple ⟨Wk.nilSlice,.refl _,trivial⟩
 rw [if_pos h1] at he
 repeat with_reducible refine awp_assoc ?_
 refine awp_sr fun K hK=>?_;simp [h1];apply hK;clear hK K;refine awp_seq_k fun K hK=>?_;refine awp_condF rfl (by simp) ?_;refine awp_skip ?_;apply hK;clear hK K;repeat with_reducible refine awp_assoc ?_
 refine awp_sr fun K hK=>?_;refine aOps_split 1 fun K hK=>?_;simp;apply hK;clear hK K;refine aOps_call (hvt _) (by first | rfl | simp) rfl rfl rfl ?_;simp;apply hK;clear hK K
 by_cases h2:(Ty.mk tn tl).valid=0
 rotate_left
 ·rw [if_neg h2] at he
  repeat with_reducible refine awp_assoc ?_
  refine awp_sr fun K hK=>?_;simp [h2];apply hK;clear hK K;refine awp_seq_k fun K hK=>?_;refine awp_condT rfl (by simp [h2]) ?_;refine awp_sr fun K hK=>?_;simp;apply hK;clear hK K
  rw [he]
  simp [reset_all hcl]
  exact Wk.tuple ⟨Wk.nilSlice,.refl _,trivial⟩
 rw [if_pos h2] at he
 repeat with_reducible refine awp_assoc ?_
 refine awp_sr fun K hK=>?_;simp [h2];apply hK;clear hK K;refine awp_seq_k fun K hK=>?_;refine awp_condF rfl (by simp) ?_;refine awp_skip ?_;apply hK;clear hK K;refine awp_sr fun K hK=>?_;refine aOps_split 2 fun K hK=>?_;simp;apply hK;clear hK K;refine aOps_call (hm h1 h2 _) (by first | rfl | simp) rfl rfl rfl ?_;simp;apply hK;clear hK K
 rw [he]
 simp [reset_all hcl]
theorem unifies_c (a b:Ty) (l:TyM) (e:Int) (hr:URun a b l e) (r:List Nat × Bool) (ts:List Ty) (hU:a.valid=0→b.valid=0→UOk a b r ts) (heq:uniV a b r ts=(l,e)) (hl:∀ p∈l,p.2.cnt < 4611686018427387904) (hll:l.length < 4611686018427387904) (hk:URun kA kB kL 0) (H:AHeap):ACalls Tryz.prog 9 [a.enc,b.enc] H (boolV true) H:=by
 have hp:=Unify_c a b l e hr
 have hq:=rUnify_c a b r ts hU
 rw [heq] at hq
 have hs:=sameBinds_c l l hl hll
 rw [show sameB l l=true from sameB_iff.2 rfl] at hs
 have hkn:=known_c hk
 clear heq hU hr
 obtain ⟨n,al⟩:=a
 obtain ⟨tn,tl⟩:=b
 simp only [enc_mk] at hp hq
 refine acalls_walk (fun _=>.imm) [0,1,2,3,4,5,6,7,8] Tryz.mixed Tryz.func9 rfl rfl rfl (by decide) (fun hcl hlow=>?_)
 simp only [enc_mk];refine awp_sr fun K hK=>?_;simp;apply hK;clear hK K;refine awp_sr fun K hK=>?_;refine aOps_split 2 fun K hK=>?_;simp;apply hK;clear hK K;refine aOps_call (hp _) (by first | rfl | simp) rfl rfl (by first | (simp;done) | rfl) ?_;simp;apply hK;clear hK K;refine awp_sr fun K hK=>?_;refine aOps_split 2 fun K hK=>?_;simp;apply hK;clear hK K;refine aOps_call (hq _) (by first | rfl | simp) rfl rfl (by first | (simp;done) | rfl) ?_;simp;apply hK;clear hK K;refine awp_sr fun K hK=>?_;refine aOps_split 2 fun K hK=>?_;simp;apply hK;clear hK K;refine aOps_call (hs _) (by first | rfl | simp) rfl rfl (by first | (simp;done) | rfl) ?_;refine aOps_split 6 fun K hK=>?_;simp;apply hK;clear hK K;refine aOps_call (hkn _) (by first | rfl | simp) rfl rfl (by first | (simp;done) | rfl) ?_;simp;apply hK;clear hK K;simp [reset_all hcl]
theorem applies_c (l:TyM) (t:Ty) (hl:l.length < 4611686018427387904) (he:applyS l t=applyV l t) (hc:(applyV l t).1.cnt < 4611686018427387904) (hk:URun kA kB kL 0) (H:AHeap):ACalls Tryz.prog 8 [.slice (l.map bindC) none,t.enc] H (boolV true) H:=by
 have hp:=apply_c l hl t
 have hq:=rApply_c l t hl
 rw [he] at hq
 have hkn:=known_c hk
 clear he
 generalize applyV l t=r at *
 obtain ⟨rt,e⟩:=r
 simp only at hc
 have hs:=same_c rt rt hc
 rw [show eqT rt rt=true from (eqT_iff _ _).2 rfl] at hs
 clear hc
 obtain ⟨n,al⟩:=t
 obtain ⟨rn,rl⟩:=rt
 simp only [enc_mk] at hp hq hs
 refine acalls_walk (fun _=>.imm) [0,1,3,4,5,6,7,8] Tryz.mixed Tryz.func8 rfl rfl rfl (by decide) (fun hcl hlow=>?_)
 simp only [enc_mk];refine awp_sr fun K hK=>?_;simp;apply hK;clear hK K;refine awp_sr fun K hK=>?_;refine aOps_split 2 fun K hK=>?_;simp;apply hK;clear hK K;refine aOps_call (hp _) (by first | rfl | simp) rfl rfl (by first | (simp;done) | rfl) ?_;refine aOps_split 4 fun K hK=>?_;simp;apply hK;clear hK K;simp;apply hK;clear hK K;refine awp_sr fun K hK=>?_;refine aOps_split 2 fun K hK=>?_;simp;apply hK;clear hK K;refine aOps_call (hq _) (by first | rfl | simp) rfl rfl (by first | (simp;done) | rfl) ?_;refine aOps_split 4 fun K hK=>?_;simp;apply hK;clear hK K;simp;apply hK;clear hK K;refine awp_sr fun K hK=>?_;refine aOps_split 2 fun K hK=>?_;simp;apply hK;clear hK K;refine aOps_call (hs _) (by first | rfl | simp) rfl rfl (by first | (simp;done) | rfl) ?_;refine aOps_split 6 fun K hK=>?_;simp;apply hK;clear hK K;refine aOps_call (hkn _) (by first | rfl | simp) rfl rfl (by first | (simp;done) | rfl) ?_;simp;apply hK;clear hK K;simp [reset_all hcl]
theorem matches_c (a b:Ty) (h1:meetV a b=matchV a b) (h2:comR a b=commonV a b) (hm:∀ p∈(matchV a b).1,p.2.cnt < 4611686018427387904) (hml:(matchV a b).1.length < 4611686018427387904) (hcc:(commonV a b).1.cnt < 4611686018427387904) (hk:URun kA kB kL 0) (H:AHeap):ACalls Tryz.prog 10 [a.enc,b.enc] H (boolV true) H:=by
 have hp:=Match_c a b
 have hq:=rMatch_c a b
 rw [h1] at hq
 have hp2:=Common_c a b
 have hq2:=rCommon_c a b
 rw [h2] at hq2
 have hs:=sameBinds_c (matchV a b).1 (matchV a b).1 hm hml
 rw [show sameB (matchV a b).1 (matchV a b).1=true from sameB_iff.2 rfl] at hs
 have hs2:=same_c (commonV a b).1 (commonV a b).1 hcc
 rw [show eqT (commonV a b).1 (commonV a b).1=true from (eqT_iff _ _).2 rfl] at hs2
 have hkn:=known_c hk
 clear h1 h2 hm hml hcc
 generalize matchV a b=r at *
 generalize commonV a b=c at *
 obtain ⟨rl,re⟩:=r
 obtain ⟨⟨cn,cl⟩,ce⟩:=c
 obtain ⟨n,al⟩:=a
 obtain ⟨tn,tl⟩:=b
 simp only [enc_mk] at *
 refine acalls_walk (fun _=>.imm) [0,1,2,3,4,5,6,7,8,9,10,11,12] Tryz.mixed Tryz.func10 rfl rfl rfl (by decide) (fun hcl hlow=>?_)
 refine awp_sr fun K hK=>?_;simp;apply hK;clear hK K;refine awp_sr fun K hK=>?_;refine aOps_split 2 fun K hK=>?_;simp;apply hK;clear hK K;refine aOps_call (hp _) (by first | rfl | simp) rfl rfl (by first | (simp;done) | rfl) ?_;simp;apply hK;clear hK K;refine awp_sr fun K hK=>?_;refine aOps_split 2 fun K hK=>?_;simp;apply hK;clear hK K;refine aOps_call (hq _) (by first | rfl | simp) rfl rfl (by first | (simp;done) | rfl) ?_;simp;apply hK;clear hK K;refine awp_sr fun K hK=>?_;refine aOps_split 2 fun K hK=>?_;simp;apply hK;clear hK K;refine aOps_call (hp2 _) (by first | rfl | simp) rfl rfl (by first | (simp;done) | rfl) ?_;refine aOps_split 4 fun K hK=>?_;simp;apply hK;clear hK K;simp;apply hK;clear hK K;refine awp_sr fun K hK=>?_;refine aOps_split 2 fun K hK=>?_;simp;apply hK;clear hK K;refine aOps_call (hq2 _) (by first | rfl | simp) rfl rfl (by first | (simp;done) | rfl) ?_;refine aOps_split 4 fun K hK=>?_;simp;apply hK;clear hK K;simp;apply hK;clear hK K;refine awp_sr fun K hK=>?_;refine aOps_split 2 fun K hK=>?_;simp;apply hK;clear hK K;refine aOps_call (hs _) (by first | rfl | simp) rfl rfl (by first | (simp;done) | rfl) ?_;refine aOps_split 4 fun K hK=>?_;simp;apply hK;clear hK K;refine aOps_split 4 fun K hK=>?_;simp;apply hK;clear hK K;refine aOps_call (hs2 _) (by first | rfl | simp) rfl rfl (by first | (simp;done) | rfl) ?_;refine aOps_split 4 fun K hK=>?_;simp;apply hK;clear hK K;refine aOps_split 3 fun K hK=>?_;simp;apply hK;clear hK K;refine aOps_call (hkn _) (by first | rfl | simp) rfl rfl (by first | (simp;done) | rfl) ?_;simp;apply hK;clear hK K;simp [reset_all hcl]
theorem reads_c (s:ByteArray) (hs:s.size < 1152921504606846976) (hc:(parseR s).1.cnt < 4611686018427387904) (hk:URun kA kB kL 0) (H:AHeap):ACalls Tryz.prog 5 [strV s] H (boolV true) H:=by
 have hp:=Parse_c s
 have hq:=rParse_c s hs
 have hs2:=same_c (parseR s).1 (parseR s).1 hc
 rw [show eqT (parseR s).1 (parseR s).1=true from (eqT_iff _ _).2 rfl] at hs2
 have hkn:=known_c hk
 clear hc
 generalize parseR s=c at *
 obtain ⟨⟨cn,cl⟩,cp,ce⟩:=c
 simp only [enc_mk] at *
 refine acalls_walk (fun _=>.imm) [0,2,3,4,5,6,7,8] Tryz.mixed Tryz.func5 rfl rfl rfl (by decide) (fun hcl hlow=>?_)
 refine awp_sr fun K hK=>?_;simp;apply hK;clear hK K;refine awp_sr fun K hK=>?_;refine aOps_split 1 fun K hK=>?_;simp;apply hK;clear hK K;refine aOps_call (hp _) (by first | rfl | simp) rfl rfl (by first | (simp;done) | rfl) ?_;refine aOps_split 4 fun K hK=>?_;simp;apply hK;clear hK K;simp;apply hK;clear hK K;refine awp_sr fun K hK=>?_;refine aOps_split 1 fun K hK=>?_;simp;apply hK;clear hK K;refine aOps_call (hq _) (by first | rfl | simp) rfl rfl (by first | (simp;done) | rfl) ?_;refine aOps_split 4 fun K hK=>?_;simp;apply hK;clear hK K;simp;apply hK;clear hK K;refine awp_sr fun K hK=>?_;refine aOps_split 2 fun K hK=>?_;simp;apply hK;clear hK K;refine aOps_call (hs2 _) (by first | rfl | simp) rfl rfl (by first | (simp;done) | rfl) ?_;refine aOps_split 4 fun K hK=>?_;simp;apply hK;clear hK K;refine aOps_split 4 fun K hK=>?_;simp;apply hK;clear hK K;refine aOps_split 3 fun K hK=>?_;simp;apply hK;clear hK K;refine aOps_call (hkn _) (by first | rfl | simp) rfl rfl (by first | (simp;done) | rfl) ?_;simp;apply hK;clear hK K;simp [reset_all hcl]
theorem tells_c (t:Ty) (he:normS t=normM t) (hc:(normM t).cnt < 4611686018427387904) (hv:(varsR t).length < 4611686018427387904) (hk:URun kA kB kL 0) (H:AHeap):ACalls Tryz.prog 4 [t.enc] H (boolV true) H:=by
 have hwt:t.valid=0→t.wt < 1152921504606846976:=fun h=>by have:=valid_wt h;omega
 have h1:=validate_c t
 have h2:=rValidate_c t
 have h3:=Print_c t hwt
 have h4:=rPrint_c t hwt
 have h5:=Vars_c t
 have h6:=rVars_c t
 have h7:=Normal_c t
 have h8:=rNormal_c t
 rw [he] at h8
 have hs:=sameTexts_c (varsR t) (varsR t) hv
 rw [show decide (varsR t=varsR t)=true by simp] at hs
 have hs2:=same_c (normM t) (normM t) hc
 rw [show eqT (normM t) (normM t)=true from (eqT_iff _ _).2 rfl] at hs2
 have hkn:=known_c hk
 clear he hc hv hwt
 generalize (if t.valid=0 then textT t 0 else ⟨#[]⟩)=tx at *
 generalize t.valid=vv at *
 generalize varsR t=vs at *
 generalize normM t=nm at *
 obtain ⟨nn,nl⟩:=nm
 obtain ⟨n,al⟩:=t
 simp only [enc_mk] at *
 refine acalls_walk (fun _=>.imm) [0,1,2,3,4,5,6,7,8,9,10,11,12,13,14,19] Tryz.mixed Tryz.func4 rfl rfl rfl (by decide) (fun hcl hlow=>?_)
 refine awp_sr fun K hK=>?_;simp;apply hK;clear hK K;repeat with_reducible refine awp_assoc ?_
 refine awp_sdc [] [[],[],[0,1],[],[]] (by kernel_rfl) (by rfl) fun K hK=>?_;refine aCalm_pre 1 (by rfl) fun K hK=>?_;simp;apply hK;clear hK K;refine aCalm_call0 (h1 _) (by first | rfl | simp) rfl rfl rfl (by first | (simp;done) | rfl) ?_;refine aCalm_pre 1 (by rfl) fun K hK=>?_;simp;apply hK;clear hK K;refine aCalm_call0 (h2 _) (by first | rfl | simp) rfl rfl rfl (by first | (simp;done) | rfl) ?_;refine aCalm_pre 1 (by rfl) fun K hK=>?_;simp;apply hK;clear hK K;refine aCalm_end ?_;simp;apply hK;clear hK K;refine awp_seq_k fun K hK=>?_;refine awp_condF rfl (by simp) ?_;refine awp_skip ?_;apply hK;clear hK K;refine awp_sr fun K hK=>?_;refine aOps_split 1 fun K hK=>?_;simp;apply hK;clear hK K;refine aOps_call (h3 _) (by first | rfl | simp) rfl rfl (by first | (simp;done) | rfl) ?_;simp;apply hK;clear hK K;refine awp_sr fun K hK=>?_;refine aOps_split 1 fun K hK=>?_;simp;apply hK;clear hK K;refine aOps_call (h4 _) (by first | rfl | simp) rfl rfl (by first | (simp;done) | rfl) ?_;simp;apply hK;clear hK K;refine awp_sr fun K hK=>?_;refine aOps_split 1 fun K hK=>?_;simp;apply hK;clear hK K;refine aOps_call (h5 _) (by first | rfl | simp) rfl rfl (by first | (simp;done) | rfl) ?_;simp;apply hK;clear hK K;refine awp_sr fun K hK=>?_;refine aOps_split 1 fun K hK=>?_;simp;apply hK;clear hK K;refine aOps_call (h6 _) (by first | rfl | simp) rfl rfl (by first | (simp;done) | rfl) ?_;simp;apply hK;clear hK K;refine awp_sr fun K hK=>?_;refine aOps_split 1 fun K hK=>?_;simp;apply hK;clear hK K;refine aOps_call (h7 _) (by first | rfl | simp) rfl rfl (by first | (simp;done) | rfl) ?_;refine aOps_split 4 fun K hK=>?_;simp;apply hK;clear hK K;simp;apply hK;clear hK K;refine awp_sr fun K hK=>?_;refine aOps_split 1 fun K hK=>?_;simp;apply hK;clear hK K;refine aOps_call (h8 _) (by first | rfl | simp) rfl rfl (by first | (simp;done) | rfl) ?_;refine aOps_split 4 fun K hK=>?_;simp;apply hK;clear hK K;simp;apply hK;clear hK K;refine awp_sr fun K hK=>?_;refine aOps_split 4 fun K hK=>?_;simp;apply hK;clear hK K;refine aOps_split 4 fun K hK=>?_;simp;apply hK;clear hK K;refine aOps_split 3 fun K hK=>?_;simp;apply hK;clear hK K;refine aOps_call (hs _) (by first | rfl | simp) rfl rfl (by first | (simp;done) | rfl) ?_;refine aOps_split 4 fun K hK=>?_;simp;apply hK;clear hK K;refine aOps_split 4 fun K hK=>?_;simp;apply hK;clear hK K;refine aOps_split 1 fun K hK=>?_;simp;apply hK;clear hK K;refine aOps_call (hs2 _) (by first | rfl | simp) rfl rfl (by first | (simp;done) | rfl) ?_;refine aOps_split 4 fun K hK=>?_;simp;apply hK;clear hK K;refine aOps_split 3 fun K hK=>?_;simp;apply hK;clear hK K;refine aOps_call (hkn _) (by first | rfl | simp) rfl rfl (by first | (simp;done) | rfl) ?_;simp;apply hK;clear hK K;simp [reset_all hcl]
def intsV (l:List Int) (k:Option Nat):AV:=.slice (l.map fun i=>[intV i]) k
def pad1 (s:ByteArray) (i:Int):ByteArray:=if i.tmod 3=0 then ⟨#[40]⟩++s++⟨#[41]⟩ else ⟨#[32]⟩++s++⟨#[32,32]⟩
def padS (s:ByteArray) (l:List Int):ByteArray:=l.foldl pad1 s
theorem low_ints (n:Nat) (l:List Int):lowR n (l.map fun i=>[intV i]):=lowR_map fun i _=>⟨trivial,trivial⟩
theorem back_c (t:Ty) (l:List Int) (hll:l.length < 4611686018427387904) (hb:t.valid=0→(padS (textT t 0) (l.take 20)).size≤20000→parseR (padS (textT t 0) (l.take 20))=(t,0,0)) (hk:URun kA kB kL 0) (H:AHeap):ACalls Tryz.prog 6 [t.enc,intsV l none] H (boolV true) H:=by
 have hwt:t.valid=0→t.wt < 1152921504606846976:=fun h=>by have:=valid_wt h;omega
 have h3:=Print_c t hwt
 have hkn:=known_c hk
 have hs2:=fun (h:t.valid=0)=>same_c t t (by have:=large_cnt (Ty.not_large h);omega)
 rw [show eqT t t=true from (eqT_iff _ _).2 rfl] at hs2
 obtain ⟨n,al⟩:=t
 simp only [enc_mk,intsV] at *
 refine acalls_walk (fun _=>.imm) [0,1,2,4,5,6,7,8,9,10,17,26,34,43] Tryz.mixed Tryz.func6 rfl rfl rfl (by decide) (fun hcl hlow=>?_)
 refine awp_sr fun K hK=>?_;simp;apply hK;clear hK K;refine awp_sr fun K hK=>?_;refine aOps_split 1 fun K hK=>?_;simp;apply hK;clear hK K;refine aOps_call (h3 _) (by first | rfl | simp) rfl rfl (by first | (simp;done) | rfl) ?_;simp;apply hK;clear hK K
 by_cases hv:(Ty.mk n al).valid=0
 rotate_left
 ·repeat with_reducible refine awp_assoc ?_
  refine awp_sr fun K hK=>?_;simp [hv];apply hK;clear hK K;refine awp_seq_k fun K hK=>?_;refine awp_condT rfl (by simp [hv]) ?_;refine awp_sr fun K hK=>?_;refine aOps_call (hkn _) (by first | rfl | simp) rfl rfl (by first | (simp;done) | rfl) ?_;simp;apply hK;clear hK K;simp [reset_all hcl]
 rw [if_pos hv]
 repeat with_reducible refine awp_assoc ?_
 refine awp_sr fun K hK=>?_;simp [hv];apply hK;clear hK K;refine awp_seq_k fun K hK=>?_;refine awp_condF rfl (by simp) ?_;refine awp_skip ?_;apply hK;clear hK K
 replace hb:=hb hv
 replace hs2:=hs2 hv
 have htx:(textT (.mk n al) 0).size < 2305843009213693952:=by have:=text_size (.mk n al) 0;have:=hwt hv;omega
 generalize textT (.mk n al) 0=tx at *
 repeat with_reducible refine awp_assoc ?_
 refine awp_sr fun K hK=>?_;simp;apply hK;clear hK K;refine awp_seq_k fun K0 hK0=>?_;refine awp_block ?_
 refine awp_up (min l.length 20) (fun k=>Env.ofL [(1,.slice (l.map fun i=>[intV i]) none),(2,.ref (nid H.next 0) 0),(5,strV (padS tx (l.take k))),(7,intV (k:Int))])
  (fun k=>HL H [.cells [strV n,.slice (al.map Ty.cells) none]]) (fun k=>(padS tx (l.take k)).size≤tx.size+3 * k) (weak_HL hcl rfl (by simp) (by simp [padS,low_ints])) (by simp [padS]) (fun k hk hsz=>?_) (fun _=>?_)
 ·obtain ⟨i,hi⟩:∃ i,l[k]?=some i:=⟨_,List.getElem?_eq_getElem (by omega)⟩
  have e1:padS tx (l.take (k+1))=pad1 (padS tx (l.take k)) i:=by
   unfold padS
   rw [take_one hi,List.foldl_append];rfl
  rw [e1]
  generalize padS tx (l.take k)=s at hsz ⊢
  have h1:k < l.length:=by omega
  have h2:k < 20:=by omega
  repeat with_reducible refine awp_assoc ?_
  refine awp_sr fun K hK=>?_;refine aOps_split 4 fun K hK=>?_;simp;apply hK;clear hK K;refine aOps_split 4 fun K hK=>?_;simp [h1];apply hK;clear hK K;simp [h1,h2];apply hK;clear hK K
  have h2i:(k:Int) < 20:=by omega
  refine awp_seq_k fun K hK=>?_;refine awp_condT rfl (by simp [h2i]) ?_;refine awp_skip ?_;apply hK;clear hK K;refine awp_seq_k fun KB hKB=>?_;refine awp_block ?_;refine awp_sr fun K hK=>?_;refine aOps_split 4 fun K hK=>?_;simp [hi];apply hK;clear hK K;simp;apply hK;clear hK K
  by_cases h3:i.tmod 3=0
  ·have ep:pad1 s i=⟨#[40]⟩++s++⟨#[41]⟩:=if_pos h3
   refine awp_condT rfl (by simp [h3]) ?_;refine awp_rk fun K hK=>?_;simp
   have z1:(⟨#[40]⟩:ByteArray).size=1:=rfl
   have z2:(⟨#[41]⟩:ByteArray).size=1:=rfl
   have z3:(⟨#[32]⟩:ByteArray).size=1:=rfl
   have z4:(⟨#[32,32]⟩:ByteArray).size=2:=rfl
   refine ⟨by omega,by omega,hK _ _ ?_⟩
   refine hKB _ _ ?_
   clear hKB hK K
   refine awp_rk fun K2 hK2=>?_;simp [wrap_succ (show k < 4611686018427387904 by omega)]
   refine hK2 _ _ ⟨by rw [ep];simp only [ByteArray.size_append];omega,?_⟩
   rw [ep]
   refine weak_HL hcl rfl (by simp) (by simp [low_ints,Wk.refl])
   trace_state
  ·have ep:pad1 s i=⟨#[32]⟩++s++⟨#[32,32]⟩:=if_neg h3
   refine awp_condF rfl (by simp [h3]) ?_;refine awp_rk fun K hK=>?_;simp
   have z1:(⟨#[40]⟩:ByteArray).size=1:=rfl
   have z2:(⟨#[41]⟩:ByteArray).size=1:=rfl
   have z3:(⟨#[32]⟩:ByteArray).size=1:=rfl
   have z4:(⟨#[32,32]⟩:ByteArray).size=2:=rfl
   refine ⟨by omega,by omega,hK _ _ ?_⟩
   refine hKB _ _ ?_
   clear hKB hK K
   refine awp_rk fun K2 hK2=>?_;simp [wrap_succ (show k < 4611686018427387904 by omega)]
   refine hK2 _ _ ⟨by rw [ep];simp only [ByteArray.size_append];omega,?_⟩
   rw [ep]
   refine weak_HL hcl rfl (by simp) (by simp [low_ints,Wk.refl])
 have ek:l.take (min l.length 20)=l.take 20:=by
  rw [List.take_eq_take_iff];omega
 rw [ek]
 generalize padS tx (l.take 20)=s at *
 generalize hmk:min l.length 20=k at *
 have hend:∀ b,K0 (Env.ofL [(0,.undef),(1,.slice (l.map fun i=>[intV i]) none),(2,.ref (nid H.next 0) 0),(4,.undef),(5,strV s),(6,.undef),(7,intV (k:Int)),(8,.undef),(9,.undef),(10,.undef),(17,.undef),(26,b),(34,.undef),(43,.undef)]) (HL H [.cells [strV n,.slice (al.map Ty.cells) none]]):=by
  intro b
  refine hK0 _ _ ?_
  clear hK0
  repeat with_reducible refine awp_assoc ?_
  refine awp_sr fun K hK=>?_;simp;apply hK;clear hK K
  by_cases hbig:20000 < s.size
  ·refine awp_seq_k fun K hK=>?_;refine awp_condT rfl (by simp [show (20000:Int) < s.size by omega]) ?_;refine awp_sr fun K hK=>?_;refine aOps_call (hkn _) (by first | rfl | simp) rfl rfl (by first | (simp;done) | rfl) ?_;simp;apply hK;clear hK K;simp [reset_all hcl]
  refine awp_seq_k fun K hK=>?_;refine awp_condF rfl (by simp [show ¬ (20000:Int) < s.size by omega]) ?_;refine awp_skip ?_;apply hK;clear hK K
  have hp:=Parse_c s
  rw [hb (by omega)] at hp
  simp only [enc_mk] at hp;refine awp_sr fun K hK=>?_;refine aOps_split 1 fun K hK=>?_;simp;apply hK;clear hK K;refine aOps_call (hp _) (by first | rfl | simp) rfl rfl (by first | (simp;done) | rfl) ?_;refine aOps_split 4 fun K hK=>?_;simp;apply hK;clear hK K;simp;apply hK;clear hK K;refine awp_sr fun K hK=>?_;refine aOps_split 3 fun K hK=>?_;simp;apply hK;clear hK K;refine aOps_split 4 fun K hK=>?_;simp;apply hK;clear hK K;refine aOps_split 2 fun K hK=>?_;simp;apply hK;clear hK K;refine aOps_call (hs2 _) (by first | rfl | simp) rfl rfl (by first | (simp;done) | rfl) ?_;refine aOps_split 2 fun K hK=>?_;simp;apply hK;clear hK K;refine aOps_call (hkn _) (by first | rfl | simp) rfl rfl (by first | (simp;done) | rfl) ?_;simp;apply hK;clear hK K;simp [reset_all hcl]
 by_cases h1:k < l.length
 ·have h2:¬ (k:Int) < 20:=by omega
  repeat with_reducible refine awp_assoc ?_
  refine awp_sr fun K hK=>?_;refine aOps_split 4 fun K hK=>?_;simp;apply hK;clear hK K;refine aOps_split 4 fun K hK=>?_;simp [h1];apply hK;clear hK K;simp [h1,h2];apply hK;clear hK K;refine awp_seq_k fun K hK=>?_;refine awp_condF rfl (by simp [h2]) ?_;refine awp_exit ?_;simp
  exact hend _
 ·repeat with_reducible refine awp_assoc ?_
  refine awp_sr fun K hK=>?_;refine aOps_split 4 fun K hK=>?_;simp;apply hK;clear hK K;refine aOps_split 4 fun K hK=>?_;simp [h1];apply hK;clear hK K;simp [h1];apply hK;clear hK K;refine awp_seq_k fun K hK=>?_;refine awp_condF rfl (by simp [h1]) ?_;refine awp_exit ?_;simp
  exact hend _
end Go.Proofs.YtgeehnbbhnpimaaGreat
