/- The laws, by what their parts answer. -/
import Derived.Test.YtgeehnbbhnpimaaGreatMW5
set_option linter.unusedVariables false
set_option linter.unusedSimpArgs false
namespace Go.Proofs.YtgeehnbbhnpimaaGreat
open Go Go.Abs Go.Proofs
set_option maxRecDepth 20000
attribute [local simp] aOps wantedA aStep aop aLoad aStore aBin aUn aFieldAddr aField aIndexAddr aIndex aLen aBuild aFill aAlloc aAppend aBuildSlice litRows newRows isMut isOwn isNilS nilsW bytesR tokW tokAV tokL ret readC splice aeval isLit isLate AV.celled AV.one AV.ofValue Value.oneCell' Value.cells intOp strOp get_nid upd_nid awp aEnd aResults aResult Det unord isCall isNext
attribute [local simp] low_take low_strs low_comp low_tcomp wkEs_refl' WkBs WkEnv WkB WkL WkE WkO ABlock.low lowO lowL lowR AV.low cellsL_eq Ty.low low_map Ty.cells_length Ty.cells_one
attribute [local simp] low_bind
def sameB:TyM→TyM→Bool
 | [],[]=>true
 | p::ps,q::qs=>decide (p.1=q.1) && eqT p.2 q.2 && sameB ps qs
 | _,_=>false
theorem sameB_iff:∀ {a b:TyM},sameB a b=true↔a=b
 | [],[]=>by simp [sameB]
 | p::ps,q::qs=>by
  simp only [sameB,Bool.and_eq_true,decide_eq_true_eq,eqT_iff,sameB_iff,List.cons.injEq,Prod.ext_iff]
 | [],_::_=>by simp [sameB]
 | _::_,[]=>by simp [sameB]
theorem sameB_false {a b:TyM}:sameB a b=false↔a≠b:=by rw [←Bool.not_eq_true,sameB_iff]
set_option maxRecDepth 10000 in
theorem sameBinds_c (a b:TyM) (ha:∀ p∈a,p.2.cnt < 4611686018427387904) (hl:a.length < 4611686018427387904) (H:AHeap):ACalls Tryz.prog 31 [.slice (a.map bindC) none,.slice (b.map bindC) none] H (boolV (sameB a b)) H:=by
 refine acalls_walk (fun _=>.imm) [0,1,4,5,10,14,41] Tryz.mixed Tryz.func31 rfl rfl rfl (by decide) (fun hcl hlow=>?_)
 refine awp_sr fun K hK=>?_;simp;apply hK;clear hK K
 by_cases hlen:a.length=b.length
 rotate_left
 ·repeat with_reducible refine awp_assoc ?_
  refine awp_sr fun K hK=>?_;simp [show ¬ (a.length:Int)=b.length by omega];apply hK;clear hK K;refine awp_seq_k fun K hK=>?_;refine awp_condT rfl (by simp [show ¬ (a.length:Int)=b.length by omega]) ?_;refine awp_sr fun K hK=>?_;simp;apply hK;clear hK K
  have e:sameB a b=false:=by rw [sameB_false];rintro rfl;exact hlen rfl
  simp [e,reset_all hcl]
 repeat with_reducible refine awp_assoc ?_
 refine awp_sr fun K hK=>?_;simp [hlen];apply hK;clear hK K;refine awp_seq_k fun K hK=>?_;refine awp_condF rfl (by simp [hlen]) ?_;refine awp_skip ?_;apply hK;clear hK K;repeat with_reducible refine awp_assoc ?_
 refine awp_sr fun K hK=>?_;simp;apply hK;clear hK K;refine awp_seq_k fun K hK=>?_;refine awp_block ?_
 refine awp_up a.length (fun k=>Env.ofL [(0,.slice (a.map bindC) none),(1,.slice (b.map bindC) none),(4,boolV false),(5,intV k)]) (fun k=>HL H []) (fun k=>a.take k=b.take k) (weak_HL hcl rfl ?_ ?_) ?_ (fun k hk hi=>?_) (fun hi=>?_)
 ·simp
 ·simp
 ·simp
 ·obtain ⟨x,hx⟩:∃ x,a[k]?=some x:=⟨_,List.getElem?_eq_getElem hk⟩
  obtain ⟨y,hy⟩:∃ y,b[k]?=some y:=⟨_,List.getElem?_eq_getElem (by omega)⟩
  have hc:=same_c x.2 y.2 (ha x (List.mem_of_getElem? hx))
  obtain ⟨xn,xt⟩:=x
  obtain ⟨yn,yt⟩:=y
  simp only [enc_eq] at hc;repeat with_reducible refine awp_assoc ?_
  refine awp_sr fun K hK=>?_;simp [hk];apply hK;clear hK K;refine awp_seq_k fun K hK=>?_;refine awp_condT rfl (by simp) ?_;refine awp_skip ?_;apply hK;clear hK K;refine awp_seq_k fun K hK=>?_;refine awp_block ?_
  by_cases hn:xn=yn
  rotate_left
  ·refine awp_sdc [] [[],[0],[],[],[],[0,1,2,3,4],[0,1,2,3,4,5],[0,1,2,3,4],[0,1,2,3,4],[0,1,2,3,4],[0,1,5,6],[0,1,2,5,6,7],[0,1,2,3,5,6,7,8],[0,1,2,3,5,6,7,8,12],[0,1,2,3,5,6,7,8],[0,1,2,3,5,6,7,8],[0,1,2,3,5,6,7,8],[0,1,2,3,5,6,7,8,12,13,14,15,16],[0,1,2,3,5,6,7,8,12,13,14,15,16,17],[0,1,2,3,5,6,7,8,12,13,14,15,16],[0,1,2,3,5,6,7,8,12,13,14,15,16],[0,1,2,3,5,6,7,8,12,13,14,15,16],[0,1,2,3,5,6,7,8,12,13,17,18],[0,1,2,3,5,6,7,8,12,13,14,17,18,19],[0,1,2,3,5,6,7,8,12,13,14,15,17,18,19,20]] (by kernel_rfl) (by rfl) fun K hK=>?_;refine aCalm_pre 6 (by rfl) fun K hK=>?_;simp [hx,hy,bindC];apply hK;clear hK K;refine aCalm_pre 6 (by rfl) fun K hK=>?_;simp [hx,hy,hn,bindC];apply hK;clear hK K;refine aCalm_pre 6 (by rfl) fun K hK=>?_;simp;apply hK;clear hK K;refine aCalm_pre 4 (by rfl) fun K hK=>?_;simp;apply hK;clear hK K;refine aCalm_skip rfl ?_;refine aCalm_pre 2 (by rfl) fun K hK=>?_;simp;apply hK;clear hK K;refine aCalm_end ?_;simp;apply hK;clear hK K;refine awp_condT rfl (by simp) ?_;refine awp_sr fun K hK=>?_;simp;apply hK;clear hK K
   have e:sameB a b=false:=by
    rw [sameB_false];rintro rfl
    rw [hx] at hy;simp at hy;exact hn hy.1
   simp [e,reset_all hcl]
  subst hn
  refine awp_sdc [] [[],[0],[],[],[],[0,1,2,3,4],[0,1,2,3,4,5],[0,1,2,3,4],[0,1,2,3,4],[0,1,2,3,4],[0,1,5,6],[0,1,2,5,6,7],[0,1,2,3,5,6,7,8],[0,1,2,3,5,6,7,8,12],[0,1,2,3,5,6,7,8],[0,1,2,3,5,6,7,8],[0,1,2,3,5,6,7,8],[0,1,2,3,5,6,7,8,12,13,14,15,16],[0,1,2,3,5,6,7,8,12,13,14,15,16,17],[0,1,2,3,5,6,7,8,12,13,14,15,16],[0,1,2,3,5,6,7,8,12,13,14,15,16],[0,1,2,3,5,6,7,8,12,13,14,15,16],[0,1,2,3,5,6,7,8,12,13,17,18],[0,1,2,3,5,6,7,8,12,13,14,17,18,19],[0,1,2,3,5,6,7,8,12,13,14,15,17,18,19,20]] (by kernel_rfl) (by rfl) fun K hK=>?_;refine aCalm_pre 6 (by rfl) fun K hK=>?_;simp [hx,hy,bindC];apply hK;clear hK K;refine aCalm_pre 6 (by rfl) fun K hK=>?_;simp [hx,hy,bindC];apply hK;clear hK K;refine aCalm_pre 6 (by rfl) fun K hK=>?_;simp [hx,hy,bindC,cells_eq];apply hK;clear hK K;refine aCalm_pre 4 (by rfl) fun K hK=>?_;simp [hx,hy,bindC,cells_eq];apply hK;clear hK K;refine aCalm_call0 (hc _) (by first | rfl | simp) rfl rfl rfl (by first | (simp;done) | rfl) ?_;refine aCalm_pre 2 (by rfl) fun K hK=>?_;simp;apply hK;clear hK K;refine aCalm_end ?_;simp;apply hK;clear hK K
  cases he:eqT xt yt
  ·refine awp_condT rfl (by simp [he]) ?_;refine awp_sr fun K hK=>?_;simp;apply hK;clear hK K
   have e:sameB a b=false:=by
    rw [sameB_false];rintro rfl
    rw [hx] at hy;simp at hy
    rw [eqT_false] at he;exact he hy
   simp [e,reset_all hcl]
  ·refine awp_condF rfl (by simp [he]) ?_;refine awp_skip ?_;apply hK;clear hK K;refine awp_region ?_;simp [wrap_succ (show k < 4611686018427387904 by omega)]
   refine ⟨?_,?_⟩
   ·rw [take_one hx,take_one hy,hi,(eqT_iff _ _).1 he]
   ·refine weak_HL hcl rfl (by simp) (by simp)
 ·repeat with_reducible refine awp_assoc ?_
  refine awp_sr fun K hK=>?_;simp;apply hK;clear hK K;refine awp_seq_k fun K hK=>?_;refine awp_condF rfl (by simp) ?_;refine awp_exit ?_;simp;clear hK K;apply hK;clear hK K;refine awp_sr fun K hK=>?_;simp;apply hK;clear hK K
  rw [List.take_length,hlen,List.take_length] at hi
  subst hi
  have e:sameB a a=true:=sameB_iff.2 rfl
  simp [e,reset_all hcl]
def kA:Ty:=.mk arrowN [.mk aS [],.mk listN [.mk aS []]]
def kB:Ty:=.mk arrowN [.mk intN [],.mk bS []]
def kL:TyM:=[(aS,.mk intN []),(bS,.mk listN [.mk intN []])]
set_option maxRecDepth 10000 in
theorem known_c (hk:URun kA kB kL 0) (H:AHeap):ACalls Tryz.prog 21 [] H (boolV true) H:=by
 have hu:=Unify_c kA kB kL 0 hk
 have hs:=sameBinds_c kL kL (by simp [kL,Ty.cnt,Ty.nodes,nodesL]) (by simp [kL])
 have e:sameB kL kL=true:=sameB_iff.2 rfl
 rw [e] at hs
 have s1:=small_c aS
 have s2:=small_c intN
 have s3:=small_c bS
 have l1:=list_c (.mk aS [])
 have l2:=list_c (.mk intN [])
 have f1:=fun_c (.mk aS []) (.mk listN [.mk aS []])
 have f2:=fun_c (.mk intN []) (.mk bS [])
 simp only [kA,kB,enc_mk] at hu;simp only [enc_mk] at s1 s2 s3 l1 l2 f1 f2
 have ek:kL.map bindC=[[strV aS,strV intN,.slice [] none],[strV bS,strV listN,.slice [[strV intN,.slice [] none]] none]]:=by simp [kL,bindC,cells_eq,Ty.name,Ty.args]
 simp only [ek] at hs hu
 refine acalls_walk (fun _=>.imm) [0,1,2,3] Tryz.mixed Tryz.func21 rfl rfl rfl (by decide) (fun hcl hlow=>?_)
 refine awp_sr fun K hK=>?_;simp;apply hK;clear hK K;refine awp_sr fun K hK=>?_;simp;apply hK;clear hK K;refine awp_sr fun K hK=>?_;refine aOps_call (s1 _) (by first | rfl | simp) rfl rfl (by first | (simp;done) | rfl) ?_;refine aOps_split 1 fun K hK=>?_;simp;apply hK;clear hK K;refine aOps_call (s1 _) (by first | rfl | simp) rfl rfl (by first | (simp;done) | rfl) ?_;refine aOps_call (l1 _) (by first | rfl | simp) rfl rfl (by first | (simp;done) | rfl) ?_;refine aOps_call (f1 _) (by first | rfl | simp) rfl rfl (by first | (simp;done) | rfl) ?_;refine aOps_call (s2 _) (by first | rfl | simp) rfl rfl (by first | (simp;done) | rfl) ?_;refine aOps_call (s3 _) (by first | rfl | simp) rfl rfl (by first | (simp;done) | rfl) ?_;refine aOps_call (f2 _) (by first | rfl | simp) rfl rfl (by first | (simp;done) | rfl) ?_;refine aOps_call (hu _) (by first | rfl | simp) rfl rfl (by first | (simp;done) | rfl) ?_;simp;apply hK;clear hK K;refine awp_sr fun K hK=>?_;refine aOps_split 4 fun K hK=>?_;simp;apply hK;clear hK K;refine aOps_call (s2 _) (by first | rfl | simp) rfl rfl (by first | (simp;done) | rfl) ?_;refine aOps_split 2 fun K hK=>?_;simp;apply hK;clear hK K;refine aOps_call (s2 _) (by first | rfl | simp) rfl rfl (by first | (simp;done) | rfl) ?_;refine aOps_call (l2 _) (by first | rfl | simp) rfl rfl (by first | (simp;done) | rfl) ?_;refine aOps_split 2 fun K hK=>?_;simp [cells_eq];apply hK;clear hK K;refine aOps_callW (hs _) (by first | rfl | simp) rfl rfl ⟨.refl _,Wk.tok _ _,trivial⟩ ?_;simp;apply hK;clear hK K;simp [reset_all hcl]
theorem URun_len {a b:Ty} {m:TyM} {e:Int} (h:URun a b m e):m.length≤1000000:=by
 rcases h with h | ⟨h0,f,rb,c,h1,h2,h3⟩
 ·rw [h.2.1];simp
 ·cases rb
  ·rw [(h2 rfl).1];simp
  ·obtain ⟨lb,_,h4,h5⟩:=h3 rfl
   cases lb
   ·obtain ⟨g,x,n,_,h6,h7⟩:=h5 rfl
    by_cases hx:200 < n∨x.large=true
    ·rw [(h6 hx).1];simp
    ·obtain ⟨⟨T,W,g,N,h8,_,_,_,rfl⟩,_⟩:=h7 hx
     rw [(sortM_perm _).length_eq,List.length_map]
     exact Nat.le_trans (List.length_filter_le _ _) (by simpa using h8)
   ·rw [(h4 rfl).1];simp
theorem applyV_cnt {l:TyM} {t:Ty} (h:(applyV l t).2=0):(applyV l t).1.cnt≤200:=by
 unfold applyV at h ⊢
 split at h
 ·rename_i h1
  rw [if_pos h1]
  split at h
  ·rename_i h2
   rw [if_pos h2]
   split at h
   ·cases h
   ·rename_i h3
    rw [if_neg h3]
    exact large_cnt (by simpa using h3)
  ·rename_i h2;exact absurd h h2
 ·rename_i h1;exact absurd h h1
end Go.Proofs.YtgeehnbbhnpimaaGreat
