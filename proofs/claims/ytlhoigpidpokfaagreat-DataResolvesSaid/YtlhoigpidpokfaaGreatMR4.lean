/- The program: Resolve. -/
import Derived.Test.YtlhoigpidpokfaaGreatMR1
import Derived.Test.YtlhoigpidpokfaaGreatME7
set_option linter.unusedVariables false
set_option linter.unusedSimpArgs false
namespace Go.Proofs.YtlhoigpidpokfaaGreat
open Go Go.Abs Go.Proofs
set_option maxRecDepth 20000
attribute [local simp] aOps wantedA aStep aop aLoad aStore aBin aUn aFieldAddr aField aIndexAddr aIndex aLen aBuild aFill aAlloc aAppend aAppendOwn aMin aMax aBuildSlice litRows newRows isMut isOwn isNilS nilsW bytesR tokW tokAV tokL ret readC splice aeval isLit isLate isCut aCut AV.celled AV.one AV.ofValue Value.oneCell' Value.cells intOp strOp get_nid upd_nid awp aEnd aResults aResult Det unord isCall isNext
attribute [local simp] low_take low_strs low_comp low_tcomp wkEs_refl' WkBs WkEnv WkB WkL WkE WkO ABlock.low lowO lowL lowR AV.low cellsL_eq Ty.low low_map Ty.cells_length Ty.cells_one
attribute [local simp] ConD.cells Dat.cells PredD.cells SigD.cells ClsD.cells InstD.cells DeclsD.cells DeclsD.enc Dat.enc low_datL low_conL low_predL low_sigL low_clsL low_instL
noncomputable def noneP (d:DeclsD) (p:PredD):Bool:=decide (classI d.classes p.cls < 0) || decide (kindsV d 4 p.t≠0)
noncomputable def fitP (d:DeclsD) (p:PredD):Bool:=decide (kindsV d 8 p.t≠0)
noncomputable def resE (d:DeclsD) (l:List PredD):Int :=
 if validD d≠0 then validD d else if 64 < l.length then 3 else if allV (l.map (·.t))≠0 then allV (l.map (·.t)) else if l.any (noneP d)=true then 4 else if l.any (fitP d)=true then 8 else 0
def redA (d:DeclsD) (f:Nat) (l:List PredD):Nat→Option (Bool × FM)
 | 0=>some (true,[])
 | k+1=>match redA d f l k with
  | none=>none
  | some (false,m)=>some (false,m)
  | some (true,m)=>match l[k]? with
   | none=>none
   | some p=>redF d f p.cls p.t m
theorem redA_le {d:DeclsD} {f:Nat} {l:List PredD}:∀ {n:Nat} {q:Bool × FM},redA d f l n=some q→∀ k,k≤n→∃ q',redA d f l k=some q'∧(q'.1=false→q'=q)
 | 0,q,h,k,hk=>⟨q,by rw [show k=0 by omega];exact h,fun _=>rfl⟩
 | n+1,q,h,k,hk=>by
  by_cases e:k=n+1
  ·exact ⟨q,by rw [e];exact h,fun _=>rfl⟩
  ·cases h2:redA d f l n with
   | none=>simp only [redA,h2] at h;cases h
   | some q2 =>
    obtain ⟨q',h3,h4⟩:=redA_le h2 k (by omega)
    refine ⟨q',h3,fun hf=>?_⟩
    have h5:=h4 hf
    subst h5
    obtain ⟨b,m1⟩:=q'
    simp only at hf
    subst hf
    simp only [redA,h2,Option.some.injEq] at h
    exact h
noncomputable def resV (d:DeclsD) (l:List PredD) (r:Bool × FM):List VP × Int:=if resE d l≠0 then ([],resE d l) else if r.1=false then ([],7) else (leastP d (r.2.map (·.2)),0)
theorem allV_take {l:List Ty} (h:allV l≠0):∃ k t,l[k]?=some t∧t.valid=allV l∧∀ u∈l.take k,u.valid=0:=by
 induction l with
 | nil=>exact absurd rfl h
 | cons t l ih =>
  simp only [allV] at h ⊢
  split at h
  ·rename_i h0
   rw [if_pos h0]
   obtain ⟨k,u,h1,h2,h3⟩:=ih h
   refine ⟨k+1,u,by simpa using h1,h2,fun w hw=>?_⟩
   simp only [List.take_succ_cons,List.mem_cons] at hw
   rcases hw with rfl | hw
   ·exact h0
   ·exact h3 w hw
  ·rename_i h0
   rw [if_neg h0]
   exact ⟨0,t,rfl,rfl,by simp⟩
set_option maxHeartbeats 4000000 in
theorem dResolve_c (d:DeclsD) (hr:RawD d) (hsort:SortOk) (l:List PredD) (hl:l.length < 4611686018427387904) (r:Bool × FM) (f:Nat) (hrun:resE d l=0→redA d f l l.length=some r∧(r.1=true→r.2.length < 1000000000∧(r.2.map (·.2)).Nodup)) (H:AHeap) :
  ACalls Tryz.prog 4 [d.enc,.slice (l.map PredD.cells) none] H (.tuple [.slice ((resV d l r).1.map fun p=>(vpP p).cells) none,intV (resV d l r).2]) H:=by
 have hv:=dValidate_c d hr
 have hvt:=fun (p:PredD)=>validate_c p.t
 have hcc:=fun (h:validD d=0)=>class_c d (by have:=(largeB_le (valid0 h).lg).2.1;omega)
 have hk4:=fun (h:validD d=0) (t:Ty) (h2:t.valid=0)=>kinds_c d (by have:=(largeB_le (valid0 h).lg).1;omega) t (by have:=valid_cnt2 h2;omega)
 have hred:validD d=0→RedD d:=fun h=>⟨by have:=(largeB_le (valid0 h).lg).1;omega,by have:=(largeB_le (valid0 h).lg).2.2.1;omega,fun n=>by
  rcases named_in' d n with h1 | h1 | h1
  ·exact (allD_bounds hr).2 _ h1
  ·rw [h1];simp
  ·rw [h1];simp [zeroDat],hr.preds⟩
 have hrd:=fun (h:validD d=0) (mi:Nat)=>dReduce_c d (hred h) mi f
 have hls:=fun (h:validD d=0)=>dLeast_c d (clsOk_of hr (valid0 h).lg (valid0 h).no) hsort
 have eE:resE d l=if validD d≠0 then validD d else if 64 < l.length then 3 else if allV (l.map (·.t))≠0 then allV (l.map (·.t)) else if l.any (noneP d)=true then 4 else if l.any (fitP d)=true then 8 else 0:=rfl
 have eV:resV d l r=if resE d l≠0 then ([],resE d l) else if r.1=false then ([],7) else (leastP d (r.2.map (·.2)),0):=rfl
 generalize resV d l r=rv at eV ⊢
 generalize resE d l=re at *
 clear hred
 refine acalls_walk (fun d=>if d=38 then .lit else .imm) [0,1,2,4,5,6,8,9,11,13,14,16,20,24,25,26,27,28,35,38,39,40,41,44,45,46,47,66,71,72,73,74,81] Tryz.mixed Tryz.func4 rfl rfl rfl (by decide) (fun hcl hlow=>?_)
 repeat with_reducible refine awp_assoc ?_
 refine awp_sr fun K hK=>?_
 simp
 refine hK _ _ ?_
 clear hK K
 repeat with_reducible refine awp_assoc ?_
 refine awp_sr fun K hK=>?_
 refine aOps_split 1 fun K hK=>?_
 simp
 refine hK _ _ ?_
 clear hK K
 refine aOps_call (hv _) (by first | rfl | simp) rfl rfl (by first | (simp;done) | rfl) ?_
 simp
 refine hK _ _ ?_
 clear hK K
 by_cases h0:validD d=0
 rotate_left
 ·rw [if_pos h0] at eE
  rw [eE,if_pos h0] at eV
  repeat with_reducible refine awp_assoc ?_
  refine awp_sr fun K hK=>?_
  simp [h0]
  refine hK _ _ ?_
  clear hK K
  repeat with_reducible refine awp_assoc ?_
  refine awp_seq_k fun K hK=>?_
  refine awp_condT rfl (by simp [h0]) ?_
  repeat with_reducible refine awp_assoc ?_
  refine awp_sr fun K hK=>?_
  simp
  refine hK _ _ ?_
  clear hK K
  rw [eV]
  simp [reset_all hcl]
  exact Wk.tuple ⟨Wk.nilSlice,.refl _,trivial⟩
 rw [if_neg (by simpa using h0)] at eE
 have hcc2:=hcc h0
 have hk42:=hk4 h0
 have hrd2:=hrd h0
 have hls2:=hls h0
 clear hcc hk4 hrd hls hv
 repeat with_reducible refine awp_assoc ?_
 refine awp_sr fun K hK=>?_
 simp [h0]
 refine hK _ _ ?_
 clear hK K
 repeat with_reducible refine awp_assoc ?_
 refine awp_seq_k fun K hK=>?_
 refine awp_condF rfl (by simp [h0]) ?_
 refine awp_skip ?_
 refine hK _ _ ?_
 clear hK K
 by_cases hlen:64 < l.length
 ·have hlen':(64:Int) < l.length:=by omega
  rw [if_pos hlen] at eE
  rw [eE] at eV
  repeat with_reducible refine awp_assoc ?_
  refine awp_sr fun K hK=>?_
  simp [hlen']
  refine hK _ _ ?_
  clear hK K
  repeat with_reducible refine awp_assoc ?_
  refine awp_seq_k fun K hK=>?_
  refine awp_condT rfl (by simp [hlen']) ?_
  repeat with_reducible refine awp_assoc ?_
  refine awp_sr fun K hK=>?_
  simp
  refine hK _ _ ?_
  clear hK K
  rw [eV]
  simp [reset_all hcl]
  exact Wk.tuple ⟨Wk.nilSlice,.refl _,trivial⟩
 rw [if_neg hlen] at eE
 have hlen':¬ (64:Int) < l.length:=by omega
 repeat with_reducible refine awp_assoc ?_
 refine awp_sr fun K hK=>?_
 simp [hlen']
 refine hK _ _ ?_
 clear hK K
 repeat with_reducible refine awp_assoc ?_
 refine awp_seq_k fun K hK=>?_
 refine awp_condF rfl (by simp [hlen']) ?_
 refine awp_skip ?_
 refine hK _ _ ?_
 clear hK K
 repeat with_reducible refine awp_assoc ?_
 refine awp_sr fun K hK=>?_
 simp
 refine hK _ _ ?_
 clear hK K
 refine awp_seq_k fun KO hKO=>?_
 refine awp_block ?_
 refine awp_up l.length (fun k=>Env.ofL [(1,.slice (l.map PredD.cells) none),(2,.ref (nid H.next 0) 0),(25,.slice (l.map PredD.cells) none),(26,intV (l.length:Int)),(27,intV k)]) (fun k=>HL H [.cells [.slice (d.datas.map Dat.cells) none,.slice (d.classes.map ClsD.cells) none,.slice (d.insts.map InstD.cells) none]]) (fun k=>∀ u∈(l.map (·.t)).take k,u.valid=0) (weak_HL hcl rfl (by simp) (by simp)) (by simp) (fun k hk hvk=>?_) (fun hvk=>?_)
 ·obtain ⟨p,hp⟩:∃ p,l[k]?=some p:=⟨_,List.getElem?_eq_getElem hk⟩
  have hp1:(l.map (·.t))[k]?=some p.t:=by rw [List.getElem?_map,hp];rfl
  have hvp:=hvt p
  obtain ⟨pc,⟨pn,pl⟩⟩:=p
  simp only [enc_mk] at hvp hp1
  repeat with_reducible refine awp_assoc ?_
  refine awp_sr fun K hK=>?_
  simp [hk]
  refine hK _ _ ?_
  clear hK K
  repeat with_reducible refine awp_assoc ?_
  refine awp_seq_k fun K hK=>?_
  refine awp_condT rfl (by simp) ?_
  refine awp_skip ?_
  refine hK _ _ ?_
  clear hK K
  refine awp_seq_k fun KB hKB=>?_
  refine awp_block ?_
  repeat with_reducible refine awp_assoc ?_
  refine awp_sr fun K hK=>?_
  simp [hp,Ty.name,Ty.args]
  refine hK _ _ ?_
  clear hK K
  repeat with_reducible refine awp_assoc ?_
  refine awp_sr fun K hK=>?_
  refine aOps_split 2 fun K hK=>?_
  simp
  refine hK _ _ ?_
  clear hK K
  refine aOps_call (hvp _) (by first | rfl | simp) rfl rfl (by first | (simp;done) | rfl) ?_
  simp
  refine hK _ _ ?_
  clear hK K
  by_cases hpv:(Ty.mk pn pl).valid=0
  ·repeat with_reducible refine awp_assoc ?_
   refine awp_sr fun K hK=>?_
   simp [hpv]
   refine hK _ _ ?_
   clear hK K
   refine awp_condF rfl (by simp [hpv]) ?_
   refine awp_skip ?_
   refine hKB _ _ ?_
   clear hKB
   refine awp_region ?_
   simp [wrap_succ (show k < 4611686018427387904 by omega)]
   refine ⟨?_,weak_HL hcl rfl (by simp) (by simp)⟩
   have:=take_all (p:=fun u:Ty=>u.valid=0) hp1 hpv hvk
   simpa using this
  ·have hav:allV (l.map (·.t))=(Ty.mk pn pl).valid:=by
    have hne:allV (l.map (·.t))≠0:=fun h=>hpv (allV_mem h _ (List.mem_of_getElem? hp1))
    obtain ⟨k2,t2,h1,h2,h3⟩:=allV_take hne
    have:k2=k:=by
     rcases Nat.lt_trichotomy k2 k with h | h | h
     ·have:=hvk t2 (mem_takeI h h1)
      rw [this] at h2;exact absurd h2.symm hne
     ·exact h
     ·exact absurd (h3 _ (mem_takeI h hp1)) hpv
    subst this
    rw [hp1] at h1
    simp only [Option.some.injEq] at h1
    rw [←h1] at h2
    exact h2.symm
   rw [hav,if_pos hpv] at eE
   rw [eE,if_pos hpv] at eV
   repeat with_reducible refine awp_assoc ?_
   refine awp_sr fun K hK=>?_
   simp [hpv]
   refine hK _ _ ?_
   clear hK K
   refine awp_condT rfl (by simp [hpv]) ?_
   repeat with_reducible refine awp_assoc ?_
   refine awp_sr fun K hK=>?_
   simp
   refine hK _ _ ?_
   clear hK K
   rw [eV]
   simp [reset_all hcl]
   exact Wk.tuple ⟨Wk.nilSlice,.refl _,trivial⟩
 have hav:∀ p∈l,p.t.valid=0:=fun p hp=>hvk p.t (by
  rw [List.take_of_length_le (by simp)]
  exact List.mem_map_of_mem hp)
 have hav0:allV (l.map (·.t))=0:=by
  refine Classical.byContradiction fun hne=>?_
  obtain ⟨k,t,h1,h2,_⟩:=allV_take hne
  rw [List.getElem?_map,Option.map_eq_some_iff] at h1
  obtain ⟨p,h3,rfl⟩:=h1
  rw [hav p (List.mem_of_getElem? h3)] at h2
  exact hne h2.symm
 rw [if_neg (by simpa using hav0)] at eE
 clear hvk hav0 hvt
 repeat with_reducible refine awp_assoc ?_
 refine awp_sr fun K hK=>?_
 simp
 refine hK _ _ ?_
 clear hK K
 repeat with_reducible refine awp_assoc ?_
 refine awp_seq_k fun K hK=>?_
 refine awp_condF rfl (by simp) ?_
 refine awp_exit ?_
 simp
 refine hKO _ _ ?_
 clear hK K hKO
 repeat with_reducible refine awp_assoc ?_
 refine awp_sr fun K hK=>?_
 simp
 refine hK _ _ ?_
 clear hK K
 refine awp_seq_k fun KO hKO=>?_
 refine awp_block ?_
 refine awp_up 2 (fun k=>Env.ofL [(1,.slice (l.map PredD.cells) none),(2,.ref (nid H.next 0) 0),(38,.slice [[intV 4],[intV 8]] none),(39,intV 2),(40,intV k)]) (fun k=>HL H [.cells [.slice (d.datas.map Dat.cells) none,.slice (d.classes.map ClsD.cells) none,.slice (d.insts.map InstD.cells) none]]) (fun k=>(1≤k→l.any (noneP d)=false)∧(2≤k→l.any (fitP d)=false)) (weak_HL hcl rfl (by simp) (by simp)) (by simp) (fun k hk hvk=>?_) (fun hvk=>?_)
 ·have hk2:k=0∨k=1:=by omega
  rcases hk2 with rfl | rfl
  ·clear hvk hk
   repeat with_reducible refine awp_assoc ?_
   refine awp_sr fun K hK=>?_
   simp
   refine hK _ _ ?_
   clear hK K
   repeat with_reducible refine awp_assoc ?_
   refine awp_seq_k fun K hK=>?_
   refine awp_condT rfl (by simp) ?_
   refine awp_skip ?_
   refine hK _ _ ?_
   clear hK K
   refine awp_seq_k fun KB hKB=>?_
   refine awp_block ?_
   repeat with_reducible refine awp_assoc ?_
   refine awp_sr fun K hK=>?_
   simp
   refine hK _ _ ?_
   clear hK K
   repeat with_reducible refine awp_assoc ?_
   refine awp_sr fun K hK=>?_
   simp
   refine hK _ _ ?_
   clear hK K
   refine awp_hide fun Q hQ=>?_
   refine awp_block ?_
   refine awp_up l.length (fun j=>Env.ofL [(1,.slice (l.map PredD.cells) none),(2,.ref (nid H.next 0) 0),(11,intV 4),(38,.slice [[intV 4],[intV 8]] none),(39,intV 2),(40,intV 0),(44,.slice (l.map PredD.cells) none),(45,intV (l.length:Int)),(46,intV j)]) (fun j=>HL H [.cells [.slice (d.datas.map Dat.cells) none,.slice (d.classes.map ClsD.cells) none,.slice (d.insts.map InstD.cells) none]]) (fun j=>(l.take j).any (noneP d)=false) (weak_HL hcl rfl (by simp) (by simp)) (by simp) (fun j hj hvj=>?_) (fun hvj=>?_)
   ·obtain ⟨p,hp⟩:∃ p,l[j]?=some p:=⟨_,List.getElem?_eq_getElem hj⟩
    have hbp:=any_at (p:=noneP d) hp
    have hms:=miss (p:=noneP d) hp hvj
    have hc1:=hcc2 p.cls
    have hc2:=hk42 p.t (hav p (List.mem_of_getElem? hp)) 4
    have en:noneP d p=(decide (classI d.classes p.cls < 0) || decide (kindsV d 4 p.t≠0)):=rfl
    generalize noneP d p=np at *
    generalize classI d.classes p.cls=ci at *
    generalize kindsV d 4 p.t=kv at *
    obtain ⟨pc,⟨pn,pl⟩⟩:=p
    simp only [enc_mk] at hc1 hc2
    repeat with_reducible refine awp_assoc ?_
    refine awp_sr fun K hK=>?_
    simp [hj]
    refine hK _ _ ?_
    clear hK K
    repeat with_reducible refine awp_assoc ?_
    refine awp_seq_k fun K hK=>?_
    refine awp_condT rfl (by simp) ?_
    refine awp_skip ?_
    refine hK _ _ ?_
    clear hK K
    refine awp_seq_k fun KC hKC=>?_
    refine awp_block ?_
    repeat with_reducible refine awp_assoc ?_
    refine awp_sr fun K hK=>?_
    simp [hp,Ty.name,Ty.args]
    refine hK _ _ ?_
    clear hK K
    repeat with_reducible refine awp_assoc ?_
    refine awp_sr fun K hK=>?_
    refine aOps_split 6 fun K hK=>?_
    simp
    refine hK _ _ ?_
    clear hK K
    refine aOps_call (hc1 _) (by first | rfl | simp) rfl rfl (by first | (simp;done) | rfl) ?_
    by_cases hci:ci < 0
    ·refine aOps_split 6 fun K hK=>?_
     simp [hci]
     refine hK _ _ ?_
     clear hK K
     simp [hci]
     refine hK _ _ ?_
     clear hK K
     refine awp_condT rfl (by simp) ?_
     repeat with_reducible refine awp_assoc ?_
     refine awp_sr fun K hK=>?_
     simp
     refine hK _ _ ?_
     clear hK K
     refine hQ _ _ _ ?_
     rw [if_pos (hbp (by rw [en];simp [hci]))] at eE
     rw [eE] at eV
     rw [eV]
     simp [reset_all hcl]
     exact Wk.tuple ⟨Wk.nilSlice,.refl _,trivial⟩
    ·refine aOps_split 6 fun K hK=>?_
     simp [hci]
     refine hK _ _ ?_
     clear hK K
     refine aOps_split 1 fun K hK=>?_
     simp [hci]
     refine hK _ _ ?_
     clear hK K
     refine aOps_call (hc2 _) (by first | rfl | simp) rfl rfl (by first | (simp;done) | rfl) ?_
     by_cases hkv:kv=0
     ·simp [hkv]
      refine hK _ _ ?_
      clear hK K
      refine awp_condF rfl (by simp [hkv]) ?_
      refine awp_skip ?_
      refine hKC _ _ ?_
      clear hKC
      refine awp_region ?_
      simp [wrap_succ (show j < 4611686018427387904 by omega)]
      refine ⟨?_,weak_HL hcl rfl (by simp) (by simp)⟩
      simpa using hms (by rw [en];simp [hci,hkv])
     ·simp [hkv]
      refine hK _ _ ?_
      clear hK K
      refine awp_condT rfl (by simp [hkv]) ?_
      repeat with_reducible refine awp_assoc ?_
      refine awp_sr fun K hK=>?_
      simp
      refine hK _ _ ?_
      clear hK K
      refine hQ _ _ _ ?_
      rw [if_pos (hbp (by rw [en];simp [hkv]))] at eE
      rw [eE] at eV
      rw [eV]
      simp [reset_all hcl]
      exact Wk.tuple ⟨Wk.nilSlice,.refl _,trivial⟩
   ·rw [List.take_length] at hvj
    repeat with_reducible refine awp_assoc ?_
    refine awp_sr fun K hK=>?_
    simp
    refine hK _ _ ?_
    clear hK K
    repeat with_reducible refine awp_assoc ?_
    refine awp_seq_k fun K hK=>?_
    refine awp_condF rfl (by simp) ?_
    refine awp_exit ?_
    simp
    refine hQ _ _ _ ?_
    refine hKB _ _ ?_
    clear hKB
    refine awp_region ?_
    simp [wrap_succ (show (0:Nat) < 4611686018427387904 by omega)]
    exact ⟨by simpa using hvj,weak_HL hcl rfl (by simp) (by simp [show IntKind.i64.wrap 1=1 from wrap64 (by omega) (by omega)])⟩
  ·have hno:=hvk.1 (by omega)
   rw [if_neg (by rw [hno];decide)] at eE
   clear hvk hk
   repeat with_reducible refine awp_assoc ?_
   refine awp_sr fun K hK=>?_
   simp
   refine hK _ _ ?_
   clear hK K
   repeat with_reducible refine awp_assoc ?_
   refine awp_seq_k fun K hK=>?_
   refine awp_condT rfl (by simp) ?_
   refine awp_skip ?_
   refine hK _ _ ?_
   clear hK K
   refine awp_seq_k fun KB hKB=>?_
   refine awp_block ?_
   repeat with_reducible refine awp_assoc ?_
   refine awp_sr fun K hK=>?_
   simp
   refine hK _ _ ?_
   clear hK K
   repeat with_reducible refine awp_assoc ?_
   refine awp_sr fun K hK=>?_
   simp
   refine hK _ _ ?_
   clear hK K
   refine awp_hide fun Q hQ=>?_
   refine awp_block ?_
   refine awp_up l.length (fun j=>Env.ofL [(1,.slice (l.map PredD.cells) none),(2,.ref (nid H.next 0) 0),(11,intV 8),(38,.slice [[intV 4],[intV 8]] none),(39,intV 2),(40,intV 1),(44,.slice (l.map PredD.cells) none),(45,intV (l.length:Int)),(46,intV j)]) (fun j=>HL H [.cells [.slice (d.datas.map Dat.cells) none,.slice (d.classes.map ClsD.cells) none,.slice (d.insts.map InstD.cells) none]]) (fun j=>(l.take j).any (fitP d)=false) (weak_HL hcl rfl (by simp) (by simp)) (by simp) (fun j hj hvj=>?_) (fun hvj=>?_)
   ·obtain ⟨p,hp⟩:∃ p,l[j]?=some p:=⟨_,List.getElem?_eq_getElem hj⟩
    have hbp:=any_at (p:=fitP d) hp
    have hms:=miss (p:=fitP d) hp hvj
    have hc2:=hk42 p.t (hav p (List.mem_of_getElem? hp)) 8
    have en:fitP d p=decide (kindsV d 8 p.t≠0):=rfl
    generalize fitP d p=np at *
    generalize kindsV d 8 p.t=kv at *
    obtain ⟨pc,⟨pn,pl⟩⟩:=p
    simp only [enc_mk] at hc2
    repeat with_reducible refine awp_assoc ?_
    refine awp_sr fun K hK=>?_
    simp [hj]
    refine hK _ _ ?_
    clear hK K
    repeat with_reducible refine awp_assoc ?_
    refine awp_seq_k fun K hK=>?_
    refine awp_condT rfl (by simp) ?_
    refine awp_skip ?_
    refine hK _ _ ?_
    clear hK K
    refine awp_seq_k fun KC hKC=>?_
    refine awp_block ?_
    repeat with_reducible refine awp_assoc ?_
    refine awp_sr fun K hK=>?_
    simp [hp,Ty.name,Ty.args]
    refine hK _ _ ?_
    clear hK K
    repeat with_reducible refine awp_assoc ?_
    refine awp_sr fun K hK=>?_
    refine aOps_split 7 fun K hK=>?_
    simp
    refine hK _ _ ?_
    clear hK K
    refine aOps_split 7 fun K hK=>?_
    simp
    refine hK _ _ ?_
    clear hK K
    refine aOps_call (hc2 _) (by first | rfl | simp) rfl rfl (by first | (simp;done) | rfl) ?_
    by_cases hkv:kv=0
    ·simp [hkv]
     refine hK _ _ ?_
     clear hK K
     refine awp_condF rfl (by simp [hkv]) ?_
     refine awp_skip ?_
     refine hKC _ _ ?_
     clear hKC
     refine awp_region ?_
     simp [wrap_succ (show j < 4611686018427387904 by omega)]
     refine ⟨?_,weak_HL hcl rfl (by simp) (by simp)⟩
     simpa using hms (by rw [en];simp [hkv])
    ·simp [hkv]
     refine hK _ _ ?_
     clear hK K
     refine awp_condT rfl (by simp [hkv]) ?_
     repeat with_reducible refine awp_assoc ?_
     refine awp_sr fun K hK=>?_
     simp
     refine hK _ _ ?_
     clear hK K
     refine hQ _ _ _ ?_
     rw [if_pos (hbp (by rw [en];simp [hkv]))] at eE
     rw [eE] at eV
     rw [eV]
     simp [reset_all hcl]
     exact Wk.tuple ⟨Wk.nilSlice,.refl _,trivial⟩
   ·rw [List.take_length] at hvj
    repeat with_reducible refine awp_assoc ?_
    refine awp_sr fun K hK=>?_
    simp
    refine hK _ _ ?_
    clear hK K
    repeat with_reducible refine awp_assoc ?_
    refine awp_seq_k fun K hK=>?_
    refine awp_condF rfl (by simp) ?_
    refine awp_exit ?_
    simp
    refine hQ _ _ _ ?_
    refine hKB _ _ ?_
    clear hKB
    refine awp_region ?_
    simp [wrap_succ (show (1:Nat) < 4611686018427387904 by omega)]
    exact ⟨⟨by simpa using hno,by simpa using hvj⟩,weak_HL hcl rfl (by simp) (by simp [show IntKind.i64.wrap 2=2 from wrap64 (by omega) (by omega)])⟩
 have hno:=hvk.1 (by omega)
 have hfi:=hvk.2 (by omega)
 rw [if_neg (by rw [hno];decide),if_neg (by rw [hfi];decide)] at eE
 obtain ⟨hra,hrb⟩:=hrun eE
 rw [eE] at eV
 simp only [ne_eq,not_true_eq_false,if_false] at eV
 clear hvk hno hfi hrun eE hcc2 hk42 hav
 repeat with_reducible refine awp_assoc ?_
 refine awp_sr fun K hK=>?_
 simp
 refine hK _ _ ?_
 clear hK K
 repeat with_reducible refine awp_assoc ?_
 refine awp_seq_k fun K hK=>?_
 refine awp_condF rfl (by simp) ?_
 refine awp_exit ?_
 simp
 refine hKO _ _ ?_
 clear hK K hKO
 repeat with_reducible refine awp_assoc ?_
 refine awp_sr fun K hK=>?_
 simp
 refine hK _ _ ?_
 clear hK K
 repeat with_reducible refine awp_assoc ?_
 refine awp_sr fun K hK=>?_
 simp
 refine hK _ _ ?_
 clear hK K
 have hpre:=fun k hk=>redA_le hra k hk
 have hstep:∀ k,redA d f l (k+1)=match redA d f l k with
  | none=>none
  | some (false,m)=>some (false,m)
  | some (true,m)=>match l[k]? with
   | none=>none
   | some p=>redF d f p.cls p.t m:=fun k=>by first | (rw [redA];done) | (rw [redA];rfl)
 have h00:redA d f l 0=some (true,[]):=by rw [redA]
 generalize redA d f l=rk at *
 obtain ⟨st,hst⟩:∃ st:Nat→FM,∀ k,st k=((rk k).getD (true,[])).2:=⟨_,fun _=>rfl⟩
 have hst0:st 0=[]:=by rw [hst,h00];rfl
 have hfu:∀ (m m':FM) (bs:List ABlock),(HL H (.cells [.slice (d.datas.map Dat.cells) none,.slice (d.classes.map ClsD.cells) none,.slice (d.insts.map InstD.cells) none]::.amap (fmEs m) m.length::bs)).upd (nid H.next 1) (.amap (fmEs m') m'.length)=HL H (.cells [.slice (d.datas.map Dat.cells) none,.slice (d.classes.map ClsD.cells) none,.slice (d.insts.map InstD.cells) none]::.amap (fmEs m') m'.length::bs):=fun m m' bs=>by
  rw [upd_nid rfl (by simp)];rfl
 refine awp_seq_k fun KO hKO=>?_
 refine awp_block ?_
 refine awp_up l.length (fun k=>Env.ofL [(2,.ref (nid H.next 0) 0),(14,.map (nid H.next 1)),(71,.slice (l.map PredD.cells) none),(72,intV (l.length:Int)),(73,intV k)]) (fun k=>HL H [.cells [.slice (d.datas.map Dat.cells) none,.slice (d.classes.map ClsD.cells) none,.slice (d.insts.map InstD.cells) none],.amap (fmEs (st k)) (st k).length]) (fun k=>rk k=some (true,st k)) ?_ (by rw [h00,hst0]) (fun k hk hvk=>?_) (fun hvk=>?_)
 ·rw [hst0]
  exact weak_HL hcl rfl (by simp [fmEs,lowEs,WkEs]) (by simp)
 ·obtain ⟨p,hp⟩:∃ p,l[k]?=some p:=⟨_,List.getElem?_eq_getElem hk⟩
  obtain ⟨r1,hr1,hr1f⟩:=hpre (k+1) (by omega)
  have hs1:=hst (k+1)
  rw [hr1] at hs1
  simp only [Option.getD_some] at hs1
  have hr2:=hr1
  rw [hstep,hvk,hp] at hr2
  simp only at hr2
  have hc:=hrd2 (nid H.next 1) p.cls p.t (st k) r1 hr2 (HL H [.cells [.slice (d.datas.map Dat.cells) none,.slice (d.classes.map ClsD.cells) none,.slice (d.insts.map InstD.cells) none],.amap (fmEs (st k)) (st k).length,.cells [strV p.cls,strV p.t.name,.slice (p.t.args.map Ty.cells) none]]) (by rw [get_nid rfl];rfl)
  unfold fH at hc
  rw [hfu] at hc
  obtain ⟨b1,m1⟩:=r1
  simp only at hs1 hr1f hc
  rw [←hs1] at hc
  obtain ⟨pc,⟨pn,pl⟩⟩:=p
  simp only [Ty.name,Ty.args] at hc
  repeat with_reducible refine awp_assoc ?_
  refine awp_sr fun K hK=>?_
  simp [hk]
  refine hK _ _ ?_
  clear hK K
  repeat with_reducible refine awp_assoc ?_
  refine awp_seq_k fun K hK=>?_
  refine awp_condT rfl (by simp) ?_
  refine awp_skip ?_
  refine hK _ _ ?_
  clear hK K
  refine awp_seq_k fun KB hKB=>?_
  refine awp_block ?_
  repeat with_reducible refine awp_assoc ?_
  refine awp_sr fun K hK=>?_
  simp [hp,Ty.name,Ty.args]
  refine hK _ _ ?_
  clear hK K
  repeat with_reducible refine awp_assoc ?_
  refine awp_sr fun K hK=>?_
  refine aOps_split 3 fun K hK=>?_
  simp
  refine hK _ _ ?_
  clear hK K
  refine aOps_call (hc) (by first | rfl | simp) rfl rfl (by first | (simp;done) | rfl) ?_
  simp
  refine hK _ _ ?_
  clear hK K
  cases b1
  ·refine awp_condT rfl (by simp) ?_
   repeat with_reducible refine awp_assoc ?_
   refine awp_sr fun K hK=>?_
   simp
   refine hK _ _ ?_
   clear hK K
   have hrr:=hr1f rfl
   rw [if_pos (by rw [←hrr])] at eV
   rw [eV]
   simp [reset_all hcl]
   exact Wk.tuple ⟨Wk.nilSlice,.refl _,trivial⟩
  ·refine awp_condF rfl (by simp) ?_
   refine awp_skip ?_
   refine hKB _ _ ?_
   clear hKB
   refine awp_region ?_
   simp [wrap_succ (show k < 4611686018427387904 by omega)]
   exact ⟨by rw [hr1,hs1],weak_HL hcl rfl (by simp [low_fm]) (by simp)⟩
 ·rw [hra] at hvk
  simp only [Option.some.injEq] at hvk
  subst hvk
  obtain ⟨hm,hnd⟩:=hrb rfl
  simp only at hm hnd eV
  have hc:=hls2 (st l.length) hm hnd (nid H.next 1) (HL H [.cells [.slice (d.datas.map Dat.cells) none,.slice (d.classes.map ClsD.cells) none,.slice (d.insts.map InstD.cells) none],.amap (fmEs (st l.length)) (st l.length).length]) (by rw [get_nid rfl];rfl)
  repeat with_reducible refine awp_assoc ?_
  refine awp_sr fun K hK=>?_
  simp
  refine hK _ _ ?_
  clear hK K
  repeat with_reducible refine awp_assoc ?_
  refine awp_seq_k fun K hK=>?_
  refine awp_condF rfl (by simp) ?_
  refine awp_exit ?_
  simp
  refine hKO _ _ ?_
  clear hK K hKO
  simp only [DeclsD.enc,DeclsD.cells] at hc
  repeat with_reducible refine awp_assoc ?_
  refine awp_sr fun K hK=>?_
  refine aOps_split 2 fun K hK=>?_
  simp
  refine hK _ _ ?_
  clear hK K
  refine aOps_call (hc) (by first | rfl | simp) rfl rfl (by first | (simp;done) | rfl) ?_
  simp
  refine hK _ _ ?_
  clear hK K
  rw [eV]
  simp [reset_all hcl]
  exact lowR_map fun p _=>low_predC _ (vpP p)
end Go.Proofs.YtlhoigpidpokfaaGreat
