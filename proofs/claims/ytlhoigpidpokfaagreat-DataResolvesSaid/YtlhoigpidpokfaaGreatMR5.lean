/- The reference: Resolved, Resolve. -/
import Derived.Test.YtlhoigpidpokfaaGreatMR2
import Derived.Test.YtlhoigpidpokfaaGreatMR3
import Derived.Test.YtlhoigpidpokfaaGreatMR4
set_option linter.unusedVariables false
set_option linter.unusedSimpArgs false
namespace Go.Proofs.YtlhoigpidpokfaaGreat
open Go Go.Abs Go.Proofs
set_option maxRecDepth 20000
attribute [local simp] aOps wantedA aStep aop aLoad aStore aBin aUn aFieldAddr aField aIndexAddr aIndex aLen aBuild aFill aAlloc aAppend aAppendOwn aMin aMax aBuildSlice litRows newRows isMut isOwn isNilS nilsW bytesR tokW tokAV tokL ret readC splice aeval isLit isLate isCut aCut AV.celled AV.one AV.ofValue Value.oneCell' Value.cells intOp strOp get_nid upd_nid awp aEnd aResults aResult Det unord isCall isNext
attribute [local simp] low_take low_strs low_comp low_tcomp wkEs_refl' WkBs WkEnv WkB WkL WkE WkO ABlock.low lowO lowL lowR AV.low cellsL_eq Ty.low low_map Ty.cells_length Ty.cells_one
attribute [local simp] ConD.cells Dat.cells PredD.cells SigD.cells ClsD.cells InstD.cells DeclsD.cells DeclsD.enc Dat.enc low_datL low_conL low_predL low_sigL low_clsL low_instL
noncomputable def solA (d:DeclsD) (f:Nat) (l:List PredD):Nat→Option SS
 | 0=>some ⟨[],[],false⟩
 | k+1=>match solA d f l k,l[k]? with
  | some s,some p=>solF d f p.cls p.t s
  | _,_=>none
theorem solA_le {d:DeclsD} {f:Nat} {l:List PredD}:∀ {n:Nat} {q:SS},solA d f l n=some q→∀ k,k≤n→∃ q',solA d f l k=some q'
 | 0,q,h,k,hk=>⟨q,by rw [show k=0 by omega];exact h⟩
 | n+1,q,h,k,hk=>by
  by_cases e:k=n+1
  ·exact ⟨q,by rw [e];exact h⟩
  ·cases h2:solA d f l n with
   | none=>simp only [solA,h2] at h;cases h
   | some q2=>exact solA_le h2 k (by omega)
def rsB (d:DeclsD) (n:Nat) (s:SS):List ABlock:=[.cells [.slice (d.datas.map Dat.cells) none,.slice (d.classes.map ClsD.cells) none,.slice (d.insts.map InstD.cells) none],.tok s.met.length 1 none,.tok s.out.length 3 none,.cells [.slice (d.datas.map Dat.cells) none,.slice (d.classes.map ClsD.cells) none,.slice (d.insts.map InstD.cells) none,.slice (s.met.map fun x=>[strV x]) (some (nid n 1)),.slice (s.out.map PredD.cells) (some (nid n 2)),boolV s.bad]]
theorem rsB_sH (d:DeclsD) (H:AHeap) (s s':SS):sH d (nid H.next 3) (nid H.next 1) (nid H.next 2) (HL H (rsB d H.next s)) s'=HL H (rsB d H.next s'):=by
 unfold sH rsB
 rw [upd_nid rfl (by simp),upd_nid rfl (by simp),upd_nid rfl (by simp)]
 rfl
set_option maxHeartbeats 2000000 in
theorem rResolved_c (d:DeclsD) (hd:SolD d) (hcls:ClsOk d) (l:List PredD) (hl:l.length < 4611686018427387904) (f:Nat) (r:SS) (S:List VP) (hrun:solA d f l l.length=some r) (hS:r.bad=false→r.out=S.map vpP∧S.Nodup∧S.length < 1000000000∧∀ p∈S,memS p.1 (abv d.classes p.1)=false) (H:AHeap) :
  ACalls Tryz.prog 20 [d.enc,.slice (l.map PredD.cells) none] H (.tuple [.slice ((if r.bad=true then [] else leastP d S).map vqC) none,boolV (!r.bad)]) H:=by
 have hsv:=fun (H:AHeap)=>rSolve_c d hd (nid H.next 3) (nid H.next 1) (nid H.next 2) (by unfold nid;omega) (by unfold nid;omega) (by unfold nid;omega) f
 have hpre:=fun k hk=>solA_le hrun k hk
 have hstep:∀ k,solA d f l (k+1)=match solA d f l k,l[k]? with
  | some s,some p=>solF d f p.cls p.t s
  | _,_=>none:=fun k=>by first | (rw [solA];done) | (rw [solA];rfl)
 have h00:solA d f l 0=some ⟨[],[],false⟩:=by rw [solA]
 generalize solA d f l=rk at *
 obtain ⟨st,hst⟩:∃ st:Nat→SS,∀ k,k≤l.length→rk k=some (st k):=⟨fun k=>(rk k).getD ⟨[],[],false⟩,fun k hk=>by obtain ⟨q,hq⟩:=hpre k hk;show rk k=some ((rk k).getD _);rw [hq];rfl⟩
 have hst0:st 0=⟨[],[],false⟩:=by have:=hst 0 (Nat.zero_le _);rw [h00] at this;exact (Option.some.inj this).symm
 have hstn:st l.length=r:=by have:=hst _ (Nat.le_refl _);rw [hrun] at this;exact (Option.some.inj this).symm
 clear hpre h00 hrun
 refine acalls_walk (fun d=>if d=9 then .nils [(1,false),(3,false)] else .imm) [0,1,2,4,5,6,7,14,26] Tryz.mixed Tryz.func20 rfl rfl rfl (by decide) (fun hcl hlow=>?_)
 repeat with_reducible refine awp_assoc ?_
 refine awp_sr fun K hK=>?_
 simp
 refine hK _ _ ?_
 clear hK K
 repeat with_reducible refine awp_assoc ?_
 refine awp_sr fun K hK=>?_
 simp
 refine hK _ _ ?_
 clear hK K
 repeat with_reducible refine awp_assoc ?_
 refine awp_sr fun K hK=>?_
 simp
 refine hK _ _ ?_
 clear hK K
 refine awp_seq_k fun KO hKO=>?_
 refine awp_block ?_
 refine awp_up l.length (fun k=>Env.ofL [(1,.slice (l.map PredD.cells) none),(2,.ref (nid H.next 0) 0),(6,.ref (nid H.next 3) 0),(7,intV k)]) (fun k=>HL H (rsB d H.next (st k))) (fun _=>True) ?_ trivial (fun k hk _=>?_) (fun _=>?_)
 ·rw [hst0]
  exact weak_HL hcl rfl (by simp [rsB]) (by simp [rsB])
 ·obtain ⟨p,hp⟩:∃ p,l[k]?=some p:=⟨_,List.getElem?_eq_getElem hk⟩
  have h1:=hst k (by omega)
  have h2:=hst (k+1) (by omega)
  rw [hstep,h1,hp] at h2
  simp only at h2
  have hc:=hsv H p.cls p.t (st k) (st (k+1)) h2 (HL H (rsB d H.next (st k))) (by rw [get_nid rfl];rfl) (by rw [get_nid rfl];rfl) (by rw [get_nid rfl];rfl)
  rw [rsB_sH] at hc
  obtain ⟨pc,⟨pn,pl⟩⟩:=p
  simp only [Ty.name,Ty.args] at hc
  repeat with_reducible refine awp_assoc ?_
  refine awp_sr fun K hK=>?_
  simp [hk]
  refine hK _ _ ?_
  clear hK K
  repeat with_reducible refine awp_assoc ?_
  refine awp_seq_k fun K hK=>?_
  refine awp_condT rfl (by simp) ?_
  refine awp_skip ?_
  refine hK _ _ ?_
  clear hK K
  refine awp_seq_k fun KB hKB=>?_
  refine awp_block ?_
  refine awp_region ?_
  refine aOps_split 5 fun K hK=>?_
  simp [hp,Ty.name,Ty.args]
  refine hK _ _ ?_
  clear hK K
  refine aOps_call (hc) (by first | rfl | simp) rfl rfl (by first | (simp;done) | rfl) ?_
  simp
  refine hKB _ _ ?_
  clear hKB
  refine awp_region ?_
  simp [wrap_succ (show k < 4611686018427387904 by omega)]
  exact weak_HL hcl rfl (by simp [rsB]) (by simp [rsB])
 ·rw [hstn]
  repeat with_reducible refine awp_assoc ?_
  refine awp_sr fun K hK=>?_
  simp
  refine hK _ _ ?_
  clear hK K
  repeat with_reducible refine awp_assoc ?_
  refine awp_seq_k fun K hK=>?_
  refine awp_condF rfl (by simp) ?_
  refine awp_exit ?_
  simp
  refine hKO _ _ ?_
  clear hK K hKO
  have hg:∀ h:3 < (rsB d H.next r).length,(rsB d H.next r)[3]=.cells [.slice (d.datas.map Dat.cells) none,.slice (d.classes.map ClsD.cells) none,.slice (d.insts.map InstD.cells) none,.slice (r.met.map fun x=>[strV x]) (some (nid H.next 1)),.slice (r.out.map PredD.cells) (some (nid H.next 2)),boolV r.bad]:=fun _=>rfl
  have hg0:∀ h:0 < (rsB d H.next r).length,(rsB d H.next r)[0]=.cells [.slice (d.datas.map Dat.cells) none,.slice (d.classes.map ClsD.cells) none,.slice (d.insts.map InstD.cells) none]:=fun _=>rfl
  have hgl:(rsB d H.next r).length=4:=rfl
  repeat with_reducible refine awp_assoc ?_
  refine awp_sr fun K hK=>?_
  simp [hg,hgl]
  refine hK _ _ ?_
  clear hK K
  cases hb:r.bad
  rotate_left
  ·repeat with_reducible refine awp_assoc ?_
   refine awp_seq_k fun K hK=>?_
   refine awp_condT rfl (by simp) ?_
   repeat with_reducible refine awp_assoc ?_
   refine awp_sr fun K hK=>?_
   simp
   refine hK _ _ ?_
   clear hK K
   simp [reset_all hcl]
   exact Wk.tuple ⟨Wk.nilSlice,.refl _,trivial⟩
  ·obtain ⟨ho,hn,hsl,hirr⟩:=hS hb
   have hc:=rLeast_c d hcls S hn hsl hirr
   have hro:r.out.map PredD.cells=S.map vqC:=by rw [ho,List.map_map];rfl
   rw [hro,hb] at hg
   repeat with_reducible refine awp_assoc ?_
   refine awp_seq_k fun K hK=>?_
   refine awp_condF rfl (by simp) ?_
   refine awp_skip ?_
   refine hK _ _ ?_
   clear hK K
   repeat with_reducible refine awp_assoc ?_
   refine awp_sdc [] [[],[],[0,1],[0,1],[0,1],[0,1],[2],[],[]] (by kernel_rfl) (by rfl) fun K hK=>?_
   refine aCalm_pre 3 (by rfl) fun K hK=>?_
   simp [hg0,hgl]
   refine hK _ _ ?_
   clear hK K
   refine aCalm_pre 3 (by rfl) fun K hK=>?_
   simp [hg,hgl]
   refine hK _ _ ?_
   clear hK K
   refine aCalm_call0W (hc _) (by first | rfl | simp) rfl rfl rfl (by simp) ?_
   refine aCalm_pre 2 (by rfl) fun K hK=>?_
   simp
   refine hK _ _ ?_
   clear hK K
   refine aCalm_end ?_
   simp
   refine hK _ _ ?_
   clear hK K
   simp [reset_all hcl]
   exact low_vqL _ _
noncomputable def resW (d:DeclsD) (l:List PredD) (r:SS) (S:List VP):List VP × Int:=if resE d l≠0 then ([],resE d l) else if r.bad=true then ([],7) else (leastP d S,0)
set_option maxHeartbeats 4000000 in
theorem rResolve_c (d:DeclsD) (hr:RawD d) (l:List PredD) (hl:l.length < 4611686018427387904) (f:Nat) (r:SS) (S:List VP) (hrun:resE d l=0→solA d f l l.length=some r∧(r.bad=false→r.out=S.map vpP∧S.Nodup∧S.length < 1000000000∧∀ p∈S,memS p.1 (abv d.classes p.1)=false)) (H:AHeap) :
  ACalls Tryz.prog 5 [d.enc,.slice (l.map PredD.cells) none] H (.tuple [.slice ((resW d l r S).1.map vqC) none,intV (resW d l r S).2]) H:=by
 have hv:=rValid_c d hr
 have hvt:=fun (p:PredD)=>rValidate_c p.t
 have hal:validD d=0→∀ H,ACalls Tryz.prog 16 [d.enc] H (.slice ((allD d).map Dat.cells) none) H:=fun h=>rAll_c d (by have:=(largeB_le (valid0 h).lg).1;omega)
 have hll:validD d=0→(allD d).length < 4611686018427387904:=fun h=>by have:=allD_len (valid0 h).lg;omega
 have hfc:=fun (n:ByteArray)=>rFindClass_c d.classes hr.classes n
 have hth:validD d=0→∀ t:Ty,t.valid=0→∀ H,ACalls Tryz.prog 18 [.slice ((allD d).map Dat.cells) none,t.enc] H (boolV (!decide (kindsV d 4 t≠0))) H:=fun h t ht H=>by
  have h1:=rIsThere_c (allD d) (hll h) t (by have:=valid_cnt2 ht;omega) H
  have e1:t.nodes.any (badT (allD d))=t.nodes.any (kindB d 4):=any_nodes (valid_good ht) fun n hn=>badT_kind d hn
  rw [e1] at h1
  have e2:(!decide (kindsV d 4 t≠0))=!t.nodes.any (kindB d 4):=by unfold kindsV;cases t.nodes.any (kindB d 4) <;> simp
  rw [e2];exact h1
 have hap:validD d=0→∀ t:Ty,t.valid=0→∀ H,ACalls Tryz.prog 19 [.slice ((allD d).map Dat.cells) none,t.enc] H (boolV (!decide (kindsV d 8 t≠0))) H:=fun h t ht H=>by
  have h1:=rIsApplied_c (allD d) (hll h) t (by have:=valid_cnt2 ht;omega) H
  have e1:t.nodes.any (badA (allD d))=t.nodes.any (kindB d 8):=any_nodes (valid_good ht) fun n _=>badA_kind d (all_great (valid0 h).ar) (all_notInt (valid0 h).tw) n
  rw [e1] at h1
  have e2:(!decide (kindsV d 8 t≠0))=!t.nodes.any (kindB d 8):=by unfold kindsV;cases t.nodes.any (kindB d 8) <;> simp
  rw [e2];exact h1
 have hsd:validD d=0→SolD d:=fun h=>⟨by have:=(largeB_le (valid0 h).lg).1;omega,by have:=(largeB_le (valid0 h).lg).2.2.1;omega,(allD_bounds hr).2,hr.preds⟩
 have hrs:=fun (h:validD d=0)=>rResolved_c d (hsd h) (clsOk_of hr (valid0 h).lg (valid0 h).no) l hl f r S
 have eE:resE d l=if validD d≠0 then validD d else if 64 < l.length then 3 else if allV (l.map (·.t))≠0 then allV (l.map (·.t)) else if l.any (noneP d)=true then 4 else if l.any (fitP d)=true then 8 else 0:=rfl
 have eV:resW d l r S=if resE d l≠0 then ([],resE d l) else if r.bad=true then ([],7) else (leastP d S,0):=rfl
 generalize resW d l r S=rv at eV ⊢
 generalize resE d l=re at *
 generalize hL:allD d=L at *
 clear hsd hll
 refine acalls_walk (fun d=>if d=11 then .late else .imm) [0,1,2,4,5,6,7,8,9,10,12,13,14,15,19,23,27,37,44,69,73,83,91] Tryz.mixed Tryz.func5 rfl rfl rfl (by decide) (fun hcl hlow=>?_)
 repeat with_reducible refine awp_assoc ?_
 refine awp_sr fun K hK=>?_
 simp
 refine hK _ _ ?_
 clear hK K
 repeat with_reducible refine awp_assoc ?_
 refine awp_sr fun K hK=>?_
 refine aOps_split 1 fun K hK=>?_
 simp
 refine hK _ _ ?_
 clear hK K
 refine aOps_call (hv _) (by first | rfl | simp) rfl rfl (by first | (simp;done) | rfl) ?_
 simp
 refine hK _ _ ?_
 clear hK K
 by_cases h0:validD d=0
 rotate_left
 ·rw [if_pos h0] at eE
  rw [eE,if_pos h0] at eV
  repeat with_reducible refine awp_assoc ?_
  refine awp_sr fun K hK=>?_
  simp [h0]
  refine hK _ _ ?_
  clear hK K
  repeat with_reducible refine awp_assoc ?_
  refine awp_seq_k fun K hK=>?_
  refine awp_condT rfl (by simp [h0]) ?_
  repeat with_reducible refine awp_assoc ?_
  refine awp_sr fun K hK=>?_
  simp
  refine hK _ _ ?_
  clear hK K
  rw [eV]
  simp [reset_all hcl]
  exact Wk.tuple ⟨Wk.nilSlice,.refl _,trivial⟩
 rw [if_neg (by simpa using h0)] at eE
 have hal2:=hal h0
 have hth2:=hth h0
 have hap2:=hap h0
 have hrs2:=hrs h0
 clear hal hth hap hrs hv
 repeat with_reducible refine awp_assoc ?_
 refine awp_sr fun K hK=>?_
 simp [h0]
 refine hK _ _ ?_
 clear hK K
 repeat with_reducible refine awp_assoc ?_
 refine awp_seq_k fun K hK=>?_
 refine awp_condF rfl (by simp [h0]) ?_
 refine awp_skip ?_
 refine hK _ _ ?_
 clear hK K
 by_cases hlen:64 < l.length
 ·have hlen':(64:Int) < l.length:=by omega
  rw [if_pos hlen] at eE
  rw [eE] at eV
  repeat with_reducible refine awp_assoc ?_
  refine awp_sr fun K hK=>?_
  simp [hlen']
  refine hK _ _ ?_
  clear hK K
  repeat with_reducible refine awp_assoc ?_
  refine awp_seq_k fun K hK=>?_
  refine awp_condT rfl (by simp [hlen']) ?_
  repeat with_reducible refine awp_assoc ?_
  refine awp_sr fun K hK=>?_
  simp
  refine hK _ _ ?_
  clear hK K
  rw [eV]
  simp [reset_all hcl]
  exact Wk.tuple ⟨Wk.nilSlice,.refl _,trivial⟩
 rw [if_neg hlen] at eE
 have hlen':¬ (64:Int) < l.length:=by omega
 repeat with_reducible refine awp_assoc ?_
 refine awp_sr fun K hK=>?_
 simp [hlen']
 refine hK _ _ ?_
 clear hK K
 repeat with_reducible refine awp_assoc ?_
 refine awp_seq_k fun K hK=>?_
 refine awp_condF rfl (by simp [hlen']) ?_
 refine awp_skip ?_
 refine hK _ _ ?_
 clear hK K
 repeat with_reducible refine awp_assoc ?_
 refine awp_sr fun K hK=>?_
 simp
 refine hK _ _ ?_
 clear hK K
 refine awp_seq_k fun KO hKO=>?_
 refine awp_block ?_
 refine awp_up l.length (fun k=>Env.ofL [(1,.slice (l.map PredD.cells) none),(2,.ref (nid H.next 0) 0),(7,intV k)]) (fun k=>HL H [.cells [.slice (d.datas.map Dat.cells) none,.slice (d.classes.map ClsD.cells) none,.slice (d.insts.map InstD.cells) none]]) (fun k=>∀ u∈(l.map (·.t)).take k,u.valid=0) (weak_HL hcl rfl (by simp) (by simp)) (by simp) (fun k hk hvk=>?_) (fun hvk=>?_)
 ·obtain ⟨p,hp⟩:∃ p,l[k]?=some p:=⟨_,List.getElem?_eq_getElem hk⟩
  have hp1:(l.map (·.t))[k]?=some p.t:=by rw [List.getElem?_map,hp];rfl
  have hvp:=hvt p
  obtain ⟨pc,⟨pn,pl⟩⟩:=p
  simp only [enc_mk] at hvp hp1
  repeat with_reducible refine awp_assoc ?_
  refine awp_sr fun K hK=>?_
  simp [hk]
  refine hK _ _ ?_
  clear hK K
  repeat with_reducible refine awp_assoc ?_
  refine awp_seq_k fun K hK=>?_
  refine awp_condT rfl (by simp) ?_
  refine awp_skip ?_
  refine hK _ _ ?_
  clear hK K
  refine awp_seq_k fun KB hKB=>?_
  refine awp_block ?_
  repeat with_reducible refine awp_assoc ?_
  refine awp_sr fun K hK=>?_
  refine aOps_split 5 fun K hK=>?_
  simp [hp,Ty.name,Ty.args]
  refine hK _ _ ?_
  clear hK K
  refine aOps_call (hvp _) (by first | rfl | simp) rfl rfl (by first | (simp;done) | rfl) ?_
  simp [hp,Ty.name,Ty.args]
  refine hK _ _ ?_
  clear hK K
  by_cases hpv:(Ty.mk pn pl).valid=0
  ·repeat with_reducible refine awp_assoc ?_
   refine awp_sr fun K hK=>?_
   simp [hpv]
   refine hK _ _ ?_
   clear hK K
   refine awp_condF rfl (by simp [hpv]) ?_
   refine awp_skip ?_
   refine hKB _ _ ?_
   clear hKB
   refine awp_region ?_
   simp [wrap_succ (show k < 4611686018427387904 by omega)]
   refine ⟨?_,weak_HL hcl rfl (by simp) (by simp)⟩
   have:=take_all (p:=fun u:Ty=>u.valid=0) hp1 hpv hvk
   simpa using this
  ·have hav:allV (l.map (·.t))=(Ty.mk pn pl).valid:=by
    have hne:allV (l.map (·.t))≠0:=fun h=>hpv (allV_mem h _ (List.mem_of_getElem? hp1))
    obtain ⟨k2,t2,h1,h2,h3⟩:=allV_take hne
    have:k2=k:=by
     rcases Nat.lt_trichotomy k2 k with h | h | h
     ·have:=hvk t2 (mem_takeI h h1)
      rw [this] at h2;exact absurd h2.symm hne
     ·exact h
     ·exact absurd (h3 _ (mem_takeI h hp1)) hpv
    subst this
    rw [hp1] at h1
    simp only [Option.some.injEq] at h1
    rw [←h1] at h2
    exact h2.symm
   rw [hav,if_pos hpv] at eE
   rw [eE,if_pos hpv] at eV
   repeat with_reducible refine awp_assoc ?_
   refine awp_sr fun K hK=>?_
   simp [hpv]
   refine hK _ _ ?_
   clear hK K
   refine awp_condT rfl (by simp [hpv]) ?_
   repeat with_reducible refine awp_assoc ?_
   refine awp_sr fun K hK=>?_
   simp
   refine hK _ _ ?_
   clear hK K
   rw [eV]
   simp [reset_all hcl]
   exact Wk.tuple ⟨Wk.nilSlice,.refl _,trivial⟩
 have hav:∀ p∈l,p.t.valid=0:=fun p hp=>hvk p.t (by
  rw [List.take_of_length_le (by simp)]
  exact List.mem_map_of_mem hp)
 have hav0:allV (l.map (·.t))=0:=by
  refine Classical.byContradiction fun hne=>?_
  obtain ⟨k,t,h1,h2,_⟩:=allV_take hne
  rw [List.getElem?_map,Option.map_eq_some_iff] at h1
  obtain ⟨p,h3,rfl⟩:=h1
  rw [hav p (List.mem_of_getElem? h3)] at h2
  exact hne h2.symm
 rw [if_neg (by simpa using hav0)] at eE
 clear hvk hav0 hvt
 repeat with_reducible refine awp_assoc ?_
 refine awp_sr fun K hK=>?_
 simp
 refine hK _ _ ?_
 clear hK K
 repeat with_reducible refine awp_assoc ?_
 refine awp_seq_k fun K hK=>?_
 refine awp_condF rfl (by simp) ?_
 refine awp_exit ?_
 simp
 refine hKO _ _ ?_
 clear hK K hKO
 repeat with_reducible refine awp_assoc ?_
 refine awp_sr fun K hK=>?_
 refine aOps_split 1 fun K hK=>?_
 simp
 refine hK _ _ ?_
 clear hK K
 refine aOps_call (hal2 _) (by first | rfl | simp) rfl rfl (by first | (simp;done) | rfl) ?_
 simp
 refine hK _ _ ?_
 clear hK K
 repeat with_reducible refine awp_assoc ?_
 refine awp_sr fun K hK=>?_
 simp
 refine hK _ _ ?_
 clear hK K
 refine awp_seq_k fun KO hKO=>?_
 refine awp_block ?_
 refine awp_up l.length (fun j=>Env.ofL [(1,.slice (l.map PredD.cells) none),(2,.ref (nid H.next 0) 0),(9,.slice (L.map Dat.cells) none),(10,intV j)]) (fun j=>HL H [.cells [.slice (d.datas.map Dat.cells) none,.slice (d.classes.map ClsD.cells) none,.slice (d.insts.map InstD.cells) none]]) (fun j=>(l.take j).any (noneP d)=false) (weak_HL hcl rfl (by simp) (by simp)) (by simp) (fun j hj hvj=>?_) (fun hvj=>?_)
 ·obtain ⟨p,hp⟩:∃ p,l[j]?=some p:=⟨_,List.getElem?_eq_getElem hj⟩
  have hbp:=any_at (p:=noneP d) hp
  have hms:=miss (p:=noneP d) hp hvj
  have hc1:=hfc p.cls
  have hc2:=hth2 p.t (hav p (List.mem_of_getElem? hp))
  have hcn:=cls_neg (l:=d.classes) (n:=p.cls)
  have en:noneP d p=(decide (classI d.classes p.cls < 0) || decide (kindsV d 4 p.t≠0)):=rfl
  generalize noneP d p=np at *
  generalize clsV d.classes p.cls=cv at *
  generalize classI d.classes p.cls=ci at *
  generalize hkd:decide (kindsV d 4 p.t≠0)=kb at *
  clear hkd
  obtain ⟨⟨cn,csu,cop⟩,cb⟩:=cv
  simp only at hc1 hcn
  generalize decide (ci < 0)=nb at *
  subst hcn
  obtain ⟨pc,⟨pn,pl⟩⟩:=p
  simp only [enc_mk] at hc1 hc2
  repeat with_reducible refine awp_assoc ?_
  refine awp_sr fun K hK=>?_
  simp [hj]
  refine hK _ _ ?_
  clear hK K
  repeat with_reducible refine awp_assoc ?_
  refine awp_seq_k fun K hK=>?_
  refine awp_condT rfl (by simp) ?_
  refine awp_skip ?_
  refine hK _ _ ?_
  clear hK K
  refine awp_seq_k fun KC hKC=>?_
  refine awp_block ?_
  have hF1:∀ i,i≠1→¬ nid H.next i=nid H.next 1:=fun i h=>by unfold nid;omega
  have hfa:fillAt (nid H.next 1) [strV ByteArray.empty,.v (.slice none 0 0),.v (.slice none 0 0)] (HL H [.cells [.slice (d.datas.map Dat.cells) none,.slice (d.classes.map ClsD.cells) none,.slice (d.insts.map InstD.cells) none],.hole])=HL H [.cells [.slice (d.datas.map Dat.cells) none,.slice (d.classes.map ClsD.cells) none,.slice (d.insts.map InstD.cells) none],.cells [strV ByteArray.empty,.v (.slice none 0 0),.v (.slice none 0 0)]]:=by simp [fillAt]
  repeat with_reducible refine awp_assoc ?_
  refine awp_sdf 1 11 (fillAt (nid H.next 1) [strV ByteArray.empty,.v (.slice none 0 0),.v (.slice none 0 0)]) [12] [[],[],[0,1],[0,1,2],[0,1],[0,1],[0,1],[2,3],[2,3,4],[0,2,3,4,5],[0,2,3,4,5,9],[0,1,2,3,4,5,6,7,8,9,10],[10],[]] (by kernel_rfl) (by rfl) (by rfl) fun K hK=>?_
  simp only [holes,alloc_HL,List.cons_append,List.nil_append]
  refine fLex_pre (nid H.next 1) 7 (fun G i h=>fillAt_off G i h) (by rfl) fun K2 hK2=>?_
  simp [oOps,offs,AV.off,Op.operands,Call.operands,regM,litOp,isReg,isLit,noTok,hp,hF1]
  refine hK2 _ ?_
  clear hK2 K2
  refine fLex_call0 (hc1 _) (hc1 _) rfl rfl rfl rfl rfl (by simp) ?_
  refine fLex_pre (nid H.next 1) 3 (fun G i h=>fillAt_off G i h) (by rfl) fun K2 hK2=>?_
  simp [oOps,offs,AV.off,Op.operands,Call.operands,regM,litOp,isReg,isLit,noTok,hF1]
  refine hK2 _ ?_
  clear hK2 K2
  refine fLex_self (v:=.ref (nid H.next 1) 0) rfl rfl (det_late rfl rfl rfl (by simp;rfl) rfl (by simp)) (by simp) ?_
  refine fLex_effA rfl rfl rfl rfl rfl rfl fun K2 hK2=>?_
  simp [hfa]
  refine hK2 _ _ (by simp [fillAt]) (by simp [unord]) ?_
  clear hK2 K2
  refine fLex_pre (nid H.next 1) 1 (fun G i h=>fillAt_off G i h) (by rfl) fun K2 hK2=>?_
  simp [oOps,offs,AV.off,Op.operands,Call.operands,regM,litOp,isReg,isLit,noTok]
  refine hK2 _ ?_
  clear hK2 K2
  refine fLex_end ?_
  simp [fillAt]
  refine hK _ _ ?_
  clear hK K
  cases nb
  rotate_left
  ·repeat with_reducible refine awp_assoc ?_
   refine awp_sr fun K hK=>?_
   refine aOps_split 4 fun K hK=>?_
   simp
   refine hK _ _ ?_
   clear hK K
   refine aOps_split 4 fun K hK=>?_
   simp
   refine hK _ _ ?_
   clear hK K
   simp
   refine hK _ _ ?_
   clear hK K
   refine awp_condT rfl (by simp) ?_
   repeat with_reducible refine awp_assoc ?_
   refine awp_sr fun K hK=>?_
   simp
   refine hK _ _ ?_
   clear hK K
   rw [if_pos (hbp (by rw [en];rfl))] at eE
   rw [eE] at eV
   rw [eV]
   simp [reset_all hcl]
   exact Wk.tuple ⟨Wk.nilSlice,.refl _,trivial⟩
  ·repeat with_reducible refine awp_assoc ?_
   refine awp_sr fun K hK=>?_
   refine aOps_split 4 fun K hK=>?_
   simp
   refine hK _ _ ?_
   clear hK K
   refine aOps_split 5 fun K hK=>?_
   simp [hp,Ty.name,Ty.args]
   refine hK _ _ ?_
   clear hK K
   refine aOps_call (hc2 _) (by first | rfl | simp) rfl rfl (by first | (simp;done) | rfl) ?_
   cases kb
   ·simp
    refine hK _ _ ?_
    clear hK K
    refine awp_condF rfl (by simp) ?_
    refine awp_skip ?_
    refine hKC _ _ ?_
    clear hKC
    refine awp_region ?_
    simp [wrap_succ (show j < 4611686018427387904 by omega)]
    refine ⟨?_,weak_HL hcl rfl (by simp) (by simp)⟩
    simpa using hms (by rw [en];rfl)
   ·simp
    refine hK _ _ ?_
    clear hK K
    refine awp_condT rfl (by simp) ?_
    repeat with_reducible refine awp_assoc ?_
    refine awp_sr fun K hK=>?_
    simp
    refine hK _ _ ?_
    clear hK K
    rw [if_pos (hbp (by rw [en];rfl))] at eE
    rw [eE] at eV
    rw [eV]
    simp [reset_all hcl]
    exact Wk.tuple ⟨Wk.nilSlice,.refl _,trivial⟩
 rw [List.take_length] at hvj
 rw [if_neg (by rw [hvj];decide)] at eE
 clear hvj hfc hth2
 repeat with_reducible refine awp_assoc ?_
 refine awp_sr fun K hK=>?_
 simp
 refine hK _ _ ?_
 clear hK K
 repeat with_reducible refine awp_assoc ?_
 refine awp_seq_k fun K hK=>?_
 refine awp_condF rfl (by simp) ?_
 refine awp_exit ?_
 simp
 refine hKO _ _ ?_
 clear hK K hKO
 repeat with_reducible refine awp_assoc ?_
 refine awp_sr fun K hK=>?_
 simp
 refine hK _ _ ?_
 clear hK K
 refine awp_seq_k fun KO hKO=>?_
 refine awp_block ?_
 refine awp_up l.length (fun j=>Env.ofL [(1,.slice (l.map PredD.cells) none),(2,.ref (nid H.next 0) 0),(9,.slice (L.map Dat.cells) none),(13,intV j)]) (fun j=>HL H [.cells [.slice (d.datas.map Dat.cells) none,.slice (d.classes.map ClsD.cells) none,.slice (d.insts.map InstD.cells) none]]) (fun j=>(l.take j).any (fitP d)=false) (weak_HL hcl rfl (by simp) (by simp)) (by simp) (fun j hj hvj=>?_) (fun hvj=>?_)
 ·obtain ⟨p,hp⟩:∃ p,l[j]?=some p:=⟨_,List.getElem?_eq_getElem hj⟩
  have hbp:=any_at (p:=fitP d) hp
  have hms:=miss (p:=fitP d) hp hvj
  have hc2:=hap2 p.t (hav p (List.mem_of_getElem? hp))
  have en:fitP d p=decide (kindsV d 8 p.t≠0):=rfl
  generalize fitP d p=np at *
  generalize hkd:decide (kindsV d 8 p.t≠0)=kb at *
  clear hkd
  obtain ⟨pc,⟨pn,pl⟩⟩:=p
  simp only [enc_mk] at hc2
  repeat with_reducible refine awp_assoc ?_
  refine awp_sr fun K hK=>?_
  simp [hj]
  refine hK _ _ ?_
  clear hK K
  repeat with_reducible refine awp_assoc ?_
  refine awp_seq_k fun K hK=>?_
  refine awp_condT rfl (by simp) ?_
  refine awp_skip ?_
  refine hK _ _ ?_
  clear hK K
  refine awp_seq_k fun KC hKC=>?_
  refine awp_block ?_
  repeat with_reducible refine awp_assoc ?_
  refine awp_sr fun K hK=>?_
  refine aOps_split 6 fun K hK=>?_
  simp [hp,Ty.name,Ty.args]
  refine hK _ _ ?_
  clear hK K
  refine aOps_call (hc2 _) (by first | rfl | simp) rfl rfl (by first | (simp;done) | rfl) ?_
  simp [hp,Ty.name,Ty.args]
  refine hK _ _ ?_
  clear hK K
  cases kb
  ·refine awp_condF rfl (by simp) ?_
   refine awp_skip ?_
   refine hKC _ _ ?_
   clear hKC
   refine awp_region ?_
   simp [wrap_succ (show j < 4611686018427387904 by omega)]
   refine ⟨?_,weak_HL hcl rfl (by simp) (by simp)⟩
   simpa using hms (by rw [en])
  ·refine awp_condT rfl (by simp) ?_
   repeat with_reducible refine awp_assoc ?_
   refine awp_sr fun K hK=>?_
   simp
   refine hK _ _ ?_
   clear hK K
   rw [if_pos (hbp (by rw [en]))] at eE
   rw [eE] at eV
   rw [eV]
   simp [reset_all hcl]
   exact Wk.tuple ⟨Wk.nilSlice,.refl _,trivial⟩
 rw [List.take_length] at hvj
 rw [if_neg (by rw [hvj];decide)] at eE
 clear hvj hap2
 obtain ⟨hra,hrb⟩:=hrun eE
 rw [eE] at eV
 simp only [ne_eq,not_true_eq_false,if_false] at eV
 have hc:=hrs2 hra hrb
 simp only [DeclsD.enc,DeclsD.cells] at hc
 repeat with_reducible refine awp_assoc ?_
 refine awp_sr fun K hK=>?_
 simp
 refine hK _ _ ?_
 clear hK K
 repeat with_reducible refine awp_assoc ?_
 refine awp_seq_k fun K hK=>?_
 refine awp_condF rfl (by simp) ?_
 refine awp_exit ?_
 simp
 refine hKO _ _ ?_
 clear hK K hKO
 cases hb:r.bad
 rotate_left
 ·rw [hb,if_pos rfl] at eV
  rw [hb] at hc
  repeat with_reducible refine awp_assoc ?_
  refine awp_sr fun K hK=>?_
  refine aOps_split 2 fun K hK=>?_
  simp
  refine hK _ _ ?_
  clear hK K
  refine aOps_call (hc _) (by first | rfl | simp) rfl rfl (by first | (simp;done) | rfl) ?_
  simp
  refine hK _ _ ?_
  clear hK K
  repeat with_reducible refine awp_assoc ?_
  refine awp_sr fun K hK=>?_
  simp
  refine hK _ _ ?_
  clear hK K
  repeat with_reducible refine awp_assoc ?_
  refine awp_seq_k fun K hK=>?_
  refine awp_condT rfl (by simp) ?_
  repeat with_reducible refine awp_assoc ?_
  refine awp_sr fun K hK=>?_
  simp
  refine hK _ _ ?_
  clear hK K
  rw [eV]
  simp [reset_all hcl]
  exact Wk.tuple ⟨Wk.nilSlice,.refl _,trivial⟩
 ·rw [hb,if_neg (by decide)] at eV
  rw [hb] at hc
  repeat with_reducible refine awp_assoc ?_
  refine awp_sr fun K hK=>?_
  refine aOps_split 2 fun K hK=>?_
  simp
  refine hK _ _ ?_
  clear hK K
  refine aOps_call (hc _) (by first | rfl | simp) rfl rfl (by first | (simp;done) | rfl) ?_
  simp
  refine hK _ _ ?_
  clear hK K
  repeat with_reducible refine awp_assoc ?_
  refine awp_sr fun K hK=>?_
  simp
  refine hK _ _ ?_
  clear hK K
  repeat with_reducible refine awp_assoc ?_
  refine awp_seq_k fun K hK=>?_
  refine awp_condF rfl (by simp) ?_
  refine awp_skip ?_
  refine hK _ _ ?_
  clear hK K
  repeat with_reducible refine awp_assoc ?_
  refine awp_sr fun K hK=>?_
  simp
  refine hK _ _ ?_
  clear hK K
  rw [eV]
  simp [reset_all hcl]
  exact low_vqL _ _
end Go.Proofs.YtlhoigpidpokfaaGreat
