/- The reference: Above. -/
import Derived.Test.YtlhoigpidpokfaaGreatMD8
import Derived.Test.YtlhoigpidpokfaaGreatME4
import Derived.Test.YtlhoigpidpokfaaGreatMD6
set_option linter.unusedVariables false
set_option linter.unusedSimpArgs false
namespace Go.Proofs.YtlhoigpidpokfaaGreat
open Go Go.Abs Go.Proofs
set_option maxRecDepth 20000
attribute [local simp] aOps wantedA aStep aop aLoad aStore aBin aUn aFieldAddr aField aIndexAddr aIndex aLen aBuild aFill aAlloc aAppend aAppendOwn aMin aMax aBuildSlice litRows newRows isMut isOwn isNilS nilsW bytesR tokW tokAV tokL ret readC splice aeval isLit isLate isCut aCut AV.celled AV.one AV.ofValue Value.oneCell' Value.cells intOp strOp get_nid upd_nid awp aEnd aResults aResult Det unord isCall isNext
attribute [local simp] low_take low_strs low_comp low_tcomp wkEs_refl' WkBs WkEnv WkB WkL WkE WkO ABlock.low lowO lowL lowR AV.low cellsL_eq Ty.low low_map Ty.cells_length Ty.cells_one
attribute [local simp] ConD.cells Dat.cells PredD.cells SigD.cells ClsD.cells InstD.cells DeclsD.cells DeclsD.enc Dat.enc low_datL low_conL low_predL low_sigL low_clsL low_instL
def keepsR (J:List ABlock) (s n:Nat):List ABlock:=.tok s 1 none::(J++[.tok n 1 none])
def keepsC (J:List ABlock) (s n:Nat) (c:ABlock):List ABlock:=keepsR J s n++[c]
theorem kr_len (J:List ABlock) (s n:Nat):(keepsR J s n).length=J.length+2:=by simp [keepsR]
theorem kc_len (J:List ABlock) (s n:Nat) (c:ABlock):(keepsC J s n c).length=J.length+3:=by simp [keepsC,kr_len]
theorem kr_g? (J:List ABlock) (s n:Nat):(keepsR J s n)[J.length+1]?=some (.tok n 1 none):=by simp [keepsR]
theorem kr_g (J:List ABlock) (s n:Nat) (h:J.length+1 < (keepsR J s n).length):(keepsR J s n)[J.length+1]=.tok n 1 none:=by
 have:=kr_g? J s n
 rw [List.getElem?_eq_getElem h] at this
 exact Option.some.inj this
theorem kr_0 (J:List ABlock) (s n:Nat) (h:0 < (keepsR J s n).length):(keepsR J s n)[0]=.tok s 1 none:=rfl
theorem kr_set0 (J:List ABlock) (s n s':Nat):(keepsR J s n).set 0 (.tok s' 1 none)=keepsR J s' n:=rfl
theorem kr_set (J:List ABlock) (s n n':Nat):(keepsR J s n).set (J.length+1) (.tok n' 1 none)=keepsR J s n':=by
 simp only [keepsR,List.set_cons_succ]
 rw [List.set_append_right _ _ (by omega)];simp
theorem kc_g (J:List ABlock) (s n:Nat) (c:ABlock) (h:J.length+1 < (keepsC J s n c).length):(keepsC J s n c)[J.length+1]=.tok n 1 none:=by
 have:(keepsC J s n c)[J.length+1]?=some (.tok n 1 none):=by
  unfold keepsC
  rw [List.getElem?_append_left (by rw [kr_len];omega)]
  exact kr_g? _ _ _
 rw [List.getElem?_eq_getElem h] at this
 exact Option.some.inj this
theorem kc_2 (J:List ABlock) (s n:Nat) (c:ABlock) (h:J.length+2 < (keepsC J s n c).length):(keepsC J s n c)[J.length+2]=c:=by
 have:(keepsC J s n c)[J.length+2]?=some c:=by
  unfold keepsC
  rw [List.getElem?_append_right (by rw [kr_len];omega),kr_len]
  simp
 rw [List.getElem?_eq_getElem h] at this
 exact Option.some.inj this
theorem kc_store (J:List ABlock) (s n:Nat) (c c':ABlock):(keepsC J s n c).set (J.length+2) c'=keepsC J s n c':=by
 unfold keepsC
 rw [List.set_append_right _ _ (by rw [kr_len];omega),kr_len];simp
theorem kc_cut (J:List ABlock) (s n n':Nat) (c:ABlock):(keepsC J s n c).set (J.length+1) .gone++[.tok n' 1 none]=keepsR (J++[.gone,c]) s n':=by
 unfold keepsC
 rw [List.set_append_left _ _ (by rw [kr_len];omega)]
 simp only [keepsR,List.set_cons_succ]
 rw [List.set_append_right _ _ (by omega)]
 simp
theorem kr_c (J:List ABlock) (s n:Nat) (c:ABlock) (h:J.length+2 < (keepsR (J++[.gone,c]) s n).length):(keepsR (J++[.gone,c]) s n)[J.length+2]=c:=by
 have:(keepsR (J++[.gone,c]) s n)[J.length+2]?=some c:=by simp [keepsR]
 rw [List.getElem?_eq_getElem h] at this
 exact Option.some.inj this
def JOk (J:List ABlock):Prop:=∀ m,∀ b∈J,ABlock.low m b
theorem wk_js {m:Nat}:∀ {J:List ABlock} {t:ABlock},(∀ b∈J,ABlock.low m b)→ABlock.low m t→WkBs m (J++[t]) (J++[t])
 | [],t,_,h=>⟨WkB.refl _,h,trivial⟩
 | a::J,t,hJ,h=>⟨WkB.refl _,hJ a (by simp),wk_js (fun b hb=>hJ b (by simp [hb])) h⟩
theorem kr_wk (m:Nat) (J:List ABlock) (s n:Nat) (hJ:JOk J):WkBs m (keepsR J s n) (keepsR J s n):=⟨WkB.refl _,trivial,wk_js (hJ m) trivial⟩
theorem jok_app {J:List ABlock} (hJ:JOk J) (x:ClsD):JOk (J++[.gone,.cells [strV x.name,strs x.supers none,.slice (x.ops.map SigD.cells) none]]):=fun m b hb=>by
 rcases List.mem_append.1 hb with h | h
 ·exact hJ m b h
 ·simp only [List.mem_cons,List.not_mem_nil,or_false] at h
  rcases h with rfl | rfl
  ·trivial
  ·exact low_clsC m x
theorem clsV_sup (l:List ClsD) (n:ByteArray):(clsV l n).1.supers=supersOf l n:=by
 unfold clsV supersOf
 cases l.find? fun x=>decide (x.name=n) <;> rfl
theorem clsV_mem (l:List ClsD) (n:ByteArray):(clsV l n).1∈l∨(clsV l n).1=zeroCls:=by
 unfold clsV
 cases h:l.find? fun x=>decide (x.name=n) with
 | none=>exact .inr rfl
 | some x=>exact .inl (List.mem_of_find?_eq_some h)
set_option maxHeartbeats 2000000 in
theorem rAbove_c (cs:List ClsD) (hcz:cs.length < 1000000000000) (hsu:∀ x∈cs,x.supers.length < 4611686018427387904) (n:ByteArray) (S:List ByteArray) (f:Nat) (hf:aboveF cs f [n] []=some S) (hS:S.length≤12) (H:AHeap) :
  ACalls Tryz.prog 88 [.slice (cs.map ClsD.cells) none,strV n] H (strs S none) H:=by
 have hFC:=rFindClass_c cs (by omega)
 refine acalls_walk (fun t=>if t=5 then .nilv 1 else if t=24 then .cut else if t=46∨t=54 then .lit else .imm) [0,1,4,5,6,7,9,14,29,39] Tryz.mixed Tryz.func88 rfl rfl rfl (by decide) (fun hcl hlow=>?_)
 repeat with_reducible refine awp_assoc ?_
 refine awp_sr fun K hK=>?_
 simp
 refine hK _ _ ?_
 clear hK K
 repeat with_reducible refine awp_assoc ?_
 refine awp_sr fun K hK=>?_
 simp
 refine hK _ _ ?_
 clear hK K
 repeat with_reducible refine awp_assoc ?_
 refine awp_sr fun K hK=>?_
 simp
 refine hK _ _ ?_
 clear hK K
 refine awp_seq_k fun KO hKO=>?_
 refine awp_block ?_
 refine awp_loop (fun m env H'=>∃ (J:List ABlock) (work seen:List ByteArray),aboveF cs m work seen=some S∧work.length≤seen.length+1∧JOk J ∧
   env=Env.ofL [(0,.slice (cs.map ClsD.cells) none),(1,strV n),(4,.v (.slice none 0 0)),(5,strs seen (some (nid H.next 0))),(6,strs work (some (nid H.next (J.length+1))))]∧H'=HL H (keepsR J seen.length work.length)) f
  (weak_HL hcl rfl ?_ ?_) ⟨[],[n],[],hf,by simp,fun _ _ h=>(by cases h),rfl,rfl⟩ ?_
 ·simp [keepsR]
 ·simp [keepsR,strs]
 rintro m env H' ⟨J,work,seen,hm,hwl,hJ,rfl,rfl⟩
 have hsl:=(aboveF_facts hm).1
 cases m with
 | zero=>cases hm
 | succ m =>
 cases work with
 | nil =>
  simp only [aboveF,Option.some.injEq] at hm
  subst hm
  repeat with_reducible refine awp_assoc ?_
  refine awp_sr fun K hK=>?_
  simp
  refine hK _ _ ?_
  clear hK K
  repeat with_reducible refine awp_assoc ?_
  refine awp_seq_k fun K hK=>?_
  refine awp_condF rfl (by simp) ?_
  refine awp_exit ?_
  simp
  refine hKO _ _ ?_
  clear hK hKO
  repeat with_reducible refine awp_assoc ?_
  refine awp_sr fun K hK=>?_
  simp
  refine hK _ _ ?_
  clear hK K
  simp [reset_all hcl,strs]
 | cons w work =>
 have hm2:aboveF cs m ((supersOf cs w).foldl stepA (seen,work)).2 ((supersOf cs w).foldl stepA (seen,work)).1=some S:=hm
 have hc:=hFC w
 have es:=clsV_sup cs w
 have hcm:=clsV_mem cs w
 generalize (clsV cs w).2=cb at hc
 generalize (clsV cs w).1=c at hc es hcm
 rw [←es] at hm2
 have hcs:c.supers.length < 4611686018427387904:=by
  rcases hcm with h | h
  ·exact hsu c h
  ·rw [h];simp [zeroCls]
 clear es hcm
 have hJ2:=jok_app hJ c
 obtain ⟨cn,csu,cop⟩:=c
 simp only at hm2 hcs hJ2
 repeat with_reducible refine awp_assoc ?_
 refine awp_sr fun K hK=>?_
 simp
 refine hK _ _ ?_
 clear hK K
 repeat with_reducible refine awp_assoc ?_
 refine awp_seq_k fun K hK=>?_
 refine awp_condT rfl (by simp) ?_
 refine awp_skip ?_
 refine hK _ _ ?_
 clear hK K
 refine awp_block ?_
 repeat with_reducible refine awp_assoc ?_
 refine awp_sr fun K hK=>?_
 refine aOps_split 4 fun K hK=>?_
 simp [strs]
 refine hK _ _ ?_
 clear hK K
 refine aOps_call (hc _) (by first | rfl | simp) rfl rfl (by first | (simp;done) | rfl) ?_
 refine aOps_split 3 fun K hK=>?_
 simp
 refine hK _ _ ?_
 clear hK K
 refine aOps_split 1 fun K hK=>?_
 simp [kr_len]
 refine hK _ _ ?_
 clear hK K
 have hHC:∀ b,HL H (keepsR J seen.length (work.length+1)++[b])=HL H (keepsC J seen.length (work.length+1) b):=fun _=>rfl
 rw [hHC]
 refine aOps_split 1 fun K hK=>?_
 simp [kc_len,kc_2,kc_store]
 refine hK _ _ ?_
 clear hK K
 simp
 refine hK _ _ ?_
 clear hK K
 refine awp_sr fun K hK=>?_
 simp [aCut,strs,kc_g,kc_len,isCut,bnd,kc_cut]
 refine hK _ _ ?_
 clear hK K
 obtain ⟨fa1,fa2,fa3⟩:=foldA_facts csu (seen,work)
 have fs:=(aboveF_facts hm2).1
 simp only [List.length_cons] at hwl
 generalize hJe:J++[.gone,.cells [strV cn,strs csu none,.slice (cop.map SigD.cells) none]]=J2 at hJ2 ⊢
 have hJl:J2.length=J.length+2:=by rw [←hJe];simp
 have hg:∀ s n (h:J.length+2 < (keepsR J2 s n).length),(keepsR J2 s n)[J.length+2]=.cells [strV cn,strs csu none,.slice (cop.map SigD.cells) none]:=by rw [←hJe];exact fun s n h=>kr_c J s n _ h
 have hg3:∀ s n (h:J.length+3 < (keepsR J2 s n).length),(keepsR J2 s n)[J.length+3]=.tok n 1 none:=fun s n h=>by
  have:=kr_g J2 s n (by rw [kr_len];omega)
  simpa only [hJl] using this
 have hst:∀ s n n',(keepsR J2 s n).set (J.length+3) (.tok n' 1 none)=keepsR J2 s n':=fun s n n'=>by
  have:=kr_set J2 s n n'
  simpa only [hJl] using this
 clear hJe
 repeat with_reducible refine awp_assoc ?_
 refine awp_sr fun K hK=>?_
 simp
 refine hK _ _ ?_
 clear hK K
 refine awp_block ?_
 refine awp_up csu.length (fun j=>Env.ofL [(0,.slice (cs.map ClsD.cells) none),(1,strV n),(4,.v (.slice none 0 0)),(5,strs ((csu.take j).foldl stepA (seen,work)).1 (some (nid H.next 0))),(6,strs ((csu.take j).foldl stepA (seen,work)).2 (some (nid H.next (J.length+3)))),(7,.ref (nid H.next (J.length+2)) 0),(9,intV j)]) (fun j=>HL H (keepsR J2 ((csu.take j).foldl stepA (seen,work)).1.length ((csu.take j).foldl stepA (seen,work)).2.length)) (fun _=>True) (weak_HL hcl rfl (kr_wk _ _ _ _ hJ2) (by simp [kr_len,hJl,strs,low_strs,nid_lt_nid])) trivial (fun j hj _=>?_) (fun _=>?_)
 ·obtain ⟨x,hx⟩:∃ x,csu[j]?=some x:=⟨_,List.getElem?_eq_getElem hj⟩
  have hle:=fold_le csu j (seen,work)
  obtain ⟨ga1,ga2,ga3⟩:=foldA_facts (csu.take j) (seen,work)
  rw [fold_take hx]
  generalize (csu.take j).foldl stepA (seen,work)=r at *
  obtain ⟨rs,rw_⟩:=r
  simp only at hle ga1 ga2 ga3
  have hpl:=rPlace_c rs (by omega) x
  have hge:=placeI_ge rs x
  repeat with_reducible refine awp_assoc ?_
  refine awp_sr fun K hK=>?_
  simp [kr_len,hJl,hg,hj]
  refine hK _ _ ?_
  clear hK K
  repeat with_reducible refine awp_assoc ?_
  refine awp_seq_k fun K hK=>?_
  refine awp_condT rfl (by simp) ?_
  refine awp_skip ?_
  refine hK _ _ ?_
  clear hK K
  refine awp_seq_k fun KC hKC=>?_
  refine awp_block ?_
  repeat with_reducible refine awp_assoc ?_
  refine awp_sr fun K hK=>?_
  refine aOps_split 3 fun K hK=>?_
  simp [kr_len,hJl,hg]
  refine hK _ _ ?_
  clear hK K
  refine aOps_split 3 fun K hK=>?_
  simp [hx]
  refine hK _ _ ?_
  clear hK K
  refine aOps_callW (hpl _) (by first | rfl | simp) rfl rfl (by simp) ?_
  cases hmm:memS x rs
  rotate_left
  ·have er:stepA (rs,rw_) x=(rs,rw_):=by simp [stepA,hmm]
   have hm':¬ placeI rs x < 0:=by rw [hmm] at hge;simpa using hge
   simp [hm']
   refine hK _ _ ?_
   clear hK K
   refine awp_condF rfl (by simp) ?_
   refine awp_skip ?_
   refine hKC _ _ ?_
   clear hKC
   refine awp_region ?_
   simp [wrap_succ (show j < 4611686018427387904 by omega)]
   rw [er]
   exact weak_HL hcl rfl (kr_wk _ _ _ _ hJ2) (by simp [kr_len,hJl,strs,low_strs,nid_lt_nid])
  have er:stepA (rs,rw_) x=(rs++[x],rw_++[x]):=by simp [stepA,hmm]
  have hm':placeI rs x < 0:=by rw [hmm] at hge;simpa using hge
  have hle2:rs.length≤12:=by omega
  simp [hm']
  refine hK _ _ ?_
  clear hK K
  refine awp_condT rfl (by simp) ?_
  repeat with_reducible refine awp_assoc ?_
  refine awp_sr fun K hK=>?_
  refine aOps_split 6 fun K hK=>?_
  simp [kr_len,hJl,hg,hx]
  refine hK _ _ ?_
  clear hK K
  refine aOps_split 2 fun K hK=>?_
  simp [strs,kr_len,kr_0,kr_set0]
  refine ⟨by omega,hK _ _ ?_⟩
  clear hK K
  simp
  refine hK _ _ ?_
  clear hK K
  refine awp_region ?_
  refine aOps_split 6 fun K hK=>?_
  simp [kr_len,hJl,hg,hx]
  refine hK _ _ ?_
  clear hK K
  simp [strs,kr_len,hJl,hg3,hst]
  refine ⟨by omega,?_⟩
  refine hKC _ _ ?_
  clear hKC
  refine awp_region ?_
  simp [wrap_succ (show j < 4611686018427387904 by omega)]
  rw [er]
  refine weak_HL hcl rfl ?_ (by simp [kr_len,hJl,strs,low_strs,nid_lt_nid])
  simp only [List.length_append,List.length_cons,List.length_nil,Nat.zero_add]
  exact kr_wk _ _ _ _ hJ2
 generalize hr:csu.foldl stepA (seen,work)=r at *
 rw [List.take_length,hr]
 obtain ⟨rs,rw_⟩:=r
 simp only at hm2 fa1 fa2 fa3 fs
 repeat with_reducible refine awp_assoc ?_
 refine awp_sr fun K hK=>?_
 simp [kr_len,hJl,hg]
 refine hK _ _ ?_
 clear hK K
 repeat with_reducible refine awp_assoc ?_
 refine awp_seq_k fun K hK=>?_
 refine awp_condF rfl (by simp) ?_
 refine awp_exit ?_
 simp
 refine ⟨m,_,HL H (keepsR J2 rs.length rw_.length),weak_HL hcl rfl (kr_wk _ _ _ _ hJ2) ?_,by omega,J2,rw_,rs,hm2,by omega,hJ2,rfl,rfl⟩
 simp [kr_len,hJl,strs,low_strs,nid_lt_nid]
theorem rAbove2_c (d:DeclsD) (h:ClsOk d) (n:ByteArray) (H:AHeap):ACalls Tryz.prog 88 [.slice (d.classes.map ClsD.cells) none,strV n] H (strs (abv d.classes n) none) H:=by
 obtain ⟨⟨f,hf⟩,hl⟩:=h.ab n
 exact rAbove_c d.classes h.cls h.sup n _ f hf hl H
theorem rLoops_c (d:DeclsD) (h:ClsOk d) (H:AHeap):ACalls Tryz.prog 53 [d.enc] H (boolV (loopB d)) H:=by
 have hab:=rAbove2_c d h
 have hcz:=h.cls
 have hal:=fun n=>(h.ab n).2
 have e0:loopB d=d.classes.any fun x=>memS x.name (abv d.classes x.name):=rfl
 generalize loopB d=lb at e0 ⊢
 generalize abv d.classes=ab at *
 clear h
 obtain ⟨ds,cs,is⟩:=d
 simp only at e0 hab hcz
 refine acalls_walk (fun _=>.imm) [0,1,2,3,8,27] Tryz.mixed Tryz.func53 rfl rfl rfl (by decide) (fun hcl hlow=>?_)
 repeat with_reducible refine awp_assoc ?_
 refine awp_sr fun K hK=>?_
 simp
 refine hK _ _ ?_
 clear hK K
 repeat with_reducible refine awp_assoc ?_
 refine awp_sr fun K hK=>?_
 simp
 refine hK _ _ ?_
 clear hK K
 repeat with_reducible refine awp_assoc ?_
 refine awp_seq_k fun K hK=>?_
 refine awp_block ?_
 refine awp_up cs.length (fun k=>Env.ofL [(1,.ref (nid H.next 0) 0),(2,boolV false),(3,intV k)]) (fun k=>HL H [.cells [.slice (ds.map Dat.cells) none,.slice (cs.map ClsD.cells) none,.slice (is.map InstD.cells) none]]) (fun k=>(cs.take k).any (fun x=>memS x.name (ab x.name))=false) (weak_HL hcl rfl (by simp) (by simp)) (by simp) (fun k hk hvk=>?_) (fun hvk=>?_)
 ·obtain ⟨x,hx⟩:∃ x,cs[k]?=some x:=⟨_,List.getElem?_eq_getElem hk⟩
  have hbx:=any_at (p:=fun x:ClsD=>memS x.name (ab x.name)) hx
  have hms:=miss (p:=fun x:ClsD=>memS x.name (ab x.name)) hx hvk
  have hpl:=rPlace_c (ab x.name) (by have:=hal x.name;omega) x.name
  have hge:=placeI_ge (ab x.name) x.name
  have hc:=hab x.name
  repeat with_reducible refine awp_assoc ?_
  refine awp_sr fun K hK=>?_
  simp [hk]
  refine hK _ _ ?_
  clear hK K
  repeat with_reducible refine awp_assoc ?_
  refine awp_seq_k fun K hK=>?_
  refine awp_condT rfl (by simp) ?_
  refine awp_skip ?_
  refine hK _ _ ?_
  clear hK K
  refine awp_seq_k fun KB hKB=>?_
  refine awp_block ?_
  repeat with_reducible refine awp_assoc ?_
  refine awp_sdc [] [[],[],[0,1],[0,1],[0,1,2,3],[0,1],[0,1],[0,1,2],[2,3,4],[0,1,2,3,4,5,6,7,8],[0,1,2,3,4,5,6,7,8],[0,1,2,3,4,5,6,7,8,9,10],[0,1,2,3,4,5,6,7,8],[0,1,2,3,4,5,6,7,8],[0,1,2,3,4,5,6,7,8,9],[2,3,4,5,9,10,11],[0,2,3,4,5,6,9,10,11,12]] (by kernel_rfl) (by rfl) fun K hK=>?_
  refine aCalm_pre 4 (by rfl) fun K hK=>?_
  simp
  refine hK _ _ ?_
  clear hK K
  refine aCalm_pre 4 (by rfl) fun K hK=>?_
  simp [hx]
  refine hK _ _ ?_
  clear hK K
  refine aCalm_call0 (hc _) (by first | rfl | simp) rfl rfl rfl (by first | (simp;done) | rfl) ?_
  refine aCalm_pre 6 (by rfl) fun K hK=>?_
  simp [hx]
  refine hK _ _ ?_
  clear hK K
  refine aCalm_call0 (hpl _) (by first | rfl | simp) rfl rfl rfl (by first | (simp;done) | rfl) ?_
  cases hm:memS x.name (ab x.name)
  ·have hm':¬ 0≤placeI (ab x.name) x.name:=by rw [hm] at hge;simpa using hge
   refine aCalm_pre 1 (by rfl) fun K hK=>?_
   simp [hm']
   refine hK _ _ ?_
   clear hK K
   refine aCalm_end ?_
   simp
   refine hK _ _ ?_
   clear hK K
   refine awp_condF rfl (by simp) ?_
   refine awp_skip ?_
   refine hKB _ _ ?_
   clear hKB
   refine awp_region ?_
   simp [wrap_succ (show k < 4611686018427387904 by omega)]
   refine ⟨?_,weak_HL hcl rfl (by simp) (by simp)⟩
   simpa using hms hm
  ·have hm':0≤placeI (ab x.name) x.name:=by rw [hm] at hge;simpa using hge
   refine aCalm_pre 1 (by rfl) fun K hK=>?_
   simp [hm']
   refine hK _ _ ?_
   clear hK K
   refine aCalm_end ?_
   simp
   refine hK _ _ ?_
   clear hK K
   refine awp_condT rfl (by simp) ?_
   repeat with_reducible refine awp_assoc ?_
   refine awp_sr fun K hK=>?_
   simp
   refine hK _ _ ?_
   clear hK K
   rw [e0,hbx hm]
   simp [reset_all hcl]
 rw [List.take_length] at hvk
 rw [hvk] at e0
 repeat with_reducible refine awp_assoc ?_
 refine awp_sr fun K hK=>?_
 simp
 refine hK _ _ ?_
 clear hK K
 repeat with_reducible refine awp_assoc ?_
 refine awp_seq_k fun K hK=>?_
 refine awp_condF rfl (by simp) ?_
 refine awp_exit ?_
 simp
 clear hK K
 refine hK _ _ ?_
 clear hK K
 repeat with_reducible refine awp_assoc ?_
 refine awp_sr fun K hK=>?_
 simp
 refine hK _ _ ?_
 clear hK K
 rw [e0]
 simp [reset_all hcl]
set_option maxHeartbeats 1000000 in
theorem rFollows_c (d:DeclsD) (h:ClsOk d) (p:PredD) (fr:List PredD) (hfl:fr.length < 4611686018427387904) (H:AHeap):ACalls Tryz.prog 91 [.slice (d.classes.map ClsD.cells) none,.slice (fr.map PredD.cells) none,strV p.cls,strV p.t.name] H (boolV (fr.any (fol1 d p))) H:=by
 have hab:=rAbove2_c d h
 have hal:=fun n=>(h.ab n).2
 have e1:∀ q,fol1 d p q=(decide (q.t.name=p.t.name) && (decide (q.cls=p.cls) || memS p.cls (abv d.classes q.cls))):=fun _=>rfl
 generalize fol1 d p=fl at e1 ⊢
 generalize abv d.classes=ab at *
 generalize d.classes=cs at *
 clear h
 obtain ⟨pc,pt⟩:=p
 simp only at e1 ⊢
 generalize pt.name=pn at *
 refine acalls_walk (fun _=>.imm) [0,1,2,3,8,9,13,44] Tryz.mixed Tryz.func91 rfl rfl rfl (by decide) (fun hcl hlow=>?_)
 repeat with_reducible refine awp_assoc ?_
 refine awp_sr fun K hK=>?_
 simp
 refine hK _ _ ?_
 clear hK K
 repeat with_reducible refine awp_assoc ?_
 refine awp_sr fun K hK=>?_
 simp
 refine hK _ _ ?_
 clear hK K
 repeat with_reducible refine awp_assoc ?_
 refine awp_seq_k fun K hK=>?_
 refine awp_block ?_
 refine awp_up fr.length (fun k=>Env.ofL [(0,.slice (cs.map ClsD.cells) none),(1,.slice (fr.map PredD.cells) none),(2,strV pc),(3,strV pn),(8,boolV false),(9,intV k)]) (fun k=>HL H []) (fun k=>(fr.take k).any fl=false) (weak_HL hcl rfl (by simp) (by simp)) (by simp) (fun k hk hvk=>?_) (fun hvk=>?_)
 ·obtain ⟨q,hq⟩:∃ q,fr[k]?=some q:=⟨_,List.getElem?_eq_getElem hk⟩
  have hbx:=any_at (p:=fl) hq
  have hms:=miss (p:=fl) hq hvk
  have ex:=e1 q
  repeat with_reducible refine awp_assoc ?_
  refine awp_sr fun K hK=>?_
  simp [hk]
  refine hK _ _ ?_
  clear hK K
  repeat with_reducible refine awp_assoc ?_
  refine awp_seq_k fun K hK=>?_
  refine awp_condT rfl (by simp) ?_
  refine awp_skip ?_
  refine hK _ _ ?_
  clear hK K
  refine awp_seq_k fun KB hKB=>?_
  refine awp_block ?_
  repeat with_reducible refine awp_assoc ?_
  refine awp_sr fun K hK=>?_
  suffices hE:K (Env.ofL [(0,.slice (cs.map ClsD.cells) none),(1,.slice (fr.map PredD.cells) none),(2,strV pc),(3,strV pn),(8,boolV false),(9,intV k),(13,boolV true),(44,boolV (fl q))]) (HL H []) by
   clear hK
   rw [ex] at hE
   by_cases h1:q.t.name=pn
   rotate_left
   ·have h1':=eq_false h1
    refine aOps_split 6 fun K hK=>?_
    simp [hq,h1']
    refine hK _ _ ?_
    clear hK K
    refine aOps_split 2 fun K hK=>?_
    simp [hq,h1']
    refine hK _ _ ?_
    clear hK K
    refine aOps_split 8 fun K hK=>?_
    simp [hq,h1']
    refine hK _ _ ?_
    clear hK K
    refine aOps_split 6 fun K hK=>?_
    simp [hq,h1']
    refine hK _ _ ?_
    clear hK K
    simp
    simpa [h1] using hE
   have h1':=eq_true h1
   refine aOps_split 6 fun K hK=>?_
   simp [hq,h1']
   refine hK _ _ ?_
   clear hK K
   refine aOps_split 2 fun K hK=>?_
   simp [hq,h1']
   refine hK _ _ ?_
   clear hK K
   by_cases h2:q.cls=pc
   ·have h2':=eq_true h2
    refine aOps_split 6 fun K hK=>?_
    simp [hq,h2']
    refine hK _ _ ?_
    clear hK K
    refine aOps_split 2 fun K hK=>?_
    simp [hq,h2']
    refine hK _ _ ?_
    clear hK K
    refine aOps_split 6 fun K hK=>?_
    simp [hq,h2']
    refine hK _ _ ?_
    clear hK K
    refine aOps_split 4 fun K hK=>?_
    simp [hq,h2']
    refine hK _ _ ?_
    clear hK K
    simp
    simpa [h1,h2] using hE
   have h2':=eq_false h2
   have hpl:=rPlace_c (ab q.cls) (by have:=hal q.cls;omega) pc
   have hge:=placeI_ge (ab q.cls) pc
   refine aOps_split 6 fun K hK=>?_
   simp [hq,h2']
   refine hK _ _ ?_
   clear hK K
   refine aOps_split 2 fun K hK=>?_
   simp [hq,h2']
   refine hK _ _ ?_
   clear hK K
   refine aOps_split 5 fun K hK=>?_
   simp [hq]
   refine hK _ _ ?_
   clear hK K
   refine aOps_split 2 fun K hK=>?_
   simp [hq]
   refine hK _ _ ?_
   clear hK K
   refine aOps_call (hab q.cls _) (by first | rfl | simp) rfl rfl (by first | (simp;done) | rfl) ?_
   refine aOps_split 1 fun K hK=>?_
   simp
   refine hK _ _ ?_
   clear hK K
   refine aOps_call (hpl _) (by first | rfl | simp) rfl rfl (by first | (simp;done) | rfl) ?_
   simp
   rw [hge]
   simpa [h1,h2] using hE
  refine hK _ _ ?_
  clear hK K
  cases hb:fl q
  ·refine awp_condF rfl (by simp) ?_
   refine awp_skip ?_
   refine hKB _ _ ?_
   clear hKB
   refine awp_region ?_
   simp [wrap_succ (show k < 4611686018427387904 by omega)]
   refine ⟨?_,weak_HL hcl rfl (by simp) (by simp)⟩
   simpa using hms hb
  ·refine awp_condT rfl (by simp) ?_
   repeat with_reducible refine awp_assoc ?_
   refine awp_sr fun K hK=>?_
   simp
   refine hK _ _ ?_
   clear hK K
   rw [hbx hb]
   simp [reset_all hcl]
 rw [List.take_length] at hvk
 repeat with_reducible refine awp_assoc ?_
 refine awp_sr fun K hK=>?_
 simp
 refine hK _ _ ?_
 clear hK K
 repeat with_reducible refine awp_assoc ?_
 refine awp_seq_k fun K hK=>?_
 refine awp_condF rfl (by simp) ?_
 refine awp_exit ?_
 simp
 clear hK K
 refine hK _ _ ?_
 clear hK K
 repeat with_reducible refine awp_assoc ?_
 refine awp_sr fun K hK=>?_
 simp
 refine hK _ _ ?_
 clear hK K
 rw [hvk]
 simp [reset_all hcl]
def rOpBad (o:SigD):Bool:=!memS aS (o.t.nodes.foldl nameStep [])
noncomputable def rRuleB (d:DeclsD):Bool:=d.classes.any (fun x=>x.ops.any rOpBad) || d.insts.any (fun x=>(supersOf d.classes x.cls).any (supBad d x))
set_option maxHeartbeats 4000000 in
theorem rUnruly_c (d:DeclsD) (h:ClsOk d) (hr:RawD d) (hog:∀ x∈d.classes,∀ o∈x.ops,o.t.good=true∧o.t.cnt < 1099511627776) (H:AHeap):ACalls Tryz.prog 54 [d.enc] H (boolV (rRuleB d)) H:=by
 have h2:=hr.classes
 have h3:=hr.insts
 have h6:=hr.supers
 have h7:=hr.ops
 have h8:=hr.preds
 have hFo:=fun p fr hfl=>rFollows_c d h p fr hfl
 have hFC:=rFindClass_c d.classes h2
 have hFI:=rFindInst_c d.insts h3
 have e0:rRuleB d=(d.classes.any (fun x=>x.ops.any rOpBad) || d.insts.any (fun x=>(supersOf d.classes x.cls).any (supBad d x))):=rfl
 have e1:∀ x s,supBad d x s=(match d.insts.find? fun y=>(decide (y.cls=s) && decide (y.data=x.data)) with | some y=>!(y.preds.all fun p=>x.preds.any (fol1 d p)) | none=>true):=fun _ _=>rfl
 generalize rRuleB d=rb at e0 ⊢
 generalize supBad d=sB at *
 generalize fol1 d=fo at *
 clear h hr
 obtain ⟨ds,cs,is⟩:=d
 simp only at e0 e1 h2 h3 h6 h7 h8 hFo hFC hFI hog
 refine acalls_walk (fun _=>.imm) [0,1,2,3,4,5,6,7,9,10,11,16,27,42,47,67,81,90,119] Tryz.mixed Tryz.func54 rfl rfl rfl (by decide) (fun hcl hlow=>?_)
 repeat with_reducible refine awp_assoc ?_
 refine awp_sr fun K hK=>?_
 simp
 refine hK _ _ ?_
 clear hK K
 repeat with_reducible refine awp_assoc ?_
 refine awp_sr fun K hK=>?_
 simp
 refine hK _ _ ?_
 clear hK K
 repeat with_reducible refine awp_assoc ?_
 refine awp_seq_k fun K hK=>?_
 refine awp_block ?_
 refine awp_up cs.length (fun k=>Env.ofL [(1,.ref (nid H.next 0) 0),(2,boolV false),(3,intV k)]) (fun k=>HL H [.cells [.slice (ds.map Dat.cells) none,.slice (cs.map ClsD.cells) none,.slice (is.map InstD.cells) none]]) (fun k=>(cs.take k).any (fun x=>x.ops.any rOpBad)=false) (weak_HL hcl rfl (by simp) (by simp)) (by simp) (fun k hk hvk=>?_) (fun hvk=>?_)
 ·obtain ⟨x,hx⟩:∃ x,cs[k]?=some x:=⟨_,List.getElem?_eq_getElem hk⟩
  have hxm:=List.mem_of_getElem? hx
  have g7:=h7 x hxm
  have hbx:=any_at (p:=fun x:ClsD=>x.ops.any rOpBad) hx
  have hms:=miss (p:=fun x:ClsD=>x.ops.any rOpBad) hx hvk
  repeat with_reducible refine awp_assoc ?_
  refine awp_sr fun K hK=>?_
  simp [hk]
  refine hK _ _ ?_
  clear hK K
  repeat with_reducible refine awp_assoc ?_
  refine awp_seq_k fun K hK=>?_
  refine awp_condT rfl (by simp) ?_
  refine awp_skip ?_
  refine hK _ _ ?_
  clear hK K
  refine awp_seq_k fun KB hKB=>?_
  refine awp_block ?_
  repeat with_reducible refine awp_assoc ?_
  refine awp_sr fun K hK=>?_
  simp [hx]
  refine hK _ _ ?_
  clear hK K
  refine awp_hide fun Q hQ=>?_
  refine awp_block ?_
  refine awp_up x.ops.length (fun j=>Env.ofL [(1,.ref (nid H.next 0) 0),(2,boolV false),(3,intV k),(4,intV j)]) (fun j=>HL H [.cells [.slice (ds.map Dat.cells) none,.slice (cs.map ClsD.cells) none,.slice (is.map InstD.cells) none]]) (fun j=>(x.ops.take j).any rOpBad=false) (weak_HL hcl rfl (by simp) (by simp)) (by simp) (fun j hj hvj=>?_) (fun hvj=>?_)
  ·obtain ⟨o,ho⟩:∃ o,x.ops[j]?=some o:=⟨_,List.getElem?_eq_getElem hj⟩
   have hgo:=hog x hxm o (List.mem_of_getElem? ho)
   have hbc:=any_at (p:=rOpBad) ho
   have hmc:=miss (p:=rOpBad) ho hvj
   have hn:=Names_c o.t hgo.1 hgo.2
   have eo:rOpBad o=!memS aS (o.t.nodes.foldl nameStep []):=rfl
   have hnl:(o.t.nodes.foldl nameStep []).length < 4611686018427387904:=by
    have:=fold_len o.t.nodes []
    have h2:=hgo.2
    unfold Ty.cnt at h2
    simp only [List.length_nil] at this
    omega
   generalize o.t.nodes.foldl nameStep []=ns at hn eo hnl
   have hpl:=rPlace_c ns hnl aS
   have hge:=placeI_ge ns aS
   obtain ⟨on,op,tn,tl⟩:=o
   simp only [enc_mk] at hn
   repeat with_reducible refine awp_assoc ?_
   refine awp_sr fun K hK=>?_
   simp [hj,hx]
   refine hK _ _ ?_
   clear hK K
   repeat with_reducible refine awp_assoc ?_
   refine awp_seq_k fun K hK=>?_
   refine awp_condT rfl (by simp) ?_
   refine awp_skip ?_
   refine hK _ _ ?_
   clear hK K
   refine awp_seq_k fun KC hKC=>?_
   refine awp_block ?_
   repeat with_reducible refine awp_assoc ?_
   refine awp_sr fun K hK=>?_
   refine aOps_split 6 fun K hK=>?_
   simp [hx]
   refine hK _ _ ?_
   clear hK K
   refine aOps_split 4 fun K hK=>?_
   simp [ho]
   refine hK _ _ ?_
   clear hK K
   refine aOps_call (hn _) (by first | rfl | simp) rfl rfl (by first | (simp;done) | rfl) ?_
   refine aOps_call (hpl _) (by first | rfl | simp) rfl rfl (by first | (simp;done) | rfl) ?_
   cases hm:memS aS ns
   ·have hm':placeI ns aS < 0:=by rw [hm] at hge;simpa using hge
    simp [hm']
    refine hK _ _ ?_
    clear hK K
    refine awp_condT rfl (by simp) ?_
    repeat with_reducible refine awp_assoc ?_
    refine awp_sr fun K hK=>?_
    simp
    refine hK _ _ ?_
    clear hK K
    refine hQ _ _ _ ?_
    rw [e0,hbx (hbc (by rw [eo,hm];rfl))]
    simp [reset_all hcl]
   ·have hm':¬ placeI ns aS < 0:=by rw [hm] at hge;simpa using hge
    simp [hm']
    refine hK _ _ ?_
    clear hK K
    refine awp_condF rfl (by simp) ?_
    refine awp_skip ?_
    refine hKC _ _ ?_
    clear hKC
    refine awp_region ?_
    simp [wrap_succ (show j < 4611686018427387904 by omega)]
    refine ⟨?_,weak_HL hcl rfl (by simp) (by simp)⟩
    simpa using hmc (by rw [eo,hm];rfl)
  rw [List.take_length] at hvj
  repeat with_reducible refine awp_assoc ?_
  refine awp_sr fun K hK=>?_
  simp [hx]
  refine hK _ _ ?_
  clear hK K
  repeat with_reducible refine awp_assoc ?_
  refine awp_seq_k fun K hK=>?_
  refine awp_condF rfl (by simp) ?_
  refine awp_exit ?_
  simp
  refine hQ _ _ _ ?_
  refine hKB _ _ ?_
  clear hKB
  refine awp_region ?_
  simp [wrap_succ (show k < 4611686018427387904 by omega)]
  exact ⟨by simpa using hms hvj,weak_HL hcl rfl (by simp) (by simp)⟩
 rw [List.take_length] at hvk
 rw [hvk,Bool.false_or] at e0
 repeat with_reducible refine awp_assoc ?_
 refine awp_sr fun K hK=>?_
 simp
 refine hK _ _ ?_
 clear hK K
 repeat with_reducible refine awp_assoc ?_
 refine awp_seq_k fun K hK=>?_
 refine awp_condF rfl (by simp) ?_
 refine awp_exit ?_
 simp
 clear hK K
 refine hK _ _ ?_
 clear hK K
 repeat with_reducible refine awp_assoc ?_
 refine awp_sr fun K hK=>?_
 simp
 refine hK _ _ ?_
 clear hK K
 repeat with_reducible refine awp_assoc ?_
 refine awp_seq_k fun K hK=>?_
 refine awp_block ?_
 refine awp_up is.length (fun k=>Env.ofL [(1,.ref (nid H.next 0) 0),(2,boolV false),(5,intV k)]) (fun k=>HL H [.cells [.slice (ds.map Dat.cells) none,.slice (cs.map ClsD.cells) none,.slice (is.map InstD.cells) none]]) (fun k=>(is.take k).any (fun x=>(supersOf cs x.cls).any (sB x))=false) (weak_HL hcl rfl (by simp) (by simp)) (by simp) (fun k hk hvk=>?_) (fun hvk=>?_)
 ·obtain ⟨x,hx⟩:∃ x,is[k]?=some x:=⟨_,List.getElem?_eq_getElem hk⟩
  have hxm:=List.mem_of_getElem? hx
  have g8:=h8 x hxm
  rename (is.take k).any _=false=>hvi
  have hbx:=any_at (p:=fun x:InstD=>(supersOf cs x.cls).any (sB x)) hx
  have hms:=miss (p:=fun x:InstD=>(supersOf cs x.cls).any (sB x)) hx hvi
  have hc:=hFC x.cls
  have es:=clsV_sup cs x.cls
  have hcm:=clsV_mem cs x.cls
  generalize (clsV cs x.cls).2=cb at hc
  generalize (clsV cs x.cls).1=c at hc es hcm
  have hcs:c.supers.length < 4611686018427387904:=by
   rcases hcm with h | h
   ·exact h6 c h
   ·rw [h];simp [zeroCls]
  rw [←es] at hbx hms
  clear es hcm
  obtain ⟨cn,csu,cop⟩:=c
  simp only at hcs hbx hms
  have e1x:=e1 x
  generalize sB x=sx at hbx hms e1x
  repeat with_reducible refine awp_assoc ?_
  refine awp_sr fun K hK=>?_
  simp [hk]
  refine hK _ _ ?_
  clear hK K
  repeat with_reducible refine awp_assoc ?_
  refine awp_seq_k fun K hK=>?_
  refine awp_condT rfl (by simp) ?_
  refine awp_skip ?_
  refine hK _ _ ?_
  clear hK K
  refine awp_seq_k fun KB hKB=>?_
  refine awp_block ?_
  repeat with_reducible refine awp_assoc ?_
  refine awp_sr fun K hK=>?_
  simp [hx]
  refine hK _ _ ?_
  clear hK K
  repeat with_reducible refine awp_assoc ?_
  refine awp_sr fun K hK=>?_
  refine aOps_split 4 fun K hK=>?_
  simp
  refine hK _ _ ?_
  clear hK K
  refine aOps_call (hc _) (by first | rfl | simp) rfl rfl (by first | (simp;done) | rfl) ?_
  simp
  refine hK _ _ ?_
  clear hK K
  repeat with_reducible refine awp_assoc ?_
  refine awp_sr fun K hK=>?_
  simp
  refine hK _ _ ?_
  clear hK K
  refine awp_hide fun Q hQ=>?_
  refine awp_block ?_
  refine awp_up csu.length (fun j=>Env.ofL [(1,.ref (nid H.next 0) 0),(2,boolV false),(5,intV k),(6,.ref (nid H.next 1) 0),(7,.ref (nid H.next 2) 0),(9,intV j)]) (fun j=>HL H [.cells [.slice (ds.map Dat.cells) none,.slice (cs.map ClsD.cells) none,.slice (is.map InstD.cells) none],.cells [strV x.cls,strV x.data,.slice (x.preds.map PredD.cells) none,.v (.slice x.ra x.rl x.rc)],.cells [strV cn,strs csu none,.slice (cop.map SigD.cells) none]]) (fun j=>(csu.take j).any sx=false) (weak_HL hcl rfl (by simp) (by simp)) (by simp) (fun j hj hvj=>?_) (fun hvj=>?_)
  ·obtain ⟨s,hs⟩:∃ s,csu[j]?=some s:=⟨_,List.getElem?_eq_getElem hj⟩
   have hbc:=any_at (p:=sx) hs
   have hmc:=miss (p:=sx) hs hvj
   have hi:=hFI s x.data
   have eo:=e1x s
   repeat with_reducible refine awp_assoc ?_
   refine awp_sr fun K hK=>?_
   simp [hj]
   refine hK _ _ ?_
   clear hK K
   repeat with_reducible refine awp_assoc ?_
   refine awp_seq_k fun K hK=>?_
   refine awp_condT rfl (by simp) ?_
   refine awp_skip ?_
   refine hK _ _ ?_
   clear hK K
   refine awp_seq_k fun KC hKC=>?_
   refine awp_block ?_
   repeat with_reducible refine awp_assoc ?_
   refine awp_sdc [] [[],[],[0,1],[0,1],[0,1,2,3],[0,1],[0,1],[0,1,2,3,4,5,6],[0,1,2,3,4,5,6],[2],[]] (by kernel_rfl) (by rfl) fun K hK=>?_
   refine aCalm_pre 5 (by rfl) fun K hK=>?_
   simp
   refine hK _ _ ?_
   clear hK K
   refine aCalm_pre 4 (by rfl) fun K hK=>?_
   simp [hs]
   refine hK _ _ ?_
   clear hK K
   refine aCalm_call0 (hi _) (by first | rfl | simp) rfl rfl rfl (by first | (simp;done) | rfl) ?_
   refine aCalm_pre 1 (by rfl) fun K hK=>?_
   simp
   refine hK _ _ ?_
   clear hK K
   refine aCalm_end ?_
   simp
   refine hK _ _ ?_
   clear hK K
   by_cases hneg:instI is s x.data < 0
   ·rw [instI_none hneg] at eo
    repeat with_reducible refine awp_assoc ?_
    refine awp_sr fun K hK=>?_
    simp [hneg]
    refine hK _ _ ?_
    clear hK K
    repeat with_reducible refine awp_assoc ?_
    refine awp_seq_k fun K hK=>?_
    refine awp_condT rfl (by simp [hneg]) ?_
    repeat with_reducible refine awp_assoc ?_
    refine awp_sr fun K hK=>?_
    simp
    refine hK _ _ ?_
    clear hK K
    refine hQ _ _ _ ?_
    rw [e0,hbx (hbc eo)]
    simp [reset_all hcl]
   obtain ⟨i,y,ei,hiy,hf⟩:=instI_some hneg
   rw [hf] at eo
   rw [ei] at hneg ⊢
   have gy:=h8 y (List.mem_of_getElem? hiy)
   repeat with_reducible refine awp_assoc ?_
   refine awp_sr fun K hK=>?_
   simp [hneg]
   refine hK _ _ ?_
   clear hK K
   repeat with_reducible refine awp_assoc ?_
   refine awp_seq_k fun K hK=>?_
   refine awp_condF rfl (by simp [hneg]) ?_
   refine awp_skip ?_
   refine hK _ _ ?_
   clear hK K
   repeat with_reducible refine awp_assoc ?_
   refine awp_sr fun K hK=>?_
   simp
   refine hK _ _ ?_
   clear hK K
   simp only at eo
   refine awp_block ?_
   refine awp_up y.preds.length (fun m=>Env.ofL [(1,.ref (nid H.next 0) 0),(2,boolV false),(5,intV k),(6,.ref (nid H.next 1) 0),(7,.ref (nid H.next 2) 0),(9,intV j),(10,intV (i:Int)),(11,intV m)]) (fun m=>HL H [.cells [.slice (ds.map Dat.cells) none,.slice (cs.map ClsD.cells) none,.slice (is.map InstD.cells) none],.cells [strV x.cls,strV x.data,.slice (x.preds.map PredD.cells) none,.v (.slice x.ra x.rl x.rc)],.cells [strV cn,strs csu none,.slice (cop.map SigD.cells) none]]) (fun m=>(y.preds.take m).all (fun p=>x.preds.any (fo p))=true) (weak_HL hcl rfl (by simp) (by simp)) (by simp) (fun m hm hvm=>?_) (fun hvm=>?_)
   ·obtain ⟨p,hp⟩:∃ p,y.preds[m]?=some p:=⟨_,List.getElem?_eq_getElem hm⟩
    have hbd:=all_bad (p:=fun p:PredD=>x.preds.any (fo p)) hp
    have hnx:=all_next (p:=fun p:PredD=>x.preds.any (fo p)) hp hvm
    have hfo:=hFo p x.preds g8
    repeat with_reducible refine awp_assoc ?_
    refine awp_sr fun K hK=>?_
    simp [hm,hiy]
    refine hK _ _ ?_
    clear hK K
    repeat with_reducible refine awp_assoc ?_
    refine awp_seq_k fun K hK=>?_
    refine awp_condT rfl (by simp) ?_
    refine awp_skip ?_
    refine hK _ _ ?_
    clear hK K
    refine awp_seq_k fun KD hKD=>?_
    refine awp_block ?_
    repeat with_reducible refine awp_assoc ?_
    refine awp_sdc [] [[],[],[0,1],[0,1],[0,1,2,3],[0,1,2,3],[0,1,2,3,4,5],[0,1,2,3],[0,1,2,3],[0,1,2,3,4],[0,1,2,3,4,5,6,7,8,9],[0,1,2,3,4,5,6],[0,1,2,3,4,5,6,7],[0,1,2,3,4,5,6,7,8],[0,1,2,3,4,5,6,7,8,9,10,11,12,13],[0,1,2,3,4,5,6,7,8,9,10,11,12,13],[0,1,2,3,4,5,6,7,8,9,10,11,12,13,14,15],[0,1,2,3,4,5,6,7,8,9,10,11,12,13],[0,1,2,3,4,5,6,7,8,9,10,11,12,13],[0,1,2,3,4,5,6,7,8,9,10,11,12,13,14],[0,1,2,3,4,5,6,7,8,9,10,11,12,13,14,15,16,17,18,19],[0,1,2,3,4,5,6,7,8,9,10,11,12,13,14,15,16],[0,1,2,3,4,5,6,7,8,9,10,11,12,13,14,15,16,17],[0,1,2,3,4,5,6,7,8,9,10,11,12,13,14,15,16,17,18],[0,1,2,3,4,5,6,7,8,9,10,11,12,13,14,15,16,17,18,19,20],[4,5,6,7,8,9,10,14,15,16,17,18,19,20,21],[4,5,6,7,8,9,10,11,14,15,16,17,18,19,20,21,22]] (by kernel_rfl) (by rfl) fun K hK=>?_
    refine aCalm_pre 4 (by rfl) fun K hK=>?_
    simp
    refine hK _ _ ?_
    clear hK K
    refine aCalm_pre 4 (by rfl) fun K hK=>?_
    simp [hiy]
    refine hK _ _ ?_
    clear hK K
    refine aCalm_pre 3 (by rfl) fun K hK=>?_
    simp [hiy]
    refine hK _ _ ?_
    clear hK K
    refine aCalm_pre 3 (by rfl) fun K hK=>?_
    simp [hp]
    refine hK _ _ ?_
    clear hK K
    refine aCalm_pre 4 (by rfl) fun K hK=>?_
    simp [hiy]
    refine hK _ _ ?_
    clear hK K
    refine aCalm_pre 3 (by rfl) fun K hK=>?_
    simp [hiy]
    refine hK _ _ ?_
    clear hK K
    refine aCalm_pre 4 (by rfl) fun K hK=>?_
    simp [hp]
    refine hK _ _ ?_
    clear hK K
    refine aCalm_call0 (hfo _) (by first | rfl | simp) rfl rfl rfl (by first | (simp;done) | rfl) ?_
    refine aCalm_pre 1 (by rfl) fun K hK=>?_
    simp
    refine hK _ _ ?_
    clear hK K
    refine aCalm_end ?_
    simp
    refine hK _ _ ?_
    clear hK K
    cases hb:x.preds.any (fo p)
    ·refine awp_condT rfl (by simp [hb]) ?_
     repeat with_reducible refine awp_assoc ?_
     refine awp_sr fun K hK=>?_
     simp
     refine hK _ _ ?_
     clear hK K
     refine hQ _ _ _ ?_
     rw [e0,hbx (hbc (by rw [eo,hbd hb];rfl))]
     simp [reset_all hcl]
    ·refine awp_condF rfl (by simp [hb]) ?_
     refine awp_skip ?_
     refine hKD _ _ ?_
     clear hKD
     refine awp_region ?_
     simp [wrap_succ (show m < 4611686018427387904 by omega)]
     refine ⟨?_,weak_HL hcl rfl (by simp) (by simp)⟩
     simpa using hnx hb
   rw [List.take_length] at hvm
   repeat with_reducible refine awp_assoc ?_
   refine awp_sr fun K hK=>?_
   simp [hiy]
   refine hK _ _ ?_
   clear hK K
   repeat with_reducible refine awp_assoc ?_
   refine awp_seq_k fun K hK=>?_
   refine awp_condF rfl (by simp) ?_
   refine awp_exit ?_
   simp
   refine hKC _ _ ?_
   clear hKC
   refine awp_region ?_
   simp [wrap_succ (show j < 4611686018427387904 by omega)]
   exact ⟨by simpa using hmc (by rw [eo,hvm];rfl),weak_HL hcl rfl (by simp) (by simp)⟩
  rw [List.take_length] at hvj
  repeat with_reducible refine awp_assoc ?_
  refine awp_sr fun K hK=>?_
  simp
  refine hK _ _ ?_
  clear hK K
  repeat with_reducible refine awp_assoc ?_
  refine awp_seq_k fun K hK=>?_
  refine awp_condF rfl (by simp) ?_
  refine awp_exit ?_
  simp
  refine hQ _ _ _ ?_
  refine hKB _ _ ?_
  clear hKB
  refine awp_region ?_
  simp [wrap_succ (show k < 4611686018427387904 by omega)]
  exact ⟨by simpa using hms hvj,weak_HL hcl rfl (by simp) (by simp)⟩
 rename (is.take is.length).any _=false=>hvi
 rw [List.take_length] at hvi
 rw [hvi] at e0
 repeat with_reducible refine awp_assoc ?_
 refine awp_sr fun K hK=>?_
 simp
 refine hK _ _ ?_
 clear hK K
 repeat with_reducible refine awp_assoc ?_
 refine awp_seq_k fun K hK=>?_
 refine awp_condF rfl (by simp) ?_
 refine awp_exit ?_
 simp
 clear hK K
 refine hK _ _ ?_
 clear hK K
 repeat with_reducible refine awp_assoc ?_
 refine awp_sr fun K hK=>?_
 simp
 refine hK _ _ ?_
 clear hK K
 rw [e0]
 simp [reset_all hcl]
end Go.Proofs.YtlhoigpidpokfaaGreat
