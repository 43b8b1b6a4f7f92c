/- Circles of classes; what follows; rules. -/
import Derived.Test.YtdppfcbeiplckaaGreatMD7
import Derived.Test.YtdppfcbeiplckaaGreatMD6
set_option linter.unusedVariables false
set_option linter.unusedSimpArgs false
namespace Go.Proofs.YtdppfcbeiplckaaGreat
open Go Go.Abs Go.Proofs
set_option maxRecDepth 20000
attribute [local simp] aOps wantedA aStep aop aLoad aStore aBin aUn aFieldAddr aField aIndexAddr aIndex aLen aBuild aFill aAlloc aAppend aAppendOwn aMin aMax aBuildSlice litRows newRows isMut isOwn isNilS nilsW bytesR tokW tokAV tokL ret readC splice aeval isLit isLate isCut aCut AV.celled AV.one AV.ofValue Value.oneCell' Value.cells intOp strOp get_nid upd_nid awp aEnd aResults aResult Det unord isCall isNext
attribute [local simp] low_take low_strs low_comp low_tcomp wkEs_refl' WkBs WkEnv WkB WkL WkE WkO ABlock.low lowO lowL lowR AV.low cellsL_eq Ty.low low_map Ty.cells_length Ty.cells_one
attribute [local simp] ConD.cells Dat.cells PredD.cells SigD.cells ClsD.cells InstD.cells DeclsD.cells DeclsD.enc Dat.enc low_datL low_conL low_predL low_sigL low_clsL low_instL
noncomputable def abv (cs:List ClsD) (n:ByteArray):List ByteArray:=by
 classical exact if h:∃ S f,aboveF cs f [n] []=some S then h.choose else []
def AbOk (cs:List ClsD):Prop:=∀ n,(∃ f,aboveF cs f [n] []=some (abv cs n))∧(abv cs n).length≤12
structure ClsOk (d:DeclsD):Prop where
 cls:d.classes.length < 1000000000000
 sup:∀ x∈d.classes,x.supers.length < 4611686018427387904
 ab:AbOk d.classes
theorem above2_c (d:DeclsD) (h:ClsOk d) (n:ByteArray) (H:AHeap):ACalls Tryz.prog 173 [d.enc,strV n] H (strs (sortS (abv d.classes n)) none) H:=by
 obtain ⟨⟨f,hf⟩,hl⟩:=h.ab n
 exact above_c d h.cls h.sup n _ f hf hl H
theorem memS_sort (x:ByteArray) (l:List ByteArray):memS x (sortS l)=memS x l:=by
 rw [Bool.eq_iff_iff,memS_iff,memS_iff];exact (sortS_perm l).mem_iff
theorem sortS_len (l:List ByteArray):(sortS l).length=l.length:=(sortS_perm l).length_eq
noncomputable def loopB (d:DeclsD):Bool:=d.classes.any fun x=>memS x.name (abv d.classes x.name)
theorem loop_c (d:DeclsD) (h:ClsOk d) (H:AHeap):ACalls Tryz.prog 102 [d.enc] H (intV (if loopB d=true then 10 else 0)) H:=by
 have h2:=h.cls
 have hab:=above2_c d h
 have hcn:=fun n x=>contains_c (sortS (abv d.classes n)) x (by rw [sortS_len];have:=(h.ab n).2;omega)
 have e0:loopB d=d.classes.any fun x=>memS x.name (abv d.classes x.name):=rfl
 generalize loopB d=lb at e0 ⊢
 simp only [memS_sort] at hcn
 generalize abv d.classes=av at *
 clear h
 obtain ⟨ds,cs,is⟩:=d
 simp only at h2 e0
 refine acalls_walk (fun _=>.imm) [0,1,2,4,6,7,8,9,18] Tryz.mixed Tryz.func102 rfl rfl rfl (by decide) (fun hcl hlow=>?_)
 repeat with_reducible refine awp_assoc ?_
 refine awp_sr fun K hK=>?_
 simp
 refine hK _ _ ?_
 clear hK K
 repeat with_reducible refine awp_assoc ?_
 refine awp_sr fun K hK=>?_
 simp
 refine hK _ _ ?_
 clear hK K
 repeat with_reducible refine awp_assoc ?_
 refine awp_seq_k fun K hK=>?_
 refine awp_block ?_
 refine awp_up cs.length (fun k=>Env.ofL [(1,.ref (nid H.next 0) 0),(2,intV 0),(6,.slice (cs.map ClsD.cells) none),(7,intV (cs.length:Int)),(8,intV k)]) (fun k=>HL H [.cells [.slice (ds.map Dat.cells) none,.slice (cs.map ClsD.cells) none,.slice (is.map InstD.cells) none]]) (fun k=>(cs.take k).any (fun x=>memS x.name (av x.name))=false) (weak_HL hcl rfl (by simp) (by simp)) (by simp) (fun k hk hvk=>?_) (fun hvk=>?_)
 ·obtain ⟨x,hx⟩:∃ x,cs[k]?=some x:=⟨_,List.getElem?_eq_getElem hk⟩
  have hbx:=any_at (p:=fun x:ClsD=>memS x.name (av x.name)) hx
  have hms:=miss (p:=fun x:ClsD=>memS x.name (av x.name)) hx hvk
  repeat with_reducible refine awp_assoc ?_
  refine awp_sr fun K hK=>?_
  simp [hk]
  refine hK _ _ ?_
  clear hK K
  repeat with_reducible refine awp_assoc ?_
  refine awp_seq_k fun K hK=>?_
  refine awp_condT rfl (by simp) ?_
  refine awp_skip ?_
  refine hK _ _ ?_
  clear hK K
  refine awp_seq_k fun KB hKB=>?_
  refine awp_block ?_
  repeat with_reducible refine awp_assoc ?_
  refine awp_sr fun K hK=>?_
  simp [hx]
  refine hK _ _ ?_
  clear hK K
  repeat with_reducible refine awp_assoc ?_
  refine awp_sdc [] [[],[0],[0],[],[0,1,2,3],[0,1,2,3],[]] (by kernel_rfl) (by rfl) fun K hK=>?_
  refine aCalm_pre 3 (by rfl) fun K hK=>?_
  simp
  refine hK _ _ ?_
  clear hK K
  refine aCalm_call0 (hab x.name _) (by first | rfl | simp) rfl rfl rfl (by first | (simp;done) | rfl) ?_
  refine aCalm_pre 2 (by rfl) fun K hK=>?_
  simp
  refine hK _ _ ?_
  clear hK K
  refine aCalm_call0 (hcn x.name x.name _) (by first | rfl | simp) rfl rfl rfl (by first | (simp;done) | rfl) ?_
  refine aCalm_end ?_
  simp
  refine hK _ _ ?_
  clear hK K
  cases hm:memS x.name (av x.name)
  ·refine awp_condF rfl (by simp [hm]) ?_
   refine awp_skip ?_
   refine hKB _ _ ?_
   clear hKB
   refine awp_region ?_
   simp [wrap_succ (show k < 4611686018427387904 by omega)]
   refine ⟨?_,weak_HL hcl rfl (by simp) (by simp)⟩
   simpa using hms hm
  ·refine awp_condT rfl (by simp [hm]) ?_
   repeat with_reducible refine awp_assoc ?_
   refine awp_sr fun K hK=>?_
   simp
   refine hK _ _ ?_
   clear hK K
   rw [e0,hbx hm]
   simp [reset_all hcl]
 rw [List.take_length] at hvk
 repeat with_reducible refine awp_assoc ?_
 refine awp_sr fun K hK=>?_
 simp
 refine hK _ _ ?_
 clear hK K
 repeat with_reducible refine awp_assoc ?_
 refine awp_seq_k fun K hK=>?_
 refine awp_condF rfl (by simp) ?_
 refine awp_exit ?_
 simp
 clear hK K
 refine hK _ _ ?_
 clear hK K
 repeat with_reducible refine awp_assoc ?_
 refine awp_sr fun K hK=>?_
 simp
 refine hK _ _ ?_
 clear hK K
 rw [e0,hvk]
 simp [reset_all hcl]
theorem ix_ge {α:Type} (p:α→Bool) (l:List α):decide (0≤ixI (l.findIdx? p))=l.any p:=by
 cases h:l.findIdx? p with
 | none =>
  rw [List.findIdx?_eq_none_iff] at h
  have:l.any p=false:=by rw [List.any_eq_false];intro x hx;simp [h x hx]
  rw [this];rfl
 | some i =>
  obtain ⟨hl,h1,_⟩:=List.findIdx?_eq_some_iff_getElem.1 h
  have:l.any p=true:=List.any_eq_true.2 ⟨_,List.getElem_mem hl,h1⟩
  rw [this];simp [ixI]
theorem idxPred_c (l:List PredD) (hl:l.length < 4611686018427387904) (g:FuncId) (caps:List AV) (p:PredD→Bool) (H:AHeap) (hf:∀ x∈l,ACalls Tryz.prog g (.agg x.cells::caps) (HL H []) (boolV (p x)) (HL H [])):ACalls Tryz.prog 257 [.slice (l.map PredD.cells) none,.fn g caps] H (intV (ixI (l.findIdx? p))) H:=by
 refine acalls_walk (fun _=>.imm) [0,1,4,5,7,8,9,16] Tryz.mixed Tryz.func257 rfl rfl rfl (by decide) (fun hcl hlow=>?_)
 have hlc:lowL H.next caps:=by simpa [low_map] using hlow
 have hlc2:lowL (nid H.next 0) caps:=lowL_mono (by simp [nid]) caps hlc
 repeat with_reducible refine awp_assoc ?_
 refine awp_sr fun K hK=>?_
 simp
 refine hK _ _ ?_
 clear hK K
 repeat with_reducible refine awp_assoc ?_
 refine awp_sr fun K hK=>?_
 simp
 refine hK _ _ ?_
 clear hK K
 refine awp_seq_k fun K hK=>?_
 refine awp_block ?_
 refine awp_up l.length (fun k=>Env.ofL [(0,.slice (l.map PredD.cells) none),(1,.fn g caps),(4,intV 0),(7,intV (l.length:Int)),(8,intV k)]) (fun k=>HL H []) (fun k=>∀ y∈l.take k,p y=false) (weak_HL hcl rfl (by simp) (by simp [hlc2,low_map])) (by simp) (fun k hk hv=>?_) (fun hv=>?_)
 ·obtain ⟨x,hx⟩:∃ x,l[k]?=some x:=⟨_,List.getElem?_eq_getElem hk⟩
  have hc:=hf x (List.mem_of_getElem? hx)
  have hat:=ix_at (p:=p) hx
  have htk:=take_all (p:=fun y=>p y=false) hx
  generalize hpx:p x=px at *
  obtain ⟨xc,xn,xl⟩:=x
  simp only [PredD.cells,Ty.name,Ty.args] at hc
  repeat with_reducible refine awp_assoc ?_
  refine awp_sr fun K hK=>?_
  simp [hk]
  refine hK _ _ ?_
  clear hK K
  repeat with_reducible refine awp_assoc ?_
  refine awp_seq_k fun K hK=>?_
  refine awp_condT rfl (by simp) ?_
  refine awp_skip ?_
  refine hK _ _ ?_
  clear hK K
  refine awp_seq_k fun K hK=>?_
  refine awp_block ?_
  repeat with_reducible refine awp_assoc ?_
  refine awp_sr fun K hK=>?_
  simp
  refine hK _ _ ?_
  clear hK K
  repeat with_reducible refine awp_assoc ?_
  refine awp_sr fun K hK=>?_
  refine aOps_split 5 fun K hK=>?_
  simp [hx,Ty.cells]
  refine hK _ _ ?_
  clear hK K
  refine aOps_call (hc) (by first | rfl | simp) rfl rfl (by first | (simp;done) | rfl) ?_
  simp
  refine hK _ _ ?_
  clear hK K
  cases hs:px
  ·refine awp_condF rfl (by simp [hs]) ?_
   refine awp_skip ?_
   refine hK _ _ ?_
   clear hK K
   refine awp_region ?_
   simp [wrap_succ (show k < 4611686018427387904 by omega)]
   refine ⟨by simpa using htk hs hv,?_⟩
   exact weak_HL hcl rfl (by simp) (by simp [hlc2,low_map])
  ·refine awp_condT rfl (by simp [hs]) ?_
   repeat with_reducible refine awp_assoc ?_
   refine awp_sr fun K hK=>?_
   simp
   refine hK _ _ ?_
   clear hK K
   rw [hat hs hv]
   simp [ixI,reset_all hcl]
 ·repeat with_reducible refine awp_assoc ?_
  refine awp_sr fun K hK=>?_
  simp
  refine hK _ _ ?_
  clear hK K
  repeat with_reducible refine awp_assoc ?_
  refine awp_seq_k fun K hK=>?_
  refine awp_condF rfl (by simp) ?_
  refine awp_exit ?_
  simp
  clear hK K
  refine hK _ _ ?_
  clear hK K
  repeat with_reducible refine awp_assoc ?_
  refine awp_sr fun K hK=>?_
  simp
  refine hK _ _ ?_
  clear hK K
  rw [List.take_length] at hv
  rw [ix_none hv]
  simp [ixI,reset_all hcl]
theorem hasPred_c (l:List PredD) (hl:l.length < 4611686018427387904) (g:FuncId) (caps:List AV) (p:PredD→Bool) (H:AHeap) (hf:∀ x∈l,ACalls Tryz.prog g (.agg x.cells::caps) H (boolV (p x)) H):ACalls Tryz.prog 228 [.slice (l.map PredD.cells) none,.fn g caps] H (boolV (l.any p)) H:=by
 refine acalls_walk (fun _=>.imm) [0,1,4] Tryz.mixed Tryz.func228 rfl rfl rfl (by decide) (fun hcl hlow=>?_)
 have hi:=idxPred_c l hl g caps p H (by rw [HL_nil hcl];exact hf)
 repeat with_reducible refine awp_assoc ?_
 refine awp_sr fun K hK=>?_
 simp
 refine hK _ _ ?_
 clear hK K
 rw [HL_nil hcl]
 repeat with_reducible refine awp_assoc ?_
 refine awp_sr fun K hK=>?_
 refine aOps_split 2 fun K hK=>?_
 simp
 refine hK _ _ ?_
 clear hK K
 refine aOps_call (hi) (by first | rfl | simp) rfl rfl (by first | (simp;done) | rfl) ?_
 simp
 refine hK _ _ ?_
 clear hK K
 simp [ix_ge]
 exact Reset.refl hcl
theorem idxTy_c (l:List Ty) (hl:l.length < 4611686018427387904) (g:FuncId) (caps:List AV) (p:Ty→Bool) (H:AHeap) (hf:∀ x∈l,ACalls Tryz.prog g (x.enc::caps) (HL H []) (boolV (p x)) (HL H [])):ACalls Tryz.prog 225 [.slice (l.map Ty.cells) none,.fn g caps] H (intV (ixI (l.findIdx? p))) H:=by
 refine acalls_walk (fun _=>.imm) [0,1,4,5,7,8,9,16] Tryz.mixed Tryz.func225 rfl rfl rfl (by decide) (fun hcl hlow=>?_)
 have hlc:lowL H.next caps:=by simpa [low_map] using hlow
 have hlc2:lowL (nid H.next 0) caps:=lowL_mono (by simp [nid]) caps hlc
 repeat with_reducible refine awp_assoc ?_
 refine awp_sr fun K hK=>?_
 simp
 refine hK _ _ ?_
 clear hK K
 repeat with_reducible refine awp_assoc ?_
 refine awp_sr fun K hK=>?_
 simp
 refine hK _ _ ?_
 clear hK K
 refine awp_seq_k fun K hK=>?_
 refine awp_block ?_
 refine awp_up l.length (fun k=>Env.ofL [(0,.slice (l.map Ty.cells) none),(1,.fn g caps),(4,intV 0),(7,intV (l.length:Int)),(8,intV k)]) (fun k=>HL H []) (fun k=>∀ y∈l.take k,p y=false) (weak_HL hcl rfl (by simp) (by simp [hlc2,low_map])) (by simp) (fun k hk hv=>?_) (fun hv=>?_)
 ·obtain ⟨x,hx⟩:∃ x,l[k]?=some x:=⟨_,List.getElem?_eq_getElem hk⟩
  have hc:=hf x (List.mem_of_getElem? hx)
  have hat:=ix_at (p:=p) hx
  have htk:=take_all (p:=fun y=>p y=false) hx
  generalize hpx:p x=px at *
  obtain ⟨xn,xl⟩:=x
  simp only [enc_mk] at hc
  repeat with_reducible refine awp_assoc ?_
  refine awp_sr fun K hK=>?_
  simp [hk]
  refine hK _ _ ?_
  clear hK K
  repeat with_reducible refine awp_assoc ?_
  refine awp_seq_k fun K hK=>?_
  refine awp_condT rfl (by simp) ?_
  refine awp_skip ?_
  refine hK _ _ ?_
  clear hK K
  refine awp_seq_k fun K hK=>?_
  refine awp_block ?_
  repeat with_reducible refine awp_assoc ?_
  refine awp_sr fun K hK=>?_
  simp
  refine hK _ _ ?_
  clear hK K
  repeat with_reducible refine awp_assoc ?_
  refine awp_sr fun K hK=>?_
  refine aOps_split 5 fun K hK=>?_
  simp [hx,Ty.cells]
  refine hK _ _ ?_
  clear hK K
  refine aOps_call (hc) (by first | rfl | simp) rfl rfl (by first | (simp;done) | rfl) ?_
  simp
  refine hK _ _ ?_
  clear hK K
  cases hs:px
  ·refine awp_condF rfl (by simp [hs]) ?_
   refine awp_skip ?_
   refine hK _ _ ?_
   clear hK K
   refine awp_region ?_
   simp [wrap_succ (show k < 4611686018427387904 by omega)]
   refine ⟨by simpa using htk hs hv,?_⟩
   exact weak_HL hcl rfl (by simp) (by simp [hlc2,low_map])
  ·refine awp_condT rfl (by simp [hs]) ?_
   repeat with_reducible refine awp_assoc ?_
   refine awp_sr fun K hK=>?_
   simp
   refine hK _ _ ?_
   clear hK K
   rw [hat hs hv]
   simp [ixI,reset_all hcl]
 ·repeat with_reducible refine awp_assoc ?_
  refine awp_sr fun K hK=>?_
  simp
  refine hK _ _ ?_
  clear hK K
  repeat with_reducible refine awp_assoc ?_
  refine awp_seq_k fun K hK=>?_
  refine awp_condF rfl (by simp) ?_
  refine awp_exit ?_
  simp
  clear hK K
  refine hK _ _ ?_
  clear hK K
  repeat with_reducible refine awp_assoc ?_
  refine awp_sr fun K hK=>?_
  simp
  refine hK _ _ ?_
  clear hK K
  rw [List.take_length] at hv
  rw [ix_none hv]
  simp [ixI,reset_all hcl]
theorem hasTy_c (l:List Ty) (hl:l.length < 4611686018427387904) (g:FuncId) (caps:List AV) (p:Ty→Bool) (H:AHeap) (hf:∀ x∈l,ACalls Tryz.prog g (x.enc::caps) H (boolV (p x)) H):ACalls Tryz.prog 174 [.slice (l.map Ty.cells) none,.fn g caps] H (boolV (l.any p)) H:=by
 refine acalls_walk (fun _=>.imm) [0,1,4] Tryz.mixed Tryz.func174 rfl rfl rfl (by decide) (fun hcl hlow=>?_)
 have hi:=idxTy_c l hl g caps p H (by rw [HL_nil hcl];exact hf)
 repeat with_reducible refine awp_assoc ?_
 refine awp_sr fun K hK=>?_
 simp
 refine hK _ _ ?_
 clear hK K
 rw [HL_nil hcl]
 repeat with_reducible refine awp_assoc ?_
 refine awp_sr fun K hK=>?_
 refine aOps_split 2 fun K hK=>?_
 simp
 refine hK _ _ ?_
 clear hK K
 refine aOps_call (hi) (by first | rfl | simp) rfl rfl (by first | (simp;done) | rfl) ?_
 simp
 refine hK _ _ ?_
 clear hK K
 simp [ix_ge]
 exact Reset.refl hcl
noncomputable def fol1 (d:DeclsD) (p q:PredD):Bool:=decide (q.t.name=p.t.name) && (decide (q.cls=p.cls) || memS p.cls (abv d.classes q.cls))
noncomputable def followB (d:DeclsD) (l fr:List PredD):Bool:=l.all fun p=>fr.any (fol1 d p)
theorem fol1_c (d:DeclsD) (h:ClsOk d) (p q:PredD) (i j:Nat) (H:AHeap) (hi:H.get i=some (.cells p.cells)) (hj:H.get j=some (.cells d.cells)):ACalls Tryz.prog 229 [.agg q.cells,.ref i 0,.ref j 0] H (boolV (fol1 d p q)) H:=by
 have hab:=above2_c d h
 have hcn:=fun n x=>contains_c (sortS (abv d.classes n)) x (by rw [sortS_len];have:=(h.ab n).2;omega)
 have e0:fol1 d p q=(decide (q.t.name=p.t.name) && (decide (q.cls=p.cls) || memS p.cls (abv d.classes q.cls))):=rfl
 generalize fol1 d p q=fb at e0 ⊢
 simp only [memS_sort] at hcn
 generalize abv d.classes=av at *
 clear h
 obtain ⟨pc,pn,pl⟩:=p
 obtain ⟨qc,qn,ql⟩:=q
 simp only [PredD.cells,Ty.name,Ty.args] at hi e0 ⊢
 refine acalls_walk (fun _=>.imm) [0,1,2,3,4] Tryz.mixed Tryz.func229 rfl rfl rfl (by decide) (fun hcl hlow=>?_)
 have hlt:i < H.next∧j < H.next:=⟨(hcl _ _ hi).1,(hcl _ _ hj).1⟩
 have gi:∀ bs,(HL H bs).get i=some (.cells [strV pc,strV pn,.slice (pl.map Ty.cells) none]):=fun bs=>by rw [get_lt hlt.1];exact hi
 have gj:∀ bs,(HL H bs).get j=some (.cells d.cells):=fun bs=>by rw [get_lt hlt.2];exact hj
 repeat with_reducible refine awp_assoc ?_
 refine awp_sr fun K hK=>?_
 simp
 refine hK _ _ ?_
 clear hK K
 repeat with_reducible refine awp_assoc ?_
 refine awp_sdc [] [[],[],[],[0,1,2],[0,1,2],[0,1,2],[],[0,3],[0,1,3,4],[0,1,3,4],[0,1,3,4,8,9],[0,1,3,4,8,9],[0,1,3,4],[0,1,3,4],[0,1,2,3,4,5,8,10],[0,1,2,3,4,5,8,10,14],[0,1,2,3,4,5,8,10,14],[0,1,2,3,4,5,8,10],[0,1,2,3,4,5,8,10,14,15,16,17],[0,1,2,3,4,5,8,10,14,15,16,17],[0,1,2,3,4,5,8,10],[0,1,3,4,8,10,15],[0,1,3,4,8,9,10,11,14,15,16,18],[]] (by kernel_rfl) (by rfl) fun K hK=>?_
 refine aCalm_pre 4 (by rfl) fun K hK=>?_
 simp
 refine hK _ _ ?_
 clear hK K
 by_cases h1:qn=pn
 rotate_left
 ·refine aCalm_pre 4 (by rfl) fun K hK=>?_
  simp [gi,h1]
  refine hK _ _ ?_
  clear hK K
  refine aCalm_pre 6 (by rfl) fun K hK=>?_
  simp
  refine hK _ _ ?_
  clear hK K
  refine aCalm_pre 3 (by rfl) fun K hK=>?_
  simp
  refine hK _ _ ?_
  clear hK K
  refine aCalm_skip rfl ?_
  refine aCalm_pre 2 (by rfl) fun K hK=>?_
  simp
  refine hK _ _ ?_
  clear hK K
  refine aCalm_skip rfl ?_
  refine aCalm_pre 3 (by rfl) fun K hK=>?_
  simp
  refine hK _ _ ?_
  clear hK K
  refine aCalm_end ?_
  simp
  refine hK _ _ ?_
  clear hK K
  rw [e0]
  simp [h1,reset_all hcl]
 refine aCalm_pre 4 (by rfl) fun K hK=>?_
 simp [gi,h1]
 refine hK _ _ ?_
 clear hK K
 by_cases h2:qc=pc
 ·refine aCalm_pre 6 (by rfl) fun K hK=>?_
  simp [gi,h2]
  refine hK _ _ ?_
  clear hK K
  refine aCalm_pre 3 (by rfl) fun K hK=>?_
  simp
  refine hK _ _ ?_
  clear hK K
  refine aCalm_skip rfl ?_
  refine aCalm_pre 2 (by rfl) fun K hK=>?_
  simp
  refine hK _ _ ?_
  clear hK K
  refine aCalm_skip rfl ?_
  refine aCalm_pre 3 (by rfl) fun K hK=>?_
  simp
  refine hK _ _ ?_
  clear hK K
  refine aCalm_end ?_
  simp
  refine hK _ _ ?_
  clear hK K
  rw [e0]
  simp [h1,h2,reset_all hcl]
 refine aCalm_pre 6 (by rfl) fun K hK=>?_
 simp [gi,h2]
 refine hK _ _ ?_
 clear hK K
 refine aCalm_pre 3 (by rfl) fun K hK=>?_
 simp [gj]
 refine hK _ _ ?_
 clear hK K
 refine aCalm_call0 (hab qc _) (by first | rfl | simp) rfl rfl rfl (by first | (simp;done) | rfl) ?_
 refine aCalm_pre 2 (by rfl) fun K hK=>?_
 simp [gi]
 refine hK _ _ ?_
 clear hK K
 refine aCalm_call0 (hcn qc pc _) (by first | rfl | simp) rfl rfl rfl (by first | (simp;done) | rfl) ?_
 refine aCalm_pre 3 (by rfl) fun K hK=>?_
 simp
 refine hK _ _ ?_
 clear hK K
 refine aCalm_end ?_
 simp
 refine hK _ _ ?_
 clear hK K
 rw [e0]
 simp [h1,h2,reset_all hcl]
theorem follow_c (d:DeclsD) (h:ClsOk d) (l fr:List PredD) (hl:l.length < 4611686018427387904) (hfl:fr.length < 4611686018427387904) (H:AHeap):ACalls Tryz.prog 177 [d.enc,.slice (l.map PredD.cells) none,.slice (fr.map PredD.cells) none] H (boolV (followB d l fr)) H:=by
 have hf1:=fol1_c d h
 have hhp:=hasPred_c fr hfl
 have e0:followB d l fr=l.all fun p=>fr.any (fol1 d p):=rfl
 generalize followB d l fr=fb at e0 ⊢
 generalize fol1 d=f1 at *
 clear h
 refine acalls_walk (fun _=>.imm) [0,1,2,3,6,8,9,10,11,12,13,20] Tryz.mixed Tryz.func177 rfl rfl rfl (by decide) (fun hcl hlow=>?_)
 repeat with_reducible refine awp_assoc ?_
 refine awp_sr fun K hK=>?_
 simp
 refine hK _ _ ?_
 clear hK K
 repeat with_reducible refine awp_assoc ?_
 refine awp_sr fun K hK=>?_
 simp
 refine hK _ _ ?_
 clear hK K
 repeat with_reducible refine awp_assoc ?_
 refine awp_seq_k fun K hK=>?_
 refine awp_block ?_
 refine awp_up l.length (fun k=>Env.ofL [(2,.slice (fr.map PredD.cells) none),(3,.ref (nid H.next 0) 0),(6,boolV false),(10,.slice (l.map PredD.cells) none),(11,intV (l.length:Int)),(12,intV k)]) (fun k=>HL H [.cells d.cells]) (fun k=>(l.take k).all (fun p=>fr.any (f1 p))=true) (weak_HL hcl rfl (by simp) (by simp)) (by simp) (fun k hk hvk=>?_) (fun hvk=>?_)
 ·obtain ⟨x,hx⟩:∃ x,l[k]?=some x:=⟨_,List.getElem?_eq_getElem hk⟩
  have hc:=hhp 229 [.ref (nid H.next 1) 0,.ref (nid H.next 0) 0] (f1 x) (HL H [.cells d.cells,.cells x.cells]) (fun q _=>hf1 x q _ _ _ (by simp) (by simp))
  have hat:=all_take (p:=fun p=>fr.any (f1 p)) hx
  repeat with_reducible refine awp_assoc ?_
  refine awp_sr fun K hK=>?_
  simp [hk]
  refine hK _ _ ?_
  clear hK K
  repeat with_reducible refine awp_assoc ?_
  refine awp_seq_k fun K hK=>?_
  refine awp_condT rfl (by simp) ?_
  refine awp_skip ?_
  refine hK _ _ ?_
  clear hK K
  refine awp_seq_k fun KB hKB=>?_
  refine awp_block ?_
  repeat with_reducible refine awp_assoc ?_
  refine awp_sr fun K hK=>?_
  simp [hx]
  refine hK _ _ ?_
  clear hK K
  simp only [PredD.cells,DeclsD.cells] at hc
  repeat with_reducible refine awp_assoc ?_
  refine awp_sr fun K hK=>?_
  refine aOps_split 2 fun K hK=>?_
  simp
  refine hK _ _ ?_
  clear hK K
  refine aOps_call (hc) (by first | rfl | simp) rfl rfl (by first | (simp;done) | rfl) ?_
  simp
  refine hK _ _ ?_
  clear hK K
  repeat with_reducible refine awp_assoc ?_
  refine awp_sr fun K hK=>?_
  simp
  refine hK _ _ ?_
  clear hK K
  cases hm:fr.any (f1 x)
  ·refine awp_condT rfl (by simp [hm]) ?_
   repeat with_reducible refine awp_assoc ?_
   refine awp_sr fun K hK=>?_
   simp
   refine hK _ _ ?_
   clear hK K
   have e1:l.all (fun p=>fr.any (f1 p))=false:=by
    rw [List.all_eq_false];exact ⟨x,List.mem_of_getElem? hx,by simp [hm]⟩
   rw [e0,e1]
   simp [reset_all hcl]
  ·refine awp_condF rfl (by simp [hm]) ?_
   refine awp_skip ?_
   refine hKB _ _ ?_
   clear hKB
   refine awp_region ?_
   simp [wrap_succ (show k < 4611686018427387904 by omega)]
   refine ⟨?_,weak_HL hcl rfl (by simp) (by simp)⟩
   simpa [hvk,hm] using hat
 rw [List.take_length] at hvk
 repeat with_reducible refine awp_assoc ?_
 refine awp_sr fun K hK=>?_
 simp
 refine hK _ _ ?_
 clear hK K
 repeat with_reducible refine awp_assoc ?_
 refine awp_seq_k fun K hK=>?_
 refine awp_condF rfl (by simp) ?_
 refine awp_exit ?_
 simp
 clear hK K
 refine hK _ _ ?_
 clear hK K
 repeat with_reducible refine awp_assoc ?_
 refine awp_sr fun K hK=>?_
 simp
 refine hK _ _ ?_
 clear hK K
 rw [e0,hvk]
 simp [reset_all hcl]
def aVar (t:Ty):Bool:=dVarB t && decide (t.name=aS)
theorem rule1_c (t:Ty) (H:AHeap):ACalls Tryz.prog 175 [t.enc] H (boolV (aVar t)) H:=by
 have hv:=dIsVar_c t
 have e0:aVar t=(dVarB t && decide (t.name=aS)):=rfl
 generalize aVar t=av at e0 ⊢
 generalize hdv:dVarB t=dv at *
 obtain ⟨n,l⟩:=t
 simp only [enc_mk,Ty.name] at hv e0 ⊢
 refine acalls_walk (fun _=>.imm) [0,1,2] Tryz.mixed Tryz.func175 rfl rfl rfl (by decide) (fun hcl hlow=>?_)
 repeat with_reducible refine awp_assoc ?_
 refine awp_sr fun K hK=>?_
 simp
 refine hK _ _ ?_
 clear hK K
 repeat with_reducible refine awp_assoc ?_
 refine awp_sr fun K hK=>?_
 refine aOps_split 1 fun K hK=>?_
 simp
 refine hK _ _ ?_
 clear hK K
 refine aOps_call (hv _) (by first | rfl | simp) rfl rfl (by first | (simp;done) | rfl) ?_
 cases dv with
 | false =>
  simp
  refine hK _ _ ?_
  clear hK K
  rw [e0]
  simp [reset_all hcl]
 | true =>
  by_cases hn:n=aS
  ·have hn':n=⟨#[97]⟩:=hn
   simp [hn']
   refine hK _ _ ?_
   clear hK K
   rw [e0]
   simp [hn,reset_all hcl]
  ·have hn':¬ n=⟨#[97]⟩:=hn
   simp [hn']
   refine hK _ _ ?_
   clear hK K
   rw [e0]
   simp [hn,reset_all hcl]
def opBad (o:SigD):Bool:=!(o.t.nodes.any aVar)
noncomputable def supBad (d:DeclsD) (x:InstD) (s:ByteArray):Bool:=match d.insts.find? fun y=>(decide (y.cls=s) && decide (y.data=x.data)) with | some y=>!followB d y.preds x.preds | none=>true
noncomputable def ruleB (d:DeclsD):Bool:=d.classes.any (fun x=>x.ops.any opBad) || d.insts.any (fun x=>(supersOf d.classes x.cls).any (supBad d x))
theorem instI_some {l:List InstD} {s n:ByteArray} (h:¬ instI l s n < 0):∃ (i:Nat) (y:InstD),instI l s n=i∧l[i]?=some y∧(l.find? fun y=>(decide (y.cls=s) && decide (y.data=n)))=some y:=by
 unfold instI at *
 cases hh:l.findIdx? fun x=>decide (x.cls=s) && decide (x.data=n) with
 | none=>rw [hh] at h;simp [ixI] at h
 | some i =>
  obtain ⟨hl,h1,h2⟩:=List.findIdx?_eq_some_iff_getElem.1 hh
  refine ⟨i,l[i],rfl,List.getElem?_eq_getElem hl,?_⟩
  rw [List.find?_eq_some_iff_getElem]
  exact ⟨h1,i,hl,rfl,fun j hj=>by simpa only [Bool.not_eq_true',Bool.not_eq_true] using h2 j hj⟩
theorem instI_none {l:List InstD} {s n:ByteArray} (h:instI l s n < 0):(l.find? fun y=>(decide (y.cls=s) && decide (y.data=n)))=none:=by
 unfold instI at *
 cases hh:l.findIdx? fun x=>decide (x.cls=s) && decide (x.data=n) with
 | some i=>rw [hh] at h;simp [ixI] at h;omega
 | none=>rw [List.findIdx?_eq_none_iff] at hh;exact find_none hh
theorem classI_some {l:List ClsD} {n:ByteArray} (h:¬ classI l n < 0):∃ (i:Nat) (y:ClsD),classI l n=i∧l[i]?=some y∧supersOf l n=y.supers:=by
 unfold supersOf classI at *
 cases hh:l.findIdx? fun x=>decide (x.name=n) with
 | none=>rw [hh] at h;simp [ixI] at h
 | some i =>
  obtain ⟨hl,h1,h2⟩:=List.findIdx?_eq_some_iff_getElem.1 hh
  refine ⟨i,l[i],rfl,List.getElem?_eq_getElem hl,?_⟩
  have hfd:l.find? (fun x=>decide (x.name=n))=some l[i]:=by
   rw [List.find?_eq_some_iff_getElem]
   exact ⟨h1,i,hl,rfl,fun j hj=>by simpa using h2 j hj⟩
  rw [hfd]
set_option maxHeartbeats 4000000 in
theorem rule_c (d:DeclsD) (h:ClsOk d) (hr:RawD d) (hiz:d.insts.length < 1000000000000) (hot:∀ x∈d.classes,∀ o∈x.ops,o.t.cnt < 1000000000000) (hex:∀ x∈d.insts,¬ classI d.classes x.cls < 0) (H:AHeap):ACalls Tryz.prog 103 [d.enc] H (intV (if ruleB d=true then 7 else 0)) H:=by
 have h2:=hr.classes
 have h3:=hr.insts
 have h6:=hr.supers
 have h7:=hr.ops
 have h8:=hr.preds
 have hcc:=class_c d h.cls
 have hic:=inst_c d hiz
 have hfo:=follow_c d h
 have hr1:=rule1_c
 have e0:ruleB d=(d.classes.any (fun x=>x.ops.any opBad) || d.insts.any (fun x=>(supersOf d.classes x.cls).any (supBad d x))):=rfl
 have esb:∀ x s,supBad d x s=match d.insts.find? fun y=>(decide (y.cls=s) && decide (y.data=x.data)) with | some y=>!followB d y.preds x.preds | none=>true:=fun _ _=>rfl
 generalize ruleB d=rb at e0 ⊢
 generalize supBad d=sB at *
 generalize followB d=fB at *
 clear hr h hiz
 obtain ⟨ds,cs,is⟩:=d
 simp only at h2 h3 h6 h7 h8 hot hex e0 esb
 refine acalls_walk (fun _=>.imm) [0,1,2,4,6,8,10,11,13,14,15,16,20,21,22,23,30,34,35,36,37,48,49,50,51,73] Tryz.mixed Tryz.func103 rfl rfl rfl (by decide) (fun hcl hlow=>?_)
 repeat with_reducible refine awp_assoc ?_
 refine awp_sr fun K hK=>?_
 simp
 refine hK _ _ ?_
 clear hK K
 repeat with_reducible refine awp_assoc ?_
 refine awp_sr fun K hK=>?_
 simp
 refine hK _ _ ?_
 clear hK K
 repeat with_reducible refine awp_assoc ?_
 refine awp_seq_k fun K hK=>?_
 refine awp_block ?_
 refine awp_up cs.length (fun k=>Env.ofL [(1,.ref (nid H.next 0) 0),(2,intV 0),(13,.slice (cs.map ClsD.cells) none),(14,intV (cs.length:Int)),(15,intV k)]) (fun k=>HL H [.cells [.slice (ds.map Dat.cells) none,.slice (cs.map ClsD.cells) none,.slice (is.map InstD.cells) none]]) (fun k=>(cs.take k).any (fun x=>x.ops.any opBad)=false) (weak_HL hcl rfl (by simp) (by simp)) (by simp) (fun k hk hvk=>?_) (fun hvk=>?_)
 ·obtain ⟨x,hx⟩:∃ x,cs[k]?=some x:=⟨_,List.getElem?_eq_getElem hk⟩
  have g7:=h7 x (List.mem_of_getElem? hx)
  have got:=hot x (List.mem_of_getElem? hx)
  have hbx:=any_at (p:=fun x:ClsD=>x.ops.any opBad) hx
  have hms:=miss (p:=fun x:ClsD=>x.ops.any opBad) hx hvk
  repeat with_reducible refine awp_assoc ?_
  refine awp_sr fun K hK=>?_
  simp [hk]
  refine hK _ _ ?_
  clear hK K
  repeat with_reducible refine awp_assoc ?_
  refine awp_seq_k fun K hK=>?_
  refine awp_condT rfl (by simp) ?_
  refine awp_skip ?_
  refine hK _ _ ?_
  clear hK K
  refine awp_seq_k fun KB hKB=>?_
  refine awp_block ?_
  repeat with_reducible refine awp_assoc ?_
  refine awp_sr fun K hK=>?_
  simp [hx]
  refine hK _ _ ?_
  clear hK K
  repeat with_reducible refine awp_assoc ?_
  refine awp_sr fun K hK=>?_
  simp
  refine hK _ _ ?_
  clear hK K
  refine awp_block ?_
  refine awp_up x.ops.length (fun j=>Env.ofL [(1,.ref (nid H.next 0) 0),(2,intV 0),(4,.ref (nid H.next 1) 0),(13,.slice (cs.map ClsD.cells) none),(14,intV (cs.length:Int)),(15,intV k),(20,.slice (x.ops.map SigD.cells) none),(21,intV (x.ops.length:Int)),(22,intV j)]) (fun j=>HL H [.cells [.slice (ds.map Dat.cells) none,.slice (cs.map ClsD.cells) none,.slice (is.map InstD.cells) none],.cells x.cells]) (fun j=>(x.ops.take j).any opBad=false) (weak_HL hcl rfl (by simp) (by simp)) (by simp) (fun j hj hvj=>?_) (fun hvj=>?_)
  ·obtain ⟨s,hs⟩:∃ s,x.ops[j]?=some s:=⟨_,List.getElem?_eq_getElem hj⟩
   have hbs:=any_at (p:=opBad) hs
   have hss:=miss (p:=opBad) hs hvj
   have hct:=got s (List.mem_of_getElem? hs)
   have hnd:=nodes_c s.t hct
   have hha:=hasTy_c s.t.nodes (by unfold Ty.cnt at hct;omega) 175 [] aVar
   have eo:opBad s=!(s.t.nodes.any aVar):=rfl
   generalize opBad s=ob at *
   obtain ⟨sn,sp,tn,tl⟩:=s
   simp only [enc_mk] at hnd
   generalize (Ty.mk tn tl).nodes=N at *
   repeat with_reducible refine awp_assoc ?_
   refine awp_sr fun K hK=>?_
   simp [hj]
   refine hK _ _ ?_
   clear hK K
   repeat with_reducible refine awp_assoc ?_
   refine awp_seq_k fun K hK=>?_
   refine awp_condT rfl (by simp) ?_
   refine awp_skip ?_
   refine hK _ _ ?_
   clear hK K
   refine awp_seq_k fun KC hKC=>?_
   refine awp_block ?_
   repeat with_reducible refine awp_assoc ?_
   refine awp_sr fun K hK=>?_
   simp [hs,Ty.name,Ty.args]
   refine hK _ _ ?_
   clear hK K
   repeat with_reducible refine awp_assoc ?_
   refine awp_sr fun K hK=>?_
   refine aOps_split 2 fun K hK=>?_
   simp [Ty.name,Ty.args]
   refine hK _ _ ?_
   clear hK K
   refine aOps_call (hnd _) (by first | rfl | simp) rfl rfl (by first | (simp;done) | rfl) ?_
   refine aOps_call (hha _ (fun q _=>hr1 q _)) (by first | rfl | simp) rfl rfl (by first | (simp;done) | rfl) ?_
   simp
   refine hK _ _ ?_
   clear hK K
   cases hm:N.any aVar
   ·refine awp_condT rfl (by simp [hm]) ?_
    repeat with_reducible refine awp_assoc ?_
    refine awp_sr fun K hK=>?_
    simp
    refine hK _ _ ?_
    clear hK K
    rw [e0,hbx (hbs (by rw [eo,hm];rfl))]
    simp [reset_all hcl]
   ·refine awp_condF rfl (by simp [hm]) ?_
    refine awp_skip ?_
    refine hKC _ _ ?_
    clear hKC
    refine awp_region ?_
    simp [wrap_succ (show j < 4611686018427387904 by omega)]
    refine ⟨?_,weak_HL hcl rfl (by simp) (by simp)⟩
    simpa using hss (by rw [eo,hm];rfl)
  rw [List.take_length] at hvj
  repeat with_reducible refine awp_assoc ?_
  refine awp_sr fun K hK=>?_
  simp
  refine hK _ _ ?_
  clear hK K
  repeat with_reducible refine awp_assoc ?_
  refine awp_seq_k fun K hK=>?_
  refine awp_condF rfl (by simp) ?_
  refine awp_exit ?_
  simp
  refine hKB _ _ ?_
  clear hKB
  refine awp_region ?_
  simp [wrap_succ (show k < 4611686018427387904 by omega)]
  exact ⟨by simpa using hms hvj,weak_HL hcl rfl (by simp) (by simp)⟩
 rw [List.take_length] at hvk
 rw [hvk,Bool.false_or] at e0
 repeat with_reducible refine awp_assoc ?_
 refine awp_sr fun K hK=>?_
 simp
 refine hK _ _ ?_
 clear hK K
 repeat with_reducible refine awp_assoc ?_
 refine awp_seq_k fun K hK=>?_
 refine awp_condF rfl (by simp) ?_
 refine awp_exit ?_
 simp
 clear hK K
 refine hK _ _ ?_
 clear hK K
 repeat with_reducible refine awp_assoc ?_
 refine awp_sr fun K hK=>?_
 simp
 refine hK _ _ ?_
 clear hK K
 repeat with_reducible refine awp_assoc ?_
 refine awp_seq_k fun K hK=>?_
 refine awp_block ?_
 refine awp_up is.length (fun k=>Env.ofL [(1,.ref (nid H.next 0) 0),(2,intV 0),(34,.slice (is.map InstD.cells) none),(35,intV (is.length:Int)),(36,intV k)]) (fun k=>HL H [.cells [.slice (ds.map Dat.cells) none,.slice (cs.map ClsD.cells) none,.slice (is.map InstD.cells) none]]) (fun k=>(is.take k).any (fun x=>(supersOf cs x.cls).any (sB x))=false) (weak_HL hcl rfl (by simp) (by simp)) (by simp) (fun k hk hvk=>?_) (fun hvk=>?_)
 ·obtain ⟨x,hx⟩:∃ x,is[k]?=some x:=⟨_,List.getElem?_eq_getElem hk⟩
  rename (is.take k).any (fun x=>(supersOf cs x.cls).any (sB x))=false=>hvi
  have g8:=h8 x (List.mem_of_getElem? hx)
  have hbx:=any_at (p:=fun x:InstD=>(supersOf cs x.cls).any (sB x)) hx
  have hms:=miss (p:=fun x:InstD=>(supersOf cs x.cls).any (sB x)) hx hvi
  obtain ⟨ci,c,ec,hci,es⟩:=classI_some (hex x (List.mem_of_getElem? hx))
  rw [es] at hbx hms
  have hcl0:=hcc x.cls
  have hcs:=h6 c (List.mem_of_getElem? hci)
  simp only [ec] at hcl0
  repeat with_reducible refine awp_assoc ?_
  refine awp_sr fun K hK=>?_
  simp [hk]
  refine hK _ _ ?_
  clear hK K
  repeat with_reducible refine awp_assoc ?_
  refine awp_seq_k fun K hK=>?_
  refine awp_condT rfl (by simp) ?_
  refine awp_skip ?_
  refine hK _ _ ?_
  clear hK K
  refine awp_seq_k fun KB hKB=>?_
  refine awp_block ?_
  repeat with_reducible refine awp_assoc ?_
  refine awp_sr fun K hK=>?_
  simp [hx]
  refine hK _ _ ?_
  clear hK K
  repeat with_reducible refine awp_assoc ?_
  refine awp_sdc [] [[],[],[0,1],[0,1,2],[0,1,2],[0,1],[],[3],[0,2,3,4],[0,1,2,3,4,5],[0,1,2,3,4,5,6,7,8,9]] (by kernel_rfl) (by rfl) fun K hK=>?_
  refine aCalm_pre 5 (by rfl) fun K hK=>?_
  simp
  refine hK _ _ ?_
  clear hK K
  refine aCalm_call0 (hcl0 _) (by first | rfl | simp) rfl rfl rfl (by first | (simp;done) | rfl) ?_
  refine aCalm_pre 5 (by rfl) fun K hK=>?_
  simp [hci]
  refine hK _ _ ?_
  clear hK K
  refine aCalm_end ?_
  simp
  refine hK _ _ ?_
  clear hK K
  refine awp_block ?_
  refine awp_up c.supers.length (fun j=>Env.ofL [(1,.ref (nid H.next 0) 0),(2,intV 0),(8,.ref (nid H.next 1) 0),(34,.slice (is.map InstD.cells) none),(35,intV (is.length:Int)),(36,intV k),(48,strs c.supers none),(49,intV (c.supers.length:Int)),(50,intV j)]) (fun j=>HL H [.cells [.slice (ds.map Dat.cells) none,.slice (cs.map ClsD.cells) none,.slice (is.map InstD.cells) none],.cells x.cells]) (fun j=>(c.supers.take j).any (sB x)=false) (weak_HL hcl rfl (by simp) (by simp)) (by simp) (fun j hj hvj=>?_) (fun hvj=>?_)
  ·obtain ⟨s,hs⟩:∃ s,c.supers[j]?=some s:=⟨_,List.getElem?_eq_getElem hj⟩
   have hbs:=any_at (p:=sB x) hs
   have hss:=miss (p:=sB x) hs hvj
   have hin:=hic s x.data
   have esx:=esb x s
   repeat with_reducible refine awp_assoc ?_
   refine awp_sr fun K hK=>?_
   simp [hj]
   refine hK _ _ ?_
   clear hK K
   repeat with_reducible refine awp_assoc ?_
   refine awp_seq_k fun K hK=>?_
   refine awp_condT rfl (by simp) ?_
   refine awp_skip ?_
   refine hK _ _ ?_
   clear hK K
   refine awp_seq_k fun KC hKC=>?_
   refine awp_block ?_
   repeat with_reducible refine awp_assoc ?_
   refine awp_sr fun K hK=>?_
   simp [hs]
   refine hK _ _ ?_
   clear hK K
   repeat with_reducible refine awp_assoc ?_
   refine awp_sr fun K hK=>?_
   refine aOps_split 4 fun K hK=>?_
   simp
   refine hK _ _ ?_
   clear hK K
   refine aOps_call (hin _) (by first | rfl | simp) rfl rfl (by first | (simp;done) | rfl) ?_
   simp
   refine hK _ _ ?_
   clear hK K
   by_cases hneg:instI is s x.data < 0
   ·rw [instI_none hneg] at esx
    repeat with_reducible refine awp_assoc ?_
    refine awp_sdc [] [[],[],[],[],[3],[3],[3,4,5],[3],[3],[3,4],[3,4,5,6,7,8,9],[3,4,5,6,7,8,9],[4,5,6],[4,5,6,7],[4,5,6,7,8,10]] (by kernel_rfl) (by rfl) fun K hK=>?_
    refine aCalm_pre 3 (by rfl) fun K hK=>?_
    simp [hneg]
    refine hK _ _ ?_
    clear hK K
    refine aCalm_pre 5 (by rfl) fun K hK=>?_
    simp
    refine hK _ _ ?_
    clear hK K
    refine aCalm_pre 4 (by rfl) fun K hK=>?_
    simp
    refine hK _ _ ?_
    clear hK K
    refine aCalm_skip rfl ?_
    refine aCalm_pre 2 (by rfl) fun K hK=>?_
    simp
    refine hK _ _ ?_
    clear hK K
    refine aCalm_end ?_
    simp
    refine hK _ _ ?_
    clear hK K
    refine awp_condT rfl (by simp) ?_
    repeat with_reducible refine awp_assoc ?_
    refine awp_sr fun K hK=>?_
    simp
    refine hK _ _ ?_
    clear hK K
    rw [e0,hbx (hbs esx)]
    simp [reset_all hcl]
   obtain ⟨yi,y,ey,hyi,ef⟩:=instI_some hneg
   rw [ef] at esx
   simp only at esx
   have hfy:=hfo y.preds x.preds (h8 y (List.mem_of_getElem? hyi)) g8
   repeat with_reducible refine awp_assoc ?_
   refine awp_sdc [] [[],[],[],[],[3],[3],[3,4,5],[3],[3],[3,4],[3,4,5,6,7,8,9],[3,4,5,6,7,8,9],[4,5,6],[4,5,6,7],[4,5,6,7,8,10]] (by kernel_rfl) (by rfl) fun K hK=>?_
   refine aCalm_pre 3 (by rfl) fun K hK=>?_
   simp [hneg]
   refine hK _ _ ?_
   clear hK K
   rw [ey]
   refine aCalm_pre 5 (by rfl) fun K hK=>?_
   simp [hyi]
   refine hK _ _ ?_
   clear hK K
   refine aCalm_pre 4 (by rfl) fun K hK=>?_
   simp
   refine hK _ _ ?_
   clear hK K
   refine aCalm_call0 (hfy _) (by first | rfl | simp) rfl rfl rfl (by first | (simp;done) | rfl) ?_
   refine aCalm_pre 2 (by rfl) fun K hK=>?_
   simp
   refine hK _ _ ?_
   clear hK K
   refine aCalm_end ?_
   simp
   refine hK _ _ ?_
   clear hK K
   cases hm:fB y.preds x.preds
   ·refine awp_condT rfl (by simp [hm]) ?_
    repeat with_reducible refine awp_assoc ?_
    refine awp_sr fun K hK=>?_
    simp
    refine hK _ _ ?_
    clear hK K
    rw [e0,hbx (hbs (by rw [esx,hm];rfl))]
    simp [reset_all hcl]
   ·refine awp_condF rfl (by simp [hm]) ?_
    refine awp_skip ?_
    refine hKC _ _ ?_
    clear hKC
    refine awp_region ?_
    simp [wrap_succ (show j < 4611686018427387904 by omega)]
    refine ⟨?_,weak_HL hcl rfl (by simp) (by simp)⟩
    simpa using hss (by rw [esx,hm];rfl)
  rw [List.take_length] at hvj
  repeat with_reducible refine awp_assoc ?_
  refine awp_sr fun K hK=>?_
  simp
  refine hK _ _ ?_
  clear hK K
  repeat with_reducible refine awp_assoc ?_
  refine awp_seq_k fun K hK=>?_
  refine awp_condF rfl (by simp) ?_
  refine awp_exit ?_
  simp
  refine hKB _ _ ?_
  clear hKB
  refine awp_region ?_
  simp [wrap_succ (show k < 4611686018427387904 by omega)]
  exact ⟨by simpa using hms hvj,weak_HL hcl rfl (by simp) (by simp)⟩
 rename (is.take is.length).any (fun x=>(supersOf cs x.cls).any (sB x))=false=>hvi
 rw [List.take_length] at hvi
 rw [hvi] at e0
 repeat with_reducible refine awp_assoc ?_
 refine awp_sr fun K hK=>?_
 simp
 refine hK _ _ ?_
 clear hK K
 repeat with_reducible refine awp_assoc ?_
 refine awp_seq_k fun K hK=>?_
 refine awp_condF rfl (by simp) ?_
 refine awp_exit ?_
 simp
 clear hK K
 refine hK _ _ ?_
 clear hK K
 repeat with_reducible refine awp_assoc ?_
 refine awp_sr fun K hK=>?_
 simp
 refine hK _ _ ?_
 clear hK K
 rw [e0]
 simp [reset_all hcl]
end Go.Proofs.YtdppfcbeiplckaaGreat
