/- The library's IndexFunc and ContainsFunc at this program's types. -/
import Derived.Test.YtdppfcbeiplckaaGreatMN1
import Derived.Test.YtdppfcbeiplckaaGreatMD1
set_option linter.unusedVariables false
set_option linter.unusedSimpArgs false
namespace Go.Proofs.YtdppfcbeiplckaaGreat
open Go Go.Abs Go.Proofs
set_option maxRecDepth 20000
attribute [local simp] aOps wantedA aStep aop aLoad aStore aBin aUn aFieldAddr aField aIndexAddr aIndex aLen aBuild aFill aAlloc aAppend aAppendOwn aMin aMax aBuildSlice litRows newRows isMut isOwn isNilS nilsW bytesR tokW tokAV tokL ret readC splice aeval isLit isLate isCut aCut AV.celled AV.one AV.ofValue Value.oneCell' Value.cells intOp strOp get_nid upd_nid awp aEnd aResults aResult Det unord isCall isNext
attribute [local simp] low_take low_strs low_comp low_tcomp wkEs_refl' WkBs WkEnv WkB WkL WkE WkO ABlock.low lowO lowL lowR AV.low cellsL_eq Ty.low low_map Ty.cells_length Ty.cells_one
attribute [local simp] cellsNd_eq low_nds Nd.cells_length Nd.cells_one cellsDT_eq low_dts DT.kcells_length DT.kcells_one low_ints
def DT.kenc (t:DT):AV:=.agg t.kcells
theorem DT.kenc_mk (s:ByteArray) (m k:Int) (p r:List Int) (l:List DT):(DT.mk s m k p r l).kenc=.agg [strV s,intV m,intV k,.slice (p.map intR) none,.slice (r.map intR) none,.slice (l.map DT.kcells) none]:=by
 simp [DT.kenc,DT.kcells_mk]
theorem low_rows (n:Nat) (l:List (List Nd)):lowR n (l.map fun r=>[AV.slice (r.map Nd.cells) none]):=lowR_map fun r _=>⟨⟨by simp,low_nds n r⟩,trivial⟩
theorem low_pls (n:Nat) (l:List (List Int)):lowR n (l.map fun r=>[AV.slice (r.map intR) none]):=lowR_map fun r _=>⟨⟨by simp,low_ints n r⟩,trivial⟩
attribute [local simp] low_rows low_pls
theorem ixI_ge {α:Type} (p:α→Bool) (l:List α):decide (0≤ixI (l.findIdx? p))=l.any p:=by
 cases h:l.findIdx? p with
 | none =>
  have:l.any p=false:=by
   rw [List.any_eq_false]
   intro x hx
   have:=List.findIdx?_eq_none_iff.1 h x hx
   simp [this]
  rw [this];rfl
 | some k =>
  have h2:=List.findIdx?_eq_some_iff_getElem.1 h
  obtain ⟨hk,hp,_⟩:=h2
  have:l.any p=true:=List.any_eq_true.2 ⟨_,List.getElem_mem hk,hp⟩
  rw [this];simp [ixI]
theorem idxV_c (l:List Nd) (hl:l.length < 4611686018427387904) (g:FuncId) (caps:List AV) (p:Nd→Bool) (H:AHeap) (hf:∀ x∈l,ACalls Tryz.prog g (x.enc::caps) (HL H []) (boolV (p x)) (HL H [])):ACalls Tryz.prog 115 [.slice (l.map Nd.cells) none,.fn g caps] H (intV (ixI (l.findIdx? p))) H:=by
 refine acalls_walk (fun _=>.imm) [0,1,4,5,7,8,9,16] Tryz.mixed Tryz.func115 rfl rfl rfl (by decide) (fun hcl hlow=>?_)
 have hlc:lowL H.next caps:=by simpa using hlow
 have hlc2:lowL (nid H.next 0) caps:=lowL_mono (by simp [nid]) caps hlc
 repeat with_reducible refine awp_assoc ?_
 refine awp_sr fun K hK=>?_
 simp
 refine hK _ _ ?_
 clear hK K
 repeat with_reducible refine awp_assoc ?_
 refine awp_sr fun K hK=>?_
 simp
 refine hK _ _ ?_
 clear hK K
 refine awp_seq_k fun K hK=>?_
 refine awp_block ?_
 refine awp_up l.length (fun k=>Env.ofL [(0,.slice (l.map Nd.cells) none),(1,.fn g caps),(4,intV 0),(7,intV (l.length:Int)),(8,intV k)]) (fun k=>HL H []) (fun k=>∀ y∈l.take k,p y=false) (weak_HL hcl rfl (by simp) (by simp [hlc2])) (by simp) (fun k hk hv=>?_) (fun hv=>?_)
 ·obtain ⟨x,hx⟩:∃ x,l[k]?=some x:=⟨_,List.getElem?_eq_getElem hk⟩
  have hc:=hf x (List.mem_of_getElem? hx)
  have hat:=ix_at (p:=p) hx
  have htk:=take_all (p:=fun y=>p y=false) hx
  generalize hpx:p x=px at *
  obtain ⟨xo,xs,xn,xl⟩:=x
  simp only [Nd.enc_mk] at hc
  repeat with_reducible refine awp_assoc ?_
  refine awp_sr fun K hK=>?_
  simp [hk]
  refine hK _ _ ?_
  clear hK K
  repeat with_reducible refine awp_assoc ?_
  refine awp_seq_k fun K hK=>?_
  refine awp_condT rfl (by simp) ?_
  refine awp_skip ?_
  refine hK _ _ ?_
  clear hK K
  refine awp_seq_k fun K hK=>?_
  refine awp_block ?_
  repeat with_reducible refine awp_assoc ?_
  refine awp_sr fun K hK=>?_
  simp
  refine hK _ _ ?_
  clear hK K
  repeat with_reducible refine awp_assoc ?_
  refine awp_sr fun K hK=>?_
  refine aOps_split 5 fun K hK=>?_
  simp [hx,Nd.cells]
  refine hK _ _ ?_
  clear hK K
  refine aOps_call (hc) (by first | rfl | simp) rfl rfl (by first | (simp;done) | rfl) ?_
  simp
  refine hK _ _ ?_
  clear hK K
  cases hs:px
  ·refine awp_condF rfl (by simp [hs]) ?_
   refine awp_skip ?_
   refine hK _ _ ?_
   clear hK K
   refine awp_region ?_
   simp [wrap_succ (show k < 4611686018427387904 by omega)]
   refine ⟨by simpa using htk hs hv,?_⟩
   exact weak_HL hcl rfl (by simp) (by simp [hlc2])
  ·refine awp_condT rfl (by simp [hs]) ?_
   repeat with_reducible refine awp_assoc ?_
   refine awp_sr fun K hK=>?_
   simp
   refine hK _ _ ?_
   clear hK K
   rw [hat hs hv]
   simp [ixI,reset_all hcl]
 ·repeat with_reducible refine awp_assoc ?_
  refine awp_sr fun K hK=>?_
  simp
  refine hK _ _ ?_
  clear hK K
  repeat with_reducible refine awp_assoc ?_
  refine awp_seq_k fun K hK=>?_
  refine awp_condF rfl (by simp) ?_
  refine awp_exit ?_
  simp
  clear hK K
  refine hK _ _ ?_
  clear hK K
  repeat with_reducible refine awp_assoc ?_
  refine awp_sr fun K hK=>?_
  simp
  refine hK _ _ ?_
  clear hK K
  rw [List.take_length] at hv
  rw [ix_none hv]
  simp [ixI,reset_all hcl]
theorem hasV_c (l:List Nd) (hl:l.length < 4611686018427387904) (g:FuncId) (caps:List AV) (p:Nd→Bool) (H:AHeap) (hf:∀ x∈l,ACalls Tryz.prog g (x.enc::caps) H (boolV (p x)) H):ACalls Tryz.prog 54 [.slice (l.map Nd.cells) none,.fn g caps] H (boolV (l.any p)) H:=by
 refine acalls_walk (fun _=>.imm) [0,1,4] Tryz.mixed Tryz.func54 rfl rfl rfl (by decide) (fun hcl hlow=>?_)
 have hi:=idxV_c l hl g caps p H (by rw [HL_nil hcl];exact hf)
 repeat with_reducible refine awp_assoc ?_
 refine awp_sr fun K hK=>?_
 simp
 refine hK _ _ ?_
 clear hK K
 rw [HL_nil hcl]
 repeat with_reducible refine awp_assoc ?_
 refine awp_sr fun K hK=>?_
 refine aOps_split 2 fun K hK=>?_
 simp
 refine hK _ _ ?_
 clear hK K
 refine aOps_call (hi) (by first | rfl | simp) rfl rfl (by first | (simp;done) | rfl) ?_
 simp
 refine hK _ _ ?_
 clear hK K
 simp [ixI_ge]
 exact Reset.refl hcl
theorem idxP_c (l:List Nd) (hl:l.length < 4611686018427387904) (g:FuncId) (caps:List AV) (p:Nd→Bool) (H:AHeap) (hf:∀ x∈l,ACalls Tryz.prog g (x.enc::caps) (HL H []) (boolV (p x)) (HL H [])):ACalls Tryz.prog 151 [.slice (l.map Nd.cells) none,.fn g caps] H (intV (ixI (l.findIdx? p))) H:=by
 refine acalls_walk (fun _=>.imm) [0,1,4,5,7,8,9,16] Tryz.mixed Tryz.func151 rfl rfl rfl (by decide) (fun hcl hlow=>?_)
 have hlc:lowL H.next caps:=by simpa using hlow
 have hlc2:lowL (nid H.next 0) caps:=lowL_mono (by simp [nid]) caps hlc
 repeat with_reducible refine awp_assoc ?_
 refine awp_sr fun K hK=>?_
 simp
 refine hK _ _ ?_
 clear hK K
 repeat with_reducible refine awp_assoc ?_
 refine awp_sr fun K hK=>?_
 simp
 refine hK _ _ ?_
 clear hK K
 refine awp_seq_k fun K hK=>?_
 refine awp_block ?_
 refine awp_up l.length (fun k=>Env.ofL [(0,.slice (l.map Nd.cells) none),(1,.fn g caps),(4,intV 0),(7,intV (l.length:Int)),(8,intV k)]) (fun k=>HL H []) (fun k=>∀ y∈l.take k,p y=false) (weak_HL hcl rfl (by simp) (by simp [hlc2])) (by simp) (fun k hk hv=>?_) (fun hv=>?_)
 ·obtain ⟨x,hx⟩:∃ x,l[k]?=some x:=⟨_,List.getElem?_eq_getElem hk⟩
  have hc:=hf x (List.mem_of_getElem? hx)
  have hat:=ix_at (p:=p) hx
  have htk:=take_all (p:=fun y=>p y=false) hx
  generalize hpx:p x=px at *
  obtain ⟨xo,xs,xn,xl⟩:=x
  simp only [Nd.enc_mk] at hc
  repeat with_reducible refine awp_assoc ?_
  refine awp_sr fun K hK=>?_
  simp [hk]
  refine hK _ _ ?_
  clear hK K
  repeat with_reducible refine awp_assoc ?_
  refine awp_seq_k fun K hK=>?_
  refine awp_condT rfl (by simp) ?_
  refine awp_skip ?_
  refine hK _ _ ?_
  clear hK K
  refine awp_seq_k fun K hK=>?_
  refine awp_block ?_
  repeat with_reducible refine awp_assoc ?_
  refine awp_sr fun K hK=>?_
  simp
  refine hK _ _ ?_
  clear hK K
  repeat with_reducible refine awp_assoc ?_
  refine awp_sr fun K hK=>?_
  refine aOps_split 5 fun K hK=>?_
  simp [hx,Nd.cells]
  refine hK _ _ ?_
  clear hK K
  refine aOps_call (hc) (by first | rfl | simp) rfl rfl (by first | (simp;done) | rfl) ?_
  simp
  refine hK _ _ ?_
  clear hK K
  cases hs:px
  ·refine awp_condF rfl (by simp [hs]) ?_
   refine awp_skip ?_
   refine hK _ _ ?_
   clear hK K
   refine awp_region ?_
   simp [wrap_succ (show k < 4611686018427387904 by omega)]
   refine ⟨by simpa using htk hs hv,?_⟩
   exact weak_HL hcl rfl (by simp) (by simp [hlc2])
  ·refine awp_condT rfl (by simp [hs]) ?_
   repeat with_reducible refine awp_assoc ?_
   refine awp_sr fun K hK=>?_
   simp
   refine hK _ _ ?_
   clear hK K
   rw [hat hs hv]
   simp [ixI,reset_all hcl]
 ·repeat with_reducible refine awp_assoc ?_
  refine awp_sr fun K hK=>?_
  simp
  refine hK _ _ ?_
  clear hK K
  repeat with_reducible refine awp_assoc ?_
  refine awp_seq_k fun K hK=>?_
  refine awp_condF rfl (by simp) ?_
  refine awp_exit ?_
  simp
  clear hK K
  refine hK _ _ ?_
  clear hK K
  repeat with_reducible refine awp_assoc ?_
  refine awp_sr fun K hK=>?_
  simp
  refine hK _ _ ?_
  clear hK K
  rw [List.take_length] at hv
  rw [ix_none hv]
  simp [ixI,reset_all hcl]
theorem hasP_c (l:List Nd) (hl:l.length < 4611686018427387904) (g:FuncId) (caps:List AV) (p:Nd→Bool) (H:AHeap) (hf:∀ x∈l,ACalls Tryz.prog g (x.enc::caps) H (boolV (p x)) H):ACalls Tryz.prog 83 [.slice (l.map Nd.cells) none,.fn g caps] H (boolV (l.any p)) H:=by
 refine acalls_walk (fun _=>.imm) [0,1,4] Tryz.mixed Tryz.func83 rfl rfl rfl (by decide) (fun hcl hlow=>?_)
 have hi:=idxP_c l hl g caps p H (by rw [HL_nil hcl];exact hf)
 repeat with_reducible refine awp_assoc ?_
 refine awp_sr fun K hK=>?_
 simp
 refine hK _ _ ?_
 clear hK K
 rw [HL_nil hcl]
 repeat with_reducible refine awp_assoc ?_
 refine awp_sr fun K hK=>?_
 refine aOps_split 2 fun K hK=>?_
 simp
 refine hK _ _ ?_
 clear hK K
 refine aOps_call (hi) (by first | rfl | simp) rfl rfl (by first | (simp;done) | rfl) ?_
 simp
 refine hK _ _ ?_
 clear hK K
 simp [ixI_ge]
 exact Reset.refl hcl
theorem idxK_c (l:List DT) (hl:l.length < 4611686018427387904) (g:FuncId) (caps:List AV) (p:DT→Bool) (H:AHeap) (hf:∀ x∈l,ACalls Tryz.prog g (x.kenc::caps) (HL H []) (boolV (p x)) (HL H [])):ACalls Tryz.prog 128 [.slice (l.map DT.kcells) none,.fn g caps] H (intV (ixI (l.findIdx? p))) H:=by
 refine acalls_walk (fun _=>.imm) [0,1,4,5,7,8,9,16] Tryz.mixed Tryz.func128 rfl rfl rfl (by decide) (fun hcl hlow=>?_)
 have hlc:lowL H.next caps:=by simpa using hlow
 have hlc2:lowL (nid H.next 0) caps:=lowL_mono (by simp [nid]) caps hlc
 repeat with_reducible refine awp_assoc ?_
 refine awp_sr fun K hK=>?_
 simp
 refine hK _ _ ?_
 clear hK K
 repeat with_reducible refine awp_assoc ?_
 refine awp_sr fun K hK=>?_
 simp
 refine hK _ _ ?_
 clear hK K
 refine awp_seq_k fun K hK=>?_
 refine awp_block ?_
 refine awp_up l.length (fun k=>Env.ofL [(0,.slice (l.map DT.kcells) none),(1,.fn g caps),(4,intV 0),(7,intV (l.length:Int)),(8,intV k)]) (fun k=>HL H []) (fun k=>∀ y∈l.take k,p y=false) (weak_HL hcl rfl (by simp) (by simp [hlc2])) (by simp) (fun k hk hv=>?_) (fun hv=>?_)
 ·obtain ⟨x,hx⟩:∃ x,l[k]?=some x:=⟨_,List.getElem?_eq_getElem hk⟩
  have hc:=hf x (List.mem_of_getElem? hx)
  have hat:=ix_at (p:=p) hx
  have htk:=take_all (p:=fun y=>p y=false) hx
  generalize hpx:p x=px at *
  obtain ⟨xs,xm,xk,xp,xr,xl⟩:=x
  simp only [DT.kenc_mk] at hc
  repeat with_reducible refine awp_assoc ?_
  refine awp_sr fun K hK=>?_
  simp [hk]
  refine hK _ _ ?_
  clear hK K
  repeat with_reducible refine awp_assoc ?_
  refine awp_seq_k fun K hK=>?_
  refine awp_condT rfl (by simp) ?_
  refine awp_skip ?_
  refine hK _ _ ?_
  clear hK K
  refine awp_seq_k fun K hK=>?_
  refine awp_block ?_
  repeat with_reducible refine awp_assoc ?_
  refine awp_sr fun K hK=>?_
  simp
  refine hK _ _ ?_
  clear hK K
  repeat with_reducible refine awp_assoc ?_
  refine awp_sr fun K hK=>?_
  refine aOps_split 5 fun K hK=>?_
  simp [hx,DT.kcells]
  refine hK _ _ ?_
  clear hK K
  refine aOps_call (hc) (by first | rfl | simp) rfl rfl (by first | (simp;done) | rfl) ?_
  simp
  refine hK _ _ ?_
  clear hK K
  cases hs:px
  ·refine awp_condF rfl (by simp [hs]) ?_
   refine awp_skip ?_
   refine hK _ _ ?_
   clear hK K
   refine awp_region ?_
   simp [wrap_succ (show k < 4611686018427387904 by omega)]
   refine ⟨by simpa using htk hs hv,?_⟩
   exact weak_HL hcl rfl (by simp) (by simp [hlc2])
  ·refine awp_condT rfl (by simp [hs]) ?_
   repeat with_reducible refine awp_assoc ?_
   refine awp_sr fun K hK=>?_
   simp
   refine hK _ _ ?_
   clear hK K
   rw [hat hs hv]
   simp [ixI,reset_all hcl]
 ·repeat with_reducible refine awp_assoc ?_
  refine awp_sr fun K hK=>?_
  simp
  refine hK _ _ ?_
  clear hK K
  repeat with_reducible refine awp_assoc ?_
  refine awp_seq_k fun K hK=>?_
  refine awp_condF rfl (by simp) ?_
  refine awp_exit ?_
  simp
  clear hK K
  refine hK _ _ ?_
  clear hK K
  repeat with_reducible refine awp_assoc ?_
  refine awp_sr fun K hK=>?_
  simp
  refine hK _ _ ?_
  clear hK K
  rw [List.take_length] at hv
  rw [ix_none hv]
  simp [ixI,reset_all hcl]
theorem hasK_c (l:List DT) (hl:l.length < 4611686018427387904) (g:FuncId) (caps:List AV) (p:DT→Bool) (H:AHeap) (hf:∀ x∈l,ACalls Tryz.prog g (x.kenc::caps) H (boolV (p x)) H):ACalls Tryz.prog 64 [.slice (l.map DT.kcells) none,.fn g caps] H (boolV (l.any p)) H:=by
 refine acalls_walk (fun _=>.imm) [0,1,4] Tryz.mixed Tryz.func64 rfl rfl rfl (by decide) (fun hcl hlow=>?_)
 have hi:=idxK_c l hl g caps p H (by rw [HL_nil hcl];exact hf)
 repeat with_reducible refine awp_assoc ?_
 refine awp_sr fun K hK=>?_
 simp
 refine hK _ _ ?_
 clear hK K
 rw [HL_nil hcl]
 repeat with_reducible refine awp_assoc ?_
 refine awp_sr fun K hK=>?_
 refine aOps_split 2 fun K hK=>?_
 simp
 refine hK _ _ ?_
 clear hK K
 refine aOps_call (hi) (by first | rfl | simp) rfl rfl (by first | (simp;done) | rfl) ?_
 simp
 refine hK _ _ ?_
 clear hK K
 simp [ixI_ge]
 exact Reset.refl hcl
theorem idxI_c (l:List Int) (hl:l.length < 4611686018427387904) (g:FuncId) (caps:List AV) (p:Int→Bool) (H:AHeap) (hf:∀ x∈l,ACalls Tryz.prog g (intV x::caps) (HL H []) (boolV (p x)) (HL H [])):ACalls Tryz.prog 68 [.slice (l.map intR) none,.fn g caps] H (intV (ixI (l.findIdx? p))) H:=by
 refine acalls_walk (fun _=>.imm) [0,1,4,5,7,8,9,16] Tryz.mixed Tryz.func68 rfl rfl rfl (by decide) (fun hcl hlow=>?_)
 have hlc:lowL H.next caps:=by simpa using hlow
 have hlc2:lowL (nid H.next 0) caps:=lowL_mono (by simp [nid]) caps hlc
 repeat with_reducible refine awp_assoc ?_
 refine awp_sr fun K hK=>?_
 simp
 refine hK _ _ ?_
 clear hK K
 repeat with_reducible refine awp_assoc ?_
 refine awp_sr fun K hK=>?_
 simp
 refine hK _ _ ?_
 clear hK K
 refine awp_seq_k fun K hK=>?_
 refine awp_block ?_
 refine awp_up l.length (fun k=>Env.ofL [(0,.slice (l.map intR) none),(1,.fn g caps),(4,intV 0),(7,intV (l.length:Int)),(8,intV k)]) (fun k=>HL H []) (fun k=>∀ y∈l.take k,p y=false) (weak_HL hcl rfl (by simp) (by simp [hlc2])) (by simp) (fun k hk hv=>?_) (fun hv=>?_)
 ·obtain ⟨x,hx⟩:∃ x,l[k]?=some x:=⟨_,List.getElem?_eq_getElem hk⟩
  have hc:=hf x (List.mem_of_getElem? hx)
  have hat:=ix_at (p:=p) hx
  have htk:=take_all (p:=fun y=>p y=false) hx
  generalize hpx:p x=px at *
  repeat with_reducible refine awp_assoc ?_
  refine awp_sr fun K hK=>?_
  simp [hk]
  refine hK _ _ ?_
  clear hK K
  repeat with_reducible refine awp_assoc ?_
  refine awp_seq_k fun K hK=>?_
  refine awp_condT rfl (by simp) ?_
  refine awp_skip ?_
  refine hK _ _ ?_
  clear hK K
  refine awp_seq_k fun K hK=>?_
  refine awp_block ?_
  repeat with_reducible refine awp_assoc ?_
  refine awp_sr fun K hK=>?_
  simp
  refine hK _ _ ?_
  clear hK K
  repeat with_reducible refine awp_assoc ?_
  refine awp_sr fun K hK=>?_
  refine aOps_split 5 fun K hK=>?_
  simp [hx,intR]
  refine hK _ _ ?_
  clear hK K
  refine aOps_call (hc) (by first | rfl | simp) rfl rfl (by first | (simp;done) | rfl) ?_
  simp
  refine hK _ _ ?_
  clear hK K
  cases hs:px
  ·refine awp_condF rfl (by simp [hs]) ?_
   refine awp_skip ?_
   refine hK _ _ ?_
   clear hK K
   refine awp_region ?_
   simp [wrap_succ (show k < 4611686018427387904 by omega)]
   refine ⟨by simpa using htk hs hv,?_⟩
   exact weak_HL hcl rfl (by simp) (by simp [hlc2])
  ·refine awp_condT rfl (by simp [hs]) ?_
   repeat with_reducible refine awp_assoc ?_
   refine awp_sr fun K hK=>?_
   simp
   refine hK _ _ ?_
   clear hK K
   rw [hat hs hv]
   simp [ixI,reset_all hcl]
 ·repeat with_reducible refine awp_assoc ?_
  refine awp_sr fun K hK=>?_
  simp
  refine hK _ _ ?_
  clear hK K
  repeat with_reducible refine awp_assoc ?_
  refine awp_seq_k fun K hK=>?_
  refine awp_condF rfl (by simp) ?_
  refine awp_exit ?_
  simp
  clear hK K
  refine hK _ _ ?_
  clear hK K
  repeat with_reducible refine awp_assoc ?_
  refine awp_sr fun K hK=>?_
  simp
  refine hK _ _ ?_
  clear hK K
  rw [List.take_length] at hv
  rw [ix_none hv]
  simp [ixI,reset_all hcl]
theorem hasI_c (l:List Int) (hl:l.length < 4611686018427387904) (g:FuncId) (caps:List AV) (p:Int→Bool) (H:AHeap) (hf:∀ x∈l,ACalls Tryz.prog g (intV x::caps) H (boolV (p x)) H):ACalls Tryz.prog 129 [.slice (l.map intR) none,.fn g caps] H (boolV (l.any p)) H:=by
 refine acalls_walk (fun _=>.imm) [0,1,4] Tryz.mixed Tryz.func129 rfl rfl rfl (by decide) (fun hcl hlow=>?_)
 have hi:=idxI_c l hl g caps p H (by rw [HL_nil hcl];exact hf)
 repeat with_reducible refine awp_assoc ?_
 refine awp_sr fun K hK=>?_
 simp
 refine hK _ _ ?_
 clear hK K
 rw [HL_nil hcl]
 repeat with_reducible refine awp_assoc ?_
 refine awp_sr fun K hK=>?_
 refine aOps_split 2 fun K hK=>?_
 simp
 refine hK _ _ ?_
 clear hK K
 refine aOps_call (hi) (by first | rfl | simp) rfl rfl (by first | (simp;done) | rfl) ?_
 simp
 refine hK _ _ ?_
 clear hK K
 simp [ixI_ge]
 exact Reset.refl hcl
end Go.Proofs.YtdppfcbeiplckaaGreat
namespace Go.Proofs.YtdppfcbeiplckaaGreat
open Go Go.Abs Go.Proofs
set_option maxRecDepth 20000
attribute [local simp] aOps wantedA aStep aop aLoad aStore aBin aUn aFieldAddr aField aIndexAddr aIndex aLen aBuild aFill aAlloc aAppend aAppendOwn aMin aMax aBuildSlice litRows newRows isMut isOwn isNilS nilsW bytesR tokW tokAV tokL ret readC splice aeval isLit isLate isCut aCut AV.celled AV.one AV.ofValue Value.oneCell' Value.cells intOp strOp get_nid upd_nid awp aEnd aResults aResult Det unord isCall isNext
attribute [local simp] low_take low_strs low_comp low_tcomp wkEs_refl' WkBs WkEnv WkB WkL WkE WkO ABlock.low lowO lowL lowR AV.low cellsL_eq Ty.low low_map Ty.cells_length Ty.cells_one
attribute [local simp] cellsNd_eq low_nds Nd.cells_length Nd.cells_one cellsDT_eq low_dts DT.kcells_length DT.kcells_one low_ints low_rows low_pls
theorem Nd.Sh.inv {b:Nat} {o:Int} {s:ByteArray} {n:Int} {l:List Nd} (h:Nd.Sh b (.mk o s n l)):l.length < b∧∀ k∈l,Nd.Sh b k:=by
 cases h with | mk h1 h2=>exact ⟨h1,h2⟩
theorem DT.Sh.inv {b:Nat} {s:ByteArray} {n k:Int} {p r:List Int} {l:List DT} (h:DT.Sh b (.mk s n k p r l)):p.length < b∧r.length < b∧l.length < b∧∀ t∈l,DT.Sh b t:=by
 cases h with | mk h1 h2 h3 h4=>exact ⟨h1,h2,h3,h4⟩
theorem isGround1_c (x:Nd) (h:∀ H,ACalls Tryz.prog 56 [x.enc] H (boolV x.gnd) H) (H:AHeap):ACalls Tryz.prog 116 [x.enc] H (boolV (!x.gnd)) H:=by
 generalize x.gnd=b at *
 obtain ⟨xo,xs,xn,xl⟩:=x
 simp only [Nd.enc_mk] at h ⊢
 refine acalls_walk (fun _=>.imm) [0,1,2] Tryz.mixed Tryz.func116 rfl rfl rfl (by decide) (fun hcl hlow=>?_)
 repeat with_reducible refine awp_assoc ?_
 refine awp_sr fun K hK=>?_
 simp
 refine hK _ _ ?_
 clear hK K
 repeat with_reducible refine awp_assoc ?_
 refine awp_sr fun K hK=>?_
 refine aOps_split 1 fun K hK=>?_
 simp
 refine hK _ _ ?_
 clear hK K
 refine aOps_call (h _) (by first | rfl | simp) rfl rfl (by first | (simp;done) | rfl) ?_
 simp
 refine hK _ _ ?_
 clear hK K
 simp [reset_all hcl]
theorem isGround_c {b:Nat} (hb:b≤4611686018427387904):∀ t:Nd,t.Sh b→∀ H,ACalls Tryz.prog 56 [t.enc] H (boolV t.gnd) H:=by
 refine Nd.ind fun o s n l ih hs H=>?_
 have hi:=hs.inv
 have hh:=fun H=>hasV_c l (by omega) 116 [] (fun x=>!x.gnd) H (fun x hx=>isGround1_c x (ih x hx (hi.2 x hx)) H)
 have hall:(l.any fun x=>!x.gnd)=!l.all Nd.gnd:=by simp [List.all_eq_not_any_not]
 simp only [hall] at hh
 have hg:(Nd.mk o s n l).gnd=((decide (o=2) || decide (o=1)) && l.all Nd.gnd):=by simp [Nd.gnd,gndL_all]
 rw [hg]
 generalize l.all Nd.gnd=g at *
 simp only [Nd.enc_mk]
 refine acalls_walk (fun _=>.imm) [0,1,2] Tryz.mixed Tryz.func56 rfl rfl rfl (by decide) (fun hcl hlow=>?_)
 repeat with_reducible refine awp_assoc ?_
 refine awp_sr fun K hK=>?_
 simp
 refine hK _ _ ?_
 clear hK K
 by_cases h2:o=2
 ·repeat with_reducible refine awp_assoc ?_
  refine awp_sr fun K hK=>?_
  refine aOps_split 8 fun K hK=>?_
  simp [h2]
  refine hK _ _ ?_
  clear hK K
  refine aOps_split 3 fun K hK=>?_
  simp [h2]
  refine hK _ _ ?_
  clear hK K
  refine aOps_call (hh _) (by first | rfl | simp) rfl rfl (by first | (simp;done) | rfl) ?_
  simp
  refine hK _ _ ?_
  clear hK K
  simp [h2,reset_all hcl]
 ·by_cases h1:o=1
  ·repeat with_reducible refine awp_assoc ?_
   refine awp_sr fun K hK=>?_
   refine aOps_split 8 fun K hK=>?_
   simp [h1]
   refine hK _ _ ?_
   clear hK K
   refine aOps_split 3 fun K hK=>?_
   simp [h1]
   refine hK _ _ ?_
   clear hK K
   refine aOps_call (hh _) (by first | rfl | simp) rfl rfl (by first | (simp;done) | rfl) ?_
   simp
   refine hK _ _ ?_
   clear hK K
   simp [h1,reset_all hcl]
  ·repeat with_reducible refine awp_assoc ?_
   refine awp_sr fun K hK=>?_
   refine aOps_split 8 fun K hK=>?_
   simp [h1,h2]
   refine hK _ _ ?_
   clear hK K
   simp [h1,h2]
   refine hK _ _ ?_
   clear hK K
   simp [h1,h2,reset_all hcl]
theorem ground1_c (x:Nd) (h:∀ H,ACalls Tryz.prog 56 [x.enc] H (boolV x.gnd) H) (H:AHeap):ACalls Tryz.prog 55 [x.enc] H (boolV (!x.gnd)) H:=by
 generalize x.gnd=b at *
 obtain ⟨xo,xs,xn,xl⟩:=x
 simp only [Nd.enc_mk] at h ⊢
 refine acalls_walk (fun _=>.imm) [0,1,2] Tryz.mixed Tryz.func55 rfl rfl rfl (by decide) (fun hcl hlow=>?_)
 repeat with_reducible refine awp_assoc ?_
 refine awp_sr fun K hK=>?_
 simp
 refine hK _ _ ?_
 clear hK K
 repeat with_reducible refine awp_assoc ?_
 refine awp_sr fun K hK=>?_
 refine aOps_split 1 fun K hK=>?_
 simp
 refine hK _ _ ?_
 clear hK K
 refine aOps_call (h _) (by first | rfl | simp) rfl rfl (by first | (simp;done) | rfl) ?_
 simp
 refine hK _ _ ?_
 clear hK K
 simp [reset_all hcl]
theorem ground_c {b:Nat} (hb:b≤4611686018427387904) (l:List Nd) (hl:l.length < b) (hs:∀ x∈l,x.Sh b) (H:AHeap):ACalls Tryz.prog 23 [.slice (l.map Nd.cells) none] H (intV (if l.all Nd.gnd=true then 0 else 1)) H:=by
 have hh:=fun H=>hasV_c l (by omega) 55 [] (fun x=>!x.gnd) H (fun x hx=>ground1_c x (isGround_c hb x (hs x hx)) H)
 have hall:(l.any fun x=>!x.gnd)=!l.all Nd.gnd:=by simp [List.all_eq_not_any_not]
 simp only [hall] at hh
 generalize l.all Nd.gnd=g at *
 refine acalls_walk (fun _=>.imm) [0,2,4] Tryz.mixed Tryz.func23 rfl rfl rfl (by decide) (fun hcl hlow=>?_)
 repeat with_reducible refine awp_assoc ?_
 refine awp_sr fun K hK=>?_
 simp
 refine hK _ _ ?_
 clear hK K
 repeat with_reducible refine awp_assoc ?_
 refine awp_sr fun K hK=>?_
 refine aOps_split 1 fun K hK=>?_
 simp
 refine hK _ _ ?_
 clear hK K
 refine aOps_call (hh _) (by first | rfl | simp) rfl rfl (by first | (simp;done) | rfl) ?_
 simp
 refine hK _ _ ?_
 clear hK K
 cases g
 ·repeat with_reducible refine awp_assoc ?_
  refine awp_seq_k fun K hK=>?_
  refine awp_condT rfl (by simp) ?_
  repeat with_reducible refine awp_assoc ?_
  refine awp_sr fun K hK=>?_
  simp
  refine hK _ _ ?_
  clear hK K
  simp [reset_all hcl]
 ·repeat with_reducible refine awp_assoc ?_
  refine awp_seq_k fun K hK=>?_
  refine awp_condF rfl (by simp) ?_
  refine awp_skip ?_
  refine hK _ _ ?_
  clear hK K
  repeat with_reducible refine awp_assoc ?_
  refine awp_sr fun K hK=>?_
  simp
  refine hK _ _ ?_
  clear hK K
  simp [reset_all hcl]
end Go.Proofs.YtdppfcbeiplckaaGreat
