/- Names; places in lists; the data types that there are. -/
import Derived.Test.YtdppfcbeiplckaaGreatMW2
set_option linter.unusedVariables false
set_option linter.unusedSimpArgs false
namespace Go.Proofs.YtdppfcbeiplckaaGreat
open Go Go.Abs Go.Proofs
set_option maxRecDepth 20000
attribute [local simp] aOps wantedA aStep aop aLoad aStore aBin aUn aFieldAddr aField aIndexAddr aIndex aLen aBuild aFill aAlloc aAppend aAppendOwn aMin aMax aBuildSlice litRows newRows isMut isOwn isNilS nilsW bytesR tokW tokAV tokL ret readC splice aeval isLit isLate isCut aCut AV.celled AV.one AV.ofValue Value.oneCell' Value.cells intOp strOp get_nid upd_nid awp aEnd aResults aResult Det unord isCall isNext
attribute [local simp] low_take low_strs low_comp low_tcomp wkEs_refl' WkBs WkEnv WkB WkL WkE WkO ABlock.low lowO lowL lowR AV.low cellsL_eq Ty.low low_map Ty.cells_length Ty.cells_one
attribute [local simp] ConD.cells Dat.cells PredD.cells SigD.cells ClsD.cells InstD.cells DeclsD.cells DeclsD.enc Dat.enc low_datL low_conL low_predL low_sigL low_clsL low_instL
def nameB (lo hi:Int) (s:ByteArray):Bool:=headP (fun c=>decide (lo≤(c.toNat:Int)) && decide ((c.toNat:Int)≤hi)) s && tlB s
theorem isName_c (s:ByteArray) (lo hi:Int) (H:AHeap):ACalls Tryz.prog 217 [strV s,.v (.int .u8 lo),.v (.int .u8 hi)] H (boolV (nameB lo hi s)) H:=by
 refine acalls_walk (fun _=>.imm) [0,1,2,6,7,8,28,32,64] Tryz.mixed Tryz.func217 rfl rfl rfl (by decide) (fun hcl hlow=>?_)
 repeat with_reducible refine awp_assoc ?_
 refine awp_sr fun K hK=>?_
 simp
 refine hK _ _ ?_
 clear hK K
 repeat with_reducible refine awp_assoc ?_
 refine awp_sr fun K hK=>?_
 refine aOps_split 4 fun K hK=>?_
 simp
 refine hK _ _ ?_
 clear hK K
 by_cases h1:(s.size:Int) < 1
 ·have e:nameB lo hi s=false:=by
   have:s.data.toList[0]?=none:=by rw [List.getElem?_eq_none_iff,←ba_size];omega
   unfold nameB headP;rw [this];rfl
  refine aOps_split 8 fun K hK=>?_
  simp [h1]
  refine hK _ _ ?_
  clear hK K
  simp [h1]
  refine hK _ _ ?_
  clear hK K
  repeat with_reducible refine awp_assoc ?_
  refine awp_seq_k fun K hK=>?_
  refine awp_condT rfl (by simp) ?_
  repeat with_reducible refine awp_assoc ?_
  refine awp_sr fun K hK=>?_
  simp
  refine hK _ _ ?_
  clear hK K
  simp [e,reset_all hcl]
 refine aOps_split 4 fun K hK=>?_
 simp [h1]
 refine hK _ _ ?_
 clear hK K
 by_cases h2:(16:Int) < s.size
 ·have e:nameB lo hi s=false:=by
   have:¬ s.size≤16:=by omega
   simp [nameB,tlB,this]
  refine aOps_split 6 fun K hK=>?_
  simp [h1,h2]
  refine hK _ _ ?_
  clear hK K
  simp [h1,h2]
  refine hK _ _ ?_
  clear hK K
  repeat with_reducible refine awp_assoc ?_
  refine awp_seq_k fun K hK=>?_
  refine awp_condT rfl (by simp) ?_
  repeat with_reducible refine awp_assoc ?_
  refine awp_sr fun K hK=>?_
  simp
  refine hK _ _ ?_
  clear hK K
  simp [e,reset_all hcl]
 obtain ⟨c,hc⟩:∃ c,s.data.toList[0]?=some c:=head_of (by omega)
 have eh:headP (fun c=>decide (lo≤(c.toNat:Int)) && decide ((c.toNat:Int)≤hi)) s=(decide (lo≤(c.toNat:Int)) && decide ((c.toNat:Int)≤hi)):=by unfold headP;rw [hc]
 refine aOps_split 5 fun K hK=>?_
 simp [h1,h2,hc]
 refine hK _ _ ?_
 clear hK K
 by_cases h3:(c.toNat:Int) < lo
 ·have e:nameB lo hi s=false:=by
   have:¬ lo≤(c.toNat:Int):=by omega
   simp [nameB,eh,this]
  simp [h3]
  refine hK _ _ ?_
  clear hK K
  repeat with_reducible refine awp_assoc ?_
  refine awp_seq_k fun K hK=>?_
  refine awp_condT rfl (by simp) ?_
  repeat with_reducible refine awp_assoc ?_
  refine awp_sr fun K hK=>?_
  simp
  refine hK _ _ ?_
  clear hK K
  simp [e,reset_all hcl]
 refine aOps_split 6 fun K hK=>?_
 simp [h3,hc]
 refine hK _ _ ?_
 clear hK K
 by_cases h4:hi < (c.toNat:Int)
 ·have e:nameB lo hi s=false:=by
   have:¬ (c.toNat:Int)≤hi:=by omega
   simp [nameB,eh,this]
  simp [h3,h4]
  refine hK _ _ ?_
  clear hK K
  repeat with_reducible refine awp_assoc ?_
  refine awp_seq_k fun K hK=>?_
  refine awp_condT rfl (by simp) ?_
  repeat with_reducible refine awp_assoc ?_
  refine awp_sr fun K hK=>?_
  simp
  refine hK _ _ ?_
  clear hK K
  simp [e,reset_all hcl]
 have e:nameB lo hi s=tlB s:=by
  have a1:lo≤(c.toNat:Int):=by omega
  have a2:(c.toNat:Int)≤hi:=by omega
  simp [nameB,eh,a1,a2]
 simp [h3,h4]
 refine hK _ _ ?_
 clear hK K
 repeat with_reducible refine awp_assoc ?_
 refine awp_seq_k fun K hK=>?_
 refine awp_condF rfl (by simp) ?_
 refine awp_skip ?_
 refine hK _ _ ?_
 clear hK K
 clear h3 h4 eh hc c
 repeat with_reducible refine awp_assoc ?_
 refine awp_sr fun K hK=>?_
 simp
 refine hK _ _ ?_
 clear hK K
 refine awp_seq_k fun K hK=>?_
 refine awp_block ?_
 refine awp_up (s.size - 1) (fun k=>Env.ofL [(0,strV s),(1,.v (.int .u8 lo)),(2,.v (.int .u8 hi)),(6,boolV false),(7,intV ((k:Int)+1))]) (fun k=>HL H []) (fun k=>∀ x∈s.data.toList.tail.take k,tailB x=true) (weak_HL hcl rfl (by simp) (by simp)) (by simp) (fun k hk hv=>?_) (fun hv=>?_)
 ·have hk1:(k:Int)+1 < s.size:=by omega
  have hk2:k+1 < s.size:=by omega
  obtain ⟨c,hc⟩:∃ c,s.data.toList[k+1]?=some c:=by
   rw [ba_size] at hk2
   exact ⟨_,List.getElem?_eq_getElem hk2⟩
  have hc':s.data.toList.tail[k]?=some c:=by rw [List.getElem?_tail];exact hc
  have t1:((k:Int)+1).toNat=k+1:=by omega
  have t2:(0:Int)≤(k:Int)+1:=by omega
  have w2:IntKind.i64.wrap ((k:Int)+1+1)=(k:Int)+1+1:=wrap64 (by omega) (by omega)
  repeat with_reducible refine awp_assoc ?_
  refine awp_sr fun K hK=>?_
  simp [hk1]
  refine hK _ _ ?_
  clear hK K
  repeat with_reducible refine awp_assoc ?_
  refine awp_seq_k fun K hK=>?_
  refine awp_condT rfl (by simp) ?_
  refine awp_skip ?_
  refine hK _ _ ?_
  clear hK K
  refine awp_seq_k fun K hK=>?_
  refine awp_block ?_
  repeat with_reducible refine awp_assoc ?_
  refine awp_sr fun K hK=>?_
  simp [hc,t1,t2]
  refine hK _ _ ?_
  clear hK K
  refine awp_sr fun KB hKB=>?_
  suffices hE:∀ b,b=(!tailB c)→KB (Env.ofL [(0,strV s),(1,.v (.int .u8 lo)),(2,.v (.int .u8 hi)),(6,boolV false),(7,intV ((k:Int)+1)),(8,byteV c),(28,.undef),(32,boolV true),(64,boolV b)]) (HL H []) by
   clear hKB
   by_cases a1:(97:Int)≤c.toNat
   ·by_cases a2:(c.toNat:Int)≤122
    ·refine aOps_split 8 fun K hK=>?_
     simp [a1,a2]
     refine hK _ _ ?_
     clear hK K
     refine aOps_split 8 fun K hK=>?_
     simp [a1,a2]
     refine hK _ _ ?_
     clear hK K
     refine aOps_split 8 fun K hK=>?_
     simp [a1,a2]
     refine hK _ _ ?_
     clear hK K
     simp [a1,a2]
     exact hE _ (by simp [tailB,letterB,smallB,a1,a2])
    ·have b1:(65:Int)≤c.toNat:=by omega
     have b2:¬ (c.toNat:Int)≤90:=by omega
     have b3:(48:Int)≤c.toNat:=by omega
     have b4:¬ (c.toNat:Int)≤57:=by omega
     have b5:¬ (c.toNat:Int)=95:=by omega
     refine aOps_split 8 fun K hK=>?_
     simp [a1,a2,b1,b2,b3,b4,b5]
     refine hK _ _ ?_
     clear hK K
     refine aOps_split 8 fun K hK=>?_
     simp [a1,a2,b1,b2,b3,b4,b5]
     refine hK _ _ ?_
     clear hK K
     refine aOps_split 8 fun K hK=>?_
     simp [a1,a2,b1,b2,b3,b4,b5]
     refine hK _ _ ?_
     clear hK K
     simp [a1,a2,b1,b2,b3,b4,b5]
     exact hE _ (by simp [tailB,letterB,smallB,greatB,digitB,a1,a2,b1,b2,b3,b4,b5])
   ·by_cases a3:(65:Int)≤c.toNat
    ·by_cases a4:(c.toNat:Int)≤90
     ·refine aOps_split 8 fun K hK=>?_
      simp [a1,a3,a4]
      refine hK _ _ ?_
      clear hK K
      refine aOps_split 8 fun K hK=>?_
      simp [a1,a3,a4]
      refine hK _ _ ?_
      clear hK K
      refine aOps_split 8 fun K hK=>?_
      simp [a1,a3,a4]
      refine hK _ _ ?_
      clear hK K
      simp [a1,a3,a4]
      exact hE _ (by simp [tailB,letterB,greatB,a3,a4])
     ·have b3:(48:Int)≤c.toNat:=by omega
      have b4:¬ (c.toNat:Int)≤57:=by omega
      by_cases b5:(c.toNat:Int)=95
      ·refine aOps_split 8 fun K hK=>?_
       simp [a1,a3,a4,b3,b4,b5]
       refine hK _ _ ?_
       clear hK K
       refine aOps_split 8 fun K hK=>?_
       simp [a1,a3,a4,b3,b4,b5]
       refine hK _ _ ?_
       clear hK K
       refine aOps_split 8 fun K hK=>?_
       simp [a1,a3,a4,b3,b4,b5]
       refine hK _ _ ?_
       clear hK K
       simp [a1,a3,a4,b3,b4,b5]
       have h5:=hE false (by simp [tailB,b5])
       rw [show byteV c=.v (.int .u8 95) by unfold byteV;rw [b5]] at h5
       exact h5
      ·refine aOps_split 8 fun K hK=>?_
       simp [a1,a3,a4,b3,b4,b5]
       refine hK _ _ ?_
       clear hK K
       refine aOps_split 8 fun K hK=>?_
       simp [a1,a3,a4,b3,b4,b5]
       refine hK _ _ ?_
       clear hK K
       refine aOps_split 8 fun K hK=>?_
       simp [a1,a3,a4,b3,b4,b5]
       refine hK _ _ ?_
       clear hK K
       simp [a1,a3,a4,b3,b4,b5]
       exact hE _ (by simp [tailB,letterB,smallB,greatB,digitB,a1,a3,a4,b3,b4,b5])
    ·by_cases a5:(48:Int)≤c.toNat
     ·have b5:¬ (c.toNat:Int)=95:=by omega
      by_cases a6:(c.toNat:Int)≤57
      ·refine aOps_split 8 fun K hK=>?_
       simp [a1,a3,a5,a6]
       refine hK _ _ ?_
       clear hK K
       refine aOps_split 8 fun K hK=>?_
       simp [a1,a3,a5,a6]
       refine hK _ _ ?_
       clear hK K
       refine aOps_split 8 fun K hK=>?_
       simp [a1,a3,a5,a6]
       refine hK _ _ ?_
       clear hK K
       simp [a1,a3,a5,a6]
       exact hE _ (by simp [tailB,digitB,a5,a6])
      ·refine aOps_split 8 fun K hK=>?_
       simp [a1,a3,a5,a6,b5]
       refine hK _ _ ?_
       clear hK K
       refine aOps_split 8 fun K hK=>?_
       simp [a1,a3,a5,a6,b5]
       refine hK _ _ ?_
       clear hK K
       refine aOps_split 8 fun K hK=>?_
       simp [a1,a3,a5,a6,b5]
       refine hK _ _ ?_
       clear hK K
       simp [a1,a3,a5,a6,b5]
       exact hE _ (by simp [tailB,letterB,smallB,greatB,digitB,a1,a3,a6,b5])
     ·have b5:¬ (c.toNat:Int)=95:=by omega
      refine aOps_split 8 fun K hK=>?_
      simp [a1,a3,a5,b5]
      refine hK _ _ ?_
      clear hK K
      refine aOps_split 8 fun K hK=>?_
      simp [a1,a3,a5,b5]
      refine hK _ _ ?_
      clear hK K
      refine aOps_split 8 fun K hK=>?_
      simp [a1,a3,a5,b5]
      refine hK _ _ ?_
      clear hK K
      simp [a1,a3,a5,b5]
      exact hE _ (by simp [tailB,letterB,smallB,greatB,digitB,a1,a3,a5,b5])
  intro b hb
  refine hKB _ _ ?_
  clear hKB KB
  cases ht:tailB c
  ·refine awp_condT rfl (by simp [hb,ht]) ?_
   repeat with_reducible refine awp_assoc ?_
   refine awp_sr fun K hK=>?_
   simp
   refine hK _ _ ?_
   clear hK K
   have:tlB s=false:=by
    have:s.data.toList.tail.all tailB=false:=by
     rw [List.all_eq_false]
     exact ⟨c,List.mem_of_getElem? hc',by simp [ht]⟩
    simp [tlB,this]
   simp [e,this,reset_all hcl]
  ·refine awp_condF rfl (by simp [hb,ht]) ?_
   refine awp_skip ?_
   refine hK _ _ ?_
   clear hK K
   refine awp_region ?_
   simp [w2]
   refine ⟨fun x hx=>?_,?_⟩
   ·rw [take_one hc'] at hx
    simp only [List.mem_append,List.mem_singleton] at hx
    rcases hx with hx | rfl
    ·exact hv x hx
    ·exact ht
   ·refine weak_HL hcl rfl (by simp) (by simp)
 ·have hend:¬ (((s.size - 1:Nat):Int)+1 < s.size):=by omega
  repeat with_reducible refine awp_assoc ?_
  refine awp_sr fun K hK=>?_
  simp [hend]
  refine hK _ _ ?_
  clear hK K
  repeat with_reducible refine awp_assoc ?_
  refine awp_seq_k fun K hK=>?_
  refine awp_condF rfl (by simp) ?_
  refine awp_exit ?_
  simp
  clear hK K
  refine hK _ _ ?_
  clear hK K
  repeat with_reducible refine awp_assoc ?_
  refine awp_sr fun K hK=>?_
  simp
  refine hK _ _ ?_
  clear hK K
  have:tlB s=true:=by
   rw [List.take_of_length_le (by rw [List.length_tail,←ba_size];exact Nat.le_refl _)] at hv
   have h2':s.size≤16:=by omega
   simp only [tlB,h2',List.all_eq_true.2 hv];rfl
  simp [e,this,reset_all hcl]
theorem isGreat_c (s:ByteArray) (H:AHeap):ACalls Tryz.prog 161 [strV s] H (boolV (greatN s)) H:=by
 have e:greatN s=nameB 65 90 s:=by rw [great_tl];rfl
 rw [e]
 refine acalls_walk (fun _=>.imm) [0,2] Tryz.mixed Tryz.func161 rfl rfl rfl (by decide) (fun hcl hlow=>?_)
 repeat with_reducible refine awp_assoc ?_
 refine awp_sr fun K hK=>?_
 simp
 refine hK _ _ ?_
 clear hK K
 repeat with_reducible refine awp_assoc ?_
 refine awp_sr fun K hK=>?_
 refine aOps_split 1 fun K hK=>?_
 simp
 refine hK _ _ ?_
 clear hK K
 refine aOps_call (isName_c s 65 90 _) (by first | rfl | simp) rfl rfl (by first | (simp;done) | rfl) ?_
 simp
 refine hK _ _ ?_
 clear hK K
 simp [reset_all hcl]
theorem index_c (l:List ByteArray) (s:ByteArray) (hl:l.length < 4611686018427387904) (H:AHeap):ACalls Tryz.prog 218 [strs l none,strV s] H (intV (placeI l s)) H:=by
 refine acalls_walk (fun _=>.imm) [0,1,4,5,7,8,9,16] Tryz.mixed Tryz.func218 rfl rfl rfl (by decide) (fun hcl hlow=>?_)
 repeat with_reducible refine awp_assoc ?_
 refine awp_sr fun K hK=>?_
 simp
 refine hK _ _ ?_
 clear hK K
 repeat with_reducible refine awp_assoc ?_
 refine awp_sr fun K hK=>?_
 simp
 refine hK _ _ ?_
 clear hK K
 refine awp_seq_k fun K hK=>?_
 refine awp_block ?_
 refine awp_up l.length (fun k=>Env.ofL [(0,strs l none),(1,strV s),(4,intV 0),(7,intV (l.length:Int)),(8,intV k)]) (fun k=>HL H []) (fun k=>∀ y∈l.take k,decide (y=s)=false) (weak_HL hcl rfl ?_ ?_) ?_ (fun k hk hi=>?_) (fun hi=>?_)
 ·simp
 ·simp
 ·simp
 ·obtain ⟨x,hx⟩:∃ x,l[k]?=some x:=⟨_,List.getElem?_eq_getElem hk⟩
  repeat with_reducible refine awp_assoc ?_
  refine awp_sr fun K hK=>?_
  simp [hk]
  refine hK _ _ ?_
  clear hK K
  repeat with_reducible refine awp_assoc ?_
  refine awp_seq_k fun K hK=>?_
  refine awp_condT rfl (by simp) ?_
  refine awp_skip ?_
  refine hK _ _ ?_
  clear hK K
  refine awp_seq_k fun K hK=>?_
  refine awp_block ?_
  repeat with_reducible refine awp_assoc ?_
  refine awp_sr fun K hK=>?_
  simp
  refine hK _ _ ?_
  clear hK K
  by_cases hs:s=x
  ·subst hs
   repeat with_reducible refine awp_assoc ?_
   refine awp_sr fun K hK=>?_
   simp [hx]
   refine hK _ _ ?_
   clear hK K
   refine awp_condT rfl (by simp) ?_
   repeat with_reducible refine awp_assoc ?_
   refine awp_sr fun K hK=>?_
   simp
   refine hK _ _ ?_
   clear hK K
   have e:placeI l s=k:=by unfold placeI;rw [ix_at hx (by simp) hi];rfl
   simp [e,reset_all hcl]
  ·repeat with_reducible refine awp_assoc ?_
   refine awp_sr fun K hK=>?_
   simp [hx,hs]
   refine hK _ _ ?_
   clear hK K
   refine awp_condF rfl (by simp) ?_
   refine awp_skip ?_
   refine hK _ _ ?_
   clear hK K
   refine awp_region ?_
   simp [wrap_succ (show k < 4611686018427387904 by omega)]
   refine ⟨by simpa using take_all (p:=fun y=>decide (y=s)=false) hx (by simpa using Ne.symm hs) hi,?_⟩
   refine weak_HL hcl rfl (by simp) (by simp)
 ·repeat with_reducible refine awp_assoc ?_
  refine awp_sr fun K hK=>?_
  simp
  refine hK _ _ ?_
  clear hK K
  repeat with_reducible refine awp_assoc ?_
  refine awp_seq_k fun K hK=>?_
  refine awp_condF rfl (by simp) ?_
  refine awp_exit ?_
  simp
  clear hK K
  refine hK _ _ ?_
  clear hK K
  repeat with_reducible refine awp_assoc ?_
  refine awp_sr fun K hK=>?_
  simp
  refine hK _ _ ?_
  clear hK K
  rw [List.take_length] at hi
  have e:placeI l s=-1:=by unfold placeI;rw [ix_none hi];rfl
  simp [e,reset_all hcl]
theorem placeI_ge (l:List ByteArray) (s:ByteArray):decide (0≤placeI l s)=memS s l:=by
 unfold placeI
 cases h:l.findIdx? fun x=>decide (x=s) with
 | none =>
  rw [List.findIdx?_eq_none_iff] at h
  have:memS s l=false:=by
   rw [Bool.eq_false_iff,Ne,memS_iff]
   intro hm;simpa using h s hm
  rw [this];rfl
 | some i =>
  rw [List.findIdx?_eq_some_iff_getElem] at h
  obtain ⟨hl,h1,_⟩:=h
  have:memS s l=true:=memS_iff.2 (by rw [←show l[i]=s by simpa using h1];exact List.getElem_mem hl)
  rw [this];simp [ixI]
theorem contains_c (l:List ByteArray) (s:ByteArray) (hl:l.length < 4611686018427387904) (H:AHeap):ACalls Tryz.prog 164 [strs l none,strV s] H (boolV (memS s l)) H:=by
 refine acalls_walk (fun _=>.imm) [0,1,4] Tryz.mixed Tryz.func164 rfl rfl rfl (by decide) (fun hcl hlow=>?_)
 repeat with_reducible refine awp_assoc ?_
 refine awp_sr fun K hK=>?_
 simp
 refine hK _ _ ?_
 clear hK K
 repeat with_reducible refine awp_assoc ?_
 refine awp_sr fun K hK=>?_
 refine aOps_split 2 fun K hK=>?_
 simp
 refine hK _ _ ?_
 clear hK K
 refine aOps_call (index_c l s hl _) (by first | rfl | simp) rfl rfl (by first | (simp;done) | rfl) ?_
 simp
 refine hK _ _ ?_
 clear hK K
 simp [placeI_ge,reset_all hcl]
theorem dSmall_c (s:ByteArray) (H:AHeap):ACalls Tryz.prog 162 [strV s] H (boolV (smallN s)) H:=by
 have e:smallN s=(nameB 97 122 s && !memS s wordsB):=by
  rw [small_tl]
  have h1:nameB 97 122 s=(headP smallB s && tlB s):=rfl
  have h2:wordB s=memS s wordsB:=by simp only [wordB,memS,eq_comm]
  rw [h1,h2]
 rw [e]
 refine acalls_walk (fun d=>if d=4 then .lit else .imm) [0,2,3] Tryz.mixed Tryz.func162 rfl rfl rfl (by decide) (fun hcl hlow=>?_)
 repeat with_reducible refine awp_assoc ?_
 refine awp_sr fun K hK=>?_
 simp
 refine hK _ _ ?_
 clear hK K
 repeat with_reducible refine awp_assoc ?_
 refine awp_sr fun K hK=>?_
 simp
 refine hK _ _ ?_
 clear hK K
 repeat with_reducible refine awp_assoc ?_
 refine awp_sr fun K hK=>?_
 refine aOps_split 1 fun K hK=>?_
 simp
 refine hK _ _ ?_
 clear hK K
 refine aOps_call (isName_c s 97 122 _) (by first | rfl | simp) rfl rfl (by first | (simp;done) | rfl) ?_
 cases hn:nameB 97 122 s
 ·simp
  refine hK _ _ ?_
  clear hK K
  simp [hn,reset_all hcl]
 refine aOps_split 3 fun K hK=>?_
 simp
 refine hK _ _ ?_
 clear hK K
 refine aOps_call (contains_c wordsB s (by decide) _) (by first | rfl | simp) rfl rfl (by first | (simp;done) | rfl) ?_
 simp
 refine hK _ _ ?_
 clear hK K
 simp [hn,reset_all hcl]
theorem base_c (H:AHeap):ACalls Tryz.prog 67 [] H (.slice (baseD.map Dat.cells) (some (nid H.next 3)))
  (HL H [.cells [strV aS,.slice [] none],.cells [strV bS,.slice [] none],.cells [strV listN,.slice [[strV aS,.slice [] none]] none],.tok 5 3 none]):=by
 refine acalls_walk (fun d=>if d=37 then .imm else .lit) [0,1,2,3] Tryz.mixed Tryz.func67 rfl rfl rfl (by decide) (fun hcl hlow=>?_)
 repeat with_reducible refine awp_assoc ?_
 refine awp_sr fun K hK=>?_
 simp
 refine hK _ _ ?_
 clear hK K
 repeat with_reducible refine awp_assoc ?_
 refine awp_sr fun K hK=>?_
 simp
 refine hK _ _ ?_
 clear hK K
 repeat with_reducible refine awp_assoc ?_
 refine awp_sr fun K hK=>?_
 simp
 refine hK _ _ ?_
 clear hK K
 repeat with_reducible refine awp_assoc ?_
 refine awp_sr fun K hK=>?_
 refine aOps_split 8 fun K hK=>?_
 simp
 refine hK _ _ ?_
 clear hK K
 refine aOps_split 8 fun K hK=>?_
 simp
 refine hK _ _ ?_
 clear hK K
 refine aOps_split 6 fun K hK=>?_
 simp
 refine hK _ _ ?_
 clear hK K
 refine aOps_split 6 fun K hK=>?_
 simp
 refine hK _ _ ?_
 clear hK K
 simp
 refine hK _ _ ?_
 clear hK K
 simp [baseD,strs,Ty.cells,cellsL]
 have hw:∀ a b:AV,Wk a b→Wk a b:=fun _ _ h=>h
 refine ⟨Wk.sliceT ?_,reset_HL hcl ?_,le_nid⟩
 ·simp only [WkR,WkE]
  repeat' first | exact Wk.refl _ | exact Wk.nilSlice | refine Wk.slice ?_ | (simp only [WkR,WkE];done) | (simp only [WkR,WkE]) | refine And.intro ?_ ?_ | exact trivial
 ·simp
  refine ⟨.refl _,.refl _,.refl _,Wk.slice ?_⟩
  exact ⟨⟨.refl _,Wk.nilSlice,trivial⟩,trivial⟩
theorem dAll_c (d:DeclsD) (hsz:d.datas.length < 1000000000000) (H:AHeap):ACalls Tryz.prog 166 [d.enc] H (.slice ((allD d).map Dat.cells) none) H:=by
 have hb:=base_c
 have e1:(allD d).map Dat.cells=baseD.map Dat.cells++d.datas.map Dat.cells:=by unfold allD;rw [List.map_append]
 have hbl:(baseD.map Dat.cells).length=5:=rfl
 have hb3:∀ r∈baseD.map Dat.cells,r.length=3:=by simp [Dat.cells]
 rw [e1]
 have hlB:∀ n,lowR n (baseD.map Dat.cells):=fun n=>low_datL n _
 generalize baseD.map Dat.cells=B at hb hbl hb3 hlB ⊢
 refine acalls_walk (fun _=>.imm) [0,1,2] Tryz.mixed Tryz.func166 rfl rfl rfl (by decide) (fun hcl hlow=>?_)
 repeat with_reducible refine awp_assoc ?_
 refine awp_sr fun K hK=>?_
 simp
 refine hK _ _ ?_
 clear hK K
 repeat with_reducible refine awp_assoc ?_
 refine awp_sd [0,3] [[],[0],[0],[],[]] (by kernel_rfl) fun K hK=>?_
 refine aLex_calleA (hb _) rfl rfl rfl rfl rfl (by simp) ?_
 refine aLex_read rfl rfl rfl rfl fun K hK=>?_
 simp
 refine hK _ _ _ ?_
 clear hK K
 refine aLex_read rfl rfl rfl rfl fun K hK=>?_
 simp
 refine hK _ _ _ ?_
 clear hK K
 by_cases hd:d.datas=[]
 ·refine aLex_eff rfl rfl rfl rfl fun K hK=>?_
  simp [hbl,hd]
  refine ⟨hb3,hK _ _ ?_⟩
  clear hK K
  refine aLex_read rfl rfl rfl rfl fun K hK=>?_
  simp
  refine hK _ _ _ ?_
  clear hK K
  refine aLex_end ?_
  simp
  refine hK _ _ ?_
  clear hK K
  simp [hd,reset_all hcl]
  exact hlB _
 refine aLex_eff rfl rfl rfl rfl fun K hK=>?_
 simp [hbl,hd]
 refine ⟨by omega,hb3,hK _ _ ?_⟩
 clear hK K
 refine aLex_read rfl rfl rfl rfl fun K hK=>?_
 simp
 refine hK _ _ _ ?_
 clear hK K
 refine aLex_end ?_
 simp
 refine hK _ _ ?_
 clear hK K
 simp [reset_all hcl]
 exact hlB _
theorem named_c (d:DeclsD) (hsz:d.datas.length < 1000000000000) (n:ByteArray) (H:AHeap):ACalls Tryz.prog 163 [d.enc,strV n] H (.tuple [(namedD d n).1.enc,boolV (namedD d n).2]) H:=by
 have hal:=dAll_c d hsz
 have e0:namedD d n=if n=intN then (⟨intN,[],[]⟩,true) else match (allD d).find? fun x=>decide (x.name=n) with | some x=>(x,true) | none=>(zeroDat,false):=rfl
 have hll:(allD d).length < 4611686018427387904:=by simp [allD,baseD];omega
 generalize namedD d n=r at e0 ⊢
 generalize allD d=l at *
 refine acalls_walk (fun _=>.imm) [0,1,2,4,5,7,9,12,13,14,15,21] Tryz.mixed Tryz.func163 rfl rfl rfl (by decide) (fun hcl hlow=>?_)
 repeat with_reducible refine awp_assoc ?_
 refine awp_sr fun K hK=>?_
 simp
 refine hK _ _ ?_
 clear hK K
 by_cases h0:n=intN
 ·repeat with_reducible refine awp_assoc ?_
  refine awp_sr fun K hK=>?_
  simp [h0,intN]
  refine hK _ _ ?_
  clear hK K
  repeat with_reducible refine awp_assoc ?_
  refine awp_seq_k fun K hK=>?_
  refine awp_condT rfl (by simp [h0,intN]) ?_
  repeat with_reducible refine awp_assoc ?_
  refine awp_sr fun K hK=>?_
  simp
  refine hK _ _ ?_
  clear hK K
  rw [e0,if_pos h0]
  simp [reset_all hcl]
  exact Wk.tuple ⟨Wk.agg ⟨.refl _,Wk.nilSlice,Wk.nilSlice,trivial⟩,.refl _,trivial⟩
 rw [if_neg h0] at e0
 have h0':¬ n=⟨#[73,110,116]⟩:=h0
 repeat with_reducible refine awp_assoc ?_
 refine awp_sr fun K hK=>?_
 simp [h0']
 refine hK _ _ ?_
 clear hK K
 repeat with_reducible refine awp_assoc ?_
 refine awp_seq_k fun K hK=>?_
 refine awp_condF rfl (by simp) ?_
 refine awp_skip ?_
 refine hK _ _ ?_
 clear hK K
 repeat with_reducible refine awp_assoc ?_
 refine awp_sr fun K hK=>?_
 refine aOps_split 1 fun K hK=>?_
 simp
 refine hK _ _ ?_
 clear hK K
 refine aOps_call (hal _) (by first | rfl | simp) rfl rfl (by first | (simp;done) | rfl) ?_
 simp
 refine hK _ _ ?_
 clear hK K
 refine awp_seq_k fun K hK=>?_
 refine awp_block ?_
 refine awp_up l.length (fun k=>Env.ofL [(0,d.enc),(1,strV n),(2,.ref (nid H.next 0) 0),(4,.ref (nid H.next 1) 0),(5,boolV false),(12,.slice (l.map Dat.cells) none),(13,intV (l.length:Int)),(14,intV k)]) (fun k=>HL (H) [.cells d.cells,.cells [strV ByteArray.empty,.v (.slice none 0 0),.v (.slice none 0 0)]]) (fun k=>∀ y∈l.take k,decide (y.name=n)=false) (weak_HL (hcl) (by simp) ?_ ?_) ?_ (fun k hk hi=>?_) (fun hi=>?_)
 ·simp
 ·simp
 ·simp
 ·obtain ⟨x,hx⟩:∃ x,l[k]?=some x:=⟨_,List.getElem?_eq_getElem hk⟩
  repeat with_reducible refine awp_assoc ?_
  refine awp_sr fun K hK=>?_
  simp [hk]
  refine hK _ _ ?_
  clear hK K
  repeat with_reducible refine awp_assoc ?_
  refine awp_seq_k fun K hK=>?_
  refine awp_condT rfl (by simp) ?_
  refine awp_skip ?_
  refine hK _ _ ?_
  clear hK K
  refine awp_seq_k fun K hK=>?_
  refine awp_block ?_
  repeat with_reducible refine awp_assoc ?_
  refine awp_sr fun K hK=>?_
  refine aOps_split 4 fun K hK=>?_
  simp [hx]
  refine hK _ _ ?_
  clear hK K
  simp
  refine hK _ _ ?_
  clear hK K
  repeat with_reducible refine awp_assoc ?_
  refine awp_sr fun K hK=>?_
  simp
  refine hK _ _ ?_
  clear hK K
  by_cases hs:x.name=n
  ·refine awp_condT rfl (by simp [hs]) ?_
   repeat with_reducible refine awp_assoc ?_
   refine awp_sr fun K hK=>?_
   simp
   refine hK _ _ ?_
   clear hK K
   rw [e0,find_at hx (by simpa using hs) hi]
   simp [reset_all hcl]
  ·refine awp_condF rfl (by simp [hs]) ?_
   refine awp_skip ?_
   refine hK _ _ ?_
   clear hK K
   refine awp_region ?_
   simp [wrap_succ (show k < 4611686018427387904 by omega)]
   refine ⟨by simpa using take_all (p:=fun y:Dat=>decide (y.name=n)=false) hx (by simpa using hs) hi,?_⟩
   exact weak_HL hcl rfl (by simp) (by simp)
 ·repeat with_reducible refine awp_assoc ?_
  refine awp_sr fun K hK=>?_
  simp
  refine hK _ _ ?_
  clear hK K
  repeat with_reducible refine awp_assoc ?_
  refine awp_seq_k fun K hK=>?_
  refine awp_condF rfl (by simp) ?_
  refine awp_exit ?_
  simp
  clear hK K
  refine hK _ _ ?_
  clear hK K
  repeat with_reducible refine awp_assoc ?_
  refine awp_sr fun K hK=>?_
  simp
  refine hK _ _ ?_
  clear hK K
  rw [List.take_length] at hi
  rw [e0,find_none hi]
  simp [reset_all hcl]
  exact Wk.tuple ⟨Wk.agg ⟨.refl _,Wk.nilSlice,Wk.nilSlice,trivial⟩,.refl _,trivial⟩
theorem class1_c (x:ClsD) (n:ByteArray) (i:Nat) (H:AHeap) (hi:H.get i=some (.cells [strV n])):ACalls Tryz.prog 224 [.agg x.cells,.ref i 0] H (boolV (decide (x.name=n))) H:=by
 refine acalls_walk (fun _=>.imm) [0,1,2,3] Tryz.mixed Tryz.func224 rfl rfl rfl (by decide) (fun hcl hlow=>?_)
 have hlt:i < H.next:=by simpa using hlow
 repeat with_reducible refine awp_assoc ?_
 refine awp_sr fun K hK=>?_
 simp
 refine hK _ _ ?_
 clear hK K
 repeat with_reducible refine awp_assoc ?_
 refine awp_sr fun K hK=>?_
 simp [get_lt hlt,hi]
 refine hK _ _ ?_
 clear hK K
 simp [reset_all hcl]
theorem idxClass_c (l:List ClsD) (hl:l.length < 1000000000000) (n:ByteArray) (i:Nat) (H:AHeap) (hi:H.get i=some (.cells [strV n])):ACalls Tryz.prog 223 [.slice (l.map ClsD.cells) none,.fn 224 [.ref i 0]] H (intV (classI l n)) H:=by
 refine acalls_walk (fun _=>.imm) [0,1,4,5,7,8,9,16] Tryz.mixed Tryz.func223 rfl rfl rfl (by decide) (fun hcl hlow=>?_)
 have hlt:i < H.next:=by simpa using hlow
 repeat with_reducible refine awp_assoc ?_
 refine awp_sr fun K hK=>?_
 simp
 refine hK _ _ ?_
 clear hK K
 repeat with_reducible refine awp_assoc ?_
 refine awp_sr fun K hK=>?_
 simp
 refine hK _ _ ?_
 clear hK K
 refine awp_seq_k fun K hK=>?_
 refine awp_block ?_
 refine awp_up l.length (fun k=>Env.ofL [(0,.slice (l.map ClsD.cells) none),(1,.fn 224 [.ref i 0]),(4,intV 0),(7,intV (l.length:Int)),(8,intV k)]) (fun k=>HL H []) (fun k=>∀ y∈l.take k,decide (y.name=n)=false) (weak_HL hcl rfl (by simp) (by simp [lt_nid hlt])) (by simp) (fun k hk hv=>?_) (fun hv=>?_)
 ·obtain ⟨x,hx⟩:∃ x,l[k]?=some x:=⟨_,List.getElem?_eq_getElem hk⟩
  have hc:=class1_c x n i (HL H []) (by rw [get_lt hlt];exact hi)
  simp at hc
  repeat with_reducible refine awp_assoc ?_
  refine awp_sr fun K hK=>?_
  simp [hk]
  refine hK _ _ ?_
  clear hK K
  repeat with_reducible refine awp_assoc ?_
  refine awp_seq_k fun K hK=>?_
  refine awp_condT rfl (by simp) ?_
  refine awp_skip ?_
  refine hK _ _ ?_
  clear hK K
  refine awp_seq_k fun K hK=>?_
  refine awp_block ?_
  repeat with_reducible refine awp_assoc ?_
  refine awp_sr fun K hK=>?_
  simp
  refine hK _ _ ?_
  clear hK K
  repeat with_reducible refine awp_assoc ?_
  refine awp_sr fun K hK=>?_
  refine aOps_split 5 fun K hK=>?_
  simp [hx]
  refine hK _ _ ?_
  clear hK K
  refine aOps_call (hc) (by first | rfl | simp) rfl rfl (by first | (simp;done) | rfl) ?_
  simp
  refine hK _ _ ?_
  clear hK K
  by_cases hs:x.name=n
  ·refine awp_condT rfl (by simp [hs]) ?_
   repeat with_reducible refine awp_assoc ?_
   refine awp_sr fun K hK=>?_
   simp
   refine hK _ _ ?_
   clear hK K
   have e:classI l n=k:=by unfold classI;rw [ix_at hx (by simpa using hs) hv];rfl
   simp [e,reset_all hcl]
  ·refine awp_condF rfl (by simp [hs]) ?_
   refine awp_skip ?_
   refine hK _ _ ?_
   clear hK K
   refine awp_region ?_
   simp [wrap_succ (show k < 4611686018427387904 by omega)]
   refine ⟨by simpa using take_all (p:=fun y:ClsD=>decide (y.name=n)=false) hx (by simpa using hs) hv,?_⟩
   exact weak_HL hcl rfl (by simp) (by simp [lt_nid hlt])
 ·repeat with_reducible refine awp_assoc ?_
  refine awp_sr fun K hK=>?_
  simp
  refine hK _ _ ?_
  clear hK K
  repeat with_reducible refine awp_assoc ?_
  refine awp_seq_k fun K hK=>?_
  refine awp_condF rfl (by simp) ?_
  refine awp_exit ?_
  simp
  clear hK K
  refine hK _ _ ?_
  clear hK K
  repeat with_reducible refine awp_assoc ?_
  refine awp_sr fun K hK=>?_
  simp
  refine hK _ _ ?_
  clear hK K
  rw [List.take_length] at hv
  have e:classI l n=-1:=by unfold classI;rw [ix_none hv];rfl
  simp [e,reset_all hcl]
theorem class_c (d:DeclsD) (hl:d.classes.length < 1000000000000) (n:ByteArray) (H:AHeap):ACalls Tryz.prog 170 [d.enc,strV n] H (intV (classI d.classes n)) H:=by
 have hc:=idxClass_c d.classes hl n
 refine acalls_walk (fun _=>.imm) [0,1,2,3,4] Tryz.mixed Tryz.func170 rfl rfl rfl (by decide) (fun hcl hlow=>?_)
 repeat with_reducible refine awp_assoc ?_
 refine awp_sr fun K hK=>?_
 simp
 refine hK _ _ ?_
 clear hK K
 repeat with_reducible refine awp_assoc ?_
 refine awp_sr fun K hK=>?_
 refine aOps_split 3 fun K hK=>?_
 simp
 refine hK _ _ ?_
 clear hK K
 have hc2:=hc (nid H.next 1) (HL H [.cells d.cells,.cells [strV n]]) (by simp)
 simp at hc2
 refine aOps_call (hc2) (by first | rfl | simp) rfl rfl (by first | (simp;done) | rfl) ?_
 simp
 refine hK _ _ ?_
 clear hK K
 simp [reset_all hcl]
end Go.Proofs.YtdppfcbeiplckaaGreat
