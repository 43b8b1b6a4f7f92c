/- The reference's bytes and names. -/
import Derived.Test.YtlhoigpidpokfaaGreatMW1
set_option linter.unusedVariables false
set_option linter.unusedSimpArgs false
namespace Go.Proofs.YtlhoigpidpokfaaGreat
open Go Go.Abs Go.Proofs
set_option maxRecDepth 20000
attribute [local simp] aOps wantedA aStep aop aLoad aStore aBin aUn aFieldAddr aField aIndexAddr aIndex aLen aBuild aFill aAlloc aAppend aAppendOwn aMin aMax aBuildSlice litRows newRows isMut isOwn isNilS nilsW bytesR tokW tokAV tokL ret readC splice aeval isLit isLate isCut aCut AV.celled AV.one AV.ofValue Value.oneCell' Value.cells intOp strOp get_nid upd_nid awp aEnd aResults aResult Det unord isCall isNext
attribute [local simp] low_take low_strs low_comp low_tcomp wkEs_refl' WkBs WkEnv WkB WkL WkE WkO ABlock.low lowO lowL lowR AV.low cellsL_eq Ty.low low_map Ty.cells_length Ty.cells_one
theorem rSmallB_c (c:UInt8) (H:AHeap):ACalls Tryz.prog 95 [byteV c] H (boolV (smallB c)) H:=by
 refine acalls_walk (fun _=>.imm) [0,2] Tryz.mixed Tryz.func95 rfl rfl rfl (by decide) (fun hcl hlow=>?_)
 repeat with_reducible refine awp_assoc ?_
 refine awp_sr fun K hK=>?_
 simp
 refine hK _ _ ?_
 clear hK K
 by_cases h:(97:Int)≤c.toNat
 ·repeat with_reducible refine awp_assoc ?_
  refine awp_sr fun K hK=>?_
  simp [h]
  refine hK _ _ ?_
  clear hK K
  simp [smallB,h,reset_all hcl]
 ·repeat with_reducible refine awp_assoc ?_
  refine awp_sr fun K hK=>?_
  simp [h]
  refine hK _ _ ?_
  clear hK K
  simp [smallB,h,reset_all hcl]
theorem rGreatB_c (c:UInt8) (H:AHeap):ACalls Tryz.prog 142 [byteV c] H (boolV (greatB c)) H:=by
 refine acalls_walk (fun _=>.imm) [0,2] Tryz.mixed Tryz.func142 rfl rfl rfl (by decide) (fun hcl hlow=>?_)
 repeat with_reducible refine awp_assoc ?_
 refine awp_sr fun K hK=>?_
 simp
 refine hK _ _ ?_
 clear hK K
 by_cases h:(65:Int)≤c.toNat
 ·repeat with_reducible refine awp_assoc ?_
  refine awp_sr fun K hK=>?_
  simp [h]
  refine hK _ _ ?_
  clear hK K
  simp [greatB,h,reset_all hcl]
 ·repeat with_reducible refine awp_assoc ?_
  refine awp_sr fun K hK=>?_
  simp [h]
  refine hK _ _ ?_
  clear hK K
  simp [greatB,h,reset_all hcl]
theorem rDigit_c (c:UInt8) (H:AHeap):ACalls Tryz.prog 154 [byteV c] H (boolV (digitB c)) H:=by
 refine acalls_walk (fun _=>.imm) [0,2] Tryz.mixed Tryz.func154 rfl rfl rfl (by decide) (fun hcl hlow=>?_)
 repeat with_reducible refine awp_assoc ?_
 refine awp_sr fun K hK=>?_
 simp
 refine hK _ _ ?_
 clear hK K
 by_cases h:(48:Int)≤c.toNat
 ·repeat with_reducible refine awp_assoc ?_
  refine awp_sr fun K hK=>?_
  simp [h]
  refine hK _ _ ?_
  clear hK K
  simp [digitB,h,reset_all hcl]
 ·repeat with_reducible refine awp_assoc ?_
  refine awp_sr fun K hK=>?_
  simp [h]
  refine hK _ _ ?_
  clear hK K
  simp [digitB,h,reset_all hcl]
theorem rInner_c (c:UInt8) (H:AHeap):ACalls Tryz.prog 152 [byteV c] H (boolV (tailB c)) H:=by
 refine acalls_walk (fun _=>.imm) [0,2] Tryz.mixed Tryz.func152 rfl rfl rfl (by decide) (fun hcl hlow=>?_)
 repeat with_reducible refine awp_assoc ?_
 refine awp_sr fun K hK=>?_
 simp
 refine hK _ _ ?_
 clear hK K
 repeat with_reducible refine awp_assoc ?_
 refine awp_sr fun K hK=>?_
 refine aOps_split 1 fun K hK=>?_
 simp
 refine hK _ _ ?_
 clear hK K
 refine aOps_call (rSmallB_c c _) (by first | rfl | simp) rfl rfl (by first | (simp;done) | rfl) ?_
 cases hs:smallB c
 rotate_left
 ·simp
  refine hK _ _ ?_
  clear hK K
  simp [tailB,letterB,hs,reset_all hcl]
 refine aOps_split 2 fun K hK=>?_
 simp
 refine hK _ _ ?_
 clear hK K
 refine aOps_call (rGreatB_c c _) (by first | rfl | simp) rfl rfl (by first | (simp;done) | rfl) ?_
 cases hg:greatB c
 rotate_left
 ·simp
  refine hK _ _ ?_
  clear hK K
  simp [tailB,letterB,hs,hg,reset_all hcl]
 refine aOps_split 3 fun K hK=>?_
 simp
 refine hK _ _ ?_
 clear hK K
 refine aOps_call (rDigit_c c _) (by first | rfl | simp) rfl rfl (by first | (simp;done) | rfl) ?_
 cases hd:digitB c
 ·simp
  refine hK _ _ ?_
  clear hK K
  simp [tailB,letterB,hs,hg,hd,reset_all hcl]
 ·simp
  refine hK _ _ ?_
  clear hK K
  simp [tailB,letterB,hs,hg,hd,reset_all hcl]
def tlB (s:ByteArray):Bool:=decide (s.size≤16) && s.data.toList.tail.all tailB
theorem rTail_c (s:ByteArray) (H:AHeap):ACalls Tryz.prog 143 [strV s] H (boolV (tlB s)) H:=by
 refine acalls_walk (fun _=>.imm) [0,2,3,6,10,17] Tryz.mixed Tryz.func143 rfl rfl rfl (by decide) (fun hcl hlow=>?_)
 repeat with_reducible refine awp_assoc ?_
 refine awp_sr fun K hK=>?_
 simp
 refine hK _ _ ?_
 clear hK K
 by_cases h2:s.size≤16
 rotate_left
 ·have h2':(16:Int) < s.size:=by omega
  repeat with_reducible refine awp_assoc ?_
  refine awp_sr fun K hK=>?_
  simp [h2']
  refine hK _ _ ?_
  clear hK K
  repeat with_reducible refine awp_assoc ?_
  refine awp_seq_k fun K hK=>?_
  refine awp_condT rfl (by simp [h2']) ?_
  repeat with_reducible refine awp_assoc ?_
  refine awp_sr fun K hK=>?_
  simp
  refine hK _ _ ?_
  clear hK K
  simp [tlB,h2,reset_all hcl]
 have h2':¬ (16:Int) < s.size:=by omega
 repeat with_reducible refine awp_assoc ?_
 refine awp_sr fun K hK=>?_
 simp [h2']
 refine hK _ _ ?_
 clear hK K
 repeat with_reducible refine awp_assoc ?_
 refine awp_seq_k fun K hK=>?_
 refine awp_condF rfl (by simp [h2']) ?_
 refine awp_skip ?_
 refine hK _ _ ?_
 clear hK K
 repeat with_reducible refine awp_assoc ?_
 refine awp_sr fun K hK=>?_
 simp
 refine hK _ _ ?_
 clear hK K
 refine awp_seq_k fun K hK=>?_
 refine awp_block ?_
 refine awp_up (s.size - 1) (fun k=>Env.ofL [(0,strV s),(2,boolV false),(3,intV ((k:Int)+1))]) (fun k=>HL H []) (fun k=>∀ x∈s.data.toList.tail.take k,tailB x=true) (weak_HL hcl rfl ?_ ?_) ?_ (fun k hk hi=>?_) (fun hi=>?_)
 ·simp
 ·simp
 ·simp
 ·have hk1:(k:Int)+1 < s.size:=by omega
  have hk2:k+1 < s.size:=by omega
  obtain ⟨c,hc⟩:∃ c,s.data.toList[k+1]?=some c:=by
   rw [ba_size] at hk2
   exact ⟨_,List.getElem?_eq_getElem hk2⟩
  have hc':s.data.toList.tail[k]?=some c:=by rw [List.getElem?_tail];exact hc
  have t1:((k:Int)+1).toNat=k+1:=by omega
  have t2:(0:Int)≤(k:Int)+1:=by omega
  have w2:IntKind.i64.wrap ((k:Int)+1+1)=(k:Int)+1+1:=wrap64 (by omega) (by omega)
  repeat with_reducible refine awp_assoc ?_
  refine awp_sr fun K hK=>?_
  simp [hk1]
  refine hK _ _ ?_
  clear hK K
  repeat with_reducible refine awp_assoc ?_
  refine awp_seq_k fun K hK=>?_
  refine awp_condT rfl (by simp) ?_
  refine awp_skip ?_
  refine hK _ _ ?_
  clear hK K
  refine awp_seq_k fun K hK=>?_
  refine awp_block ?_
  repeat with_reducible refine awp_assoc ?_
  refine awp_sr fun K hK=>?_
  refine aOps_split 3 fun K hK=>?_
  simp [hc,t1,t2]
  refine hK _ _ ?_
  clear hK K
  refine aOps_call (rInner_c c _) (by first | rfl | simp) rfl rfl (by first | (simp;done) | rfl) ?_
  simp
  refine hK _ _ ?_
  clear hK K
  cases ht:tailB c
  ·refine awp_condT rfl (by simp [ht]) ?_
   repeat with_reducible refine awp_assoc ?_
   refine awp_sr fun K hK=>?_
   simp
   refine hK _ _ ?_
   clear hK K
   have:tlB s=false:=by
    have:s.data.toList.tail.all tailB=false:=by
     rw [List.all_eq_false]
     exact ⟨c,List.mem_of_getElem? hc',by simp [ht]⟩
    simp [tlB,this]
   simp [this,reset_all hcl]
  ·refine awp_condF rfl (by simp [ht]) ?_
   refine awp_skip ?_
   refine hK _ _ ?_
   clear hK K
   refine awp_region ?_
   simp [w2]
   refine ⟨fun x hx=>?_,?_⟩
   ·rw [take_one hc'] at hx
    simp only [List.mem_append,List.mem_singleton] at hx
    rcases hx with hx | rfl
    ·exact hi x hx
    ·exact ht
   ·refine weak_HL hcl rfl (by simp) (by simp)
 ·have hend:¬ (((s.size - 1:Nat):Int)+1 < s.size):=by omega
  repeat with_reducible refine awp_assoc ?_
  refine awp_sr fun K hK=>?_
  simp [hend]
  refine hK _ _ ?_
  clear hK K
  repeat with_reducible refine awp_assoc ?_
  refine awp_seq_k fun K hK=>?_
  refine awp_condF rfl (by simp) ?_
  refine awp_exit ?_
  simp
  clear hK K
  refine hK _ _ ?_
  clear hK K
  repeat with_reducible refine awp_assoc ?_
  refine awp_sr fun K hK=>?_
  simp
  refine hK _ _ ?_
  clear hK K
  have:tlB s=true:=by
   rw [List.take_of_length_le (by rw [List.length_tail,←ba_size];exact Nat.le_refl _)] at hi
   simp only [tlB,h2,List.all_eq_true.2 hi];rfl
  simp [this,reset_all hcl]
def wordB (s:ByteArray):Bool:=wordsB.any fun w=>decide (w=s)
theorem rWord_c (s:ByteArray) (H:AHeap):ACalls Tryz.prog 144 [strV s] H (boolV (wordB s)) H:=by
 refine acalls_walk (fun _=>.imm) [0,2,3,4] Tryz.mixed Tryz.func144 rfl rfl rfl (by decide) (fun hcl hlow=>?_)
 repeat with_reducible refine awp_assoc ?_
 refine awp_sr fun K hK=>?_
 simp
 refine hK _ _ ?_
 clear hK K
 repeat with_reducible refine awp_assoc ?_
 refine awp_sr fun K hK=>?_
 simp
 refine hK _ _ ?_
 clear hK K
 refine awp_seq_k fun K hK=>?_
 refine awp_block ?_
 by_cases h0:s=⟨#[100,97,116,97]⟩
 ·repeat with_reducible refine awp_assoc ?_
  refine awp_sr fun K hK=>?_
  simp [h0]
  refine hK _ _ ?_
  clear hK K
  repeat with_reducible refine awp_assoc ?_
  refine awp_seq_k fun K hK=>?_
  refine awp_condT rfl (by simp) ?_
  refine awp_skip ?_
  refine hK _ _ ?_
  clear hK K
  refine awp_condT rfl (by simp) ?_
  repeat with_reducible refine awp_assoc ?_
  refine awp_sr fun K hK=>?_
  simp
  refine hK _ _ ?_
  clear hK K
  simp [wordB,wordsB,h0,reset_all hcl]
 repeat with_reducible refine awp_assoc ?_
 refine awp_sr fun K hK=>?_
 simp [h0]
 refine hK _ _ ?_
 clear hK K
 repeat with_reducible refine awp_assoc ?_
 refine awp_seq_k fun K hK=>?_
 refine awp_condF rfl (by simp [h0]) ?_
 by_cases h1:s=⟨#[99,108,97,115,115]⟩
 ·repeat with_reducible refine awp_assoc ?_
  refine awp_sr fun K hK=>?_
  simp [h1]
  refine hK _ _ ?_
  clear hK K
  refine awp_condT rfl (by simp) ?_
  refine awp_skip ?_
  refine hK _ _ ?_
  clear hK K
  refine awp_condT rfl (by simp) ?_
  repeat with_reducible refine awp_assoc ?_
  refine awp_sr fun K hK=>?_
  simp
  refine hK _ _ ?_
  clear hK K
  simp [wordB,wordsB,h1,reset_all hcl]
 repeat with_reducible refine awp_assoc ?_
 refine awp_sr fun K hK=>?_
 simp [h1]
 refine hK _ _ ?_
 clear hK K
 refine awp_condF rfl (by simp [h1]) ?_
 by_cases h2:s=⟨#[105,110,115,116,97,110,99,101]⟩
 ·repeat with_reducible refine awp_assoc ?_
  refine awp_sr fun K hK=>?_
  simp [h2]
  refine hK _ _ ?_
  clear hK K
  refine awp_condT rfl (by simp) ?_
  refine awp_skip ?_
  refine hK _ _ ?_
  clear hK K
  refine awp_condT rfl (by simp) ?_
  repeat with_reducible refine awp_assoc ?_
  refine awp_sr fun K hK=>?_
  simp
  refine hK _ _ ?_
  clear hK K
  simp [wordB,wordsB,h2,reset_all hcl]
 repeat with_reducible refine awp_assoc ?_
 refine awp_sr fun K hK=>?_
 simp [h2]
 refine hK _ _ ?_
 clear hK K
 refine awp_condF rfl (by simp [h2]) ?_
 by_cases h3:s=⟨#[111,112]⟩
 ·repeat with_reducible refine awp_assoc ?_
  refine awp_sr fun K hK=>?_
  simp [h3]
  refine hK _ _ ?_
  clear hK K
  refine awp_condT rfl (by simp) ?_
  refine awp_skip ?_
  refine hK _ _ ?_
  clear hK K
  refine awp_condT rfl (by simp) ?_
  repeat with_reducible refine awp_assoc ?_
  refine awp_sr fun K hK=>?_
  simp
  refine hK _ _ ?_
  clear hK K
  simp [wordB,wordsB,h3,reset_all hcl]
 repeat with_reducible refine awp_assoc ?_
 refine awp_sr fun K hK=>?_
 simp [h3]
 refine hK _ _ ?_
 clear hK K
 refine awp_condF rfl (by simp [h3]) ?_
 by_cases h4:s=⟨#[101,110,100]⟩
 ·repeat with_reducible refine awp_assoc ?_
  refine awp_sr fun K hK=>?_
  simp [h4]
  refine hK _ _ ?_
  clear hK K
  refine awp_condT rfl (by simp) ?_
  refine awp_skip ?_
  refine hK _ _ ?_
  clear hK K
  refine awp_condT rfl (by simp) ?_
  repeat with_reducible refine awp_assoc ?_
  refine awp_sr fun K hK=>?_
  simp
  refine hK _ _ ?_
  clear hK K
  simp [wordB,wordsB,h4,reset_all hcl]
 repeat with_reducible refine awp_assoc ?_
 refine awp_sr fun K hK=>?_
 simp [h4]
 refine hK _ _ ?_
 clear hK K
 refine awp_condF rfl (by simp [h4]) ?_
 by_cases h5:s=⟨#[119,104,101,114,101]⟩
 ·repeat with_reducible refine awp_assoc ?_
  refine awp_sr fun K hK=>?_
  simp [h5]
  refine hK _ _ ?_
  clear hK K
  refine awp_condT rfl (by simp) ?_
  refine awp_skip ?_
  refine hK _ _ ?_
  clear hK K
  refine awp_condT rfl (by simp) ?_
  repeat with_reducible refine awp_assoc ?_
  refine awp_sr fun K hK=>?_
  simp
  refine hK _ _ ?_
  clear hK K
  simp [wordB,wordsB,h5,reset_all hcl]
 repeat with_reducible refine awp_assoc ?_
 refine awp_sr fun K hK=>?_
 simp [h5]
 refine hK _ _ ?_
 clear hK K
 refine awp_condF rfl (by simp [h5]) ?_
 by_cases h6:s=⟨#[108,101,116]⟩
 ·repeat with_reducible refine awp_assoc ?_
  refine awp_sr fun K hK=>?_
  simp [h6]
  refine hK _ _ ?_
  clear hK K
  refine awp_condT rfl (by simp) ?_
  refine awp_skip ?_
  refine hK _ _ ?_
  clear hK K
  refine awp_condT rfl (by simp) ?_
  repeat with_reducible refine awp_assoc ?_
  refine awp_sr fun K hK=>?_
  simp
  refine hK _ _ ?_
  clear hK K
  simp [wordB,wordsB,h6,reset_all hcl]
 repeat with_reducible refine awp_assoc ?_
 refine awp_sr fun K hK=>?_
 simp [h6]
 refine hK _ _ ?_
 clear hK K
 refine awp_condF rfl (by simp [h6]) ?_
 by_cases h7:s=⟨#[105,110]⟩
 ·repeat with_reducible refine awp_assoc ?_
  refine awp_sr fun K hK=>?_
  simp [h7]
  refine hK _ _ ?_
  clear hK K
  refine awp_condT rfl (by simp) ?_
  refine awp_skip ?_
  refine hK _ _ ?_
  clear hK K
  refine awp_condT rfl (by simp) ?_
  repeat with_reducible refine awp_assoc ?_
  refine awp_sr fun K hK=>?_
  simp
  refine hK _ _ ?_
  clear hK K
  simp [wordB,wordsB,h7,reset_all hcl]
 repeat with_reducible refine awp_assoc ?_
 refine awp_sr fun K hK=>?_
 simp [h7]
 refine hK _ _ ?_
 clear hK K
 refine awp_condF rfl (by simp [h7]) ?_
 by_cases h8:s=⟨#[102,114,101,101]⟩
 ·repeat with_reducible refine awp_assoc ?_
  refine awp_sr fun K hK=>?_
  simp [h8]
  refine hK _ _ ?_
  clear hK K
  refine awp_condT rfl (by simp) ?_
  refine awp_skip ?_
  refine hK _ _ ?_
  clear hK K
  refine awp_condT rfl (by simp) ?_
  repeat with_reducible refine awp_assoc ?_
  refine awp_sr fun K hK=>?_
  simp
  refine hK _ _ ?_
  clear hK K
  simp [wordB,wordsB,h8,reset_all hcl]
 repeat with_reducible refine awp_assoc ?_
 refine awp_sr fun K hK=>?_
 simp [h8]
 refine hK _ _ ?_
 clear hK K
 refine awp_condF rfl (by simp [h8]) ?_
 by_cases h9:s=⟨#[99,97,115,101]⟩
 ·repeat with_reducible refine awp_assoc ?_
  refine awp_sr fun K hK=>?_
  simp [h9]
  refine hK _ _ ?_
  clear hK K
  refine awp_condT rfl (by simp) ?_
  refine awp_skip ?_
  refine hK _ _ ?_
  clear hK K
  refine awp_condT rfl (by simp) ?_
  repeat with_reducible refine awp_assoc ?_
  refine awp_sr fun K hK=>?_
  simp
  refine hK _ _ ?_
  clear hK K
  simp [wordB,wordsB,h9,reset_all hcl]
 repeat with_reducible refine awp_assoc ?_
 refine awp_sr fun K hK=>?_
 simp [h9]
 refine hK _ _ ?_
 clear hK K
 refine awp_condF rfl (by simp [h9]) ?_
 by_cases h10:s=⟨#[114,105,103,105,100]⟩
 ·repeat with_reducible refine awp_assoc ?_
  refine awp_sr fun K hK=>?_
  simp [h10]
  refine hK _ _ ?_
  clear hK K
  refine awp_condT rfl (by simp) ?_
  refine awp_skip ?_
  refine hK _ _ ?_
  clear hK K
  refine awp_condT rfl (by simp) ?_
  repeat with_reducible refine awp_assoc ?_
  refine awp_sr fun K hK=>?_
  simp
  refine hK _ _ ?_
  clear hK K
  simp [wordB,wordsB,h10,reset_all hcl]
 repeat with_reducible refine awp_assoc ?_
 refine awp_sr fun K hK=>?_
 simp [h10]
 refine hK _ _ ?_
 clear hK K
 refine awp_condF rfl (by simp [h10]) ?_
 by_cases h11:s=⟨#[111,102]⟩
 ·repeat with_reducible refine awp_assoc ?_
  refine awp_sr fun K hK=>?_
  simp [h11]
  refine hK _ _ ?_
  clear hK K
  refine awp_condT rfl (by simp) ?_
  refine awp_skip ?_
  refine hK _ _ ?_
  clear hK K
  refine awp_condT rfl (by simp) ?_
  repeat with_reducible refine awp_assoc ?_
  refine awp_sr fun K hK=>?_
  simp
  refine hK _ _ ?_
  clear hK K
  simp [wordB,wordsB,h11,reset_all hcl]
 repeat with_reducible refine awp_assoc ?_
 refine awp_sr fun K hK=>?_
 simp [h11]
 refine hK _ _ ?_
 clear hK K
 refine awp_condF rfl (by simp [h11]) ?_
 by_cases h12:s=⟨#[102,97,105,108]⟩
 ·refine awp_region ?_
  simp [h12]
  refine hK _ _ ?_
  clear hK K
  refine awp_condT rfl (by simp) ?_
  repeat with_reducible refine awp_assoc ?_
  refine awp_sr fun K hK=>?_
  simp
  refine hK _ _ ?_
  clear hK K
  simp [wordB,wordsB,h12,reset_all hcl]
 refine awp_region ?_
 simp [h12]
 refine hK _ _ ?_
 clear hK K
 refine awp_condF rfl (by simp) ?_
 refine awp_skip ?_
 refine hK _ _ ?_
 clear hK K
 repeat with_reducible refine awp_assoc ?_
 refine awp_sr fun K hK=>?_
 simp
 refine hK _ _ ?_
 clear hK K
 have e:wordB s=false:=by
  simp [wordB,wordsB,Ne.symm h0,Ne.symm h1,Ne.symm h2,Ne.symm h3,Ne.symm h4,Ne.symm h5,Ne.symm h6,Ne.symm h7,Ne.symm h8,Ne.symm h9,Ne.symm h10,Ne.symm h11,Ne.symm h12]
 simp [e,reset_all hcl]
theorem small_tail {c:UInt8} (h:smallB c=true):tailB c=true:=by simp [tailB,letterB,h]
theorem great_tail {c:UInt8} (h:greatB c=true):tailB c=true:=by simp [tailB,letterB,h]
theorem run_tl {s:ByteArray} {p:UInt8→Bool} (hp:∀ c,p c=true→tailB c=true):(runB s && headP p s)=(headP p s && tlB s):=by
 unfold runB headP tlB
 have hs:=ba_size s
 cases hl:s.data.toList with
 | nil=>simp
 | cons c l =>
  rw [hl] at hs
  simp only [List.length_cons] at hs
  have h1:1≤s.size:=by omega
  simp only [h1,List.getElem?_cons_zero,List.all_cons,List.tail_cons,decide_true,Bool.true_and]
  cases hc:p c
  ·simp
  ·simp [hp c hc]
theorem small_tl (s:ByteArray):smallN s=(headP smallB s && tlB s && !wordB s):=by
 unfold smallN wordB;rw [run_tl fun _=>small_tail]
theorem great_tl (s:ByteArray):greatN s=(headP greatB s && tlB s):=by
 unfold greatN;rw [run_tl fun _=>great_tail]
theorem ba_empty {s:ByteArray} (h:¬ s=⟨#[]⟩):1≤s.size:=by
 rcases Nat.eq_zero_or_pos s.size with h0 | h0
 ·exact absurd (by obtain ⟨⟨l⟩⟩:=s;have:l.length=0:=h0;rw [List.length_eq_zero_iff] at this;subst this;rfl) h
 ·exact h0
theorem headP_empty (p:UInt8→Bool):headP p ⟨#[]⟩=false:=rfl
theorem rSmallN_c (s:ByteArray) (H:AHeap):ACalls Tryz.prog 121 [strV s] H (boolV (smallN s)) H:=by
 refine acalls_walk (fun _=>.imm) [0,2] Tryz.mixed Tryz.func121 rfl rfl rfl (by decide) (fun hcl hlow=>?_)
 repeat with_reducible refine awp_assoc ?_
 refine awp_sr fun K hK=>?_
 simp
 refine hK _ _ ?_
 clear hK K
 rw [small_tl]
 by_cases h0:s=⟨#[]⟩
 ·subst h0
  repeat with_reducible refine awp_assoc ?_
  refine awp_sr fun K hK=>?_
  simp
  refine hK _ _ ?_
  clear hK K
  simp [headP_empty,reset_all hcl]
 have h1:=ba_empty h0
 obtain ⟨c,hc⟩:=head_of h1
 have eh:headP smallB s=smallB c:=by unfold headP;rw [hc]
 repeat with_reducible refine awp_assoc ?_
 refine awp_sr fun K hK=>?_
 refine aOps_split 5 fun K hK=>?_
 simp [h0,hc,h1]
 refine hK _ _ ?_
 clear hK K
 refine aOps_call (rSmallB_c c _) (by first | rfl | simp) rfl rfl (by first | (simp;done) | rfl) ?_
 cases hs:smallB c
 ·simp
  refine hK _ _ ?_
  clear hK K
  simp [eh,hs,reset_all hcl]
 refine aOps_split 3 fun K hK=>?_
 simp
 refine hK _ _ ?_
 clear hK K
 refine aOps_call (rTail_c s _) (by first | rfl | simp) rfl rfl (by first | (simp;done) | rfl) ?_
 cases ht:tlB s
 ·simp
  refine hK _ _ ?_
  clear hK K
  simp [eh,hs,ht,reset_all hcl]
 refine aOps_split 3 fun K hK=>?_
 simp
 refine hK _ _ ?_
 clear hK K
 refine aOps_call (rWord_c s _) (by first | rfl | simp) rfl rfl (by first | (simp;done) | rfl) ?_
 simp
 refine hK _ _ ?_
 clear hK K
 simp [eh,hs,ht,reset_all hcl]
theorem rGreatN_c (s:ByteArray) (H:AHeap):ACalls Tryz.prog 120 [strV s] H (boolV (greatN s)) H:=by
 refine acalls_walk (fun _=>.imm) [0,2] Tryz.mixed Tryz.func120 rfl rfl rfl (by decide) (fun hcl hlow=>?_)
 repeat with_reducible refine awp_assoc ?_
 refine awp_sr fun K hK=>?_
 simp
 refine hK _ _ ?_
 clear hK K
 rw [great_tl]
 by_cases h0:s=⟨#[]⟩
 ·subst h0
  repeat with_reducible refine awp_assoc ?_
  refine awp_sr fun K hK=>?_
  simp
  refine hK _ _ ?_
  clear hK K
  simp [headP_empty,reset_all hcl]
 have h1:=ba_empty h0
 obtain ⟨c,hc⟩:=head_of h1
 have eh:headP greatB s=greatB c:=by unfold headP;rw [hc]
 repeat with_reducible refine awp_assoc ?_
 refine awp_sr fun K hK=>?_
 refine aOps_split 5 fun K hK=>?_
 simp [h0,hc,h1]
 refine hK _ _ ?_
 clear hK K
 refine aOps_call (rGreatB_c c _) (by first | rfl | simp) rfl rfl (by first | (simp;done) | rfl) ?_
 cases hs:greatB c
 ·simp
  refine hK _ _ ?_
  clear hK K
  simp [eh,hs,reset_all hcl]
 refine aOps_split 3 fun K hK=>?_
 simp
 refine hK _ _ ?_
 clear hK K
 refine aOps_call (rTail_c s _) (by first | rfl | simp) rfl rfl (by first | (simp;done) | rfl) ?_
 cases ht:tlB s
 ·simp
  refine hK _ _ ?_
  clear hK K
  simp [eh,hs,ht,reset_all hcl]
 simp
 refine hK _ _ ?_
 clear hK K
 simp [eh,hs,ht,reset_all hcl]
theorem rIsVar_c (t:Ty) (H:AHeap):ACalls Tryz.prog 58 [t.enc] H (boolV t.isVar) H:=by
 obtain ⟨n,l⟩:=t
 refine acalls_walk (fun _=>.imm) [0,1,2] Tryz.mixed Tryz.func58 rfl rfl rfl (by decide) (fun hcl hlow=>?_)
 simp only [Ty.enc,Ty.cells]
 repeat with_reducible refine awp_assoc ?_
 refine awp_sr fun K hK=>?_
 simp
 refine hK _ _ ?_
 clear hK K
 by_cases h0:n=⟨#[]⟩
 ·subst h0
  repeat with_reducible refine awp_assoc ?_
  refine awp_sr fun K hK=>?_
  simp
  refine hK _ _ ?_
  clear hK K
  have hv:(Ty.mk ⟨#[]⟩ l).isVar=false:=rfl
  simp [hv,reset_all hcl]
 have h1:=ba_empty h0
 obtain ⟨c,hc⟩:=head_of h1
 have eh:(Ty.mk n l).isVar=smallB c:=by unfold Ty.isVar headP;rw [show (Ty.mk n l).name=n from rfl,hc]
 repeat with_reducible refine awp_assoc ?_
 refine awp_sr fun K hK=>?_
 refine aOps_split 7 fun K hK=>?_
 simp [h0,hc,h1]
 refine hK _ _ ?_
 clear hK K
 refine aOps_call (rSmallB_c c _) (by first | rfl | simp) rfl rfl (by first | (simp;done) | rfl) ?_
 simp
 refine hK _ _ ?_
 clear hK K
 simp [eh,reset_all hcl]
end Go.Proofs.YtlhoigpidpokfaaGreat
