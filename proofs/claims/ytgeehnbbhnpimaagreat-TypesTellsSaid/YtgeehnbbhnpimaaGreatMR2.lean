/- The reference's validity. -/
import Derived.Test.YtgeehnbbhnpimaaGreatMR1
import Derived.Test.YtgeehnbbhnpimaaGreatMW2
set_option linter.unusedVariables false
set_option linter.unusedSimpArgs false
namespace Go.Proofs.YtgeehnbbhnpimaaGreat
open Go Go.Abs Go.Proofs
set_option maxRecDepth 20000
attribute [local simp] aOps wantedA aStep aop aLoad aStore aBin aUn aFieldAddr aField aIndexAddr aIndex aLen aBuild aFill aAlloc aAppend aBuildSlice litRows newRows isMut isOwn isNilS nilsW bytesR tokW tokAV tokL ret readC splice aeval isLit isLate AV.celled AV.one AV.ofValue Value.oneCell' Value.cells intOp strOp get_nid upd_nid awp aEnd aResults aResult Det unord isCall isNext
attribute [local simp] low_take low_strs low_comp low_tcomp wkEs_refl' WkBs WkEnv WkB WkL WkE WkO ABlock.low lowO lowL lowR AV.low cellsL_eq Ty.low low_map Ty.cells_length Ty.cells_one
attribute [local simp] low_bind
def cntR (b:Bool × Nat):Int:=if b.1=true then -1 else 200 - (b.2:Int)
theorem count_c:∀ (t:Ty) (room n:Nat) (H:AHeap),room≤40→n≤200 →
  ACalls Tryz.prog 39 [t.enc,intV (41 - (room:Int)),intV (200 - (n:Int))] H (intV (cntR (big t room n))) H:=by
 intro t
 induction t using Ty.ind with
 | h nm l ih =>
 intro room n H hroom hn
 refine acalls_walk (fun _=>.imm) [0,1,2,3,6,7,13,20,33] Tryz.mixed Tryz.func39 rfl rfl rfl (by decide) (fun hcl hlow=>?_)
 simp only [Ty.enc,Ty.cells];refine awp_sr fun K hK=>?_;simp;apply hK;clear hK K
 by_cases h2:room < 1
 ·have h2':(40:Int) < 41 - room:=by omega
  have e:big (.mk nm l) room n=(true,n+1):=by rw [big,if_pos (.inr h2)]
  repeat with_reducible refine awp_assoc ?_
  refine awp_sr fun K hK=>?_;simp [h2'];apply hK;clear hK K;refine awp_seq_k fun K hK=>?_;refine awp_condT rfl (by simp) ?_;refine awp_sr fun K hK=>?_;simp;apply hK;clear hK K;simp [e,cntR,reset_all hcl]
 have h2':¬ (40:Int) < 41 - room:=by omega
 by_cases h1:200 < n+1
 ·have h1':(200:Int) - n < 1:=by omega
  have e:big (.mk nm l) room n=(true,n+1):=by rw [big,if_pos (.inl h1)]
  repeat with_reducible refine awp_assoc ?_
  refine awp_sr fun K hK=>?_;simp [h1',h2'];apply hK;clear hK K;refine awp_seq_k fun K hK=>?_;refine awp_condT rfl (by simp) ?_;refine awp_sr fun K hK=>?_;simp;apply hK;clear hK K;simp [e,cntR,reset_all hcl]
 have h1':¬ (200:Int) - n < 1:=by omega
 have e:big (.mk nm l) room n=bigL l (room - 1) (n+1):=by rw [big,if_neg (by omega)]
 repeat with_reducible refine awp_assoc ?_
 refine awp_sr fun K hK=>?_;simp [h1',h2'];apply hK;clear hK K;refine awp_seq_k fun K hK=>?_;refine awp_condF rfl (by simp) ?_;refine awp_skip ?_;apply hK;clear hK K
 have w1:IntKind.i64.wrap (200 - (n:Int) - 1)=200 - ((n+1:Nat):Int):=by rw [wrap64 (by omega) (by omega)];omega
 refine awp_sr fun K hK=>?_;simp [w1];apply hK;clear hK K;repeat with_reducible refine awp_assoc ?_
 refine awp_sr fun K hK=>?_;simp;apply hK;clear hK K
 have hb0:=bigL_le l (room - 1) (n+1) (by omega)
 refine awp_seq_k fun K hK=>?_;refine awp_block ?_
 refine awp_up l.length (fun k=>Env.ofL [(1,intV (41 - (room:Int))),(2,intV (200 - ((bigL (l.take k) (room - 1) (n+1)).2:Int))),(3,.ref (nid H.next 0) 0),(6,intV 0),(7,intV k)]) (fun k=>HL (H) [.cells [strV nm,.slice (l.map Ty.cells) none]]) (fun k=>(bigL (l.take k) (room - 1) (n+1)).1=false) (weak_HL (hcl) (by simp) ?_ ?_) ?_ (fun k hk hi=>?_) (fun hi=>?_)
 ·simp [bigL]
 ·simp [bigL]
 ·simp [bigL]
 ·obtain ⟨x,hx⟩:∃ x,l[k]?=some x:=⟨_,List.getElem?_eq_getElem hk⟩
  have hbk:=bigL_le (l.take k) (room - 1) (n+1) (by omega)
  have hkl:(l.take k).length=k:=by simp;omega
  have hmk:=hbk.2.2 hi
  rw [hkl] at hmk
  have e1:=bigL_take hx (room - 1) (n+1) hi
  generalize hm:(bigL (l.take k) (room - 1) (n+1)).2=m at *
  have w2:IntKind.i64.wrap (41 - (room:Int)+1)=41 - ((room - 1:Nat):Int):=by rw [wrap64 (by omega) (by omega)];omega
  have hc:=ih _ (List.mem_of_getElem? hx) (room - 1) m (HL H [.cells [strV nm,.slice (l.map Ty.cells) none]]) (by omega) hmk.1
  obtain ⟨n',l'⟩:=x
  simp only [Ty.enc,Ty.cells,cellsL_eq] at hc;repeat with_reducible refine awp_assoc ?_
  refine awp_sr fun K hK=>?_;simp [hk];apply hK;clear hK K;refine awp_seq_k fun K hK=>?_;refine awp_condT rfl (by simp) ?_;refine awp_skip ?_;apply hK;clear hK K;refine awp_seq_k fun K hK=>?_;refine awp_block ?_;refine awp_sr fun K hK=>?_;refine aOps_split 8 fun K hK=>?_;simp [hx,Ty.cells,w2];apply hK;clear hK K;refine aOps_call hc (by first | rfl | simp) rfl rfl rfl ?_;simp;apply hK;clear hK K
  have hbx:=big_le (.mk n' l') (room - 1) m hmk.1
  cases hb:(big (.mk n' l') (room - 1) m).1
  ·have h3:=hbx.2.2 hb
   have ec:cntR (big (.mk n' l') (room - 1) m)=200 - ((big (.mk n' l') (room - 1) m).2:Int):=by simp [cntR,hb]
   have h3':¬ (200:Int) - ((big (.mk n' l') (room - 1) m).2:Int) < 0:=by omega
   refine awp_sr fun K hK=>?_;simp [ec,h3'];apply hK;clear hK K;refine awp_condF rfl (by simp) ?_;refine awp_skip ?_;apply hK;clear hK K;refine awp_region ?_;simp [wrap_succ (show k < 4611686018427387904 by omega)]
   rw [e1,hb]
   refine ⟨rfl,?_⟩
   refine weak_HL (hcl) (by simp) (by simp) (by simp)
  ·have ec:cntR (big (.mk n' l') (room - 1) m)=-1:=by simp [cntR,hb]
   refine awp_sr fun K hK=>?_;simp [ec];apply hK;clear hK K;refine awp_condT rfl (by simp) ?_;refine awp_sr fun K hK=>?_;simp;apply hK;clear hK K
   have e2:bigL l (room - 1) (n+1)=big (.mk n' l') (room - 1) m:=by rw [←e1];exact bigL_true _ _ (by rw [e1];exact hb)
   rw [e,e2,ec]
   simp [reset_all hcl]
 ·repeat with_reducible refine awp_assoc ?_
  refine awp_sr fun K hK=>?_;simp;apply hK;clear hK K;refine awp_seq_k fun K hK=>?_;refine awp_condF rfl (by simp) ?_;refine awp_exit ?_;simp;clear hK K;apply hK;clear hK K
  rw [List.take_length] at hi
  refine awp_sr fun K hK=>?_;simp;apply hK;clear hK K
  rw [e,cntR,hi]
  simp [reset_all hcl]
theorem rNode_c (t:Ty) (H:AHeap):ACalls Tryz.prog 81 [t.enc] H (boolV t.node) H:=by
 obtain ⟨n,l⟩:=t
 refine acalls_walk (fun _=>.imm) [0,1,2,5,12] Tryz.mixed Tryz.func81 rfl rfl rfl (by decide) (fun hcl hlow=>?_)
 simp only [Ty.enc,Ty.cells];refine awp_sr fun K hK=>?_;simp;apply hK;clear hK K
 by_cases ha:n=arrowN
 ·repeat with_reducible refine awp_assoc ?_
  refine awp_sr fun K hK=>?_;simp;apply hK;clear hK K;refine awp_seq_k fun K hK=>?_;refine awp_condT rfl (by simp [ha,arrowN]) ?_;refine awp_sr fun K hK=>?_;simp;apply hK;clear hK K
  have e:(Ty.mk n l).node=decide ((l.length:Int)=2):=by unfold Ty.node;rw [if_pos (show (Ty.mk n l).name=arrowN from ha)];rfl
  simp [e,reset_all hcl]
 have ha':¬ n=⟨#[45,62]⟩:=ha
 repeat with_reducible refine awp_assoc ?_
 refine awp_sr fun K hK=>?_;simp;apply hK;clear hK K;refine awp_seq_k fun K hK=>?_;refine awp_condF rfl (by simp [ha']) ?_;refine awp_skip ?_;apply hK;clear hK K
 have en:(Ty.mk n l).node=if (Ty.mk n l).isVar then smallN n && decide ((l.length:Int)=0) else greatN n && decide ((l.length:Int)≤8):=by
  unfold Ty.node;rw [if_neg (show ¬ (Ty.mk n l).name=arrowN from ha)];rfl
 have ev:(Ty.mk n l).isVar=headP smallB n:=rfl
 repeat with_reducible refine awp_assoc ?_
 refine awp_sr fun K hK=>?_;refine aOps_split 2 fun K hK=>?_;simp;apply hK;clear hK K;refine aOps_call (rSmallN_c n _) (by first | rfl | simp) rfl rfl (by first | (simp;done) | rfl) ?_;simp;apply hK;clear hK K
 cases hs:smallN n
 ·refine awp_seq_k fun K hK=>?_;refine awp_condF rfl (by simp [hs]) ?_;refine awp_skip ?_;apply hK;clear hK K;refine awp_sr fun K hK=>?_;refine aOps_split 2 fun K hK=>?_;simp;apply hK;clear hK K;refine aOps_call (rGreatN_c n _) (by first | rfl | simp) rfl rfl (by first | (simp;done) | rfl) ?_
  have e:(Ty.mk n l).node=(greatN n && decide ((l.length:Int)≤8)):=by
   rw [en]
   cases hv:headP smallB n
   ·rw [ev,hv];rfl
   ·rw [ev,hv,hs]
    have hg:greatN n=false:=by
     unfold greatN
     unfold headP at hv ⊢
     cases hd:n.data.toList[0]? with
     | none=>rw [hd] at hv;cases hv
     | some c =>
      rw [hd] at hv
      simp only [smallB,Bool.and_eq_true,decide_eq_true_eq] at hv
      have:greatB c=false:=by simp only [greatB,Bool.and_eq_false_iff,decide_eq_false_iff_not];omega
      simp [this]
    simp [hg]
  cases hg:greatN n
  ·simp;apply hK;clear hK K;simp [e,hg,reset_all hcl]
  ·simp;apply hK;clear hK K;simp [e,hg,reset_all hcl]
 ·refine awp_seq_k fun K hK=>?_;refine awp_condT rfl (by simp [hs]) ?_;refine awp_sr fun K hK=>?_;simp;apply hK;clear hK K
  have hv:headP smallB n=true:=by
   unfold smallN at hs;simp only [Bool.and_eq_true] at hs;exact hs.1.2
  rw [en,ev,hv,hs]
  simp [reset_all hcl]
theorem good_eq (n:ByteArray) (l:List Ty):(Ty.mk n l).good=((Ty.mk n l).node && l.all Ty.good):=by
 unfold Ty.good
 rw [Ty.nodes,List.all_cons]
 congr 1
 induction l with
 | nil=>rfl
 | cons t ts ih=>rw [nodesL,List.all_append,ih,List.all_cons]
theorem areNodes_c:∀ (t:Ty),t.cnt < 4611686018427387904→∀ H,ACalls Tryz.prog 40 [t.enc] H (boolV t.good) H:=by
 intro t
 induction t using Ty.ind with
 | h nm l ih =>
 intro hsz H
 have hcnt:(Ty.mk nm l).cnt=(nodesL l).length+1:=by simp [Ty.cnt,Ty.nodes]
 have hll:=nodesL_len l
 have hn:=rNode_c (.mk nm l)
 simp only [Ty.enc,Ty.cells,cellsL_eq] at hn
 refine acalls_walk (fun _=>.imm) [0,1,2,3,6,11,20] Tryz.mixed Tryz.func40 rfl rfl rfl (by decide) (fun hcl hlow=>?_)
 simp only [Ty.enc,Ty.cells];refine awp_sr fun K hK=>?_;simp;apply hK;clear hK K;repeat with_reducible refine awp_assoc ?_
 refine awp_sr fun K hK=>?_;refine aOps_split 1 fun K hK=>?_;simp;apply hK;clear hK K;refine aOps_call (hn _) (by first | rfl | simp) rfl rfl rfl ?_;simp;apply hK;clear hK K
 cases hnd:(Ty.mk nm l).node
 ·refine awp_seq_k fun K hK=>?_;refine awp_condT rfl (by simp [hnd]) ?_;refine awp_sr fun K hK=>?_;simp;apply hK;clear hK K;simp [good_eq,hnd,reset_all hcl]
 refine awp_seq_k fun K hK=>?_;refine awp_condF rfl (by simp [hnd]) ?_;refine awp_skip ?_;apply hK;clear hK K;repeat with_reducible refine awp_assoc ?_
 refine awp_sr fun K hK=>?_;simp;apply hK;clear hK K;refine awp_seq_k fun K hK=>?_;refine awp_block ?_
 refine awp_up l.length (fun k=>Env.ofL [(1,.ref (nid H.next 0) 0),(2,boolV false),(3,intV k)]) (fun k=>HL (H) [.cells [strV nm,.slice (l.map Ty.cells) none]]) (fun k=>∀ x∈l.take k,x.good=true) (weak_HL (hcl) (by simp) ?_ ?_) ?_ (fun k hk hi=>?_) (fun hi=>?_)
 ·simp
 ·simp
 ·simp
 ·obtain ⟨x,hx⟩:∃ x,l[k]?=some x:=⟨_,List.getElem?_eq_getElem hk⟩
  have hxc:x.cnt < 4611686018427387904:=by
   have h1:=congrArg List.length (nodesL_take hx)
   have h2:nodesL l=nodesL (l.take (k+1))++nodesL (l.drop (k+1)):=by rw [←nodesL_append,List.take_append_drop]
   have h3:=congrArg List.length h2
   rw [List.length_append] at h1 h3;simp only [Ty.cnt] at hsz ⊢;simp only [Ty.cnt] at hcnt;omega
  have hc:=ih _ (List.mem_of_getElem? hx) hxc
  obtain ⟨n',l'⟩:=x
  simp only [Ty.enc,Ty.cells,cellsL_eq] at hc;repeat with_reducible refine awp_assoc ?_
  refine awp_sr fun K hK=>?_;simp [hk];apply hK;clear hK K;refine awp_seq_k fun K hK=>?_;refine awp_condT rfl (by simp) ?_;refine awp_skip ?_;apply hK;clear hK K;refine awp_seq_k fun K hK=>?_;refine awp_block ?_;refine awp_sr fun K hK=>?_;refine aOps_split 5 fun K hK=>?_;simp [hx,Ty.cells];apply hK;clear hK K;refine aOps_call (hc _) (by first | rfl | simp) rfl rfl rfl ?_;simp;apply hK;clear hK K
  cases hg:(Ty.mk n' l').good
  ·refine awp_condT rfl (by simp [hg]) ?_;refine awp_sr fun K hK=>?_;simp;apply hK;clear hK K
   have e:(Ty.mk nm l).good=false:=by
    rw [good_eq,hnd,Bool.true_and,List.all_eq_false]
    exact ⟨_,List.mem_of_getElem? hx,by simp [hg]⟩
   simp [e,reset_all hcl]
  ·refine awp_condF rfl (by simp [hg]) ?_;refine awp_skip ?_;apply hK;clear hK K;refine awp_region ?_;simp [wrap_succ (show k < 4611686018427387904 by omega)]
   refine ⟨fun x hm=>?_,?_⟩
   ·rw [take_one hx] at hm
    simp only [List.mem_append,List.mem_singleton] at hm
    rcases hm with hm | rfl
    ·exact hi x hm
    ·exact hg
   ·refine weak_HL (hcl) (by simp) (by simp) (by simp)
 ·repeat with_reducible refine awp_assoc ?_
  refine awp_sr fun K hK=>?_;simp;apply hK;clear hK K;refine awp_seq_k fun K hK=>?_;refine awp_condF rfl (by simp) ?_;refine awp_exit ?_;simp;clear hK K;apply hK;clear hK K;refine awp_sr fun K hK=>?_;simp;apply hK;clear hK K
  rw [List.take_length] at hi
  have e:(Ty.mk nm l).good=true:=by rw [good_eq,hnd,List.all_eq_true.2 hi];rfl
  simp [e,reset_all hcl]
theorem rValidate_c (t:Ty) (H:AHeap):ACalls Tryz.prog 12 [t.enc] H (intV t.valid) H:=by
 have hc:=count_c t 40 0
 have hg:=areNodes_c t
 obtain ⟨nm,l⟩:=t
 simp only [Ty.enc,Ty.cells,cellsL_eq] at hc hg
 have hb:=big_le (.mk nm l) 40 0 (by omega)
 refine acalls_walk (fun _=>.imm) [0,1,2,5,8] Tryz.mixed Tryz.func12 rfl rfl rfl (by decide) (fun hcl hlow=>?_)
 simp only [Ty.enc,Ty.cells];refine awp_sr fun K hK=>?_;simp;apply hK;clear hK K
 cases hl:(Ty.mk nm l).large
 rotate_left
 ·have ec:cntR (big (.mk nm l) 40 0)=-1:=by unfold cntR;rw [if_pos (show (big (.mk nm l) 40 0).1=true from hl)]
  repeat with_reducible refine awp_assoc ?_
  refine awp_sr fun K hK=>?_;refine aOps_split 1 fun K hK=>?_;simp;apply hK;clear hK K;refine aOps_call (hc _ (by omega) (by omega)) (by first | rfl | simp) rfl rfl rfl ?_;simp [ec];apply hK;clear hK K;refine awp_seq_k fun K hK=>?_;refine awp_condT rfl (by simp) ?_;refine awp_sr fun K hK=>?_;simp;apply hK;clear hK K;simp [Ty.valid,hl,reset_all hcl]
 have hl':(big (.mk nm l) 40 0).1=false:=hl
 have ec:cntR (big (.mk nm l) 40 0)=200 - ((big (.mk nm l) 40 0).2:Int):=by simp [cntR,hl']
 have h3:=hb.2.2 hl'
 have h3':¬ (200:Int) - ((big (.mk nm l) 40 0).2:Int) < 0:=by omega
 repeat with_reducible refine awp_assoc ?_
 refine awp_sr fun K hK=>?_;refine aOps_split 1 fun K hK=>?_;simp;apply hK;clear hK K;refine aOps_call (hc _ (by omega) (by omega)) (by first | rfl | simp) rfl rfl rfl ?_;simp [ec,h3'];apply hK;clear hK K;refine awp_seq_k fun K hK=>?_;refine awp_condF rfl (by simp) ?_;refine awp_skip ?_;apply hK;clear hK K;repeat with_reducible refine awp_assoc ?_
 refine awp_sr fun K hK=>?_;refine aOps_split 1 fun K hK=>?_;simp;apply hK;clear hK K;refine aOps_call (hg (by have:=large_cnt hl;omega) _) (by first | rfl | simp) rfl rfl rfl ?_;simp;apply hK;clear hK K
 cases hgd:(Ty.mk nm l).good
 ·refine awp_seq_k fun K hK=>?_;refine awp_condT rfl (by simp [hgd]) ?_;refine awp_sr fun K hK=>?_;simp;apply hK;clear hK K;simp [Ty.valid,hl,hgd,reset_all hcl]
 ·refine awp_seq_k fun K hK=>?_;refine awp_condF rfl (by simp [hgd]) ?_;refine awp_skip ?_;apply hK;clear hK K;refine awp_sr fun K hK=>?_;simp;apply hK;clear hK K;simp [Ty.valid,hl,hgd,reset_all hcl]
end Go.Proofs.YtgeehnbbhnpimaaGreat
namespace Go.Proofs.YtgeehnbbhnpimaaGreat
open Go Go.Abs Go.Proofs
set_option maxRecDepth 20000
attribute [local simp] aOps wantedA aStep aop aLoad aStore aBin aUn aFieldAddr aField aIndexAddr aIndex aLen aBuild aFill aAlloc aAppend aBuildSlice litRows newRows isMut isOwn isNilS nilsW bytesR tokW tokAV tokL ret readC splice aeval isLit isLate AV.celled AV.one AV.ofValue Value.oneCell' Value.cells intOp strOp get_nid upd_nid awp aEnd aResults aResult Det unord isCall isNext
attribute [local simp] low_take low_strs low_comp low_tcomp wkEs_refl' WkBs WkEnv WkB WkL WkE WkO ABlock.low lowO lowL lowR AV.low cellsL_eq Ty.low low_map Ty.cells_length Ty.cells_one
theorem text2 (n:ByteArray) (l:List Ty):textT (.mk n l) 2=if 0 < l.length then parS (textT (.mk n l) 0) else textT (.mk n l) 0:=by
 simp only [textT,textE_eq,nodeT,List.length_map]
 by_cases h:n=arrowN∧l.length=2
 ·rw [if_pos h,if_pos (by omega),if_pos (by omega),if_pos h];rfl
 ·rw [if_neg h,if_neg h]
  by_cases h0:0 < l.length
  ·rw [if_pos ⟨by omega,h0⟩,if_pos h0];rfl
  ·rw [if_neg (by omega),if_neg h0];rfl
theorem showArg_of (t:Ty) (hwt:t.wt < 1152921504606846976) (hs:∀ H,ACalls Tryz.prog 42 [t.enc] H (strV (textT t 0)) H) (H:AHeap) :
  ACalls Tryz.prog 82 [t.enc] H (strV (textT t 2)) H:=by
 have hsz:=text_size t 0
 obtain ⟨n,l⟩:=t
 rw [text2]
 simp only [Ty.enc,Ty.cells,cellsL_eq] at hs
 refine acalls_walk (fun _=>.imm) [0,1,2,6] Tryz.mixed Tryz.func82 rfl rfl rfl (by decide) (fun hcl hlow=>?_)
 simp only [Ty.enc,Ty.cells];refine awp_sr fun K hK=>?_;simp;apply hK;clear hK K
 by_cases h0:0 < l.length
 ·have h0':(0:Int) < l.length:=by omega
  repeat with_reducible refine awp_assoc ?_
  refine awp_sr fun K hK=>?_;simp [h0'];apply hK;clear hK K;refine awp_seq_k fun K hK=>?_;refine awp_condT rfl (by simp [h0]) ?_;refine awp_sr fun K hK=>?_;refine aOps_split 1 fun K hK=>?_;simp;apply hK;clear hK K;refine aOps_call (hs _) (by first | rfl | simp) rfl rfl rfl ?_;simp;simp only [show (⟨#[40]⟩:ByteArray).size=1 from rfl,show (⟨#[41]⟩:ByteArray).size=1 from rfl]
  refine ⟨by omega,by omega,hK _ _ ?_⟩
  clear hK K
  rw [if_pos h0]
  simp [parS,opS,clS,ByteArray.append_assoc,reset_all hcl]
 ·have h0':l.length=0:=by omega
  repeat with_reducible refine awp_assoc ?_
  refine awp_sr fun K hK=>?_;simp [h0'];apply hK;clear hK K;refine awp_seq_k fun K hK=>?_;refine awp_condF rfl (by simp) ?_;refine awp_skip ?_;apply hK;clear hK K;refine awp_sr fun K hK=>?_;refine aOps_split 1 fun K hK=>?_;simp;apply hK;clear hK K;refine aOps_call (hs _) (by first | rfl | simp) rfl rfl rfl ?_;simp;apply hK;clear hK K
  rw [if_neg h0]
  simp [reset_all hcl]
theorem node_arrow {n:ByteArray} {l:List Ty} (h:(Ty.mk n l).node=true) (hn:n=arrowN):l.length=2:=by
 unfold Ty.node at h
 rw [if_pos (show (Ty.mk n l).name=arrowN from hn)] at h
 have:=of_decide_eq_true h
 have e:(Ty.mk n l).args=l:=rfl
 rw [e] at this;omega
theorem show_c:∀ (t:Ty),t.good=true→t.wt < 1152921504606846976→∀ H,ACalls Tryz.prog 42 [t.enc] H (strV (textT t 0)) H:=by
 intro t
 induction t using Ty.ind with
 | h n l ih =>
 intro hg hwt H
 rw [good_eq,Bool.and_eq_true,List.all_eq_true] at hg
 obtain ⟨hnode,hgl⟩:=hg
 have hps:∀ m,(plainT n ((l.map textT).take m)).size≤n.size+wtL (l.take m):=fun m=>by rw [←List.map_take];exact plainT_size fun t ht=>text_size t 2
 have hlw:=wtL_len l
 have hwl:=wtL_take l
 have hnl:n.size+8+wtL l=(Ty.mk n l).wt:=rfl
 refine acalls_walk (fun _=>.imm) [0,1,2,3,4,5,8,19,37] Tryz.mixed Tryz.func42 rfl rfl rfl (by decide) (fun hcl hlow=>?_)
 simp only [Ty.enc,Ty.cells];refine awp_sr fun K hK=>?_;simp;apply hK;clear hK K
 by_cases hn:n=arrowN
 ·have h2:=node_arrow hnode hn
  subst hn
  obtain ⟨a,b,rfl⟩:∃ a b,l=[a,b]:=by
   match l,h2 with
   | [a,b],_=>exact ⟨a,b,rfl⟩
  simp only [wtL] at hnl
  have e:textT (.mk arrowN [a,b]) 0=textT a 1++arS++textT b 0:=by
   simp [textT,textE,nodeT]
  have hsa:=text_size a 1
  have hsa0:=text_size a 0
  have hsb:=text_size b 0
  have hca:=ih a (by simp) (hgl a (by simp)) (by omega)
  have hcb:=ih b (by simp) (hgl b (by simp)) (by omega)
  have hga:=hgl a (by simp)
  obtain ⟨na,la⟩:=a
  obtain ⟨nb,lb⟩:=b
  rw [good_eq,Bool.and_eq_true] at hga
  simp only [Ty.enc,Ty.cells,cellsL_eq] at hca hcb
  have h41:(⟨#[41]⟩:ByteArray).size=1:=rfl
  have h40:(⟨#[40]⟩:ByteArray).size=1:=rfl
  have har:(⟨#[32,45,62,32]⟩:ByteArray).size=4:=rfl
  have e1:textT (.mk na la) 1=if na=arrowN then parS (textT (.mk na la) 0) else textT (.mk na la) 0:=by
   by_cases hna:na=arrowN
   ·have h2a:=node_arrow hga.1 hna
    simp [textT,nodeT,textE_eq,hna,h2a]
   ·simp [textT,nodeT,hna]
  repeat with_reducible refine awp_assoc ?_
  refine awp_sr fun K hK=>?_;simp [arrowN,Ty.cells];apply hK;clear hK K;refine awp_seq_k fun K hK=>?_;refine awp_condT rfl (by simp) ?_;refine awp_sr fun K hK=>?_;refine aOps_split 4 fun K hK=>?_;simp;apply hK;clear hK K;refine aOps_call (hca _) (by first | rfl | simp) rfl rfl rfl ?_;simp;apply hK;clear hK K
  by_cases hna:na=arrowN
  ·rw [if_pos hna] at e1
   have hna':na=⟨#[45,62]⟩:=hna
   repeat with_reducible refine awp_assoc ?_
   refine awp_sr fun K hK=>?_;simp;apply hK;clear hK K;refine awp_seq_k fun K hK=>?_;refine awp_condT rfl (by simp [hna']) ?_;refine awp_region ?_;simp;simp only [h40,h41]
   refine ⟨by omega,by omega,hK _ _ ?_⟩
   clear hK K;refine awp_sr fun K hK=>?_;refine aOps_split 6 fun K hK=>?_
   rw [e1,parS,ByteArray.size_append,ByteArray.size_append,show opS.size=1 from rfl,show clS.size=1 from rfl] at hsa
   simp;simp only [h40,h41,har]
   refine ⟨by omega,hK _ _ ?_⟩
   clear hK K;refine aOps_call (hcb _) (by first | rfl | simp) rfl rfl rfl ?_;simp;simp only [h40,h41,har]
   refine ⟨by omega,hK _ _ ?_⟩
   clear hK K
   rw [e,e1]
   simp [parS,opS,clS,arS,ByteArray.append_assoc,reset_all hcl]
  ·rw [if_neg hna] at e1
   have hna':¬ na=⟨#[45,62]⟩:=hna
   repeat with_reducible refine awp_assoc ?_
   refine awp_sr fun K hK=>?_;simp [hna'];apply hK;clear hK K;refine awp_seq_k fun K hK=>?_;refine awp_condF rfl (by simp [hna']) ?_;refine awp_skip ?_;apply hK;clear hK K;refine awp_sr fun K hK=>?_;refine aOps_split 6 fun K hK=>?_;simp;simp only [har]
   refine ⟨by omega,hK _ _ ?_⟩
   clear hK K;refine aOps_call (hcb _) (by first | rfl | simp) rfl rfl rfl ?_;simp;simp only [har]
   refine ⟨by omega,hK _ _ ?_⟩
   clear hK K
   rw [e,e1]
   simp [arS,ByteArray.append_assoc,reset_all hcl]
 ·have hn':¬ n=⟨#[45,62]⟩:=hn
  have e:textT (.mk n l) 0=plainT n (l.map textT):=by
   simp [textT,textE_eq,nodeT,hn]
  repeat with_reducible refine awp_assoc ?_
  refine awp_sr fun K hK=>?_;simp [hn'];apply hK;clear hK K;refine awp_seq_k fun K hK=>?_;refine awp_condF rfl (by simp [hn']) ?_;refine awp_skip ?_;apply hK;clear hK K;refine awp_sr fun K hK=>?_;simp;apply hK;clear hK K;repeat with_reducible refine awp_assoc ?_
  refine awp_sr fun K hK=>?_;simp;apply hK;clear hK K;refine awp_seq_k fun K hK=>?_;refine awp_block ?_
  refine awp_up l.length (fun k=>Env.ofL [(1,.ref (nid H.next 0) 0),(2,strV ⟨#[]⟩),(4,strV (plainT n ((l.map textT).take k))),(5,intV k)]) (fun k=>HL (H) [.cells [strV n,.slice (l.map Ty.cells) none]]) (fun k=>True) (weak_HL (hcl) (by simp) ?_ ?_) ?_ (fun k hk hi=>?_) (fun hi=>?_)
  ·simp
  ·simp
  ·trivial
  ·obtain ⟨x,hx⟩:∃ x,l[k]?=some x:=⟨_,List.getElem?_eq_getElem hk⟩
   have hxw:x.wt≤wtL l:=wtL_mem (List.mem_of_getElem? hx)
   have hsx:=text_size x 2
   have hc:=showArg_of x (by omega) (ih x (List.mem_of_getElem? hx) (hgl x (List.mem_of_getElem? hx)) (by omega))
   have e1:plainT n ((l.map textT).take (k+1))=plainT n ((l.map textT).take k)++(spS++textT x 2):=by
    rw [take_one (show (l.map textT)[k]?=some (textT x) by simp [hx]),plainT_append]
   have hp0:=hps k
   have hp1:=hps (k+1)
   rw [e1,ByteArray.size_append,ByteArray.size_append,show spS.size=1 from rfl] at hp1
   have hw1:=hwl k
   have hw2:=hwl (k+1)
   obtain ⟨nx,lx⟩:=x
   simp only [Ty.enc,Ty.cells,cellsL_eq] at hc;repeat with_reducible refine awp_assoc ?_
   refine awp_sr fun K hK=>?_;simp [hk];apply hK;clear hK K;refine awp_seq_k fun K hK=>?_;refine awp_condT rfl (by simp) ?_;refine awp_skip ?_;apply hK;clear hK K;refine awp_seq_k fun K hK=>?_;refine awp_block ?_;refine awp_region ?_;refine aOps_split 6 fun K hK=>?_;simp [hx,Ty.cells];apply hK;clear hK K;refine aOps_call (hc _) (by first | rfl | simp) rfl rfl rfl ?_;simp;simp only [show (⟨#[32]⟩:ByteArray).size=1 from rfl]
   refine ⟨by omega,by omega,hK _ _ ?_⟩
   clear hK K;refine awp_region ?_;simp [wrap_succ (show k < 4611686018427387904 by omega)]
   rw [e1]
   refine weak_HL (hcl) (by simp) (by simp [spS]) (by simp [spS])
  ·repeat with_reducible refine awp_assoc ?_
   refine awp_sr fun K hK=>?_;simp;apply hK;clear hK K;refine awp_seq_k fun K hK=>?_;refine awp_condF rfl (by simp) ?_;refine awp_exit ?_;simp;clear hK K;apply hK;clear hK K
   have et:(l.map textT).take l.length=l.map textT:=List.take_of_length_le (by simp)
   rw [et]
   refine awp_sr fun K hK=>?_;simp;apply hK;clear hK K
   rw [e]
   simp [reset_all hcl]
theorem Ty.good_of {t:Ty} (h:t.valid=0):t.good=true:=by
 unfold Ty.valid at h
 cases hl:t.large
 ·rw [hl] at h
  cases hg:t.good
  ·rw [hg] at h;simp at h
  ·rfl
 ·rw [hl] at h;simp at h
theorem Ty.not_large {t:Ty} (h:t.valid=0):t.large=false:=by
 unfold Ty.valid at h
 cases hl:t.large
 ·rfl
 ·rw [hl] at h;simp at h
theorem rPrint_c (t:Ty) (hwt:t.valid=0→t.wt < 1152921504606846976) (H:AHeap) :
  ACalls Tryz.prog 14 [t.enc] H (.tuple [strV (if t.valid=0 then textT t 0 else ⟨#[]⟩),intV t.valid]) H:=by
 have hv:=rValidate_c t
 have hs:=fun hg h0=>show_c t hg (hwt h0)
 obtain ⟨n,l⟩:=t
 simp only [Ty.enc,Ty.cells,cellsL_eq] at hv hs
 refine acalls_walk (fun _=>.imm) [0,1,2,3,4,8] Tryz.mixed Tryz.func14 rfl rfl rfl (by decide) (fun hcl hlow=>?_)
 simp only [Ty.enc,Ty.cells];refine awp_sr fun K hK=>?_;simp;apply hK;clear hK K;repeat with_reducible refine awp_assoc ?_
 refine awp_sr fun K hK=>?_;refine aOps_split 1 fun K hK=>?_;simp;apply hK;clear hK K;refine aOps_call (hv _) (by first | rfl | simp) rfl rfl rfl ?_;simp;apply hK;clear hK K
 by_cases h0:(Ty.mk n l).valid=0
 ·repeat with_reducible refine awp_assoc ?_
  refine awp_sr fun K hK=>?_;simp [h0];apply hK;clear hK K;refine awp_seq_k fun K hK=>?_;refine awp_condF rfl (by simp) ?_;refine awp_skip ?_;apply hK;clear hK K;refine awp_sr fun K hK=>?_;refine aOps_split 1 fun K hK=>?_;simp;apply hK;clear hK K;refine aOps_call (hs (Ty.good_of h0) h0 _) (by first | rfl | simp) rfl rfl rfl ?_;simp;apply hK;clear hK K;simp [h0,reset_all hcl]
 ·repeat with_reducible refine awp_assoc ?_
  refine awp_sr fun K hK=>?_;simp [h0];apply hK;clear hK K;refine awp_seq_k fun K hK=>?_;refine awp_condT rfl (by simp [h0]) ?_;refine awp_sr fun K hK=>?_;simp;apply hK;clear hK K;simp [h0,reset_all hcl]
theorem Print_c (t:Ty) (hwt:t.valid=0→t.wt < 1152921504606846976) (H:AHeap) :
  ACalls Tryz.prog 13 [t.enc] H (.tuple [strV (if t.valid=0 then textT t 0 else ⟨#[]⟩),intV t.valid]) H:=by
 have hv:=validate_c t
 have hs:=fun h0=>text_c t 0 (by omega) (hwt h0)
 obtain ⟨n,l⟩:=t
 simp only [Ty.enc,Ty.cells,cellsL_eq] at hv hs
 refine acalls_walk (fun _=>.imm) [0,1,2,3,4,8] Tryz.mixed Tryz.func13 rfl rfl rfl (by decide) (fun hcl hlow=>?_)
 simp only [Ty.enc,Ty.cells];refine awp_sr fun K hK=>?_;simp;apply hK;clear hK K;repeat with_reducible refine awp_assoc ?_
 refine awp_sr fun K hK=>?_;refine aOps_split 1 fun K hK=>?_;simp;apply hK;clear hK K;refine aOps_call (hv _) (by first | rfl | simp) rfl rfl rfl ?_;simp;apply hK;clear hK K
 by_cases h0:(Ty.mk n l).valid=0
 ·repeat with_reducible refine awp_assoc ?_
  refine awp_sr fun K hK=>?_;simp [h0];apply hK;clear hK K;refine awp_seq_k fun K hK=>?_;refine awp_condF rfl (by simp) ?_;refine awp_skip ?_;apply hK;clear hK K;refine awp_sr fun K hK=>?_;refine aOps_split 1 fun K hK=>?_;simp;apply hK;clear hK K;refine aOps_call (hs h0 _) (by first | rfl | simp) rfl rfl rfl ?_;simp;apply hK;clear hK K;simp [h0,reset_all hcl]
 ·repeat with_reducible refine awp_assoc ?_
  refine awp_sr fun K hK=>?_;simp [h0];apply hK;clear hK K;refine awp_seq_k fun K hK=>?_;refine awp_condT rfl (by simp [h0]) ?_;refine awp_sr fun K hK=>?_;simp;apply hK;clear hK K;simp [h0,reset_all hcl]
attribute [local simp] low_bind
theorem clone_c:∀ (t:Ty),t.cnt < 1099511627776→∀ H,ACalls Tryz.prog 60 [t.enc] H t.enc H:=by
 intro t
 induction t using Ty.ind with
 | h nm l ih =>
 intro hsz H
 have hcnt:(Ty.mk nm l).cnt=(nodesL l).length+1:=by simp [Ty.cnt,Ty.nodes]
 have hll:=nodesL_len l
 refine acalls_walk (fun d=>if d=7 then .nilv 2 else .imm) [0,1,2,3,4,12] Tryz.mixed Tryz.func60 rfl rfl rfl (by decide) (fun hcl hlow=>?_)
 simp only [Ty.enc,Ty.cells];refine awp_sr fun K hK=>?_;simp;apply hK;clear hK K;refine awp_sr fun K hK=>?_;simp;apply hK;clear hK K;repeat with_reducible refine awp_assoc ?_
 refine awp_sr fun K hK=>?_;simp;apply hK;clear hK K;refine awp_seq_k fun K hK=>?_;refine awp_block ?_
 refine awp_up l.length (fun k=>Env.ofL [(1,.ref (nid H.next 0) 0),(2,.ref (nid H.next 1) 0),(3,.ref (nid H.next 3) 0),(4,intV k)]) (fun k=>HL H [.cells [strV nm,.slice (l.map Ty.cells) none],.cells [strV ByteArray.empty,.v (.slice none 0 0)],.tok k 2 none,.cells [strV nm,.slice ((l.map Ty.cells).take k) (some (nid H.next 2))]]) (fun k=>True) (weak_HL hcl rfl ?_ ?_) ?_ (fun k hk hi=>?_) (fun hi=>?_)
 ·simp
 ·simp
 ·trivial
 ·obtain ⟨x,hx⟩:∃ x,l[k]?=some x:=⟨_,List.getElem?_eq_getElem hk⟩
  have hxc:=cnt_mem hx
  have hc:=ih x (List.mem_of_getElem? hx) (by omega)
  obtain ⟨nx,lx⟩:=x
  simp only [enc_mk] at hc;repeat with_reducible refine awp_assoc ?_
  refine awp_sr fun K hK=>?_;simp [hk];apply hK;clear hK K;refine awp_seq_k fun K hK=>?_;refine awp_condT rfl (by simp) ?_;refine awp_skip ?_;apply hK;clear hK K;refine awp_seq_k fun K hK=>?_;refine awp_block ?_
  refine awp_draw [8,9,11] [[],[],[0,1],[0,1],[0,1,2,3],[0,1],[0,1],[0,1,2],[0,1,2,3,4],[2,3,4],[],[]] (by kernel_rfl) ?_
  refine aLex_read rfl rfl rfl rfl fun K hK=>?_;simp
  refine hK _ _ _ ?_
  clear hK K;refine aLex_read rfl rfl rfl rfl fun K hK=>?_;simp
  refine hK _ _ _ ?_
  clear hK K;refine aLex_read rfl rfl rfl rfl fun K hK=>?_;simp
  refine hK _ _ _ ?_
  clear hK K;refine aLex_read rfl rfl rfl rfl fun K hK=>?_;simp
  refine hK _ _ _ ?_
  clear hK K;refine aLex_read rfl rfl rfl rfl fun K hK=>?_;simp
  refine hK _ _ _ ?_
  clear hK K;refine aLex_read rfl rfl rfl rfl fun K hK=>?_;simp [hx]
  refine hK _ _ _ ?_
  clear hK K;refine aLex_read rfl rfl rfl rfl fun K hK=>?_;simp [hx,Ty.cells]
  refine hK _ _ _ ?_
  clear hK K
  refine aLex_call (v:=(Ty.mk nx lx).enc) rfl rfl ?_ (by simp) ?_
  ·simp [enc_mk]
   exact hc _
  refine aLex_eff rfl rfl rfl rfl fun K hK=>?_;simp [enc_mk];apply hK;clear hK K;refine aLex_eff rfl rfl rfl rfl fun K hK=>?_;simp [Nat.min_eq_left (Nat.le_of_lt hk)]
  refine ⟨by omega,fun r hr=>?_,hK _ _ ?_⟩
  ·obtain ⟨x,_,rfl⟩:=List.mem_map.1 (List.mem_of_mem_take hr)
   simp
  clear hK K;refine aLex_read rfl rfl rfl rfl fun K hK=>?_;simp
  refine hK _ _ _ ?_
  clear hK K;refine aLex_eff rfl rfl rfl rfl fun K hK=>?_;simp;apply hK;clear hK K;refine aLex_end ?_;simp;apply hK;clear hK K;refine awp_region ?_;simp [wrap_succ (show k < 4611686018427387904 by omega)]
  have e1:(l.map Ty.cells).take (k+1)=(l.map Ty.cells).take k++[[AV.v (Value.string nx),AV.slice (List.map Ty.cells lx) none]] :=
   take_one (by simp [hx,Ty.cells])
  rw [e1]
  refine weak_HL hcl rfl (by simp) (by simp)
 ·have e2:(l.map Ty.cells).take l.length=l.map Ty.cells:=List.take_of_length_le (by simp)
  rw [e2]
  repeat with_reducible refine awp_assoc ?_
  refine awp_sr fun K hK=>?_;simp;apply hK;clear hK K;refine awp_seq_k fun K hK=>?_;refine awp_condF rfl (by simp) ?_;refine awp_exit ?_;simp;clear hK K;apply hK;clear hK K;refine awp_sr fun K hK=>?_;simp;apply hK;clear hK K;simp
  exact ⟨Wk.agg (by simp),reset_all hcl⟩
theorem look_first {m:TyM} {k:Nat} {n:ByteArray} {x:ByteArray × Ty} (h:∀ p∈m.take k,¬ p.1=n) (hx:m[k]?=some x) (he:x.1=n):lookT m n=some x.2:=by
 induction m generalizing k with
 | nil=>simp at hx
 | cons p m ih =>
  cases k with
  | zero =>
   simp only [List.getElem?_cons_zero,Option.some.injEq] at hx
   subst hx
   simp [lookT,he]
  | succ k =>
   simp only [List.getElem?_cons_succ] at hx
   have h1:=h p (by simp)
   have h2:=ih (fun q hq=>h q (by simp [hq])) hx
   unfold lookT at h2 ⊢
   rw [List.find?_cons]
   have hd:decide (n=p.1)=false:=by simp [Ne.symm h1]
   simp only [hd]
   exact h2
theorem look_no {m:TyM} {n:ByteArray} (h:∀ p∈m,¬ p.1=n):lookT m n=none:=lookT_none (by
 intro hm
 obtain ⟨p,hp,e⟩:=List.mem_map.1 hm
 exact h p hp e)
theorem good_var {n:ByteArray} {l:List Ty} (h:(Ty.mk n l).good=true) (hv:headP smallB n=true):l=[]:=by
 rw [good_eq,Bool.and_eq_true] at h
 have h1:=h.1
 unfold Ty.node at h1
 have hna:¬ (Ty.mk n l).name=arrowN:=by
  rintro (e:n=arrowN)
  rw [e] at hv;cases hv
 rw [if_neg hna,if_pos (show (Ty.mk n l).isVar=true from hv),Bool.and_eq_true] at h1
 have:=of_decide_eq_true h1.2
 have e:(Ty.mk n l).args=l:=rfl
 rw [e] at this
 exact List.eq_nil_of_length_eq_zero (by omega)
theorem good_arg {n:ByteArray} {l:List Ty} (h:(Ty.mk n l).good=true) {x:Ty} (hx:x∈l):x.good=true:=by
 rw [good_eq,Bool.and_eq_true,List.all_eq_true] at h
 exact h.2 x hx
theorem rPut_c (m:TyM) (hm:∀ p∈m,p.2.cnt < 1099511627776) (hml:m.length < 4611686018427387904):∀ (t:Ty),t.good=true→t.cnt < 1099511627776→∀ H,ACalls Tryz.prog 25 [.slice (m.map bindC) none,t.enc] H (putT m t).enc H:=by
 intro t
 induction t using Ty.ind with
 | h nm l ih =>
 intro hgood hsz H
 have hcnt:(Ty.mk nm l).cnt=(nodesL l).length+1:=by simp [Ty.cnt,Ty.nodes]
 have hll:=nodesL_len l
 have hvc:=rIsVar_c (.mk nm l)
 simp only [enc_mk] at hvc
 refine acalls_walk (fun d=>if d=35 then .nilv 2 else .imm) [0,1,3,4,5,6,7,9,13,23,40] Tryz.mixed Tryz.func25 rfl rfl rfl (by decide) (fun hcl hlow=>?_)
 simp only [Ty.enc,Ty.cells];refine awp_sr fun K hK=>?_;simp;apply hK;clear hK K;repeat with_reducible refine awp_assoc ?_
 refine awp_sr fun K hK=>?_;refine aOps_split 1 fun K hK=>?_;simp;apply hK;clear hK K;refine aOps_call (hvc _) (by first | rfl | simp) rfl rfl (by first | (simp;done) | rfl) ?_;simp;apply hK;clear hK K
 cases hv:(Ty.mk nm l).isVar
 rotate_left
 ·have hv':headP smallB nm=true:=hv
  obtain rfl:=good_var hgood hv'
  refine awp_seq_k fun K hK=>?_;refine awp_condT rfl (by simp [hv]) ?_;repeat with_reducible refine awp_assoc ?_
  refine awp_sr fun K hK=>?_;simp;apply hK;clear hK K;refine awp_seq_k fun K hK=>?_;refine awp_block ?_
  refine awp_up m.length (fun k=>Env.ofL [(0,.slice (m.map bindC) none),(3,.ref (nid H.next 0) 0),(4,.ref (nid H.next 1) 0),(5,intV k)]) (fun k=>HL (H) [.cells [strV nm,.slice [] none],.cells [strV ByteArray.empty,.v (.slice none 0 0)]]) (fun k=>∀ p∈m.take k,¬ p.1=nm) (weak_HL (hcl) (by simp) ?_ ?_) ?_ (fun k hk hi=>?_) (fun hi=>?_)
  ·simp
  ·simp
  ·simp
  ·obtain ⟨x,hx⟩:∃ x,m[k]?=some x:=⟨_,List.getElem?_eq_getElem hk⟩
   have hc:=clone_c x.2 (hm _ (List.mem_of_getElem? hx))
   obtain ⟨s,⟨n',l'⟩⟩:=x
   simp only [enc_mk] at hc;repeat with_reducible refine awp_assoc ?_
   refine awp_sr fun K hK=>?_;simp [hk];apply hK;clear hK K;refine awp_seq_k fun K hK=>?_;refine awp_condT rfl (by simp) ?_;refine awp_skip ?_;apply hK;clear hK K;refine awp_seq_k fun K hK=>?_;refine awp_block ?_
   refine awp_sd [] [[],[0],[],[],[],[0,1,2,3,4],[0,1,2,3,4],[0,1]] (by kernel_rfl) fun K hK=>?_
   refine aLex_pre 8 rfl fun K hK=>?_;simp [hx,bindC,Ty.cells]
   refine hK _ ?_
   clear hK K;refine aLex_end ?_;simp;apply hK;clear hK K
   by_cases hs:s=nm
   ·refine awp_condT rfl (by simp [hs]) ?_;refine awp_sr fun K hK=>?_;refine aOps_split 5 fun K hK=>?_;simp [hx,bindC,Ty.cells];apply hK;clear hK K;refine aOps_call (hc _) (by first | rfl | simp) rfl rfl (by first | (simp;done) | rfl) ?_;simp;apply hK;clear hK K
    have e:putT m (.mk nm [])=.mk n' l':=by rw [putT,if_pos hv',look_first hi hx hs]
    rw [e]
    simp [Ty.cells,reset_all hcl]
   ·refine awp_condF rfl (by simp [hs]) ?_;refine awp_skip ?_;apply hK;clear hK K;refine awp_region ?_;simp [wrap_succ (show k < 4611686018427387904 by omega)]
    refine ⟨fun a b hy=>?_,?_⟩
    ·rw [take_one hx] at hy
     simp only [List.mem_append,List.mem_singleton,Prod.mk.injEq] at hy
     rcases hy with hy | ⟨rfl,rfl⟩
     ·exact hi (a,b) hy
     ·exact hs
    ·refine weak_HL (hcl) (by simp) (by simp) (by simp)
  ·repeat with_reducible refine awp_assoc ?_
   refine awp_sr fun K hK=>?_;simp;apply hK;clear hK K;refine awp_seq_k fun K hK=>?_;refine awp_condF rfl (by simp) ?_;refine awp_exit ?_;simp;clear hK K;apply hK;clear hK K
   rw [List.take_length] at hi
   refine awp_sr fun K hK=>?_;simp;apply hK;clear hK K
   have e:putT m (.mk nm [])=.mk nm []:=by rw [putT,if_pos hv',look_no hi]
   rw [e]
   simp [Ty.cells,reset_all hcl]
   exact Wk.agg ⟨.refl _,Wk.nilSlice,trivial⟩
 have hv':¬ headP smallB nm=true:=by rw [show headP smallB nm=(Ty.mk nm l).isVar from rfl,hv];simp
 have e:putT m (.mk nm l)=.mk nm (l.map (putT m)):=by rw [putT,if_neg hv',putL_eq]
 refine awp_seq_k fun K hK=>?_;refine awp_condF rfl (by simp [hv]) ?_;refine awp_skip ?_;apply hK;clear hK K;refine awp_sr fun K hK=>?_;simp;apply hK;clear hK K;repeat with_reducible refine awp_assoc ?_
 refine awp_sr fun K hK=>?_;simp;apply hK;clear hK K;refine awp_seq_k fun K hK=>?_;refine awp_block ?_
 refine awp_up l.length (fun k=>Env.ofL [(0,.slice (m.map bindC) none),(3,.ref (nid H.next 0) 0),(4,.ref (nid H.next 1) 0),(6,.ref (nid H.next 3) 0),(7,intV k)]) (fun k=>HL H [.cells [strV nm,.slice (l.map Ty.cells) none],.cells [strV ByteArray.empty,.v (.slice none 0 0)],.tok k 2 none,.cells [strV nm,.slice ((l.map (putT m)).map Ty.cells |>.take k) (some (nid H.next 2))]]) (fun k=>True) (weak_HL hcl rfl ?_ ?_) ?_ (fun k hk hi2=>?_) (fun hi2=>?_)
 ·simp
 ·simp
 ·trivial
 ·obtain ⟨x,hx⟩:∃ x,l[k]?=some x:=⟨_,List.getElem?_eq_getElem hk⟩
  have hxc:=cnt_mem hx
  have hc:=ih x (List.mem_of_getElem? hx) (good_arg hgood (List.mem_of_getElem? hx)) (by omega)
  repeat with_reducible refine awp_assoc ?_
  refine awp_sr fun K hK=>?_;simp [hk];apply hK;clear hK K;refine awp_seq_k fun K hK=>?_;refine awp_condT rfl (by simp) ?_;refine awp_skip ?_;apply hK;clear hK K;refine awp_seq_k fun K hK=>?_;refine awp_block ?_
  have e1:((l.map (putT m)).map Ty.cells).take (k+1)=((l.map (putT m)).map Ty.cells).take k++[(putT m x).cells] :=
   take_one (by simp [hx])
  obtain ⟨nx,lx⟩:=x
  obtain ⟨ny,ly,hy⟩:∃ ny ly,putT m (.mk nx lx)=.mk ny ly:=by cases putT m (.mk nx lx) with | mk a b=>exact ⟨a,b,rfl⟩
  rw [hy] at hc e1
  simp only [enc_mk] at hc
  refine awp_draw [9,10,12] [[],[],[0,1],[0,1,2],[0,1,2],[0,1,2,3,4],[0,1,2],[0,1,2],[0,1,3],[0,1,3,4,5],[3,4,5],[],[]] (by kernel_rfl) ?_
  refine aLex_read rfl rfl rfl rfl fun K hK=>?_;simp
  refine hK _ _ _ ?_
  clear hK K;refine aLex_read rfl rfl rfl rfl fun K hK=>?_;simp
  refine hK _ _ _ ?_
  clear hK K;refine aLex_read rfl rfl rfl rfl fun K hK=>?_;simp
  refine hK _ _ _ ?_
  clear hK K;refine aLex_read rfl rfl rfl rfl fun K hK=>?_;simp
  refine hK _ _ _ ?_
  clear hK K;refine aLex_read rfl rfl rfl rfl fun K hK=>?_;simp
  refine hK _ _ _ ?_
  clear hK K;refine aLex_read rfl rfl rfl rfl fun K hK=>?_;simp
  refine hK _ _ _ ?_
  clear hK K;refine aLex_read rfl rfl rfl rfl fun K hK=>?_;simp [hx]
  refine hK _ _ _ ?_
  clear hK K;refine aLex_read rfl rfl rfl rfl fun K hK=>?_;simp [hx,Ty.cells]
  refine hK _ _ _ ?_
  clear hK K
  refine aLex_call (v:=(Ty.mk ny ly).enc) rfl rfl ?_ (by simp) ?_
  ·simp [enc_mk]
   exact hc _
  refine aLex_eff rfl rfl rfl rfl fun K hK=>?_;simp [enc_mk];apply hK;clear hK K;refine aLex_eff rfl rfl rfl rfl fun K hK=>?_;simp [Nat.min_eq_left (Nat.le_of_lt hk)]
  refine ⟨by omega,fun r hr=>?_,hK _ _ ?_⟩
  ·obtain ⟨x,_,rfl⟩:=List.mem_map.1 (List.mem_of_mem_take hr)
   simp
  clear hK K;refine aLex_read rfl rfl rfl rfl fun K hK=>?_;simp
  refine hK _ _ _ ?_
  clear hK K;refine aLex_eff rfl rfl rfl rfl fun K hK=>?_;simp;apply hK;clear hK K;refine aLex_end ?_;simp;apply hK;clear hK K;refine awp_region ?_;simp [wrap_succ (show k < 4611686018427387904 by omega)];simp at e1
  rw [e1]
  refine weak_HL (hcl) (by simp) (by simp [Ty.cells]) (by simp [Ty.cells])
 ·have e2:((l.map (putT m)).map Ty.cells).take l.length=(l.map (putT m)).map Ty.cells:=List.take_of_length_le (by simp)
  rw [e2]
  repeat with_reducible refine awp_assoc ?_
  refine awp_sr fun K hK=>?_;simp;apply hK;clear hK K;refine awp_seq_k fun K hK=>?_;refine awp_condF rfl (by simp) ?_;refine awp_exit ?_;simp;clear hK K;apply hK;clear hK K;refine awp_sr fun K hK=>?_;simp;apply hK;clear hK K
  rw [e]
  simp [Ty.cells]
  exact ⟨Wk.agg (by simp),reset_all hcl⟩
end Go.Proofs.YtgeehnbbhnpimaaGreat
