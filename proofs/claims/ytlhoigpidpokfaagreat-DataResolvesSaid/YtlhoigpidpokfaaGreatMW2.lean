/- Substitutions put in; names; renamings. -/
import Derived.Test.YtlhoigpidpokfaaGreatMW1
import Derived.Test.YtlhoigpidpokfaaGreatMX1
set_option linter.unusedVariables false
set_option linter.unusedSimpArgs false
namespace Go.Proofs.YtlhoigpidpokfaaGreat
open Go Go.Abs Go.Proofs
set_option maxRecDepth 20000
attribute [local simp] aOps wantedA aStep aop aLoad aStore aBin aUn aFieldAddr aField aIndexAddr aIndex aLen aBuild aFill aAlloc aAppend aAppendOwn aMin aMax aBuildSlice litRows newRows isMut isOwn isNilS nilsW bytesR tokW tokAV tokL ret readC splice aeval isLit isLate isCut aCut AV.celled AV.one AV.ofValue Value.oneCell' Value.cells intOp strOp get_nid upd_nid awp aEnd aResults aResult Det unord isCall isNext
attribute [local simp] low_take low_strs low_comp low_tcomp wkEs_refl' WkBs WkEnv WkB WkL WkE WkO ABlock.low lowO lowL lowR AV.low cellsL_eq Ty.low low_map Ty.cells_length Ty.cells_one
abbrev TyM:=List (ByteArray × Ty)
theorem cnt_mem {l:List Ty} {k:Nat} {x:Ty} (hx:l[k]?=some x):x.cnt≤(nodesL l).length:=by
 have h1:=congrArg List.length (nodesL_take hx)
 have h2:nodesL l=nodesL (l.take (k+1))++nodesL (l.drop (k+1)):=by rw [←nodesL_append,List.take_append_drop]
 have h3:=congrArg List.length h2
 rw [List.length_append] at h1 h3;simp only [Ty.cnt];omega
theorem enc_mk (n:ByteArray) (l:List Ty):(Ty.mk n l).enc=.agg [strV n,.slice (l.map Ty.cells) none]:=by simp [Ty.enc,Ty.cells,cellsL_eq]
def memS (s:ByteArray) (l:List ByteArray):Bool:=l.any fun x=>decide (s=x)
theorem memS_iff {s:ByteArray} {l:List ByteArray}:memS s l=true↔s∈l:=by simp [memS]
def nameStep (out:List ByteArray) (t:Ty):List ByteArray:=if t.isVar then (if memS t.name out then out else out++[t.name]) else out
def namesL (l:List Ty):List ByteArray:=(nodesL l).foldl nameStep []
def metEs (out:List ByteArray):List (Value × AV):=out.map fun s=>(.string s,boolV true)
theorem aLook_met (out:List ByteArray) (s:ByteArray):aLook (metEs out) (.string s)=if memS s out then some (boolV true) else none:=by
 induction out with
 | nil=>rfl
 | cons x out ih =>
  unfold aLook metEs at ih ⊢
  simp only [List.map_cons,List.find?_cons,keq]
  by_cases h:s=x
  ·simp [h,memS]
  ·simp only [h,decide_false,memS,List.any_cons,Bool.false_or] at ih ⊢;exact ih
theorem keys_met (out:List ByteArray):keysOk .string (metEs out):=by
 intro e he
 obtain ⟨p,_,rfl⟩:=List.mem_map.1 he
 rfl
theorem aPut_met {out:List ByteArray} {s:ByteArray} (h:memS s out=false):aPut (metEs out) (.string s) (boolV true)=metEs (out++[s]):=by
 induction out with
 | nil=>rfl
 | cons x out ih =>
  simp only [memS,List.any_cons,Bool.or_eq_false_iff,decide_eq_false_iff_not] at h
  have ih:=ih h.2
  simp only [metEs,List.map_cons,List.cons_append,aPut,keq,h.1,decide_false,Bool.false_eq_true,if_false] at ih ⊢
  rw [ih]
theorem low_met (n:Nat) (out:List ByteArray):lowEs n (metEs out):=by
 induction out with
 | nil=>trivial
 | cons x out ih=>exact ⟨trivial,ih⟩
theorem nameStep_len (out:List ByteArray) (t:Ty):(nameStep out t).length≤out.length+1:=by
 unfold nameStep
 split
 ·split
  ·omega
  ·simp
 ·omega
theorem fold_len (L:List Ty):∀ (o:List ByteArray),(L.foldl nameStep o).length≤o.length+L.length:=by
 induction L with
 | nil=>intro o;simp
 | cons t L ih=>intro o;have h1:=ih (nameStep o t);have h2:=nameStep_len o t;simp only [List.foldl_cons,List.length_cons];omega
theorem names_len (l:List Ty):(namesL l).length≤(nodesL l).length:=by have:=fold_len (nodesL l) [];simpa [namesL] using this
def bindC (p:ByteArray × Ty):List AV:=strV p.1::p.2.cells
theorem low_bind (n:Nat) (l:TyM):lowR n (l.map bindC):=lowR_map fun p _=>⟨trivial,p.2.low n⟩
attribute [local simp] low_bind
end Go.Proofs.YtlhoigpidpokfaaGreat
namespace Go.Proofs.YtlhoigpidpokfaaGreat
open Go Go.Abs Go.Proofs
set_option maxRecDepth 20000
attribute [local simp] aOps wantedA aStep aop aLoad aStore aBin aUn aFieldAddr aField aIndexAddr aIndex aLen aBuild aFill aAlloc aAppend aAppendOwn aMin aMax aBuildSlice litRows newRows isMut isOwn isNilS nilsW bytesR tokW tokAV tokL ret readC splice aeval isLit isLate isCut aCut AV.celled AV.one AV.ofValue Value.oneCell' Value.cells intOp strOp get_nid upd_nid awp aEnd aResults aResult Det unord isCall isNext
attribute [local simp] low_take low_strs low_comp low_tcomp wkEs_refl' WkBs WkEnv WkB WkL WkE WkO ABlock.low lowO lowL lowR AV.low cellsL_eq Ty.low low_map Ty.cells_length Ty.cells_one
attribute [local simp] low_bind
def cntR (b:Bool × Nat):Int:=if b.1=true then -1 else 200 - (b.2:Int)
theorem count_c:∀ (t:Ty) (room n:Nat) (H:AHeap),room≤40→n≤200 →
  ACalls Tryz.prog 55 [t.enc,intV (41 - (room:Int)),intV (200 - (n:Int))] H (intV (cntR (big t room n))) H:=by
 intro t
 induction t using Ty.ind with
 | h nm l ih =>
 intro room n H hroom hn
 refine acalls_walk (fun _=>.imm) [0,1,2,3,6,7,13,20,33] Tryz.mixed Tryz.func55 rfl rfl rfl (by decide) (fun hcl hlow=>?_)
 simp only [Ty.enc,Ty.cells]
 repeat with_reducible refine awp_assoc ?_
 refine awp_sr fun K hK=>?_
 simp
 refine hK _ _ ?_
 clear hK K
 by_cases h2:room < 1
 ·have h2':(40:Int) < 41 - room:=by omega
  have e:big (.mk nm l) room n=(true,n+1):=by rw [big,if_pos (.inr h2)]
  repeat with_reducible refine awp_assoc ?_
  refine awp_sr fun K hK=>?_
  simp [h2']
  refine hK _ _ ?_
  clear hK K
  repeat with_reducible refine awp_assoc ?_
  refine awp_seq_k fun K hK=>?_
  refine awp_condT rfl (by simp) ?_
  repeat with_reducible refine awp_assoc ?_
  refine awp_sr fun K hK=>?_
  simp
  refine hK _ _ ?_
  clear hK K
  simp [e,cntR,reset_all hcl]
 have h2':¬ (40:Int) < 41 - room:=by omega
 by_cases h1:200 < n+1
 ·have h1':(200:Int) - n < 1:=by omega
  have e:big (.mk nm l) room n=(true,n+1):=by rw [big,if_pos (.inl h1)]
  repeat with_reducible refine awp_assoc ?_
  refine awp_sr fun K hK=>?_
  simp [h1',h2']
  refine hK _ _ ?_
  clear hK K
  repeat with_reducible refine awp_assoc ?_
  refine awp_seq_k fun K hK=>?_
  refine awp_condT rfl (by simp) ?_
  repeat with_reducible refine awp_assoc ?_
  refine awp_sr fun K hK=>?_
  simp
  refine hK _ _ ?_
  clear hK K
  simp [e,cntR,reset_all hcl]
 have h1':¬ (200:Int) - n < 1:=by omega
 have e:big (.mk nm l) room n=bigL l (room - 1) (n+1):=by rw [big,if_neg (by omega)]
 repeat with_reducible refine awp_assoc ?_
 refine awp_sr fun K hK=>?_
 simp [h1',h2']
 refine hK _ _ ?_
 clear hK K
 repeat with_reducible refine awp_assoc ?_
 refine awp_seq_k fun K hK=>?_
 refine awp_condF rfl (by simp) ?_
 refine awp_skip ?_
 refine hK _ _ ?_
 clear hK K
 have w1:IntKind.i64.wrap (200 - (n:Int) - 1)=200 - ((n+1:Nat):Int):=by rw [wrap64 (by omega) (by omega)];omega
 repeat with_reducible refine awp_assoc ?_
 refine awp_sr fun K hK=>?_
 simp [w1]
 refine hK _ _ ?_
 clear hK K
 repeat with_reducible refine awp_assoc ?_
 refine awp_sr fun K hK=>?_
 simp
 refine hK _ _ ?_
 clear hK K
 have hb0:=bigL_le l (room - 1) (n+1) (by omega)
 refine awp_seq_k fun K hK=>?_
 refine awp_block ?_
 refine awp_up l.length (fun k=>Env.ofL [(1,intV (41 - (room:Int))),(2,intV (200 - ((bigL (l.take k) (room - 1) (n+1)).2:Int))),(3,.ref (nid H.next 0) 0),(6,intV 0),(7,intV k)]) (fun k=>HL (H) [.cells [strV nm,.slice (l.map Ty.cells) none]]) (fun k=>(bigL (l.take k) (room - 1) (n+1)).1=false) (weak_HL (hcl) (by simp) ?_ ?_) ?_ (fun k hk hi=>?_) (fun hi=>?_)
 ·simp [bigL]
 ·simp [bigL]
 ·simp [bigL]
 ·obtain ⟨x,hx⟩:∃ x,l[k]?=some x:=⟨_,List.getElem?_eq_getElem hk⟩
  have hbk:=bigL_le (l.take k) (room - 1) (n+1) (by omega)
  have hkl:(l.take k).length=k:=by simp;omega
  have hmk:=hbk.2.2 hi
  rw [hkl] at hmk
  have e1:=bigL_take hx (room - 1) (n+1) hi
  generalize hm:(bigL (l.take k) (room - 1) (n+1)).2=m at *
  have w2:IntKind.i64.wrap (41 - (room:Int)+1)=41 - ((room - 1:Nat):Int):=by rw [wrap64 (by omega) (by omega)];omega
  have hc:=ih _ (List.mem_of_getElem? hx) (room - 1) m (HL H [.cells [strV nm,.slice (l.map Ty.cells) none]]) (by omega) hmk.1
  obtain ⟨n',l'⟩:=x
  simp only [Ty.enc,Ty.cells,cellsL_eq] at hc
  repeat with_reducible refine awp_assoc ?_
  refine awp_sr fun K hK=>?_
  simp [hk]
  refine hK _ _ ?_
  clear hK K
  repeat with_reducible refine awp_assoc ?_
  refine awp_seq_k fun K hK=>?_
  refine awp_condT rfl (by simp) ?_
  refine awp_skip ?_
  refine hK _ _ ?_
  clear hK K
  refine awp_seq_k fun K hK=>?_
  refine awp_block ?_
  repeat with_reducible refine awp_assoc ?_
  refine awp_sr fun K hK=>?_
  refine aOps_split 8 fun K hK=>?_
  simp [hx,Ty.cells,w2]
  refine hK _ _ ?_
  clear hK K
  refine aOps_call hc (by first | rfl | simp) rfl rfl rfl ?_
  simp
  refine hK _ _ ?_
  clear hK K
  have hbx:=big_le (.mk n' l') (room - 1) m hmk.1
  cases hb:(big (.mk n' l') (room - 1) m).1
  ·have h3:=hbx.2.2 hb
   have ec:cntR (big (.mk n' l') (room - 1) m)=200 - ((big (.mk n' l') (room - 1) m).2:Int):=by simp [cntR,hb]
   have h3':¬ (200:Int) - ((big (.mk n' l') (room - 1) m).2:Int) < 0:=by omega
   repeat with_reducible refine awp_assoc ?_
   refine awp_sr fun K hK=>?_
   simp [ec,h3']
   refine hK _ _ ?_
   clear hK K
   refine awp_condF rfl (by simp) ?_
   refine awp_skip ?_
   refine hK _ _ ?_
   clear hK K
   refine awp_region ?_
   simp [wrap_succ (show k < 4611686018427387904 by omega)]
   rw [e1,hb]
   refine ⟨rfl,?_⟩
   refine weak_HL (hcl) (by simp) (by simp) (by simp)
  ·have ec:cntR (big (.mk n' l') (room - 1) m)=-1:=by simp [cntR,hb]
   repeat with_reducible refine awp_assoc ?_
   refine awp_sr fun K hK=>?_
   simp [ec]
   refine hK _ _ ?_
   clear hK K
   refine awp_condT rfl (by simp) ?_
   repeat with_reducible refine awp_assoc ?_
   refine awp_sr fun K hK=>?_
   simp
   refine hK _ _ ?_
   clear hK K
   have e2:bigL l (room - 1) (n+1)=big (.mk n' l') (room - 1) m:=by rw [←e1];exact bigL_true _ _ (by rw [e1];exact hb)
   rw [e,e2,ec]
   simp [reset_all hcl]
 ·repeat with_reducible refine awp_assoc ?_
  refine awp_sr fun K hK=>?_
  simp
  refine hK _ _ ?_
  clear hK K
  repeat with_reducible refine awp_assoc ?_
  refine awp_seq_k fun K hK=>?_
  refine awp_condF rfl (by simp) ?_
  refine awp_exit ?_
  simp
  clear hK K
  refine hK _ _ ?_
  clear hK K
  rw [List.take_length] at hi
  repeat with_reducible refine awp_assoc ?_
  refine awp_sr fun K hK=>?_
  simp
  refine hK _ _ ?_
  clear hK K
  rw [e,cntR,hi]
  simp [reset_all hcl]
theorem rNode_c (t:Ty) (H:AHeap):ACalls Tryz.prog 92 [t.enc] H (boolV t.node) H:=by
 obtain ⟨n,l⟩:=t
 refine acalls_walk (fun _=>.imm) [0,1,2,5,12] Tryz.mixed Tryz.func92 rfl rfl rfl (by decide) (fun hcl hlow=>?_)
 simp only [Ty.enc,Ty.cells]
 repeat with_reducible refine awp_assoc ?_
 refine awp_sr fun K hK=>?_
 simp
 refine hK _ _ ?_
 clear hK K
 by_cases ha:n=arrowN
 ·repeat with_reducible refine awp_assoc ?_
  refine awp_sr fun K hK=>?_
  simp
  refine hK _ _ ?_
  clear hK K
  refine awp_seq_k fun K hK=>?_
  refine awp_condT rfl (by simp [ha,arrowN]) ?_
  repeat with_reducible refine awp_assoc ?_
  refine awp_sr fun K hK=>?_
  simp
  refine hK _ _ ?_
  clear hK K
  have e:(Ty.mk n l).node=decide ((l.length:Int)=2):=by unfold Ty.node;rw [if_pos (show (Ty.mk n l).name=arrowN from ha)];rfl
  simp [e,reset_all hcl]
 have ha':¬ n=⟨#[45,62]⟩:=ha
 repeat with_reducible refine awp_assoc ?_
 refine awp_sr fun K hK=>?_
 simp
 refine hK _ _ ?_
 clear hK K
 refine awp_seq_k fun K hK=>?_
 refine awp_condF rfl (by simp [ha']) ?_
 refine awp_skip ?_
 refine hK _ _ ?_
 clear hK K
 have en:(Ty.mk n l).node=if (Ty.mk n l).isVar then smallN n && decide ((l.length:Int)=0) else greatN n && decide ((l.length:Int)≤8):=by
  unfold Ty.node;rw [if_neg (show ¬ (Ty.mk n l).name=arrowN from ha)];rfl
 have ev:(Ty.mk n l).isVar=headP smallB n:=rfl
 repeat with_reducible refine awp_assoc ?_
 refine awp_sr fun K hK=>?_
 refine aOps_split 2 fun K hK=>?_
 simp
 refine hK _ _ ?_
 clear hK K
 refine aOps_call (rSmallN_c n _) (by first | rfl | simp) rfl rfl (by first | (simp;done) | rfl) ?_
 simp
 refine hK _ _ ?_
 clear hK K
 cases hs:smallN n
 ·repeat with_reducible refine awp_assoc ?_
  refine awp_seq_k fun K hK=>?_
  refine awp_condF rfl (by simp [hs]) ?_
  refine awp_skip ?_
  refine hK _ _ ?_
  clear hK K
  repeat with_reducible refine awp_assoc ?_
  refine awp_sr fun K hK=>?_
  refine aOps_split 2 fun K hK=>?_
  simp
  refine hK _ _ ?_
  clear hK K
  refine aOps_call (rGreatN_c n _) (by first | rfl | simp) rfl rfl (by first | (simp;done) | rfl) ?_
  have e:(Ty.mk n l).node=(greatN n && decide ((l.length:Int)≤8)):=by
   rw [en]
   cases hv:headP smallB n
   ·rw [ev,hv];rfl
   ·rw [ev,hv,hs]
    have hg:greatN n=false:=by
     unfold greatN
     unfold headP at hv ⊢
     cases hd:n.data.toList[0]? with
     | none=>rw [hd] at hv;cases hv
     | some c =>
      rw [hd] at hv
      simp only [smallB,Bool.and_eq_true,decide_eq_true_eq] at hv
      have:greatB c=false:=by simp only [greatB,Bool.and_eq_false_iff,decide_eq_false_iff_not];omega
      simp [this]
    simp [hg]
  cases hg:greatN n
  ·simp
   refine hK _ _ ?_
   clear hK K
   simp [e,hg,reset_all hcl]
  ·simp
   refine hK _ _ ?_
   clear hK K
   simp [e,hg,reset_all hcl]
 ·repeat with_reducible refine awp_assoc ?_
  refine awp_seq_k fun K hK=>?_
  refine awp_condT rfl (by simp [hs]) ?_
  repeat with_reducible refine awp_assoc ?_
  refine awp_sr fun K hK=>?_
  simp
  refine hK _ _ ?_
  clear hK K
  have hv:headP smallB n=true:=by
   unfold smallN at hs;simp only [Bool.and_eq_true] at hs;exact hs.1.2
  rw [en,ev,hv,hs]
  simp [reset_all hcl]
theorem good_eq (n:ByteArray) (l:List Ty):(Ty.mk n l).good=((Ty.mk n l).node && l.all Ty.good):=by
 unfold Ty.good
 rw [Ty.nodes,List.all_cons]
 congr 1
 induction l with
 | nil=>rfl
 | cons t ts ih=>rw [nodesL,List.all_append,ih,List.all_cons]
theorem areNodes_c:∀ (t:Ty),t.cnt < 4611686018427387904→∀ H,ACalls Tryz.prog 56 [t.enc] H (boolV t.good) H:=by
 intro t
 induction t using Ty.ind with
 | h nm l ih =>
 intro hsz H
 have hcnt:(Ty.mk nm l).cnt=(nodesL l).length+1:=by simp [Ty.cnt,Ty.nodes]
 have hll:=nodesL_len l
 have hn:=rNode_c (.mk nm l)
 simp only [Ty.enc,Ty.cells,cellsL_eq] at hn
 refine acalls_walk (fun _=>.imm) [0,1,2,3,6,11,20] Tryz.mixed Tryz.func56 rfl rfl rfl (by decide) (fun hcl hlow=>?_)
 simp only [Ty.enc,Ty.cells]
 repeat with_reducible refine awp_assoc ?_
 refine awp_sr fun K hK=>?_
 simp
 refine hK _ _ ?_
 clear hK K
 repeat with_reducible refine awp_assoc ?_
 refine awp_sr fun K hK=>?_
 refine aOps_split 1 fun K hK=>?_
 simp
 refine hK _ _ ?_
 clear hK K
 refine aOps_call (hn _) (by first | rfl | simp) rfl rfl rfl ?_
 simp
 refine hK _ _ ?_
 clear hK K
 cases hnd:(Ty.mk nm l).node
 ·repeat with_reducible refine awp_assoc ?_
  refine awp_seq_k fun K hK=>?_
  refine awp_condT rfl (by simp [hnd]) ?_
  repeat with_reducible refine awp_assoc ?_
  refine awp_sr fun K hK=>?_
  simp
  refine hK _ _ ?_
  clear hK K
  simp [good_eq,hnd,reset_all hcl]
 repeat with_reducible refine awp_assoc ?_
 refine awp_seq_k fun K hK=>?_
 refine awp_condF rfl (by simp [hnd]) ?_
 refine awp_skip ?_
 refine hK _ _ ?_
 clear hK K
 repeat with_reducible refine awp_assoc ?_
 refine awp_sr fun K hK=>?_
 simp
 refine hK _ _ ?_
 clear hK K
 refine awp_seq_k fun K hK=>?_
 refine awp_block ?_
 refine awp_up l.length (fun k=>Env.ofL [(1,.ref (nid H.next 0) 0),(2,boolV false),(3,intV k)]) (fun k=>HL (H) [.cells [strV nm,.slice (l.map Ty.cells) none]]) (fun k=>∀ x∈l.take k,x.good=true) (weak_HL (hcl) (by simp) ?_ ?_) ?_ (fun k hk hi=>?_) (fun hi=>?_)
 ·simp
 ·simp
 ·simp
 ·obtain ⟨x,hx⟩:∃ x,l[k]?=some x:=⟨_,List.getElem?_eq_getElem hk⟩
  have hxc:x.cnt < 4611686018427387904:=by
   have h1:=congrArg List.length (nodesL_take hx)
   have h2:nodesL l=nodesL (l.take (k+1))++nodesL (l.drop (k+1)):=by rw [←nodesL_append,List.take_append_drop]
   have h3:=congrArg List.length h2
   rw [List.length_append] at h1 h3;simp only [Ty.cnt] at hsz ⊢;simp only [Ty.cnt] at hcnt;omega
  have hc:=ih _ (List.mem_of_getElem? hx) hxc
  obtain ⟨n',l'⟩:=x
  simp only [Ty.enc,Ty.cells,cellsL_eq] at hc
  repeat with_reducible refine awp_assoc ?_
  refine awp_sr fun K hK=>?_
  simp [hk]
  refine hK _ _ ?_
  clear hK K
  repeat with_reducible refine awp_assoc ?_
  refine awp_seq_k fun K hK=>?_
  refine awp_condT rfl (by simp) ?_
  refine awp_skip ?_
  refine hK _ _ ?_
  clear hK K
  refine awp_seq_k fun K hK=>?_
  refine awp_block ?_
  repeat with_reducible refine awp_assoc ?_
  refine awp_sr fun K hK=>?_
  refine aOps_split 5 fun K hK=>?_
  simp [hx,Ty.cells]
  refine hK _ _ ?_
  clear hK K
  refine aOps_call (hc _) (by first | rfl | simp) rfl rfl rfl ?_
  simp
  refine hK _ _ ?_
  clear hK K
  cases hg:(Ty.mk n' l').good
  ·refine awp_condT rfl (by simp [hg]) ?_
   repeat with_reducible refine awp_assoc ?_
   refine awp_sr fun K hK=>?_
   simp
   refine hK _ _ ?_
   clear hK K
   have e:(Ty.mk nm l).good=false:=by
    rw [good_eq,hnd,Bool.true_and,List.all_eq_false]
    exact ⟨_,List.mem_of_getElem? hx,by simp [hg]⟩
   simp [e,reset_all hcl]
  ·refine awp_condF rfl (by simp [hg]) ?_
   refine awp_skip ?_
   refine hK _ _ ?_
   clear hK K
   refine awp_region ?_
   simp [wrap_succ (show k < 4611686018427387904 by omega)]
   refine ⟨fun x hm=>?_,?_⟩
   ·rw [take_one hx] at hm
    simp only [List.mem_append,List.mem_singleton] at hm
    rcases hm with hm | rfl
    ·exact hi x hm
    ·exact hg
   ·refine weak_HL (hcl) (by simp) (by simp) (by simp)
 ·repeat with_reducible refine awp_assoc ?_
  refine awp_sr fun K hK=>?_
  simp
  refine hK _ _ ?_
  clear hK K
  repeat with_reducible refine awp_assoc ?_
  refine awp_seq_k fun K hK=>?_
  refine awp_condF rfl (by simp) ?_
  refine awp_exit ?_
  simp
  clear hK K
  refine hK _ _ ?_
  clear hK K
  repeat with_reducible refine awp_assoc ?_
  refine awp_sr fun K hK=>?_
  simp
  refine hK _ _ ?_
  clear hK K
  rw [List.take_length] at hi
  have e:(Ty.mk nm l).good=true:=by rw [good_eq,hnd,List.all_eq_true.2 hi];rfl
  simp [e,reset_all hcl]
theorem rValidate_c (t:Ty) (H:AHeap):ACalls Tryz.prog 15 [t.enc] H (intV t.valid) H:=by
 have hc:=count_c t 40 0
 have hg:=areNodes_c t
 obtain ⟨nm,l⟩:=t
 simp only [Ty.enc,Ty.cells,cellsL_eq] at hc hg
 have hb:=big_le (.mk nm l) 40 0 (by omega)
 refine acalls_walk (fun _=>.imm) [0,1,2,5,8] Tryz.mixed Tryz.func15 rfl rfl rfl (by decide) (fun hcl hlow=>?_)
 simp only [Ty.enc,Ty.cells]
 repeat with_reducible refine awp_assoc ?_
 refine awp_sr fun K hK=>?_
 simp
 refine hK _ _ ?_
 clear hK K
 cases hl:(Ty.mk nm l).large
 rotate_left
 ·have ec:cntR (big (.mk nm l) 40 0)=-1:=by unfold cntR;rw [if_pos (show (big (.mk nm l) 40 0).1=true from hl)]
  repeat with_reducible refine awp_assoc ?_
  refine awp_sr fun K hK=>?_
  refine aOps_split 1 fun K hK=>?_
  simp
  refine hK _ _ ?_
  clear hK K
  refine aOps_call (hc _ (by omega) (by omega)) (by first | rfl | simp) rfl rfl rfl ?_
  simp [ec]
  refine hK _ _ ?_
  clear hK K
  repeat with_reducible refine awp_assoc ?_
  refine awp_seq_k fun K hK=>?_
  refine awp_condT rfl (by simp) ?_
  repeat with_reducible refine awp_assoc ?_
  refine awp_sr fun K hK=>?_
  simp
  refine hK _ _ ?_
  clear hK K
  simp [Ty.valid,hl,reset_all hcl]
 have hl':(big (.mk nm l) 40 0).1=false:=hl
 have ec:cntR (big (.mk nm l) 40 0)=200 - ((big (.mk nm l) 40 0).2:Int):=by simp [cntR,hl']
 have h3:=hb.2.2 hl'
 have h3':¬ (200:Int) - ((big (.mk nm l) 40 0).2:Int) < 0:=by omega
 repeat with_reducible refine awp_assoc ?_
 refine awp_sr fun K hK=>?_
 refine aOps_split 1 fun K hK=>?_
 simp
 refine hK _ _ ?_
 clear hK K
 refine aOps_call (hc _ (by omega) (by omega)) (by first | rfl | simp) rfl rfl rfl ?_
 simp [ec,h3']
 refine hK _ _ ?_
 clear hK K
 repeat with_reducible refine awp_assoc ?_
 refine awp_seq_k fun K hK=>?_
 refine awp_condF rfl (by simp) ?_
 refine awp_skip ?_
 refine hK _ _ ?_
 clear hK K
 repeat with_reducible refine awp_assoc ?_
 refine awp_sr fun K hK=>?_
 refine aOps_split 1 fun K hK=>?_
 simp
 refine hK _ _ ?_
 clear hK K
 refine aOps_call (hg (by have:=large_cnt hl;omega) _) (by first | rfl | simp) rfl rfl rfl ?_
 simp
 refine hK _ _ ?_
 clear hK K
 cases hgd:(Ty.mk nm l).good
 ·repeat with_reducible refine awp_assoc ?_
  refine awp_seq_k fun K hK=>?_
  refine awp_condT rfl (by simp [hgd]) ?_
  repeat with_reducible refine awp_assoc ?_
  refine awp_sr fun K hK=>?_
  simp
  refine hK _ _ ?_
  clear hK K
  simp [Ty.valid,hl,hgd,reset_all hcl]
 ·repeat with_reducible refine awp_assoc ?_
  refine awp_seq_k fun K hK=>?_
  refine awp_condF rfl (by simp [hgd]) ?_
  refine awp_skip ?_
  refine hK _ _ ?_
  clear hK K
  repeat with_reducible refine awp_assoc ?_
  refine awp_sr fun K hK=>?_
  simp
  refine hK _ _ ?_
  clear hK K
  simp [Ty.valid,hl,hgd,reset_all hcl]
end Go.Proofs.YtlhoigpidpokfaaGreat
namespace Go.Proofs.YtlhoigpidpokfaaGreat
open Go Go.Abs Go.Proofs
set_option maxRecDepth 20000
attribute [local simp] aOps wantedA aStep aop aLoad aStore aBin aUn aFieldAddr aField aIndexAddr aIndex aLen aBuild aFill aAlloc aAppend aAppendOwn aMin aMax aBuildSlice litRows newRows isMut isOwn isNilS nilsW bytesR tokW tokAV tokL ret readC splice aeval isLit isLate isCut aCut AV.celled AV.one AV.ofValue Value.oneCell' Value.cells intOp strOp get_nid upd_nid awp aEnd aResults aResult Det unord isCall isNext
attribute [local simp] low_take low_strs low_comp low_tcomp wkEs_refl' WkBs WkEnv WkB WkL WkE WkO ABlock.low lowO lowL lowR AV.low cellsL_eq Ty.low low_map Ty.cells_length Ty.cells_one
theorem text2 (n:ByteArray) (l:List Ty):textT (.mk n l) 2=if 0 < l.length then parS (textT (.mk n l) 0) else textT (.mk n l) 0:=by
 simp only [textT,textE_eq,nodeT,List.length_map]
 by_cases h:n=arrowN∧l.length=2
 ·rw [if_pos h,if_pos (by omega),if_pos (by omega),if_pos h];rfl
 ·rw [if_neg h,if_neg h]
  by_cases h0:0 < l.length
  ·rw [if_pos ⟨by omega,h0⟩,if_pos h0];rfl
  ·rw [if_neg (by omega),if_neg h0];rfl
theorem showArg_of (t:Ty) (hwt:t.wt < 1152921504606846976) (hs:∀ H,ACalls Tryz.prog 96 [t.enc] H (strV (textT t 0)) H) (H:AHeap) :
  ACalls Tryz.prog 123 [t.enc] H (strV (textT t 2)) H:=by
 have hsz:=text_size t 0
 obtain ⟨n,l⟩:=t
 rw [text2]
 simp only [Ty.enc,Ty.cells,cellsL_eq] at hs
 refine acalls_walk (fun _=>.imm) [0,1,2,6] Tryz.mixed Tryz.func123 rfl rfl rfl (by decide) (fun hcl hlow=>?_)
 simp only [Ty.enc,Ty.cells]
 repeat with_reducible refine awp_assoc ?_
 refine awp_sr fun K hK=>?_
 simp
 refine hK _ _ ?_
 clear hK K
 by_cases h0:0 < l.length
 ·have h0':(0:Int) < l.length:=by omega
  repeat with_reducible refine awp_assoc ?_
  refine awp_sr fun K hK=>?_
  simp [h0']
  refine hK _ _ ?_
  clear hK K
  repeat with_reducible refine awp_assoc ?_
  refine awp_seq_k fun K hK=>?_
  refine awp_condT rfl (by simp [h0]) ?_
  refine awp_sr fun K hK=>?_
  refine aOps_split 1 fun K hK=>?_
  simp
  refine hK _ _ ?_
  clear hK K
  refine aOps_call (hs _) (by first | rfl | simp) rfl rfl rfl ?_
  simp
  simp only [show (⟨#[40]⟩:ByteArray).size=1 from rfl,show (⟨#[41]⟩:ByteArray).size=1 from rfl]
  refine ⟨by omega,by omega,hK _ _ ?_⟩
  clear hK K
  rw [if_pos h0]
  simp [parS,opS,clS,ByteArray.append_assoc,reset_all hcl]
 ·have h0':l.length=0:=by omega
  repeat with_reducible refine awp_assoc ?_
  refine awp_sr fun K hK=>?_
  simp [h0']
  refine hK _ _ ?_
  clear hK K
  repeat with_reducible refine awp_assoc ?_
  refine awp_seq_k fun K hK=>?_
  refine awp_condF rfl (by simp) ?_
  refine awp_skip ?_
  refine hK _ _ ?_
  clear hK K
  repeat with_reducible refine awp_assoc ?_
  refine awp_sr fun K hK=>?_
  refine aOps_split 1 fun K hK=>?_
  simp
  refine hK _ _ ?_
  clear hK K
  refine aOps_call (hs _) (by first | rfl | simp) rfl rfl rfl ?_
  simp
  refine hK _ _ ?_
  clear hK K
  rw [if_neg h0]
  simp [reset_all hcl]
theorem node_arrow {n:ByteArray} {l:List Ty} (h:(Ty.mk n l).node=true) (hn:n=arrowN):l.length=2:=by
 unfold Ty.node at h
 rw [if_pos (show (Ty.mk n l).name=arrowN from hn)] at h
 have:=of_decide_eq_true h
 have e:(Ty.mk n l).args=l:=rfl
 rw [e] at this;omega
theorem show_c:∀ (t:Ty),t.good=true→t.wt < 1152921504606846976→∀ H,ACalls Tryz.prog 96 [t.enc] H (strV (textT t 0)) H:=by
 intro t
 induction t using Ty.ind with
 | h n l ih =>
 intro hg hwt H
 rw [good_eq,Bool.and_eq_true,List.all_eq_true] at hg
 obtain ⟨hnode,hgl⟩:=hg
 have hps:∀ m,(plainT n ((l.map textT).take m)).size≤n.size+wtL (l.take m):=fun m=>by rw [←List.map_take];exact plainT_size fun t ht=>text_size t 2
 have hlw:=wtL_len l
 have hwl:=wtL_take l
 have hnl:n.size+8+wtL l=(Ty.mk n l).wt:=rfl
 refine acalls_walk (fun _=>.imm) [0,1,2,3,4,5,8,19,37] Tryz.mixed Tryz.func96 rfl rfl rfl (by decide) (fun hcl hlow=>?_)
 simp only [Ty.enc,Ty.cells]
 repeat with_reducible refine awp_assoc ?_
 refine awp_sr fun K hK=>?_
 simp
 refine hK _ _ ?_
 clear hK K
 by_cases hn:n=arrowN
 ·have h2:=node_arrow hnode hn
  subst hn
  obtain ⟨a,b,rfl⟩:∃ a b,l=[a,b]:=by
   match l,h2 with
   | [a,b],_=>exact ⟨a,b,rfl⟩
  simp only [wtL] at hnl
  have e:textT (.mk arrowN [a,b]) 0=textT a 1++arS++textT b 0:=by
   simp [textT,textE,nodeT]
  have hsa:=text_size a 1
  have hsa0:=text_size a 0
  have hsb:=text_size b 0
  have hca:=ih a (by simp) (hgl a (by simp)) (by omega)
  have hcb:=ih b (by simp) (hgl b (by simp)) (by omega)
  have hga:=hgl a (by simp)
  obtain ⟨na,la⟩:=a
  obtain ⟨nb,lb⟩:=b
  rw [good_eq,Bool.and_eq_true] at hga
  simp only [Ty.enc,Ty.cells,cellsL_eq] at hca hcb
  have h41:(⟨#[41]⟩:ByteArray).size=1:=rfl
  have h40:(⟨#[40]⟩:ByteArray).size=1:=rfl
  have har:(⟨#[32,45,62,32]⟩:ByteArray).size=4:=rfl
  have e1:textT (.mk na la) 1=if na=arrowN then parS (textT (.mk na la) 0) else textT (.mk na la) 0:=by
   by_cases hna:na=arrowN
   ·have h2a:=node_arrow hga.1 hna
    simp [textT,nodeT,textE_eq,hna,h2a]
   ·simp [textT,nodeT,hna]
  repeat with_reducible refine awp_assoc ?_
  refine awp_sr fun K hK=>?_
  simp [arrowN,Ty.cells]
  refine hK _ _ ?_
  clear hK K
  repeat with_reducible refine awp_assoc ?_
  refine awp_seq_k fun K hK=>?_
  refine awp_condT rfl (by simp) ?_
  repeat with_reducible refine awp_assoc ?_
  refine awp_sr fun K hK=>?_
  refine aOps_split 4 fun K hK=>?_
  simp
  refine hK _ _ ?_
  clear hK K
  refine aOps_call (hca _) (by first | rfl | simp) rfl rfl rfl ?_
  simp
  refine hK _ _ ?_
  clear hK K
  by_cases hna:na=arrowN
  ·rw [if_pos hna] at e1
   have hna':na=⟨#[45,62]⟩:=hna
   repeat with_reducible refine awp_assoc ?_
   refine awp_sr fun K hK=>?_
   simp
   refine hK _ _ ?_
   clear hK K
   repeat with_reducible refine awp_assoc ?_
   refine awp_seq_k fun K hK=>?_
   refine awp_condT rfl (by simp [hna']) ?_
   refine awp_region ?_
   simp
   simp only [h40,h41]
   refine ⟨by omega,by omega,hK _ _ ?_⟩
   clear hK K
   repeat with_reducible refine awp_assoc ?_
   refine awp_sr fun K hK=>?_
   refine aOps_split 6 fun K hK=>?_
   rw [e1,parS,ByteArray.size_append,ByteArray.size_append,show opS.size=1 from rfl,show clS.size=1 from rfl] at hsa
   simp
   simp only [h40,h41,har]
   refine ⟨by omega,hK _ _ ?_⟩
   clear hK K
   refine aOps_call (hcb _) (by first | rfl | simp) rfl rfl rfl ?_
   simp
   simp only [h40,h41,har]
   refine ⟨by omega,hK _ _ ?_⟩
   clear hK K
   rw [e,e1]
   simp [parS,opS,clS,arS,ByteArray.append_assoc,reset_all hcl]
  ·rw [if_neg hna] at e1
   have hna':¬ na=⟨#[45,62]⟩:=hna
   repeat with_reducible refine awp_assoc ?_
   refine awp_sr fun K hK=>?_
   simp [hna']
   refine hK _ _ ?_
   clear hK K
   repeat with_reducible refine awp_assoc ?_
   refine awp_seq_k fun K hK=>?_
   refine awp_condF rfl (by simp [hna']) ?_
   refine awp_skip ?_
   refine hK _ _ ?_
   clear hK K
   repeat with_reducible refine awp_assoc ?_
   refine awp_sr fun K hK=>?_
   refine aOps_split 6 fun K hK=>?_
   simp
   simp only [har]
   refine ⟨by omega,hK _ _ ?_⟩
   clear hK K
   refine aOps_call (hcb _) (by first | rfl | simp) rfl rfl rfl ?_
   simp
   simp only [har]
   refine ⟨by omega,hK _ _ ?_⟩
   clear hK K
   rw [e,e1]
   simp [arS,ByteArray.append_assoc,reset_all hcl]
 ·have hn':¬ n=⟨#[45,62]⟩:=hn
  have e:textT (.mk n l) 0=plainT n (l.map textT):=by
   simp [textT,textE_eq,nodeT,hn]
  repeat with_reducible refine awp_assoc ?_
  refine awp_sr fun K hK=>?_
  simp [hn']
  refine hK _ _ ?_
  clear hK K
  repeat with_reducible refine awp_assoc ?_
  refine awp_seq_k fun K hK=>?_
  refine awp_condF rfl (by simp [hn']) ?_
  refine awp_skip ?_
  refine hK _ _ ?_
  clear hK K
  repeat with_reducible refine awp_assoc ?_
  refine awp_sr fun K hK=>?_
  simp
  refine hK _ _ ?_
  clear hK K
  repeat with_reducible refine awp_assoc ?_
  refine awp_sr fun K hK=>?_
  simp
  refine hK _ _ ?_
  clear hK K
  refine awp_seq_k fun K hK=>?_
  refine awp_block ?_
  refine awp_up l.length (fun k=>Env.ofL [(1,.ref (nid H.next 0) 0),(2,strV ⟨#[]⟩),(4,strV (plainT n ((l.map textT).take k))),(5,intV k)]) (fun k=>HL (H) [.cells [strV n,.slice (l.map Ty.cells) none]]) (fun k=>True) (weak_HL (hcl) (by simp) ?_ ?_) ?_ (fun k hk hi=>?_) (fun hi=>?_)
  ·simp
  ·simp
  ·trivial
  ·obtain ⟨x,hx⟩:∃ x,l[k]?=some x:=⟨_,List.getElem?_eq_getElem hk⟩
   have hxw:x.wt≤wtL l:=wtL_mem (List.mem_of_getElem? hx)
   have hsx:=text_size x 2
   have hc:=showArg_of x (by omega) (ih x (List.mem_of_getElem? hx) (hgl x (List.mem_of_getElem? hx)) (by omega))
   have e1:plainT n ((l.map textT).take (k+1))=plainT n ((l.map textT).take k)++(spS++textT x 2):=by
    rw [take_one (show (l.map textT)[k]?=some (textT x) by simp [hx]),plainT_append]
   have hp0:=hps k
   have hp1:=hps (k+1)
   rw [e1,ByteArray.size_append,ByteArray.size_append,show spS.size=1 from rfl] at hp1
   have hw1:=hwl k
   have hw2:=hwl (k+1)
   obtain ⟨nx,lx⟩:=x
   simp only [Ty.enc,Ty.cells,cellsL_eq] at hc
   repeat with_reducible refine awp_assoc ?_
   refine awp_sr fun K hK=>?_
   simp [hk]
   refine hK _ _ ?_
   clear hK K
   repeat with_reducible refine awp_assoc ?_
   refine awp_seq_k fun K hK=>?_
   refine awp_condT rfl (by simp) ?_
   refine awp_skip ?_
   refine hK _ _ ?_
   clear hK K
   refine awp_seq_k fun K hK=>?_
   refine awp_block ?_
   refine awp_region ?_
   refine aOps_split 6 fun K hK=>?_
   simp [hx,Ty.cells]
   refine hK _ _ ?_
   clear hK K
   refine aOps_call (hc _) (by first | rfl | simp) rfl rfl rfl ?_
   simp
   simp only [show (⟨#[32]⟩:ByteArray).size=1 from rfl]
   refine ⟨by omega,by omega,hK _ _ ?_⟩
   clear hK K
   refine awp_region ?_
   simp [wrap_succ (show k < 4611686018427387904 by omega)]
   rw [e1]
   refine weak_HL (hcl) (by simp) (by simp [spS]) (by simp [spS])
  ·repeat with_reducible refine awp_assoc ?_
   refine awp_sr fun K hK=>?_
   simp
   refine hK _ _ ?_
   clear hK K
   repeat with_reducible refine awp_assoc ?_
   refine awp_seq_k fun K hK=>?_
   refine awp_condF rfl (by simp) ?_
   refine awp_exit ?_
   simp
   clear hK K
   refine hK _ _ ?_
   clear hK K
   have et:(l.map textT).take l.length=l.map textT:=List.take_of_length_le (by simp)
   rw [et]
   repeat with_reducible refine awp_assoc ?_
   refine awp_sr fun K hK=>?_
   simp
   refine hK _ _ ?_
   clear hK K
   rw [e]
   simp [reset_all hcl]
theorem Ty.not_large {t:Ty} (h:t.valid=0):t.large=false:=by
 unfold Ty.valid at h
 cases hl:t.large
 ·rfl
 ·rw [hl] at h;simp at h
attribute [local simp] low_bind
theorem good_var {n:ByteArray} {l:List Ty} (h:(Ty.mk n l).good=true) (hv:headP smallB n=true):l=[]:=by
 rw [good_eq,Bool.and_eq_true] at h
 have h1:=h.1
 unfold Ty.node at h1
 have hna:¬ (Ty.mk n l).name=arrowN:=by
  rintro (e:n=arrowN)
  rw [e] at hv;cases hv
 rw [if_neg hna,if_pos (show (Ty.mk n l).isVar=true from hv),Bool.and_eq_true] at h1
 have:=of_decide_eq_true h1.2
 have e:(Ty.mk n l).args=l:=rfl
 rw [e] at this
 exact List.eq_nil_of_length_eq_zero (by omega)
theorem good_arg {n:ByteArray} {l:List Ty} (h:(Ty.mk n l).good=true) {x:Ty} (hx:x∈l):x.good=true:=by
 rw [good_eq,Bool.and_eq_true,List.all_eq_true] at h
 exact h.2 x hx
end Go.Proofs.YtlhoigpidpokfaaGreat
namespace Go.Proofs.YtlhoigpidpokfaaGreat
open Go Go.Abs Go.Proofs
set_option maxRecDepth 20000
attribute [local simp] aOps wantedA aStep aop aLoad aStore aBin aUn aFieldAddr aField aIndexAddr aIndex aLen aBuild aFill aAlloc aAppend aAppendOwn aMin aMax aBuildSlice litRows newRows isMut isOwn isNilS nilsW bytesR tokW tokAV tokL ret readC splice aeval isLit isLate isCut aCut AV.celled AV.one AV.ofValue Value.oneCell' Value.cells intOp strOp get_nid upd_nid awp aEnd aResults aResult Det unord isCall isNext
attribute [local simp] low_take low_strs low_comp low_tcomp wkEs_refl' WkBs WkEnv WkB WkL WkE WkO ABlock.low lowO lowL lowR AV.low cellsL_eq Ty.low low_map Ty.cells_length Ty.cells_one
abbrev strs (l:List ByteArray) (t:Option Nat):AV:=.slice (l.map fun s=>[strV s]) t
theorem good_fold {n:ByteArray} {l:List Ty} (h:(Ty.mk n l).isVar=false) (out:List ByteArray):(Ty.mk n l).nodes.foldl nameStep out=(nodesL l).foldl nameStep out:=by
 rw [Ty.nodes,List.foldl_cons]
 have:nameStep out (.mk n l)=out:=by simp [nameStep,h]
 rw [this]
theorem rnames_c:∀ (t:Ty),t.good=true→∀ (out:List ByteArray) (i:Nat) (H:AHeap),out.length+t.cnt < 1099511627776→H.get i=some (.tok out.length 1 none) →
  ACalls Tryz.prog 122 [t.enc,strs out (some i)] H (strs (t.nodes.foldl nameStep out) (some i)) (H.upd i (.tok (t.nodes.foldl nameStep out).length 1 none)):=by
 intro t
 induction t using Ty.ind with
 | h nm l ih =>
 intro hgood out i H hsz hH
 have hcnt:(Ty.mk nm l).cnt=(nodesL l).length+1:=by simp [Ty.cnt,Ty.nodes]
 have hll:=nodesL_len l
 have hvc:=rIsVar_c (.mk nm l)
 simp only [enc_mk] at hvc
 refine acalls_walk (fun _=>.imm) [0,1,2,4,5,6,14,18,27,38] Tryz.mixed Tryz.func122 rfl rfl rfl (by decide) (fun hcl hlow=>?_)
 simp only [Ty.enc,Ty.cells]
 have hil:i < H.next:=(hcl _ _ hH).1
 have hg:∀ bs,(HL H bs).get i=some (.tok out.length 1 none):=fun bs=>by rw [get_lt hil];exact hH
 repeat with_reducible refine awp_assoc ?_
 refine awp_sr fun K hK=>?_
 simp
 refine hK _ _ ?_
 clear hK K
 repeat with_reducible refine awp_assoc ?_
 refine awp_sr fun K hK=>?_
 refine aOps_split 1 fun K hK=>?_
 simp
 refine hK _ _ ?_
 clear hK K
 refine aOps_call (hvc _) (by first | rfl | simp) rfl rfl (by first | (simp;done) | rfl) ?_
 cases hv:(Ty.mk nm l).isVar
 rotate_left
 ·obtain rfl:=good_var hgood hv
  simp
  refine hK _ _ ?_
  clear hK K
  repeat with_reducible refine awp_assoc ?_
  refine awp_seq_k fun K hK=>?_
  refine awp_condT rfl (by simp) ?_
  repeat with_reducible refine awp_assoc ?_
  refine awp_sr fun K hK=>?_
  simp
  refine hK _ _ ?_
  clear hK K
  have e0:(Ty.mk nm []).nodes.foldl nameStep out=nameStep out (.mk nm []):=rfl
  refine awp_seq_k fun K hK=>?_
  refine awp_block ?_
  refine awp_up out.length (fun k=>Env.ofL [(1,strs out (some i)),(2,.ref (nid H.next 0) 0),(4,.v (.slice none 0 0)),(5,intV k)]) (fun k=>HL (H) [.cells [strV nm,.slice [] none]]) (fun k=>∀ s∈out.take k,¬ s=nm) (weak_HL (hcl) (by simp) ?_ ?_) ?_ (fun k hk hi=>?_) (fun hi=>?_)
  ·simp [lt_nid hil]
  ·simp [lt_nid hil]
  ·simp
  ·obtain ⟨x,hx⟩:∃ x,out[k]?=some x:=⟨_,List.getElem?_eq_getElem hk⟩
   repeat with_reducible refine awp_assoc ?_
   refine awp_sr fun K hK=>?_
   simp [hk]
   refine hK _ _ ?_
   clear hK K
   repeat with_reducible refine awp_assoc ?_
   refine awp_seq_k fun K hK=>?_
   refine awp_condT rfl (by simp) ?_
   refine awp_skip ?_
   refine hK _ _ ?_
   clear hK K
   refine awp_seq_k fun K hK=>?_
   refine awp_block ?_
   repeat with_reducible refine awp_assoc ?_
   refine awp_sd [] [[],[0],[],[],[0,1,2,3],[0,1,2,3],[]] (by kernel_rfl) fun K hK=>?_
   refine aLex_pre 7 rfl fun K hK=>?_
   simp [hx]
   refine hK _ ?_
   clear hK K
   refine aLex_end ?_
   simp
   refine hK _ _ ?_
   clear hK K
   by_cases hs:x=nm
   ·refine awp_condT rfl (by simp [hs]) ?_
    repeat with_reducible refine awp_assoc ?_
    refine awp_sr fun K hK=>?_
    simp
    refine hK _ _ ?_
    clear hK K
    have e:nameStep out (.mk nm [])=out:=by
     have:memS nm out=true:=memS_iff.2 (by rw [←hs];exact List.mem_of_getElem? hx)
     simp [nameStep,hv,Ty.name,this]
    rw [e0,e,upd_same hH]
    simp [reset_all hcl,hil]
   ·refine awp_condF rfl (by simp [hs]) ?_
    refine awp_skip ?_
    refine hK _ _ ?_
    clear hK K
    refine awp_region ?_
    simp [wrap_succ (show k < 4611686018427387904 by omega)]
    refine ⟨fun s hm=>?_,?_⟩
    ·rw [take_one hx] at hm
     simp only [List.mem_append,List.mem_singleton] at hm
     rcases hm with hm | rfl
     ·exact hi s hm
     ·exact hs
    ·refine weak_HL (hcl) (by simp) (by simp [lt_nid hil]) (by simp [lt_nid hil])
  ·repeat with_reducible refine awp_assoc ?_
   refine awp_sr fun K hK=>?_
   simp
   refine hK _ _ ?_
   clear hK K
   repeat with_reducible refine awp_assoc ?_
   refine awp_seq_k fun K hK=>?_
   refine awp_condF rfl (by simp) ?_
   refine awp_exit ?_
   simp
   clear hK K
   refine hK _ _ ?_
   clear hK K
   rw [List.take_length] at hi
   have e:nameStep out (.mk nm [])=out++[nm]:=by
    have:memS nm out=false:=by
     rw [←Bool.not_eq_true,memS_iff]
     exact fun hm=>hi nm hm rfl
    simp [nameStep,hv,Ty.name,this]
   have u1:∀ b bs,(HL H bs).upd i b=HL (H.upd i b) bs:=fun b bs=>upd_lt hil
   refine awp_sr fun K hK=>?_
   simp [hg,u1]
   refine ⟨by omega,hK _ _ ?_⟩
   clear hK K
   rw [e0,e]
   simp [hil]
   exact ⟨by show Wk _ (.slice _ _);rw [List.map_append];exact .refl _,reset_all (closed_upd (b:=.tok _ 1 none) hcl hil trivial)⟩
 simp
 refine hK _ _ ?_
 clear hK K
 repeat with_reducible refine awp_assoc ?_
 refine awp_seq_k fun K hK=>?_
 refine awp_condF rfl (by simp) ?_
 refine awp_skip ?_
 refine hK _ _ ?_
 clear hK K
 repeat with_reducible refine awp_assoc ?_
 refine awp_sr fun K hK=>?_
 simp
 refine hK _ _ ?_
 clear hK K
 rw [good_fold hv]
 refine awp_seq_k fun K hK=>?_
 refine awp_block ?_
 refine awp_up l.length (fun k=>Env.ofL [(1,strs ((nodesL (l.take k)).foldl nameStep out) (some i)),(2,.ref (nid H.next 0) 0),(4,.v (.slice none 0 0)),(6,intV k)])
  (fun k=>HL (H.upd i (.tok ((nodesL (l.take k)).foldl nameStep out).length 1 none)) [.cells [strV nm,.slice (l.map Ty.cells) none]]) (fun k=>True)
  (by simp only [List.take_zero,nodesL,List.foldl_nil,upd_same hH];exact weak_HL hcl rfl (by simp) (by simp [lt_nid hil])) trivial (fun k hk _=>?_) (fun _=>?_)
 ·obtain ⟨x,hx⟩:∃ x,l[k]?=some x:=⟨_,List.getElem?_eq_getElem hk⟩
  have hlen:(nodesL (l.take k)).length+x.cnt≤(nodesL l).length:=by
   have h1:=congrArg List.length (nodesL_take hx)
   have h2:nodesL l=nodesL (l.take (k+1))++nodesL (l.drop (k+1)):=by rw [←nodesL_append,List.take_append_drop]
   have h3:=congrArg List.length h2
   rw [List.length_append] at h1 h3;simp only [Ty.cnt];omega
  have e1:(nodesL (l.take (k+1))).foldl nameStep out=x.nodes.foldl nameStep ((nodesL (l.take k)).foldl nameStep out):=by
   rw [nodesL_take hx,List.foldl_append]
  have hfl:=fold_len (nodesL (l.take k)) out
  generalize hsk:(nodesL (l.take k)).foldl nameStep out=sk at e1 hfl ⊢
  have hclk:∀ n,(H.upd i (.tok n 1 none)).Closed:=fun n=>closed_upd (b:=.tok _ 1 none) hcl hil trivial
  have hgk:∀ n bs,(HL (H.upd i (.tok n 1 none)) bs).get i=some (.tok n 1 none):=fun n bs=>by rw [get_lt (by exact hil)];exact get_upd_self
  have hc:=ih x (List.mem_of_getElem? hx) (good_arg hgood (List.mem_of_getElem? hx)) sk i (HL (H.upd i (.tok sk.length 1 none)) [.cells [strV nm,.slice (l.map Ty.cells) none]]) (by omega) (hgk _ _)
  rw [upd_lt (by exact hil),upd_upd,←e1] at hc
  obtain ⟨n',l'⟩:=x
  simp only [enc_mk] at hc
  repeat with_reducible refine awp_assoc ?_
  refine awp_sr fun K hK=>?_
  simp [hk]
  refine hK _ _ ?_
  clear hK K
  repeat with_reducible refine awp_assoc ?_
  refine awp_seq_k fun K hK=>?_
  refine awp_condT rfl (by simp) ?_
  refine awp_skip ?_
  refine hK _ _ ?_
  clear hK K
  refine awp_seq_k fun K hK=>?_
  refine awp_block ?_
  refine awp_region ?_
  refine aOps_split 6 fun K hK=>?_
  simp [hx,Ty.cells]
  refine hK _ _ ?_
  clear hK K
  refine aOps_call hc (by first | rfl | simp) rfl rfl rfl ?_
  simp
  refine hK _ _ ?_
  clear hK K
  refine awp_region ?_
  simp [wrap_succ (show k < 4611686018427387904 by omega)]
  exact weak_HL (hclk _) rfl (by simp) (by simp [lt_nid hil])
 ·rw [List.take_length]
  repeat with_reducible refine awp_assoc ?_
  refine awp_sr fun K hK=>?_
  simp
  refine hK _ _ ?_
  clear hK K
  repeat with_reducible refine awp_assoc ?_
  refine awp_seq_k fun K hK=>?_
  refine awp_condF rfl (by simp) ?_
  refine awp_exit ?_
  simp
  clear hK K
  refine hK _ _ ?_
  clear hK K
  repeat with_reducible refine awp_assoc ?_
  refine awp_sr fun K hK=>?_
  simp
  refine hK _ _ ?_
  clear hK K
  simp [hil]
  exact reset_all (closed_upd (b:=.tok _ 1 none) hcl hil trivial)
theorem Names_c (t:Ty) (hg:t.good=true) (hsz:t.cnt < 1099511627776) (H:AHeap):ACalls Tryz.prog 89 [t.enc] H (strs (t.nodes.foldl nameStep []) none) H:=by
 have hn:=rnames_c t hg []
 obtain ⟨nm,l⟩:=t
 simp only [enc_mk] at hn
 generalize hr:(Ty.mk nm l).nodes.foldl nameStep []=r at hn ⊢
 refine acalls_walk (fun _=>.imm) [0,1,2] Tryz.mixed Tryz.func89 rfl rfl rfl (by decide) (fun hcl hlow=>?_)
 simp only [Ty.enc,Ty.cells]
 repeat with_reducible refine awp_assoc ?_
 refine awp_sr fun K hK=>?_
 simp
 refine hK _ _ ?_
 clear hK K
 have h1:=hn (nid H.next 1) (HL H [.cells [strV nm,.slice (l.map Ty.cells) none],.tok 0 1 none]) (by simpa using hsz) (by rw [get_nid rfl];rfl)
 rw [upd_nid rfl (by simp)] at h1
 have hc:=acalls_nil (H:=HL H [.cells [strV nm,.slice (l.map Ty.cells) none]]) (z:=1) (pre:=[.agg [strV nm,.slice (l.map Ty.cells) none]]) (post:=[]) (by rw [alloc_HL];exact h1)
 repeat with_reducible refine awp_assoc ?_
 refine awp_sr fun K hK=>?_
 refine aOps_split 1 fun K hK=>?_
 simp
 refine hK _ _ ?_
 clear hK K
 refine aOps_call hc (by first | rfl | simp) rfl rfl rfl ?_
 simp
 refine hK _ _ ?_
 clear hK K
 simp
 exact reset_all hcl
attribute [local simp] low_bind
def aS:ByteArray:=⟨#[97]⟩
def bS:ByteArray:=⟨#[98]⟩
def listN:ByteArray:=⟨#[76,105,115,116]⟩
def intN:ByteArray:=⟨#[73,110,116]⟩
set_option maxRecDepth 10000 in
theorem same_c:∀ (a b:Ty),a.cnt < 4611686018427387904→∀ H,ACalls Tryz.prog 21 [a.enc,b.enc] H (boolV (eqT a b)) H:=by
 intro a
 induction a using Ty.ind with
 | h n l ih =>
 intro b hsz H
 obtain ⟨m,l'⟩:=b
 have hcnt:(Ty.mk n l).cnt=(nodesL l).length+1:=by simp [Ty.cnt,Ty.nodes]
 have hll:=nodesL_len l
 refine acalls_walk (fun _=>.imm) [0,1,2,3,4,5,19,24,38] Tryz.mixed Tryz.func21 rfl rfl rfl (by decide) (fun hcl hlow=>?_)
 simp only [Ty.enc,Ty.cells]
 repeat with_reducible refine awp_assoc ?_
 refine awp_sr fun K hK=>?_
 simp
 refine hK _ _ ?_
 clear hK K
 by_cases hn:n=m
 rotate_left
 ·repeat with_reducible refine awp_assoc ?_
  refine awp_sr fun K hK=>?_
  refine aOps_split 6 fun K hK=>?_
  simp [hn]
  refine hK _ _ ?_
  clear hK K
  refine aOps_split 8 fun K hK=>?_
  simp
  refine hK _ _ ?_
  clear hK K
  simp
  refine hK _ _ ?_
  clear hK K
  repeat with_reducible refine awp_assoc ?_
  refine awp_seq_k fun K hK=>?_
  refine awp_condT rfl (by simp) ?_
  repeat with_reducible refine awp_assoc ?_
  refine awp_sr fun K hK=>?_
  simp
  refine hK _ _ ?_
  clear hK K
  have e:eqT (.mk n l) (.mk m l')=false:=by rw [eqT_false];simp [hn]
  simp [e,reset_all hcl]
 subst hn
 by_cases hlen:l.length=l'.length
 rotate_left
 ·repeat with_reducible refine awp_assoc ?_
  refine awp_sr fun K hK=>?_
  refine aOps_split 6 fun K hK=>?_
  simp
  refine hK _ _ ?_
  clear hK K
  refine aOps_split 8 fun K hK=>?_
  simp [show ¬ (l.length:Int)=l'.length by omega]
  refine hK _ _ ?_
  clear hK K
  simp
  refine hK _ _ ?_
  clear hK K
  repeat with_reducible refine awp_assoc ?_
  refine awp_seq_k fun K hK=>?_
  refine awp_condT rfl (by simp) ?_
  repeat with_reducible refine awp_assoc ?_
  refine awp_sr fun K hK=>?_
  simp
  refine hK _ _ ?_
  clear hK K
  have e:eqT (.mk n l) (.mk n l')=false:=by rw [eqT_false];simp;rintro rfl;exact hlen rfl
  simp [e,reset_all hcl]
 repeat with_reducible refine awp_assoc ?_
 refine awp_sr fun K hK=>?_
 refine aOps_split 6 fun K hK=>?_
 simp
 refine hK _ _ ?_
 clear hK K
 refine aOps_split 8 fun K hK=>?_
 simp [hlen]
 refine hK _ _ ?_
 clear hK K
 simp
 refine hK _ _ ?_
 clear hK K
 repeat with_reducible refine awp_assoc ?_
 refine awp_seq_k fun K hK=>?_
 refine awp_condF rfl (by simp [hlen]) ?_
 refine awp_skip ?_
 refine hK _ _ ?_
 clear hK K
 repeat with_reducible refine awp_assoc ?_
 refine awp_sr fun K hK=>?_
 simp
 refine hK _ _ ?_
 clear hK K
 refine awp_seq_k fun K hK=>?_
 refine awp_block ?_
 refine awp_up l.length (fun k=>Env.ofL [(2,.ref (nid H.next 0) 0),(3,.ref (nid H.next 1) 0),(4,boolV false),(5,intV k)]) (fun k=>HL (H) [.cells [strV n,.slice (l.map Ty.cells) none],.cells [strV n,.slice (l'.map Ty.cells) none]]) (fun k=>l.take k=l'.take k) (weak_HL (hcl) (by simp) ?_ ?_) ?_ (fun k hk hi=>?_) (fun hi=>?_)
 ·simp
 ·simp
 ·simp
 ·obtain ⟨x,hx⟩:∃ x,l[k]?=some x:=⟨_,List.getElem?_eq_getElem hk⟩
  obtain ⟨y,hy⟩:∃ y,l'[k]?=some y:=⟨_,List.getElem?_eq_getElem (by omega)⟩
  have hxc:=cnt_mem hx
  repeat with_reducible refine awp_assoc ?_
  refine awp_sr fun K hK=>?_
  simp [hk]
  refine hK _ _ ?_
  clear hK K
  repeat with_reducible refine awp_assoc ?_
  refine awp_seq_k fun K hK=>?_
  refine awp_condT rfl (by simp) ?_
  refine awp_skip ?_
  refine hK _ _ ?_
  clear hK K
  refine awp_seq_k fun K hK=>?_
  refine awp_block ?_
  have hc:=ih x (List.mem_of_getElem? hx) y (by omega)
  obtain ⟨nx,lx⟩:=x
  obtain ⟨ny,ly⟩:=y
  simp only [enc_mk] at hc
  repeat with_reducible refine awp_assoc ?_
  refine awp_sdc [] [[],[],[0,1],[],[],[0,1,2,3,4],[0,1,2,3,4],[0,1,2,3,4,5,6],[0,1,2,3,4],[0,1,2,3,4],[0,5],[0,1,2,5,6,7]] (by kernel_rfl) (by rfl) fun K hK=>?_
  refine aCalm_pre 10 (by rfl) fun K hK=>?_
  simp [hx,hy,Ty.cells]
  refine hK _ _ ?_
  clear hK K
  refine aCalm_call0 (hc _) (by first | rfl | simp) rfl rfl rfl (by first | (simp;done) | rfl) ?_
  refine aCalm_pre 1 (by rfl) fun K hK=>?_
  simp
  refine hK _ _ ?_
  clear hK K
  refine aCalm_end ?_
  simp
  refine hK _ _ ?_
  clear hK K
  cases he:eqT (.mk nx lx) (.mk ny ly)
  ·refine awp_condT rfl (by simp [he]) ?_
   repeat with_reducible refine awp_assoc ?_
   refine awp_sr fun K hK=>?_
   simp
   refine hK _ _ ?_
   clear hK K
   have e:eqT (.mk n l) (.mk n l')=false:=by
    rw [eqT_false];rintro h;cases h
    rw [hx] at hy;simp at hy
    rw [eqT_false] at he;simp at he;exact he hy.1 hy.2
   simp [e,reset_all hcl]
  ·refine awp_condF rfl (by simp [he]) ?_
   refine awp_skip ?_
   refine hK _ _ ?_
   clear hK K
   refine awp_region ?_
   simp [wrap_succ (show k < 4611686018427387904 by omega)]
   refine ⟨?_,?_⟩
   ·rw [take_one hx,take_one hy,hi,(eqT_iff _ _).1 he]
   ·refine weak_HL (hcl) (by simp) (by simp) (by simp)
 ·repeat with_reducible refine awp_assoc ?_
  refine awp_sr fun K hK=>?_
  simp
  refine hK _ _ ?_
  clear hK K
  repeat with_reducible refine awp_assoc ?_
  refine awp_seq_k fun K hK=>?_
  refine awp_condF rfl (by simp) ?_
  refine awp_exit ?_
  simp
  clear hK K
  refine hK _ _ ?_
  clear hK K
  repeat with_reducible refine awp_assoc ?_
  refine awp_sr fun K hK=>?_
  simp
  refine hK _ _ ?_
  clear hK K
  rw [List.take_length,hlen,List.take_length] at hi
  subst hi
  have e:eqT (.mk n l) (.mk n l)=true:=(eqT_iff _ _).2 rfl
  simp [e,reset_all hcl]
theorem namesAll_c (ts:List Ty) (hg:∀ t∈ts,t.good=true) (hsz:(nodesL ts).length < 1099511627776) (H:AHeap):ACalls Tryz.prog 86 [.slice (ts.map Ty.cells) none] H (strs (namesL ts) none) H:=by
 have hll:=nodesL_len ts
 refine acalls_walk (fun d=>if d=3 then .nilv 1 else .imm) [0,2,3,4,8] Tryz.mixed Tryz.func86 rfl rfl rfl (by decide) (fun hcl hlow=>?_)
 repeat with_reducible refine awp_assoc ?_
 refine awp_sr fun K hK=>?_
 simp
 refine hK _ _ ?_
 clear hK K
 repeat with_reducible refine awp_assoc ?_
 refine awp_sr fun K hK=>?_
 simp
 refine hK _ _ ?_
 clear hK K
 repeat with_reducible refine awp_assoc ?_
 refine awp_sr fun K hK=>?_
 simp
 refine hK _ _ ?_
 clear hK K
 refine awp_seq_k fun K hK=>?_
 refine awp_block ?_
 refine awp_up ts.length (fun k=>Env.ofL [(0,.slice (ts.map Ty.cells) none),(3,strs (namesL (ts.take k)) (some (nid H.next 0))),(4,intV k)]) (fun k=>HL (H) [.tok (namesL (ts.take k)).length 1 none]) (fun k=>True) (weak_HL (hcl) (by simp) ?_ ?_) ?_ (fun k hk hi=>?_) (fun hi=>?_)
 ·simp [namesL,nodesL,strs]
 ·simp [namesL,nodesL,strs]
 ·trivial
 ·obtain ⟨x,hx⟩:∃ x,ts[k]?=some x:=⟨_,List.getElem?_eq_getElem hk⟩
  have e1:namesL (ts.take (k+1))=x.nodes.foldl nameStep (namesL (ts.take k)):=by unfold namesL;rw [nodesL_take hx,List.foldl_append]
  have hnk:(nodesL (ts.take k)).length+x.cnt≤(nodesL ts).length:=by
   have h1:=congrArg List.length (nodesL_take hx)
   have h2:nodesL ts=nodesL (ts.take (k+1))++nodesL (ts.drop (k+1)):=by rw [←nodesL_append,List.take_append_drop]
   have h3:=congrArg List.length h2
   rw [List.length_append] at h1 h3;simp only [Ty.cnt];omega
  have hle:=names_len (ts.take k)
  rw [e1]
  have hc:=rnames_c x (hg _ (List.mem_of_getElem? hx)) (namesL (ts.take k)) (nid H.next 0) (HL H [.tok (namesL (ts.take k)).length 1 none]) (by omega) (by simp)
  generalize namesL (ts.take k)=out at hc ⊢
  generalize x.nodes.foldl nameStep out=out' at hc ⊢
  obtain ⟨xn,xl⟩:=x
  simp only [enc_mk] at hc
  simp at hc
  repeat with_reducible refine awp_assoc ?_
  refine awp_sr fun K hK=>?_
  simp [hk]
  refine hK _ _ ?_
  clear hK K
  repeat with_reducible refine awp_assoc ?_
  refine awp_seq_k fun K hK=>?_
  refine awp_condT rfl (by simp) ?_
  refine awp_skip ?_
  refine hK _ _ ?_
  clear hK K
  refine awp_seq_k fun K hK=>?_
  refine awp_block ?_
  refine awp_region ?_
  refine aOps_split 5 fun K hK=>?_
  simp [hx,Ty.cells]
  refine hK _ _ ?_
  clear hK K
  refine aOps_call (hc) (by first | rfl | simp) rfl rfl (by first | (simp;done) | rfl) ?_
  simp
  refine hK _ _ ?_
  clear hK K
  refine awp_region ?_
  simp [wrap_succ (show k < 4611686018427387904 by omega)]
  refine weak_HL (hcl) (by simp) (by simp) (by simp)
 ·rw [List.take_length]
  repeat with_reducible refine awp_assoc ?_
  refine awp_sr fun K hK=>?_
  simp
  refine hK _ _ ?_
  clear hK K
  repeat with_reducible refine awp_assoc ?_
  refine awp_seq_k fun K hK=>?_
  refine awp_condF rfl (by simp) ?_
  refine awp_exit ?_
  simp
  clear hK K
  refine hK _ _ ?_
  clear hK K
  repeat with_reducible refine awp_assoc ?_
  refine awp_sr fun K hK=>?_
  simp
  refine hK _ _ ?_
  clear hK K
  simp [reset_all hcl]
end Go.Proofs.YtlhoigpidpokfaaGreat
namespace Go.Proofs.YtlhoigpidpokfaaGreat
open Go Go.Abs Go.Proofs
structure ConD where
 name:ByteArray
 args:List Ty
structure Dat where
 name:ByteArray
 vars:List ByteArray
 cons:List ConD
structure PredD where
 cls:ByteArray
 t:Ty
structure SigD where
 name:ByteArray
 preds:List PredD
 t:Ty
structure ClsD where
 name:ByteArray
 supers:List ByteArray
 ops:List SigD
structure InstD where
 cls:ByteArray
 data:ByteArray
 preds:List PredD
 ra:Option Addr
 rl:Nat
 rc:Nat
structure DeclsD where
 datas:List Dat
 classes:List ClsD
 insts:List InstD
def ConD.cells (c:ConD):List AV:=[strV c.name,.slice (c.args.map Ty.cells) none]
def Dat.cells (d:Dat):List AV:=[strV d.name,strs d.vars none,.slice (d.cons.map ConD.cells) none]
def PredD.cells (p:PredD):List AV:=[strV p.cls,strV p.t.name,.slice (p.t.args.map Ty.cells) none]
def SigD.cells (s:SigD):List AV:=[strV s.name,.slice (s.preds.map PredD.cells) none,strV s.t.name,.slice (s.t.args.map Ty.cells) none]
def ClsD.cells (c:ClsD):List AV:=[strV c.name,strs c.supers none,.slice (c.ops.map SigD.cells) none]
def InstD.cells (i:InstD):List AV:=[strV i.cls,strV i.data,.slice (i.preds.map PredD.cells) none,.v (.slice i.ra i.rl i.rc)]
def DeclsD.cells (d:DeclsD):List AV:=[.slice (d.datas.map Dat.cells) none,.slice (d.classes.map ClsD.cells) none,.slice (d.insts.map InstD.cells) none]
def DeclsD.enc (d:DeclsD):AV:=.agg d.cells
def Dat.enc (d:Dat):AV:=.agg d.cells
theorem low_conC (n:Nat) (c:ConD):lowL n c.cells:=⟨trivial,⟨by simp,lowR_map fun t _=>Ty.low n t⟩,trivial⟩
theorem low_datC (n:Nat) (c:Dat):lowL n c.cells:=⟨trivial,⟨by simp,lowR_map fun _ _=>⟨trivial,trivial⟩⟩,⟨by simp,lowR_map fun t _=>low_conC n t⟩,trivial⟩
theorem low_predC (n:Nat) (c:PredD):lowL n c.cells:=⟨trivial,trivial,⟨by simp,lowR_map fun t _=>Ty.low n t⟩,trivial⟩
theorem low_sigC (n:Nat) (c:SigD):lowL n c.cells:=⟨trivial,⟨by simp,lowR_map fun t _=>low_predC n t⟩,trivial,⟨by simp,lowR_map fun t _=>Ty.low n t⟩,trivial⟩
theorem low_clsC (n:Nat) (c:ClsD):lowL n c.cells:=⟨trivial,⟨by simp,lowR_map fun _ _=>⟨trivial,trivial⟩⟩,⟨by simp,lowR_map fun t _=>low_sigC n t⟩,trivial⟩
theorem low_instC (n:Nat) (c:InstD):lowL n c.cells:=⟨trivial,trivial,⟨by simp,lowR_map fun t _=>low_predC n t⟩,trivial,trivial⟩
theorem low_decls (n:Nat) (d:DeclsD):lowL n d.cells:=⟨⟨by simp,lowR_map fun t _=>low_datC n t⟩,⟨by simp,lowR_map fun t _=>low_clsC n t⟩,⟨by simp,lowR_map fun t _=>low_instC n t⟩,trivial⟩
theorem low_datL (n:Nat) (l:List Dat):lowR n (l.map Dat.cells):=lowR_map fun t _=>low_datC n t
theorem low_conL (n:Nat) (l:List ConD):lowR n (l.map ConD.cells):=lowR_map fun t _=>low_conC n t
theorem low_predL (n:Nat) (l:List PredD):lowR n (l.map PredD.cells):=lowR_map fun t _=>low_predC n t
theorem low_sigL (n:Nat) (l:List SigD):lowR n (l.map SigD.cells):=lowR_map fun t _=>low_sigC n t
theorem low_clsL (n:Nat) (l:List ClsD):lowR n (l.map ClsD.cells):=lowR_map fun t _=>low_clsC n t
theorem low_instL (n:Nat) (l:List InstD):lowR n (l.map InstD.cells):=lowR_map fun t _=>low_instC n t
theorem Wk.sliceT {xs ys:List (List AV)} {t:Option Nat} (h:WkR xs ys):Wk (.slice xs t) (.slice ys t):=fun K w x ⟨a,len,cap,e,h1,h2,h3,h4,h5⟩ =>
 ⟨a,len,cap,e,by rw [←h.length];exact h1,h2,h3,fun t ht=>by rw [←h.length];exact h4 t ht,fun hne=>by
  have hne':xs≠[]:=fun e=>hne (by have:=h.length;rw [e] at this;exact List.length_eq_zero_iff.1 this.symm)
  obtain ⟨ad,esz,q1,q2,q3⟩:=h5 hne'
  exact ⟨ad,esz,q1,q2,q3.wkR h⟩⟩
def unitN:ByteArray:=⟨#[85,110,105,116]⟩
def boolN:ByteArray:=⟨#[66,111,111,108]⟩
def falseN:ByteArray:=⟨#[70,97,108,115,101]⟩
def trueN:ByteArray:=⟨#[84,114,117,101]⟩
def nilN:ByteArray:=⟨#[78,105,108]⟩
def consN:ByteArray:=⟨#[67,111,110,115]⟩
def pairN:ByteArray:=⟨#[80,97,105,114]⟩
def natN:ByteArray:=⟨#[78,97,116]⟩
def zeroN:ByteArray:=⟨#[90,101,114,111]⟩
def succN:ByteArray:=⟨#[83,117,99,99]⟩
def baseD:List Dat :=
 [⟨unitN,[],[⟨unitN,[]⟩]⟩,
 ⟨boolN,[],[⟨falseN,[]⟩,⟨trueN,[]⟩]⟩,
 ⟨listN,[aS],[⟨nilN,[]⟩,⟨consN,[.mk aS [],.mk listN [.mk aS []]]⟩]⟩,
 ⟨pairN,[aS,bS],[⟨pairN,[.mk aS [],.mk bS []]⟩]⟩,
 ⟨natN,[],[⟨zeroN,[]⟩,⟨succN,[.mk natN []]⟩]⟩]
def allD (d:DeclsD):List Dat:=baseD++d.datas
def ixI:Option Nat→Int | some i=>i | none=>-1
def findI (l:List Dat) (n:ByteArray):Int:=ixI (l.findIdx? fun x=>decide (x.name=n))
def placeI (l:List ByteArray) (s:ByteArray):Int:=ixI (l.findIdx? fun x=>decide (x=s))
def classI (l:List ClsD) (n:ByteArray):Int:=ixI (l.findIdx? fun x=>decide (x.name=n))
def instI (l:List InstD) (c n:ByteArray):Int:=ixI (l.findIdx? fun x=>decide (x.cls=c) && decide (x.data=n))
def zeroDat:Dat:=⟨⟨#[]⟩,[],[]⟩
def namedD (d:DeclsD) (n:ByteArray):Dat × Bool:=if n=intN then (⟨intN,[],[]⟩,true) else match (allD d).find? fun x=>decide (x.name=n) with | some x=>(x,true) | none=>(zeroDat,false)
theorem ix_at {α:Type} {p:α→Bool} {l:List α} {k:Nat} {x:α} (hk:l[k]?=some x) (hx:p x=true) (h:∀ y∈l.take k,p y=false):l.findIdx? p=some k:=by
 obtain ⟨hl,rfl⟩:=List.getElem?_eq_some_iff.1 hk
 rw [List.findIdx?_eq_some_iff_getElem]
 refine ⟨hl,hx,fun j hj=>?_⟩
 have:=h l[j] (List.mem_of_getElem? (i:=j) (by rw [List.getElem?_take_of_lt hj];exact List.getElem?_eq_getElem (by omega)))
 simp [this]
theorem ix_none {α:Type} {p:α→Bool} {l:List α} (h:∀ y∈l,p y=false):l.findIdx? p=none:=by
 rw [List.findIdx?_eq_none_iff];exact h
theorem find_at {α:Type} {p:α→Bool} {l:List α} {k:Nat} {x:α} (hk:l[k]?=some x) (hx:p x=true) (h:∀ y∈l.take k,p y=false):l.find? p=some x:=by
 obtain ⟨hl,rfl⟩:=List.getElem?_eq_some_iff.1 hk
 rw [List.find?_eq_some_iff_getElem]
 refine ⟨hx,k,hl,rfl,fun j hj=>?_⟩
 have:=h l[j] (List.mem_of_getElem? (i:=j) (by rw [List.getElem?_take_of_lt hj];exact List.getElem?_eq_getElem (by omega)))
 simp [this]
theorem find_none {α:Type} {p:α→Bool} {l:List α} (h:∀ y∈l,p y=false):l.find? p=none:=by
 rw [List.find?_eq_none];intro x hx;simp [h x hx]
theorem take_all {α:Type} {p:α→Prop} {l:List α} {k:Nat} {x:α} (hk:l[k]?=some x) (hx:p x) (h:∀ y∈l.take k,p y):∀ y∈l.take (k+1),p y:=by
 intro y hy
 rw [take_one hk,List.mem_append] at hy
 rcases hy with hy | hy
 ·exact h y hy
 ·simp only [List.mem_singleton] at hy;subst hy;exact hx
end Go.Proofs.YtlhoigpidpokfaaGreat
