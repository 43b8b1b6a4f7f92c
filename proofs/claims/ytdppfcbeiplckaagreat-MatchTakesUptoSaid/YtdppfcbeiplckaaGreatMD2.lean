/- Instances; nodes of types; texts that stand twice. -/
import Derived.Test.YtdppfcbeiplckaaGreatMD1
set_option linter.unusedVariables false
set_option linter.unusedSimpArgs false
namespace Go.Proofs.YtdppfcbeiplckaaGreat
open Go Go.Abs Go.Proofs
set_option maxRecDepth 20000
attribute [local simp] aOps wantedA aStep aop aLoad aStore aBin aUn aFieldAddr aField aIndexAddr aIndex aLen aBuild aFill aAlloc aAppend aAppendOwn aMin aMax aBuildSlice litRows newRows isMut isOwn isNilS nilsW bytesR tokW tokAV tokL ret readC splice aeval isLit isLate isCut aCut AV.celled AV.one AV.ofValue Value.oneCell' Value.cells intOp strOp get_nid upd_nid awp aEnd aResults aResult Det unord isCall isNext
attribute [local simp] low_take low_strs low_comp low_tcomp wkEs_refl' WkBs WkEnv WkB WkL WkE WkO ABlock.low lowO lowL lowR AV.low cellsL_eq Ty.low low_map Ty.cells_length Ty.cells_one
attribute [local simp] ConD.cells Dat.cells PredD.cells SigD.cells ClsD.cells InstD.cells DeclsD.cells DeclsD.enc Dat.enc low_datL low_conL low_predL low_sigL low_clsL low_instL
theorem inst1_c (x:InstD) (c n:ByteArray) (i j:Nat) (H:AHeap) (hi:H.get i=some (.cells [strV c])) (hj:H.get j=some (.cells [strV n])):ACalls Tryz.prog 227 [.agg x.cells,.ref i 0,.ref j 0] H (boolV (decide (x.cls=c) && decide (x.data=n))) H:=by
 refine acalls_walk (fun _=>.imm) [0,1,2,3,4] Tryz.mixed Tryz.func227 rfl rfl rfl (by decide) (fun hcl hlow=>?_)
 have hlt:i < H.next∧j < H.next:=by simpa using hlow
 repeat with_reducible refine awp_assoc ?_
 refine awp_sr fun K hK=>?_
 simp
 refine hK _ _ ?_
 clear hK K
 by_cases hc:x.cls=c
 ·repeat with_reducible refine awp_assoc ?_
  refine awp_sr fun K hK=>?_
  refine aOps_split 5 fun K hK=>?_
  simp [get_lt hlt.1,hi,hc]
  refine hK _ _ ?_
  clear hK K
  simp [get_lt hlt.2,hj,hc]
  refine hK _ _ ?_
  clear hK K
  simp [hc,reset_all hcl]
 ·repeat with_reducible refine awp_assoc ?_
  refine awp_sr fun K hK=>?_
  refine aOps_split 5 fun K hK=>?_
  simp [get_lt hlt.1,hi,hc]
  refine hK _ _ ?_
  clear hK K
  simp [hc]
  refine hK _ _ ?_
  clear hK K
  simp [hc,reset_all hcl]
theorem idxInst_c (l:List InstD) (hl:l.length < 1000000000000) (c n:ByteArray) (i j:Nat) (H:AHeap) (hi:H.get i=some (.cells [strV c])) (hj:H.get j=some (.cells [strV n])):ACalls Tryz.prog 226 [.slice (l.map InstD.cells) none,.fn 227 [.ref i 0,.ref j 0]] H (intV (instI l c n)) H:=by
 refine acalls_walk (fun _=>.imm) [0,1,4,5,7,8,9,16] Tryz.mixed Tryz.func226 rfl rfl rfl (by decide) (fun hcl hlow=>?_)
 have hlt:i < H.next∧j < H.next:=by simpa using hlow
 repeat with_reducible refine awp_assoc ?_
 refine awp_sr fun K hK=>?_
 simp
 refine hK _ _ ?_
 clear hK K
 repeat with_reducible refine awp_assoc ?_
 refine awp_sr fun K hK=>?_
 simp
 refine hK _ _ ?_
 clear hK K
 refine awp_seq_k fun K hK=>?_
 refine awp_block ?_
 refine awp_up l.length (fun k=>Env.ofL [(0,.slice (l.map InstD.cells) none),(1,.fn 227 [.ref i 0,.ref j 0]),(4,intV 0),(7,intV (l.length:Int)),(8,intV k)]) (fun k=>HL H []) (fun k=>∀ y∈l.take k,(decide (y.cls=c) && decide (y.data=n))=false) (weak_HL hcl rfl (by simp) (by simp [lt_nid hlt.1,lt_nid hlt.2])) (by simp) (fun k hk hv=>?_) (fun hv=>?_)
 ·obtain ⟨x,hx⟩:∃ x,l[k]?=some x:=⟨_,List.getElem?_eq_getElem hk⟩
  have hc:=inst1_c x c n i j (HL H []) (by rw [get_lt hlt.1];exact hi) (by rw [get_lt hlt.2];exact hj)
  simp at hc
  repeat with_reducible refine awp_assoc ?_
  refine awp_sr fun K hK=>?_
  simp [hk]
  refine hK _ _ ?_
  clear hK K
  repeat with_reducible refine awp_assoc ?_
  refine awp_seq_k fun K hK=>?_
  refine awp_condT rfl (by simp) ?_
  refine awp_skip ?_
  refine hK _ _ ?_
  clear hK K
  refine awp_seq_k fun K hK=>?_
  refine awp_block ?_
  repeat with_reducible refine awp_assoc ?_
  refine awp_sr fun K hK=>?_
  simp
  refine hK _ _ ?_
  clear hK K
  repeat with_reducible refine awp_assoc ?_
  refine awp_sr fun K hK=>?_
  refine aOps_split 5 fun K hK=>?_
  simp [hx]
  refine hK _ _ ?_
  clear hK K
  refine aOps_call (hc) (by first | rfl | simp) rfl rfl (by first | (simp;done) | rfl) ?_
  simp
  refine hK _ _ ?_
  clear hK K
  by_cases hs:(decide (x.cls=c) && decide (x.data=n))=true
  ·refine awp_condT rfl (by simpa using hs) ?_
   repeat with_reducible refine awp_assoc ?_
   refine awp_sr fun K hK=>?_
   simp
   refine hK _ _ ?_
   clear hK K
   have e:instI l c n=k:=by unfold instI;rw [ix_at hx hs hv];rfl
   simp [e,reset_all hcl]
  ·refine awp_condF rfl (by simpa using hs) ?_
   refine awp_skip ?_
   refine hK _ _ ?_
   clear hK K
   refine awp_region ?_
   simp [wrap_succ (show k < 4611686018427387904 by omega)]
   refine ⟨by simpa using take_all (p:=fun y:InstD=>(decide (y.cls=c) && decide (y.data=n))=false) hx (by simpa using hs) hv,?_⟩
   exact weak_HL hcl rfl (by simp) (by simp [lt_nid hlt.1,lt_nid hlt.2])
 ·repeat with_reducible refine awp_assoc ?_
  refine awp_sr fun K hK=>?_
  simp
  refine hK _ _ ?_
  clear hK K
  repeat with_reducible refine awp_assoc ?_
  refine awp_seq_k fun K hK=>?_
  refine awp_condF rfl (by simp) ?_
  refine awp_exit ?_
  simp
  clear hK K
  refine hK _ _ ?_
  clear hK K
  repeat with_reducible refine awp_assoc ?_
  refine awp_sr fun K hK=>?_
  simp
  refine hK _ _ ?_
  clear hK K
  rw [List.take_length] at hv
  have e:instI l c n=-1:=by unfold instI;rw [ix_none hv];rfl
  simp [e,reset_all hcl]
theorem inst_c (d:DeclsD) (hl:d.insts.length < 1000000000000) (c n:ByteArray) (H:AHeap):ACalls Tryz.prog 176 [d.enc,strV c,strV n] H (intV (instI d.insts c n)) H:=by
 have hc:=idxInst_c d.insts hl c n
 refine acalls_walk (fun _=>.imm) [0,1,2,3,4,5,6] Tryz.mixed Tryz.func176 rfl rfl rfl (by decide) (fun hcl hlow=>?_)
 repeat with_reducible refine awp_assoc ?_
 refine awp_sr fun K hK=>?_
 simp
 refine hK _ _ ?_
 clear hK K
 repeat with_reducible refine awp_assoc ?_
 refine awp_sr fun K hK=>?_
 refine aOps_split 3 fun K hK=>?_
 simp
 refine hK _ _ ?_
 clear hK K
 have hc2:=hc (nid H.next 1) (nid H.next 2) (HL H [.cells d.cells,.cells [strV c],.cells [strV n]]) (by simp) (by simp)
 simp at hc2
 refine aOps_call (hc2) (by first | rfl | simp) rfl rfl (by first | (simp;done) | rfl) ?_
 simp
 refine hK _ _ ?_
 clear hK K
 simp [reset_all hcl]
def dVarB (t:Ty):Bool:=decide (t.args=[]) && smallN t.name
theorem dIsVar_c (t:Ty) (H:AHeap):ACalls Tryz.prog 172 [t.enc] H (boolV (dVarB t)) H:=by
 obtain ⟨n,l⟩:=t
 simp only [enc_mk]
 refine acalls_walk (fun _=>.imm) [0,1,2] Tryz.mixed Tryz.func172 rfl rfl rfl (by decide) (fun hcl hlow=>?_)
 repeat with_reducible refine awp_assoc ?_
 refine awp_sr fun K hK=>?_
 simp
 refine hK _ _ ?_
 clear hK K
 by_cases h0:l=[]
 ·repeat with_reducible refine awp_assoc ?_
  refine awp_sr fun K hK=>?_
  refine aOps_split 7 fun K hK=>?_
  simp [h0]
  refine hK _ _ ?_
  clear hK K
  refine aOps_call (dSmall_c n _) (by first | rfl | simp) rfl rfl (by first | (simp;done) | rfl) ?_
  simp
  refine hK _ _ ?_
  clear hK K
  simp [dVarB,Ty.args,Ty.name,h0,reset_all hcl]
 ·repeat with_reducible refine awp_assoc ?_
  refine awp_sr fun K hK=>?_
  refine aOps_split 7 fun K hK=>?_
  simp [h0]
  refine hK _ _ ?_
  clear hK K
  simp
  refine hK _ _ ?_
  clear hK K
  simp [dVarB,Ty.args,Ty.name,h0,reset_all hcl]
theorem nodes_c:∀ (t:Ty),t.cnt < 1000000000000→∀ H,ACalls Tryz.prog 171 [t.enc] H (.slice (t.nodes.map Ty.cells) none) H:=by
 intro t
 induction t using Ty.ind with
 | h n l ih =>
 intro hsz H
 have hcnt:(Ty.mk n l).cnt=(nodesL l).length+1:=by simp [Ty.cnt,Ty.nodes]
 have hll:=nodesL_len l
 refine acalls_walk (fun _=>.imm) [0,1,2,3,5,9,10,11,12] Tryz.mixed Tryz.func171 rfl rfl rfl (by decide) (fun hcl hlow=>?_)
 simp only [enc_mk]
 repeat with_reducible refine awp_assoc ?_
 refine awp_sr fun K hK=>?_
 simp
 refine hK _ _ ?_
 clear hK K
 repeat with_reducible refine awp_assoc ?_
 refine awp_sr fun K hK=>?_
 simp
 refine hK _ _ ?_
 clear hK K
 repeat with_reducible refine awp_assoc ?_
 refine awp_sr fun K hK=>?_
 simp
 refine hK _ _ ?_
 clear hK K
 refine awp_seq_k fun K hK=>?_
 refine awp_block ?_
 refine awp_up l.length (fun k=>Env.ofL [(0,.agg [strV n,.slice (l.map Ty.cells) none]),(1,.ref (nid H.next 0) 0),(2,.v (.slice none 0 0)),(3,.slice ([strV n,.slice (l.map Ty.cells) none]::(nodesL (l.take k)).map Ty.cells) (some (nid H.next 1))),(9,.slice (l.map Ty.cells) none),(10,intV (l.length:Int)),(11,intV k)]) (fun k=>HL (H) [.cells [strV n,.slice (l.map Ty.cells) none],.tok ((nodesL (l.take k)).length+1) 2 none]) (fun k=>True) (weak_HL (hcl) (by simp) ?_ ?_) ?_ (fun k hk hi=>?_) (fun hi=>?_)
 ·simp [nodesL]
 ·simp [nodesL]
 ·trivial
 ·obtain ⟨x,hx⟩:∃ x,l[k]?=some x:=⟨_,List.getElem?_eq_getElem hk⟩
  have hxc:=cnt_mem hx
  have hc:=ih x (List.mem_of_getElem? hx) (by omega)
  have e1:(nodesL (l.take (k+1))).map Ty.cells=(nodesL (l.take k)).map Ty.cells++x.nodes.map Ty.cells:=by rw [nodesL_take hx,List.map_append]
  have e2:(nodesL (l.take (k+1))).length=(nodesL (l.take k)).length+x.nodes.length:=by rw [nodesL_take hx,List.length_append]
  have hbd:(nodesL (l.take k)).length+x.nodes.length≤(nodesL l).length:=by
   have h2:nodesL l=nodesL (l.take (k+1))++nodesL (l.drop (k+1)):=by rw [←nodesL_append,List.take_append_drop]
   have h3:=congrArg List.length h2
   rw [List.length_append] at h3;omega
  have hne:x.nodes≠[]:=by obtain ⟨xn,xl⟩:=x;simp [Ty.nodes]
  rw [e1,e2]
  generalize hP:(nodesL (l.take k))=P at *
  generalize hX:x.nodes=X at *
  obtain ⟨xn,xl⟩:=x
  simp only [enc_mk] at hc
  repeat with_reducible refine awp_assoc ?_
  refine awp_sr fun K hK=>?_
  simp [hk]
  refine hK _ _ ?_
  clear hK K
  repeat with_reducible refine awp_assoc ?_
  refine awp_seq_k fun K hK=>?_
  refine awp_condT rfl (by simp) ?_
  refine awp_skip ?_
  refine hK _ _ ?_
  clear hK K
  refine awp_seq_k fun K hK=>?_
  refine awp_block ?_
  repeat with_reducible refine awp_assoc ?_
  refine awp_sr fun K hK=>?_
  refine aOps_split 3 fun K hK=>?_
  simp [hx,Ty.cells]
  refine hK _ _ ?_
  clear hK K
  simp
  refine hK _ _ ?_
  clear hK K
  refine awp_region ?_
  refine aOps_split 2 fun K hK=>?_
  simp
  refine hK _ _ ?_
  clear hK K
  refine aOps_call (hc _) (by first | rfl | simp) rfl rfl (by first | (simp;done) | rfl) ?_
  refine aOps_split 1 fun K2 hK2=>?_
  simp [hne]
  refine ⟨fun a _=>by obtain ⟨_,_⟩:=a;simp [Ty.cells],by omega,hK2 _ _ ?_⟩
  clear hK2 K2
  simp
  refine hK _ _ ?_
  clear hK K
  refine awp_region ?_
  simp [wrap_succ (show k < 4611686018427387904 by omega)]
  rw [show P.length+X.length+1=P.length+1+X.length by omega]
  exact weak_HL hcl rfl (by simp) (by simp [low_map])
 ·repeat with_reducible refine awp_assoc ?_
  refine awp_sr fun K hK=>?_
  simp
  refine hK _ _ ?_
  clear hK K
  repeat with_reducible refine awp_assoc ?_
  refine awp_seq_k fun K hK=>?_
  refine awp_condF rfl (by simp) ?_
  refine awp_exit ?_
  simp
  clear hK K
  refine hK _ _ ?_
  clear hK K
  repeat with_reducible refine awp_assoc ?_
  refine awp_sr fun K hK=>?_
  simp
  refine hK _ _ ?_
  clear hK K
  simp [Ty.nodes,Ty.cells,cellsL_eq,reset_all hcl]
theorem alike_c (l:List ByteArray) (hl:l.length < 1000000000000) (H:AHeap):ACalls Tryz.prog 167 [strs l none] H (boolV (!decide l.Nodup)) H:=by
 refine acalls_walk (fun _=>.imm) [0,2,3,5,7,8,9,10,15] Tryz.mixed Tryz.func167 rfl rfl rfl (by decide) (fun hcl hlow=>?_)
 repeat with_reducible refine awp_assoc ?_
 refine awp_sr fun K hK=>?_
 simp
 refine hK _ _ ?_
 clear hK K
 repeat with_reducible refine awp_assoc ?_
 refine awp_sr fun K hK=>?_
 simp
 refine hK _ _ ?_
 clear hK K
 repeat with_reducible refine awp_assoc ?_
 refine awp_sr fun K hK=>?_
 simp
 refine hK _ _ ?_
 clear hK K
 refine awp_seq_k fun K hK=>?_
 refine awp_block ?_
 refine awp_up l.length (fun k=>Env.ofL [(0,strs l none),(2,boolV false),(3,.map (nid H.next 0)),(7,strs l none),(8,intV (l.length:Int)),(9,intV k)]) (fun k=>HL H [.amap (metEs (l.take k)) k]) (fun k=>(l.take k).Nodup) (weak_HL hcl rfl (by simp [metEs,WkEs,lowEs]) (by simp)) (by simp) (fun k hk hi=>?_) (fun hi=>?_)
 ·obtain ⟨x,hx⟩:∃ x,l[k]?=some x:=⟨_,List.getElem?_eq_getElem hk⟩
  have hkl:(l.take k).length=k:=by simp;omega
  rw [take_one hx]
  repeat with_reducible refine awp_assoc ?_
  refine awp_sr fun K hK=>?_
  simp [hk]
  refine hK _ _ ?_
  clear hK K
  repeat with_reducible refine awp_assoc ?_
  refine awp_seq_k fun K hK=>?_
  refine awp_condT rfl (by simp) ?_
  refine awp_skip ?_
  refine hK _ _ ?_
  clear hK K
  refine awp_seq_k fun K hK=>?_
  refine awp_block ?_
  repeat with_reducible refine awp_assoc ?_
  refine awp_sr fun K hK=>?_
  simp [hx]
  refine hK _ _ ?_
  clear hK K
  cases hm:memS x (l.take k)
  rotate_left
  ·repeat with_reducible refine awp_assoc ?_
   refine awp_sr fun K hK=>?_
   simp [aLookup,keys_met,keyOk,aLook_met,hm]
   refine hK _ _ ?_
   clear hK K
   repeat with_reducible refine awp_assoc ?_
   refine awp_seq_k fun K hK=>?_
   refine awp_condT rfl (by simp) ?_
   repeat with_reducible refine awp_assoc ?_
   refine awp_sr fun K hK=>?_
   simp
   refine hK _ _ ?_
   clear hK K
   have e:¬ l.Nodup:=by
    intro hn
    rw [←List.take_append_drop k l] at hn
    have h1:=memS_iff.1 hm
    have h2:x∈l.drop k:=List.mem_of_getElem? (i:=0) (by rw [List.getElem?_drop];exact hx)
    exact (List.nodup_append.1 hn).2.2 x h1 x h2 rfl
   simp [e,reset_all hcl]
  ·repeat with_reducible refine awp_assoc ?_
   refine awp_sr fun K hK=>?_
   simp [aLookup,keys_met,keyOk,aLook_met,hm]
   refine hK _ _ ?_
   clear hK K
   repeat with_reducible refine awp_assoc ?_
   refine awp_seq_k fun K hK=>?_
   refine awp_condF rfl (by simp) ?_
   refine awp_skip ?_
   refine hK _ _ ?_
   clear hK K
   have hv1:aVer (metEs (l.take k)) (.string x) k true=k+1:=by simp [aVer,aLook_met,hm]
   refine awp_region ?_
   simp [aMapUpdate,keys_met,keyOk,aPut_met hm,hv1]
   refine hK _ _ ?_
   clear hK K
   refine awp_region ?_
   simp [wrap_succ (show k < 4611686018427387904 by omega)]
   refine ⟨?_,?_⟩
   ·have:x ∉ l.take k:=fun h=>by rw [memS_iff.2 h] at hm;cases hm
    rw [List.nodup_append]
    refine ⟨hi,by simp,fun a ha b hb=>?_⟩
    simp only [List.mem_singleton] at hb
    rintro rfl
    exact this (hb ▸ ha)
   ·exact weak_HL hcl rfl (by simp [low_met]) (by simp)
 ·repeat with_reducible refine awp_assoc ?_
  refine awp_sr fun K hK=>?_
  simp
  refine hK _ _ ?_
  clear hK K
  repeat with_reducible refine awp_assoc ?_
  refine awp_seq_k fun K hK=>?_
  refine awp_condF rfl (by simp) ?_
  refine awp_exit ?_
  simp
  clear hK K
  refine hK _ _ ?_
  clear hK K
  repeat with_reducible refine awp_assoc ?_
  refine awp_sr fun K hK=>?_
  simp
  refine hK _ _ ?_
  clear hK K
  rw [List.take_length] at hi
  simp [hi,reset_all hcl]
theorem any_take {α:Type} {p:α→Bool} {l:List α} {k:Nat} {x:α} (h:l[k]?=some x):(l.take (k+1)).any p=((l.take k).any p || p x):=by
 rw [take_one h,List.any_append];simp
theorem all_take {α:Type} {p:α→Bool} {l:List α} {k:Nat} {x:α} (h:l[k]?=some x):(l.take (k+1)).all p=((l.take k).all p && p x):=by
 rw [take_one h,List.all_append];simp
structure RawD (d:DeclsD):Prop where
 datas:d.datas.length < 4611686018427387904
 classes:d.classes.length < 4611686018427387904
 insts:d.insts.length < 4611686018427387904
 vars:∀ x∈d.datas,x.vars.length < 4611686018427387904
 cons:∀ x∈d.datas,x.cons.length < 4611686018427387904
 cargs:∀ x∈d.datas,∀ c∈x.cons,c.args.length < 4611686018427387904
 supers:∀ x∈d.classes,x.supers.length < 4611686018427387904
 ops:∀ x∈d.classes,x.ops.length < 4611686018427387904
 preds:∀ x∈d.insts,x.preds.length < 4611686018427387904
def largeB (d:DeclsD):Bool:=decide (30 < d.datas.length) || decide (12 < d.classes.length) || decide (40 < d.insts.length) || d.datas.any (fun x=>decide (16 < x.cons.length)) || d.classes.any (fun x=>decide (8 < x.ops.length)) || d.insts.any (fun x=>decide (64 < x.preds.length))
theorem large_c (d:DeclsD) (hr:RawD d) (H:AHeap):ACalls Tryz.prog 96 [d.enc] H (intV (if largeB d=true then 3 else 0)) H:=by
 have h1:=hr.datas
 have h2:=hr.classes
 have h3:=hr.insts
 clear hr
 have e0:largeB d=(decide (30 < d.datas.length) || decide (12 < d.classes.length) || decide (40 < d.insts.length) || d.datas.any (fun x=>decide (16 < x.cons.length)) || d.classes.any (fun x=>decide (8 < x.ops.length)) || d.insts.any (fun x=>decide (64 < x.preds.length))):=rfl
 generalize largeB d=lb at e0 ⊢
 obtain ⟨ds,cs,is⟩:=d
 simp only at e0 h1 h2 h3
 refine acalls_walk (fun _=>.imm) [0,1,2,3,5,7,9,27,28,29,30,42,43,44,45,57,58,59,60,71] Tryz.mixed Tryz.func96 rfl rfl rfl (by decide) (fun hcl hlow=>?_)
 repeat with_reducible refine awp_assoc ?_
 refine awp_sr fun K hK=>?_
 simp
 refine hK _ _ ?_
 clear hK K
 refine awp_sr fun K hK=>?_
 suffices hE:∀ b,b=(decide (30 < ds.length) || decide (12 < cs.length) || decide (40 < is.length))→K (Env.ofL [(0,.agg [.slice (ds.map Dat.cells) none,.slice (cs.map ClsD.cells) none,.slice (is.map InstD.cells) none]),(1,.ref (nid H.next 0) 0),(2,intV 0),(3,boolV b),(5,.undef),(7,.undef),(9,.undef),(27,.undef),(28,.undef),(29,.undef),(30,.undef),(42,.undef),(43,.undef),(44,.undef),(45,.undef),(57,.undef),(58,.undef),(59,.undef),(60,.undef),(71,.undef)]) (HL H [.cells [.slice (ds.map Dat.cells) none,.slice (cs.map ClsD.cells) none,.slice (is.map InstD.cells) none]]) by
  clear hK
  by_cases c1:30 < ds.length
  ·have c1':(30:Int) < ds.length:=by omega
   refine aOps_split 8 fun K hK=>?_
   simp [c1']
   refine hK _ _ ?_
   clear hK K
   refine aOps_split 8 fun K hK=>?_
   simp [c1']
   refine hK _ _ ?_
   clear hK K
   simp [c1']
   exact hE _ (by simp [c1])
  have c1':¬ (30:Int) < ds.length:=by omega
  by_cases c2:12 < cs.length
  ·have c2':(12:Int) < cs.length:=by omega
   refine aOps_split 8 fun K hK=>?_
   simp [c1',c2']
   refine hK _ _ ?_
   clear hK K
   refine aOps_split 8 fun K hK=>?_
   simp [c1',c2']
   refine hK _ _ ?_
   clear hK K
   simp [c1',c2']
   exact hE _ (by simp [c1,c2])
  have c2':¬ (12:Int) < cs.length:=by omega
  by_cases c3:40 < is.length
  ·have c3':(40:Int) < is.length:=by omega
   refine aOps_split 8 fun K hK=>?_
   simp [c1',c2',c3']
   refine hK _ _ ?_
   clear hK K
   refine aOps_split 8 fun K hK=>?_
   simp [c1',c2',c3']
   refine hK _ _ ?_
   clear hK K
   simp [c1',c2',c3']
   exact hE _ (by simp [c1,c2,c3])
  have c3':¬ (40:Int) < is.length:=by omega
  refine aOps_split 8 fun K hK=>?_
  simp [c1',c2',c3']
  refine hK _ _ ?_
  clear hK K
  refine aOps_split 8 fun K hK=>?_
  simp [c1',c2',c3']
  refine hK _ _ ?_
  clear hK K
  simp [c1',c2',c3']
  exact hE _ (by simp [c1,c2,c3])
 intro b hb
 refine hK _ _ ?_
 clear hK K
 rw [←hb] at e0
 clear hb
 repeat with_reducible refine awp_assoc ?_
 refine awp_sr fun K hK=>?_
 simp
 refine hK _ _ ?_
 clear hK K
 refine awp_seq_k fun K hK=>?_
 refine awp_block ?_
 refine awp_up ds.length (fun k=>Env.ofL [(1,.ref (nid H.next 0) 0),(2,intV 0),(3,boolV (b || (ds.take k).any fun x=>decide (16 < x.cons.length))),(27,.slice (ds.map Dat.cells) none),(28,intV (ds.length:Int)),(29,intV k)]) (fun k=>HL H [.cells [.slice (ds.map Dat.cells) none,.slice (cs.map ClsD.cells) none,.slice (is.map InstD.cells) none]]) (fun k=>True) (weak_HL hcl rfl ?_ ?_) ?_ (fun k hk hi=>?_) (fun hi=>?_)
 ·simp
 ·simp
 ·trivial
 ·obtain ⟨x,hx⟩:∃ x,ds[k]?=some x:=⟨_,List.getElem?_eq_getElem hk⟩
  rw [any_take hx,←Bool.or_assoc]
  generalize (b || (ds.take k).any fun x=>decide (16 < x.cons.length))=bk
  repeat with_reducible refine awp_assoc ?_
  refine awp_sr fun K hK=>?_
  simp [hk]
  refine hK _ _ ?_
  clear hK K
  repeat with_reducible refine awp_assoc ?_
  refine awp_seq_k fun K hK=>?_
  refine awp_condT rfl (by simp) ?_
  refine awp_skip ?_
  refine hK _ _ ?_
  clear hK K
  refine awp_seq_k fun K hK=>?_
  refine awp_block ?_
  repeat with_reducible refine awp_assoc ?_
  refine awp_sr fun K hK=>?_
  simp [hx]
  refine hK _ _ ?_
  clear hK K
  refine awp_region ?_
  cases bk with
  | true =>
   simp
   refine hK _ _ ?_
   clear hK K
   refine awp_region ?_
   simp [wrap_succ (show k < 4611686018427387904 by omega)]
   exact weak_HL hcl rfl (by simp) (by simp)
  | false =>
   by_cases hb2:16 < x.cons.length
   ·have hb3:(16:Int) < x.cons.length:=by omega
    simp [hb2,hb3]
    refine hK _ _ ?_
    clear hK K
    refine awp_region ?_
    simp [wrap_succ (show k < 4611686018427387904 by omega)]
    exact weak_HL hcl rfl (by simp) (by simp [hb2])
   ·have hb3:¬ (16:Int) < x.cons.length:=by omega
    simp [hb2,hb3]
    refine hK _ _ ?_
    clear hK K
    refine awp_region ?_
    simp [wrap_succ (show k < 4611686018427387904 by omega)]
    exact weak_HL hcl rfl (by simp) (by simp [hb2])
 repeat with_reducible refine awp_assoc ?_
 refine awp_sr fun K hK=>?_
 simp
 refine hK _ _ ?_
 clear hK K
 repeat with_reducible refine awp_assoc ?_
 refine awp_seq_k fun K hK=>?_
 refine awp_condF rfl (by simp) ?_
 refine awp_exit ?_
 simp
 clear hK K
 refine hK _ _ ?_
 clear hK K
 generalize (b || ds.any fun x=>decide (16 < x.cons.length))=b1 at e0 ⊢
 repeat with_reducible refine awp_assoc ?_
 refine awp_sr fun K hK=>?_
 simp
 refine hK _ _ ?_
 clear hK K
 refine awp_seq_k fun K hK=>?_
 refine awp_block ?_
 refine awp_up cs.length (fun k=>Env.ofL [(1,.ref (nid H.next 0) 0),(2,intV 0),(3,boolV (b1 || (cs.take k).any fun x=>decide (8 < x.ops.length))),(42,.slice (cs.map ClsD.cells) none),(43,intV (cs.length:Int)),(44,intV k)]) (fun k=>HL H [.cells [.slice (ds.map Dat.cells) none,.slice (cs.map ClsD.cells) none,.slice (is.map InstD.cells) none]]) (fun k=>True) (weak_HL hcl rfl ?_ ?_) ?_ (fun k hk hi=>?_) (fun hi=>?_)
 ·simp
 ·simp
 ·trivial
 ·obtain ⟨x,hx⟩:∃ x,cs[k]?=some x:=⟨_,List.getElem?_eq_getElem hk⟩
  rw [any_take hx,←Bool.or_assoc]
  generalize (b1 || (cs.take k).any fun x=>decide (8 < x.ops.length))=bk
  repeat with_reducible refine awp_assoc ?_
  refine awp_sr fun K hK=>?_
  simp [hk]
  refine hK _ _ ?_
  clear hK K
  repeat with_reducible refine awp_assoc ?_
  refine awp_seq_k fun K hK=>?_
  refine awp_condT rfl (by simp) ?_
  refine awp_skip ?_
  refine hK _ _ ?_
  clear hK K
  refine awp_seq_k fun K hK=>?_
  refine awp_block ?_
  repeat with_reducible refine awp_assoc ?_
  refine awp_sr fun K hK=>?_
  simp [hx]
  refine hK _ _ ?_
  clear hK K
  refine awp_region ?_
  cases bk with
  | true =>
   simp
   refine hK _ _ ?_
   clear hK K
   refine awp_region ?_
   simp [wrap_succ (show k < 4611686018427387904 by omega)]
   exact weak_HL hcl rfl (by simp) (by simp)
  | false =>
   by_cases hb2:8 < x.ops.length
   ·have hb3:(8:Int) < x.ops.length:=by omega
    simp [hb2,hb3]
    refine hK _ _ ?_
    clear hK K
    refine awp_region ?_
    simp [wrap_succ (show k < 4611686018427387904 by omega)]
    exact weak_HL hcl rfl (by simp) (by simp [hb2])
   ·have hb3:¬ (8:Int) < x.ops.length:=by omega
    simp [hb2,hb3]
    refine hK _ _ ?_
    clear hK K
    refine awp_region ?_
    simp [wrap_succ (show k < 4611686018427387904 by omega)]
    exact weak_HL hcl rfl (by simp) (by simp [hb2])
 repeat with_reducible refine awp_assoc ?_
 refine awp_sr fun K hK=>?_
 simp
 refine hK _ _ ?_
 clear hK K
 repeat with_reducible refine awp_assoc ?_
 refine awp_seq_k fun K hK=>?_
 refine awp_condF rfl (by simp) ?_
 refine awp_exit ?_
 simp
 clear hK K
 refine hK _ _ ?_
 clear hK K
 generalize (b1 || cs.any fun x=>decide (8 < x.ops.length))=b2 at e0 ⊢
 repeat with_reducible refine awp_assoc ?_
 refine awp_sr fun K hK=>?_
 simp
 refine hK _ _ ?_
 clear hK K
 refine awp_seq_k fun K hK=>?_
 refine awp_block ?_
 refine awp_up is.length (fun k=>Env.ofL [(1,.ref (nid H.next 0) 0),(2,intV 0),(3,boolV (b2 || (is.take k).any fun x=>decide (64 < x.preds.length))),(57,.slice (is.map InstD.cells) none),(58,intV (is.length:Int)),(59,intV k)]) (fun k=>HL H [.cells [.slice (ds.map Dat.cells) none,.slice (cs.map ClsD.cells) none,.slice (is.map InstD.cells) none]]) (fun k=>True) (weak_HL hcl rfl ?_ ?_) ?_ (fun k hk hi=>?_) (fun hi=>?_)
 ·simp
 ·simp
 ·trivial
 ·obtain ⟨x,hx⟩:∃ x,is[k]?=some x:=⟨_,List.getElem?_eq_getElem hk⟩
  rw [any_take hx,←Bool.or_assoc]
  generalize (b2 || (is.take k).any fun x=>decide (64 < x.preds.length))=bk
  repeat with_reducible refine awp_assoc ?_
  refine awp_sr fun K hK=>?_
  simp [hk]
  refine hK _ _ ?_
  clear hK K
  repeat with_reducible refine awp_assoc ?_
  refine awp_seq_k fun K hK=>?_
  refine awp_condT rfl (by simp) ?_
  refine awp_skip ?_
  refine hK _ _ ?_
  clear hK K
  refine awp_seq_k fun K hK=>?_
  refine awp_block ?_
  repeat with_reducible refine awp_assoc ?_
  refine awp_sr fun K hK=>?_
  simp [hx]
  refine hK _ _ ?_
  clear hK K
  refine awp_region ?_
  cases bk with
  | true =>
   simp
   refine hK _ _ ?_
   clear hK K
   refine awp_region ?_
   simp [wrap_succ (show k < 4611686018427387904 by omega)]
   exact weak_HL hcl rfl (by simp) (by simp)
  | false =>
   by_cases hb2:64 < x.preds.length
   ·have hb3:(64:Int) < x.preds.length:=by omega
    simp [hb2,hb3]
    refine hK _ _ ?_
    clear hK K
    refine awp_region ?_
    simp [wrap_succ (show k < 4611686018427387904 by omega)]
    exact weak_HL hcl rfl (by simp) (by simp [hb2])
   ·have hb3:¬ (64:Int) < x.preds.length:=by omega
    simp [hb2,hb3]
    refine hK _ _ ?_
    clear hK K
    refine awp_region ?_
    simp [wrap_succ (show k < 4611686018427387904 by omega)]
    exact weak_HL hcl rfl (by simp) (by simp [hb2])
 repeat with_reducible refine awp_assoc ?_
 refine awp_sr fun K hK=>?_
 simp
 refine hK _ _ ?_
 clear hK K
 repeat with_reducible refine awp_assoc ?_
 refine awp_seq_k fun K hK=>?_
 refine awp_condF rfl (by simp) ?_
 refine awp_exit ?_
 simp
 clear hK K
 refine hK _ _ ?_
 clear hK K
 generalize (b2 || is.any fun x=>decide (64 < x.preds.length))=b3 at e0 ⊢
 repeat with_reducible refine awp_assoc ?_
 refine awp_sr fun K hK=>?_
 simp
 refine hK _ _ ?_
 clear hK K
 subst e0
 cases lb with
 | true =>
  repeat with_reducible refine awp_assoc ?_
  refine awp_seq_k fun K hK=>?_
  refine awp_condT rfl (by simp) ?_
  repeat with_reducible refine awp_assoc ?_
  refine awp_sr fun K hK=>?_
  simp
  refine hK _ _ ?_
  clear hK K
  simp [reset_all hcl]
 | false =>
  repeat with_reducible refine awp_assoc ?_
  refine awp_seq_k fun K hK=>?_
  refine awp_condF rfl (by simp) ?_
  refine awp_skip ?_
  refine hK _ _ ?_
  clear hK K
  repeat with_reducible refine awp_assoc ?_
  refine awp_sr fun K hK=>?_
  simp
  refine hK _ _ ?_
  clear hK K
  simp [reset_all hcl]
end Go.Proofs.YtdppfcbeiplckaaGreat
