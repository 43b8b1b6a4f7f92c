/- Substitutions put in; names; renamings. -/
import Derived.Test.YtgeehnbbhnpimaaGreatMW1
set_option linter.unusedVariables false
set_option linter.unusedSimpArgs false
namespace Go.Proofs.YtgeehnbbhnpimaaGreat
open Go Go.Abs Go.Proofs
set_option maxRecDepth 20000
attribute [local simp] aOps wantedA aStep aop aLoad aStore aBin aUn aFieldAddr aField aIndexAddr aIndex aLen aBuild aFill aAlloc aAppend aBuildSlice litRows newRows isMut isOwn isNilS nilsW bytesR tokW tokAV tokL ret readC splice aeval isLit isLate AV.celled AV.one AV.ofValue Value.oneCell' Value.cells intOp strOp get_nid upd_nid awp aEnd aResults aResult Det unord isCall isNext
attribute [local simp] low_take low_strs low_comp low_tcomp wkEs_refl' WkBs WkEnv WkB WkL WkE WkO ABlock.low lowO lowL lowR AV.low cellsL_eq Ty.low low_map Ty.cells_length Ty.cells_one
abbrev TyM:=List (ByteArray × Ty)
def tyEs (l:TyM):List (Value × AV):=l.map fun p=>(.string p.1,p.2.enc)
def lookT (l:TyM) (s:ByteArray):Option Ty:=(l.find? fun p=>decide (s=p.1)).map (·.2)
theorem aLook_ty (l:TyM) (s:ByteArray):aLook (tyEs l) (.string s)=(lookT l s).map Ty.enc:=by
 unfold aLook lookT tyEs
 rw [List.find?_map]
 simp only [Function.comp_def,keq,Option.map_map]
theorem keys_ty (l:TyM):keysOk .string (tyEs l):=by
 intro e he
 obtain ⟨p,_,rfl⟩:=List.mem_map.1 he
 rfl
theorem low_enc (n:Nat) (t:Ty):t.enc.low n:=t.low n
theorem low_ty (n:Nat) (l:TyM):lowEs n (tyEs l):=by
 induction l with
 | nil=>trivial
 | cons p l ih=>exact ⟨low_enc n p.2,ih⟩
theorem lookT_mem {l:TyM} {s:ByteArray} {t:Ty} (h:lookT l s=some t):(s,t)∈l:=by
 unfold lookT at h
 obtain ⟨p,hp,rfl⟩:=Option.map_eq_some_iff.1 h
 have h1:=List.find?_some hp
 simp only [decide_eq_true_eq] at h1
 rw [h1];exact List.mem_of_find?_eq_some hp
mutual
def putT (m:TyM):Ty→Ty
 | .mk n l=>if headP smallB n then (match lookT m n with | some x=>x | none=>.mk n l) else .mk n (putL m l)
def putL (m:TyM):List Ty→List Ty
 | []=>[]
 | t::ts=>putT m t::putL m ts
end
theorem putL_eq (m:TyM) (l:List Ty):putL m l=l.map (putT m):=by
 induction l with
 | nil=>rfl
 | cons t ts ih=>simp [putL,ih]
theorem cnt_mem {l:List Ty} {k:Nat} {x:Ty} (hx:l[k]?=some x):x.cnt≤(nodesL l).length:=by
 have h1:=congrArg List.length (nodesL_take hx)
 have h2:nodesL l=nodesL (l.take (k+1))++nodesL (l.drop (k+1)):=by rw [←nodesL_append,List.take_append_drop]
 have h3:=congrArg List.length h2
 rw [List.length_append] at h1 h3;simp only [Ty.cnt];omega
theorem enc_mk (n:ByteArray) (l:List Ty):(Ty.mk n l).enc=.agg [strV n,.slice (l.map Ty.cells) none]:=by simp [Ty.enc,Ty.cells,cellsL_eq]
set_option maxRecDepth 10000 in
theorem put_c (m:TyM) (hm:∀ p∈m,p.2.cnt < 1099511627776) (i v:Nat):∀ (t:Ty),t.cnt < 1099511627776→∀ H,H.get i=some (.amap (tyEs m) v)→ACalls Tryz.prog 45 [.map i,t.enc] H (putT m t).enc H:=by
 intro t
 induction t using Ty.ind with
 | h nm l ih =>
 intro hsz H hH
 have hcnt:(Ty.mk nm l).cnt=(nodesL l).length+1:=by simp [Ty.cnt,Ty.nodes]
 have hll:=nodesL_len l
 refine acalls_walk (fun d=>if d=25 then .nilv 2 else .imm) [0,1,3,4,5,6,7,9,11,19,27,28,29,30] Tryz.mixed Tryz.func45 rfl rfl rfl (by decide) (fun hcl hlow=>?_)
 simp only [Ty.enc,Ty.cells]
 have hil:i < H.next:=(hcl _ _ hH).1
 have hg:∀ bs,(HL H bs).get i=some (.amap (tyEs m) v):=fun bs=>by rw [get_lt hil];exact hH
 refine awp_sr fun K hK=>?_;simp;apply hK;clear hK K;repeat with_reducible refine awp_assoc ?_
 refine awp_sr fun K hK=>?_;refine aOps_split 1 fun K hK=>?_;simp;apply hK;clear hK K
 have hc:=isVar_c (.mk nm l)
 simp only [Ty.enc,Ty.cells,cellsL_eq] at hc;refine aOps_call (hc _) (by first | rfl | simp) rfl rfl rfl ?_
 clear hc
 simp;apply hK;clear hK K
 cases hv:(Ty.mk nm l).isVar
 rotate_left
 ·have hv':headP smallB nm=true:=hv
  refine awp_seq_k fun K hK=>?_;refine awp_condT rfl (by simp [hv]) ?_
  cases hk:lookT m nm with
  | some x =>
   have hc:=copy_c x (hm _ (lookT_mem hk))
   obtain ⟨nx,lx⟩:=x
   have e:putT m (.mk nm l)=.mk nx lx:=by rw [putT,if_pos hv',hk]
   simp only [enc_mk] at hc;repeat with_reducible refine awp_assoc ?_
   refine awp_sr fun K hK=>?_;simp [aLookup,hg,keys_ty,keyOk,aLook_ty,hk,enc_mk];apply hK;clear hK K;repeat with_reducible refine awp_assoc ?_
   refine awp_sr fun K hK=>?_;simp;apply hK;clear hK K;refine awp_seq_k fun K hK=>?_;refine awp_condT rfl (by simp) ?_;refine awp_sr fun K hK=>?_;refine aOps_split 1 fun K hK=>?_;simp;apply hK;clear hK K;refine aOps_call (hc _) (by first | rfl | simp) rfl rfl (by first | (simp;done) | rfl) ?_;simp;apply hK;clear hK K
   rw [e]
   simp [Ty.cells,reset_all hcl]
  | none =>
   have e:putT m (.mk nm l)=.mk nm l:=by rw [putT,if_pos hv',hk]
   repeat with_reducible refine awp_assoc ?_
   refine awp_sr fun K hK=>?_;simp [aLookup,hg,keys_ty,keyOk,aLook_ty,hk,enc_mk];apply hK;clear hK K;repeat with_reducible refine awp_assoc ?_
   refine awp_sr fun K hK=>?_;simp;apply hK;clear hK K;refine awp_seq_k fun K hK=>?_;refine awp_condF rfl (by simp) ?_;refine awp_skip ?_;apply hK;clear hK K;refine awp_sr fun K hK=>?_;simp;apply hK;clear hK K
   rw [e]
   simp [Ty.cells,reset_all hcl]
 have hv':¬ headP smallB nm=true:=by rw [show headP smallB nm=(Ty.mk nm l).isVar from rfl,hv];simp
 have e:putT m (.mk nm l)=.mk nm (l.map (putT m)):=by rw [putT,if_neg hv',putL_eq]
 refine awp_seq_k fun K hK=>?_;refine awp_condF rfl (by simp [hv]) ?_;refine awp_skip ?_;apply hK;clear hK K;refine awp_sr fun K hK=>?_;simp;apply hK;clear hK K;repeat with_reducible refine awp_assoc ?_
 refine awp_sr fun K hK=>?_;simp;apply hK;clear hK K;refine awp_seq_k fun K hK=>?_;refine awp_block ?_
 refine awp_up l.length (fun k=>Env.ofL [(0,.map i),(4,.ref (nid H.next 1) 0),(7,.ref (nid H.next 3) 0),(27,.slice (l.map Ty.cells) none),(28,intV l.length),(29,intV k)]) (fun k=>HL (H) [.cells [strV nm,.slice (l.map Ty.cells) none],.cells [strV ByteArray.empty,.v (.slice none 0 0)],.tok k 2 none,.cells [strV nm,.slice ((l.map (putT m)).map Ty.cells |>.take k) (some (nid H.next 2))]]) (fun k=>True) (weak_HL (hcl) (by simp) ?_ ?_) ?_ (fun k hk hi=>?_) (fun hi=>?_)
 ·simp [lt_nid hil]
 ·simp [lt_nid hil]
 ·trivial
 ·obtain ⟨x,hx⟩:∃ x,l[k]?=some x:=⟨_,List.getElem?_eq_getElem hk⟩
  have hxc:=cnt_mem hx
  have hc:=ih x (List.mem_of_getElem? hx) (by omega)
  refine awp_sr fun K hK=>?_;simp [hk];apply hK;clear hK K;refine awp_seq_k fun K hK=>?_;refine awp_condT rfl (by simp) ?_;refine awp_skip ?_;apply hK;clear hK K;refine awp_seq_k fun K hK=>?_;refine awp_block ?_
  have e1:((l.map (putT m)).map Ty.cells).take (k+1)=((l.map (putT m)).map Ty.cells).take k++[(putT m x).cells] :=
   take_one (by simp [hx])
  obtain ⟨nx,lx⟩:=x
  have hy:∃ ny ly,putT m (.mk nx lx)=.mk ny ly:=by cases putT m (.mk nx lx) with | mk a b=>exact ⟨a,b,rfl⟩
  obtain ⟨ny,ly,hy⟩:=hy
  rw [hy] at hc e1
  simp only [enc_mk] at hc;refine awp_sr fun K hK=>?_;simp [hx,Ty.cells];apply hK;clear hK K
  refine awp_draw [5,6,8] [[],[],[0,1],[0,1,2],[0,1],[0,1],[],[],[]] (by kernel_rfl) ?_
  refine aLex_read rfl rfl rfl rfl fun K hK=>?_;simp
  refine hK _ _ _ ?_
  clear hK K;refine aLex_read rfl rfl rfl rfl fun K hK=>?_;simp
  refine hK _ _ _ ?_
  clear hK K;refine aLex_read rfl rfl rfl rfl fun K hK=>?_;simp
  refine hK _ _ _ ?_
  clear hK K;refine aLex_read rfl rfl rfl rfl fun K hK=>?_;simp
  refine hK _ _ _ ?_
  clear hK K
  refine aLex_call (v:=(Ty.mk ny ly).enc) rfl rfl ?_ (by simp) ?_
  ·simp [enc_mk]
   exact hc _ (hg _)
  refine aLex_eff rfl rfl rfl rfl fun K hK=>?_;simp [enc_mk];apply hK;clear hK K;refine aLex_eff rfl rfl rfl rfl fun K hK=>?_;simp [Nat.min_eq_left (Nat.le_of_lt hk)]
  refine ⟨by omega,fun r hr=>?_,hK _ _ ?_⟩
  ·obtain ⟨x,_,rfl⟩:=List.mem_map.1 (List.mem_of_mem_take hr)
   simp
  clear hK K;refine aLex_read rfl rfl rfl rfl fun K hK=>?_;simp
  refine hK _ _ _ ?_
  clear hK K;refine aLex_eff rfl rfl rfl rfl fun K hK=>?_;simp;apply hK;clear hK K;refine aLex_end ?_;simp;apply hK;clear hK K;refine awp_region ?_;simp [wrap_succ (show k < 4611686018427387904 by omega)];simp at e1
  rw [e1]
  refine weak_HL (hcl) (by simp) (by simp [Ty.cells,lt_nid hil]) (by simp [Ty.cells,lt_nid hil])
 ·have e2:((l.map (putT m)).map Ty.cells).take l.length=(l.map (putT m)).map Ty.cells:=List.take_of_length_le (by simp)
  rw [e2]
  refine awp_sr fun K hK=>?_;simp;apply hK;clear hK K;refine awp_seq_k fun K hK=>?_;refine awp_condF rfl (by simp) ?_;refine awp_exit ?_;simp;clear hK K;apply hK;clear hK K;refine awp_sr fun K hK=>?_;simp;apply hK;clear hK K
  rw [e]
  simp [Ty.cells]
  exact ⟨Wk.agg (by simp),reset_all hcl⟩
def memS (s:ByteArray) (l:List ByteArray):Bool:=l.any fun x=>decide (s=x)
theorem memS_iff {s:ByteArray} {l:List ByteArray}:memS s l=true↔s∈l:=by simp [memS]
def nameStep (out:List ByteArray) (t:Ty):List ByteArray:=if t.isVar then (if memS t.name out then out else out++[t.name]) else out
def namesL (l:List Ty):List ByteArray:=(nodesL l).foldl nameStep []
def metEs (out:List ByteArray):List (Value × AV):=out.map fun s=>(.string s,boolV true)
theorem aLook_met (out:List ByteArray) (s:ByteArray):aLook (metEs out) (.string s)=if memS s out then some (boolV true) else none:=by
 induction out with
 | nil=>rfl
 | cons x out ih =>
  unfold aLook metEs at ih ⊢
  simp only [List.map_cons,List.find?_cons,keq]
  by_cases h:s=x
  ·simp [h,memS]
  ·simp only [h,decide_false,memS,List.any_cons,Bool.false_or] at ih ⊢;exact ih
theorem keys_met (out:List ByteArray):keysOk .string (metEs out):=by
 intro e he
 obtain ⟨p,_,rfl⟩:=List.mem_map.1 he
 rfl
theorem aPut_met {out:List ByteArray} {s:ByteArray} (h:memS s out=false):aPut (metEs out) (.string s) (boolV true)=metEs (out++[s]):=by
 induction out with
 | nil=>rfl
 | cons x out ih =>
  simp only [memS,List.any_cons,Bool.or_eq_false_iff,decide_eq_false_iff_not] at h
  have ih:=ih h.2
  simp only [metEs,List.map_cons,List.cons_append,aPut,keq,h.1,decide_false,Bool.false_eq_true,if_false] at ih ⊢
  rw [ih]
theorem low_met (n:Nat) (out:List ByteArray):lowEs n (metEs out):=by
 induction out with
 | nil=>trivial
 | cons x out ih=>exact ⟨trivial,ih⟩
def namesB (ci mi oi ti:Nat) (out:List ByteArray):List (Nat × ABlock) :=
 [(ci,.cells [.map mi]),(mi,.amap (metEs out) out.length),(oi,.cells [.slice (out.map fun s=>[strV s]) (some ti)]),(ti,.tok out.length 1 none)]
set_option maxRecDepth 10000 in
theorem names1_c (t:Ty) (out:List ByteArray) (mi oi ti ci:Nat) (hne:mi≠oi∧mi≠ti∧oi≠ti) (hsz:out.length < 1099511627776) (H:AHeap) (hH:Holds H (namesB ci mi oi ti out)) :
  ACalls Tryz.prog 83 [t.enc,.ref ci 0,.ref oi 0] H (.tuple []) (puts H (namesB ci mi oi ti (nameStep out t))):=by
 obtain ⟨nm,l⟩:=t
 obtain ⟨hci,h1,h2,h3,_⟩:=hH
 refine acalls_walk (fun _=>.imm) [0,1,2,3,12] Tryz.mixed Tryz.func83 rfl rfl rfl (by decide) (fun hcl hlow=>?_)
 simp only [Ty.enc,Ty.cells]
 have hml:mi < H.next:=(hcl _ _ h1).1
 have hol:oi < H.next:=(hcl _ _ h2).1
 have htl:ti < H.next:=(hcl _ _ h3).1
 have hcil:ci < H.next:=(hcl _ _ hci).1
 have g1:∀ bs,(HL H bs).get mi=some (.amap (metEs out) out.length):=fun bs=>by rw [get_lt hml];exact h1
 have g2:∀ bs,(HL H bs).get oi=some (.cells [.slice (out.map fun s=>[strV s]) (some ti)]):=fun bs=>by rw [get_lt hol];exact h2
 have g4:∀ bs,(HL H bs).get ci=some (.cells [.map mi]):=fun bs=>by rw [get_lt hcil];exact hci
 have hself:puts H (namesB ci mi oi ti out)=H:=puts_self ⟨hci,h1,h2,h3,trivial⟩
 refine awp_sr fun K hK=>?_;simp;apply hK;clear hK K;refine awp_sr fun K hK=>?_;refine aOps_split 1 fun K hK=>?_;simp;apply hK;clear hK K
 have hc:=isVar_c (.mk nm l)
 simp only [Ty.enc,Ty.cells,cellsL_eq] at hc;refine aOps_call (hc _) (by first | rfl | simp) rfl rfl rfl ?_
 clear hc
 cases hv:(Ty.mk nm l).isVar
 ·have e:nameStep out (.mk nm l)=out:=by simp [nameStep,hv]
  simp;apply hK;clear hK K;refine awp_condF rfl (by simp) ?_;refine awp_skip ?_
  rw [e,hself]
  simp [reset_all hcl]
 cases hm:memS nm out
 rotate_left
 ·have e:nameStep out (.mk nm l)=out:=by simp [nameStep,hv,Ty.name,hm]
  simp [aLookup,g1,g4,keys_met,keyOk,aLook_met,hm];apply hK;clear hK K;refine awp_condF rfl (by simp) ?_;refine awp_skip ?_
  rw [e,hself]
  simp [reset_all hcl]
 ·have e:nameStep out (.mk nm l)=out++[nm]:=by simp [nameStep,hv,Ty.name,hm]
  simp [aLookup,g1,g4,keys_met,keyOk,aLook_met,hm];apply hK;clear hK K;refine awp_condT rfl (by simp) ?_
  have hv1:aVer (metEs out) (.string nm) out.length true=out.length+1:=by simp [aVer,aLook_met,hm]
  have f2:∀ b bs,(HL (H.upd mi b) bs).get oi=some (.cells [.slice (out.map fun s=>[strV s]) (some ti)]):=fun b bs=>by rw [get_lt (by exact hol),get_upd_ne hne.1.symm];exact h2
  have f3:∀ b bs,(HL (H.upd mi b) bs).get ti=some (.tok out.length 1 none):=fun b bs=>by rw [get_lt (by exact htl),get_upd_ne hne.2.1.symm];exact h3
  have f4:∀ b c bs,(HL ((H.upd mi b).upd ti c) bs).get oi=some (.cells [.slice (out.map fun s=>[strV s]) (some ti)]):=fun b c bs=>by rw [get_lt (by exact hol),get_upd_ne hne.2.2,get_upd_ne hne.1.symm];exact h2
  have u1:∀ b bs,(HL H bs).upd mi b=HL (H.upd mi b) bs:=fun b bs=>upd_lt hml
  have u2:∀ b c bs,(HL (H.upd mi b) bs).upd ti c=HL ((H.upd mi b).upd ti c) bs:=fun b c bs=>upd_lt (by exact htl)
  have u3:∀ b c d bs,(HL ((H.upd mi b).upd ti c) bs).upd oi d=HL (((H.upd mi b).upd ti c).upd oi d) bs:=fun b c d bs=>upd_lt (by exact hol)
  refine awp_sr fun K hK=>?_;simp [aMapUpdate,g1,g4,keys_met,keyOk,aPut_met hm,hv1,u1];apply hK;clear hK K;refine awp_region ?_;simp [f2,f3,f4,u2,u3]
  refine ⟨by omega,?_⟩
  have ep:((H.upd mi (.amap (metEs (out++[nm])) (out.length+1))).upd ti (.tok (out.length+1) 1 none)).upd oi (.cells [.slice (out.map (fun s=>[strV s])++[[strV nm]]) (some ti)])=puts H (namesB ci mi oi ti (nameStep out (.mk nm l))):=by
   rw [e]
   simp only [namesB,puts,upd_same hci,List.length_append,List.length_cons,List.length_nil,List.map_append,List.map_cons,List.map_nil,Nat.zero_add]
   rw [upd_comm hne.2.2.symm]
  rw [ep]
  refine reset_all (closed_puts hcl ?_)
  rw [e]
  simp [namesB,hml,hol,htl,hcil,low_met]
def nameStepI (out:List ByteArray) (m:Nat):Prop:=out.length+m < 1099511627776
theorem nameStep_len (out:List ByteArray) (t:Ty):(nameStep out t).length≤out.length+1:=by
 unfold nameStep
 split
 ·split
  ·omega
  ·simp
 ·omega
set_option maxRecDepth 10000 in
theorem names_c (l:List Ty) (hl:(nodesL l).length < 1099511627776) (H:AHeap):ACalls Tryz.prog 43 [.slice (l.map Ty.cells) none] H (.slice ((namesL l).map fun s=>[strV s]) none) H:=by
 have hll:=nodesL_len l
 refine acalls_walk (fun d=>if d=3 then .nila 1 else .imm) [0,2,3,4,6,8,9,10,11] Tryz.mixed Tryz.func43 rfl rfl rfl (by decide) (fun hcl hlow=>?_)
 refine awp_sr fun K hK=>?_;simp;apply hK;clear hK K;refine awp_sr fun K hK=>?_;simp;apply hK;clear hK K;refine awp_sr fun K hK=>?_;simp;apply hK;clear hK K;repeat with_reducible refine awp_assoc ?_
 refine awp_sr fun K hK=>?_;simp;apply hK;clear hK K;refine awp_seq_k fun K hK=>?_;refine awp_block ?_
 refine awp_up l.length (fun k=>Env.ofL [(3,.ref (nid H.next 1) 0),(4,.ref (nid H.next 3) 0),(8,.slice (l.map Ty.cells) none),(9,intV l.length),(10,intV k)])
  (fun k=>HL H [.tok ((nodesL (l.take k)).foldl nameStep []).length 1 none,.cells [.slice (((nodesL (l.take k)).foldl nameStep []).map fun s=>[strV s]) (some (nid H.next 0))],.amap (metEs ((nodesL (l.take k)).foldl nameStep [])) ((nodesL (l.take k)).foldl nameStep []).length,.cells [.map (nid H.next 2)]])
  (fun k=>True) (weak_HL hcl rfl ?_ ?_) trivial (fun k hk _=>?_) (fun _=>?_)
 ·simp [nodesL,metEs,WkEs,lowEs]
 ·simp
 ·obtain ⟨x,hx⟩:∃ x,l[k]?=some x:=⟨_,List.getElem?_eq_getElem hk⟩
  have hxc:=cnt_mem hx
  have hlen:(nodesL (l.take k)).length+x.cnt≤(nodesL l).length:=by
   have h1:=congrArg List.length (nodesL_take hx)
   have h2:nodesL l=nodesL (l.take (k+1))++nodesL (l.drop (k+1)):=by rw [←nodesL_append,List.take_append_drop]
   have h3:=congrArg List.length h2
   rw [List.length_append] at h1 h3;simp only [Ty.cnt];omega
  have hI0:∀ (L:List Ty) (o:List ByteArray),(L.foldl nameStep o).length≤o.length+L.length:=by
   intro L
   induction L with
   | nil=>intro o;simp
   | cons t L ih=>intro o;have h1:=ih (nameStep o t);have h2:=nameStep_len o t;simp only [List.foldl_cons,List.length_cons];omega
  have hI1:=hI0 (nodesL (l.take k)) []
  have e1:(nodesL (l.take (k+1))).foldl nameStep []=x.nodes.foldl nameStep ((nodesL (l.take k)).foldl nameStep []):=by
   rw [nodesL_take hx,List.foldl_append]
  generalize hsk:(nodesL (l.take k)).foldl nameStep []=sk at e1 hI1 ⊢
  obtain ⟨nx,lx⟩:=x
  refine awp_sr fun K hK=>?_;simp [hk];apply hK;clear hK K;refine awp_seq_k fun K hK=>?_;refine awp_condT rfl (by simp) ?_;refine awp_skip ?_;apply hK;clear hK K;refine awp_seq_k fun K hK=>?_;refine awp_block ?_;refine awp_sr fun K hK=>?_;simp [hx,Ty.cells];apply hK;clear hK K;refine awp_region ?_;refine aOps_split 2 fun K hK=>?_;simp;apply hK;clear hK K
  have hc:=each_c (g:=83) (caps:=[.ref (nid H.next 3) 0,.ref (nid H.next 1) 0]) (B:=namesB (nid H.next 3) (nid H.next 2) (nid H.next 1) (nid H.next 0)) (ids:=[nid H.next 3,nid H.next 2,nid H.next 1,nid H.next 0]) (f:=nameStep) (I:=nameStepI) (n0:=nid H.next 4)
   (fun _=>rfl) (by simp) (fun s p hp=>by simp [namesB] at hp;rcases hp with rfl | rfl | rfl | rfl <;> simp [low_met,low_strs]) (by simp) (fun s m t h=>by have:=nameStep_len s t;unfold nameStepI at h ⊢;omega)
   (fun t s m H' hi hn hh=>names1_c t s _ _ _ _ (by simp) (by unfold nameStepI at hi;omega) H' hh)
   (.mk nx lx) sk 0 (HL H [.tok sk.length 1 none,.cells [.slice (sk.map fun s=>[strV s]) (some (nid H.next 0))],.amap (metEs sk) sk.length,.cells [.map (nid H.next 2)],.cells [strV nx,.slice (lx.map Ty.cells) none]])
   (by omega) (by unfold nameStepI;simp at hI1;omega) (by simp [nid]) (by simp [Holds,namesB])
  rw [←e1] at hc
  generalize hsk':(nodesL (l.take (k+1))).foldl nameStep []=sk' at hc ⊢
  simp only [namesB,puts,enc_mk] at hc
  rw [upd_nid rfl (by simp),upd_nid rfl (by simp),upd_nid rfl (by simp),upd_nid rfl (by simp)] at hc
  simp only [List.set] at hc;refine aOps_call hc (by first | rfl | simp) rfl rfl rfl ?_;simp;apply hK;clear hK K;refine awp_region ?_;simp [wrap_succ (show k < 4611686018427387904 by omega)]
  refine weak_HL hcl rfl ?_ ?_
  ·simp [WkEs.refl,low_met,hsk']
  ·simp
 ·refine awp_sr fun K hK=>?_;simp;apply hK;clear hK K;refine awp_seq_k fun K hK=>?_;refine awp_condF rfl (by simp) ?_;refine awp_exit ?_;simp;clear hK K;apply hK;clear hK K;refine awp_sr fun K hK=>?_;simp;apply hK;clear hK K;simp [namesL,reset_all hcl]
def putM (m:TyM) (s:ByteArray) (t:Ty):TyM:=match m with
 | []=>[(s,t)]
 | p::m=>if s=p.1 then (s,t)::m else p::putM m s t
theorem aPut_ty (m:TyM) (s:ByteArray) (t:Ty):aPut (tyEs m) (.string s) t.enc=tyEs (putM m s t):=by
 induction m with
 | nil=>rfl
 | cons p m ih =>
  simp only [tyEs,List.map_cons,aPut,putM,keq] at ih ⊢
  by_cases h:s=p.1
  ·simp [h]
  ·simp only [h,decide_false,Bool.false_eq_true,if_false,List.map_cons];rw [ih]
theorem aVer_ty (m:TyM) (s:ByteArray) (v:Nat):aVer (tyEs m) (.string s) v true=if (lookT m s).isSome then v else v+1:=by
 simp only [aVer,aLook_ty,Option.isSome_map]
 cases (lookT m s).isSome <;> simp
theorem putM_new {m:TyM} {s:ByteArray} {t:Ty} (h:lookT m s=none):putM m s t=m++[(s,t)]:=by
 induction m with
 | nil=>rfl
 | cons p m ih =>
  unfold lookT at h ih
  simp only [List.find?_cons] at h
  by_cases hs:s=p.1
  ·simp [hs] at h
  ·simp only [hs,decide_false] at h;simp only [putM,hs,if_false,List.cons_append];rw [ih h]
def renM (l:List ByteArray):TyM:=l.zipIdx.map fun p=>(p.1,.mk (letS p.2) [])
theorem fold_nodup:∀ (L:List Ty) (out:List ByteArray),out.Nodup→(L.foldl nameStep out).Nodup
 | [],out,h=>h
 | t::L,out,h=>by
  refine fold_nodup L _ ?_
  unfold nameStep
  split
  ·split
   ·exact h
   ·rename_i hm
    rw [List.nodup_append]
    refine ⟨h,by simp,?_⟩
    intro a ha b hb
    simp only [List.mem_singleton] at hb
    subst hb
    rintro rfl
    exact hm (memS_iff.2 ha)
  ·exact h
theorem names_nodup (l:List Ty):(namesL l).Nodup:=fold_nodup _ _ List.nodup_nil
theorem fold_len (L:List Ty):∀ (o:List ByteArray),(L.foldl nameStep o).length≤o.length+L.length:=by
 induction L with
 | nil=>intro o;simp
 | cons t L ih=>intro o;have h1:=ih (nameStep o t);have h2:=nameStep_len o t;simp only [List.foldl_cons,List.length_cons];omega
theorem names_len (l:List Ty):(namesL l).length≤(nodesL l).length:=by have:=fold_len (nodesL l) [];simpa [namesL] using this
theorem renM_take {l:List ByteArray} {k:Nat} {s:ByteArray} (h:l[k]?=some s):renM (l.take (k+1))=renM (l.take k)++[(s,.mk (letS k) [])]:=by
 unfold renM
 have hk:(l.take k).length=k:=by
  have:k < l.length:=by
   rcases Nat.lt_or_ge k l.length with h' | h'
   ·exact h'
   ·simp [List.getElem?_eq_none h'] at h
  simp;omega
 rw [take_one h,List.zipIdx_append,List.map_append,hk]
 simp
theorem renM_keys (l:List ByteArray):(renM l).map (·.1)=l:=by
 unfold renM
 rw [List.map_map]
 have:((fun p:ByteArray × Ty=>p.1) ∘ fun p:ByteArray × Nat=>(p.1,Ty.mk (letS p.2) []))=Prod.fst:=rfl
 rw [this];simp
theorem lookT_none {m:TyM} {s:ByteArray} (h:s ∉ m.map (·.1)):lookT m s=none:=by
 cases hl:lookT m s with
 | none=>rfl
 | some t=>exact absurd (List.mem_map_of_mem (lookT_mem hl)) h
set_option maxRecDepth 10000 in
theorem renaming_c (l:List Ty) (hl:(nodesL l).length < 4294967296) (H:AHeap) :
  ACalls Tryz.prog 46 [.slice (l.map Ty.cells) none] H (.map (nid H.next 0)) (HL H [.amap (tyEs (renM (namesL l))) (namesL l).length]):=by
 have hnl:=names_len l
 have hll:=nodesL_len l
 refine acalls_walk (fun _=>.imm) [0,2,3,4,5,8,9,10,11] Tryz.mixed Tryz.func46 rfl rfl rfl (by decide) (fun hcl hlow=>?_)
 refine awp_sr fun K hK=>?_;simp;apply hK;clear hK K;refine awp_sr fun K hK=>?_;simp;apply hK;clear hK K;repeat with_reducible refine awp_assoc ?_
 refine awp_sr fun K hK=>?_;refine aOps_split 1 fun K hK=>?_;simp;apply hK;clear hK K;refine aOps_call (names_c l (by omega) _) (by first | rfl | simp) rfl rfl (by first | (simp;done) | rfl) ?_;simp;apply hK;clear hK K
 generalize hns:namesL l=ns at hnl ⊢
 have hnd:ns.Nodup:=by rw [←hns];exact names_nodup l
 refine awp_seq_k fun K hK=>?_;refine awp_block ?_
 refine awp_up ns.length (fun k=>Env.ofL [(3,.map (nid H.next 0)),(8,.slice (ns.map fun s=>[strV s]) none),(9,intV ns.length),(10,intV k)]) (fun k=>HL (H) [.amap (tyEs (renM (ns.take k))) k]) (fun k=>True) (weak_HL (hcl) (by simp) ?_ ?_) ?_ (fun k hk hi=>?_) (fun hi=>?_)
 ·simp [low_ty,lowEs,show tyEs (renM [])=[] from rfl]
 ·simp [low_ty,lowEs,show tyEs (renM [])=[] from rfl]
 ·trivial
 ·obtain ⟨s,hs⟩:∃ s,ns[k]?=some s:=⟨_,List.getElem?_eq_getElem hk⟩
  have hnone:lookT (renM (ns.take k)) s=none:=lookT_none (by
   rw [renM_keys]
   intro hm
   have h2:=hnd
   rw [←List.take_append_drop k ns,List.nodup_append] at h2
   exact h2.2.2 s hm s (by rw [List.drop_eq_getElem_cons hk];rw [List.getElem?_eq_getElem hk] at hs;simp at hs;simp [hs]) rfl)
  have e1:tyEs (renM (ns.take (k+1)))=aPut (tyEs (renM (ns.take k))) (.string s) (.agg [strV (letS k),.slice [] none]):=by
   rw [renM_take hs,←putM_new hnone,←aPut_ty];rfl
  have hv1:aVer (tyEs (renM (ns.take k))) (.string s) k true=k+1:=by rw [aVer_ty,hnone];rfl
  refine awp_sr fun K hK=>?_;simp [hk];apply hK;clear hK K;refine awp_seq_k fun K hK=>?_;refine awp_condT rfl (by simp) ?_;refine awp_skip ?_;apply hK;clear hK K;refine awp_seq_k fun K hK=>?_;refine awp_block ?_;refine awp_sr fun K hK=>?_;simp [hs];apply hK;clear hK K;refine awp_region ?_;refine aOps_split 3 fun K hK=>?_;simp;apply hK;clear hK K;refine aOps_call (letter_c k (by omega) _) (by first | rfl | simp) rfl rfl (by first | (simp;done) | rfl) ?_;simp [aMapUpdate,keys_ty,keyOk,hv1];apply hK;clear hK K;refine awp_region ?_;simp [wrap_succ (show k < 4611686018427387904 by omega)]
  rw [e1]
  refine weak_HL hcl rfl ⟨⟨rfl,wkEs_put (Wk.agg (by simp)) _ _⟩,?_,trivial⟩ (by simp)
  rw [←e1]
  exact low_ty _ _
 ·refine awp_sr fun K hK=>?_;simp;apply hK;clear hK K;refine awp_seq_k fun K hK=>?_;refine awp_condF rfl (by simp) ?_;refine awp_exit ?_;simp;clear hK K;apply hK;clear hK K;refine awp_sr fun K hK=>?_;simp;apply hK;clear hK K;simp
  exact ⟨reset_HL hcl ⟨.refl _,low_ty _ _,trivial⟩,le_nid⟩
def bindC (p:ByteArray × Ty):List AV:=strV p.1::p.2.cells
theorem low_bind (n:Nat) (l:TyM):lowR n (l.map bindC):=lowR_map fun p _=>⟨trivial,p.2.low n⟩
attribute [local simp] low_bind
def ascM:TyM→Bool
 | p::q::r=>Op.bytesLess p.1.toList q.1.toList && ascM (q::r)
 | _=>true
def substV (l:TyM):Int:=if l.all (fun p=>smallN p.1) then (if allV (l.map (·.2))=0 then (if ascM l then 0 else 5) else allV (l.map (·.2))) else 1
theorem ascM_iff:∀ (l:TyM),ascM l=true↔∀ k p q,l[k]?=some p→l[k+1]?=some q→Op.bytesLess p.1.toList q.1.toList=true
 | []=>by simp [ascM]
 | [p]=>by simp [ascM]
 | p::q::r=>by
  simp only [ascM,Bool.and_eq_true,ascM_iff (q::r)]
  constructor
  ·rintro ⟨h1,h2⟩ k a b ha hb
   cases k with
   | zero=>simp at ha hb;subst ha;subst hb;exact h1
   | succ k=>exact h2 k a b (by simpa using ha) (by simpa using hb)
  ·intro h
   exact ⟨h 0 p q rfl rfl,fun k a b ha hb=>h (k+1) a b (by simpa using ha) (by simpa using hb)⟩
set_option maxRecDepth 10000 in
theorem isSubst_c (l:TyM) (hl:l.length < 4611686018427387904) (H:AHeap):ACalls Tryz.prog 64 [.slice (l.map bindC) none] H (intV (substV l)) H:=by
 refine acalls_walk (fun _=>.imm) [0,2,4,6,7,8,9,10,11,12,18,20,21,22,23,30,36,50] Tryz.mixed Tryz.func64 rfl rfl rfl (by decide) (fun hcl hlow=>?_)
 refine awp_sr fun K hK=>?_;simp;apply hK;clear hK K;repeat with_reducible refine awp_assoc ?_
 refine awp_sr fun K hK=>?_;simp;apply hK;clear hK K;refine awp_seq_k fun K hK=>?_;refine awp_block ?_
 refine awp_up l.length (fun k=>Env.ofL [(0,.slice (l.map bindC) none),(2,intV 0),(9,.slice (l.map bindC) none),(10,intV l.length),(11,intV k)]) (fun k=>HL H []) (fun k=>∀ p∈l.take k,smallN p.1=true) (weak_HL hcl rfl ?_ ?_) ?_ (fun k hk hi=>?_) (fun hi=>?_)
 ·simp
 ·simp
 ·simp
 ·obtain ⟨x,hx⟩:∃ x,l[k]?=some x:=⟨_,List.getElem?_eq_getElem hk⟩
  refine awp_sr fun K hK=>?_;simp [hk];apply hK;clear hK K;refine awp_seq_k fun K hK=>?_;refine awp_condT rfl (by simp) ?_;refine awp_skip ?_;apply hK;clear hK K;refine awp_seq_k fun K hK=>?_;refine awp_block ?_
  obtain ⟨s,n',l'⟩:=x
  refine awp_sr fun K hK=>?_;simp [hx,bindC,Ty.cells];apply hK;clear hK K;refine awp_sr fun K hK=>?_;refine aOps_split 2 fun K hK=>?_;simp;apply hK;clear hK K;refine aOps_call (isSmallN_c s _) (by first | rfl | simp) rfl rfl (by first | (simp;done) | rfl) ?_;simp;apply hK;clear hK K
  cases hs:smallN s
  ·refine awp_condT rfl (by simp [hs]) ?_;refine awp_sr fun K hK=>?_;simp;apply hK;clear hK K
   have e:substV l=1:=by
    unfold substV
    rw [if_neg]
    intro h
    have:=List.all_eq_true.1 h _ (List.mem_of_getElem? hx)
    rw [hs] at this;cases this
   simp [e,reset_all hcl]
  ·refine awp_condF rfl (by simp [hs]) ?_;refine awp_skip ?_;apply hK;clear hK K;refine awp_region ?_;simp [wrap_succ (show k < 4611686018427387904 by omega)]
   refine ⟨fun a b hy=>?_,?_⟩
   ·rw [take_one hx] at hy
    simp at hy
    rcases hy with hy | ⟨rfl,rfl⟩
    ·exact hi (a,b) hy
    ·exact hs
   ·refine weak_HL hcl rfl (by simp [low_bind]) (by simp [low_bind])
 rw [List.take_length] at hi
 have hall:l.all (fun p=>smallN p.1)=true:=List.all_eq_true.2 hi
 refine awp_sr fun K hK=>?_;simp;apply hK;clear hK K;refine awp_seq_k fun K hK=>?_;refine awp_condF rfl (by simp) ?_;refine awp_exit ?_;simp;clear hK K;apply hK;clear hK K;repeat with_reducible refine awp_assoc ?_
 refine awp_sr fun K hK=>?_;simp;apply hK;clear hK K;refine awp_seq_k fun K hK=>?_;refine awp_block ?_
 refine awp_up l.length (fun k=>Env.ofL [(0,.slice (l.map bindC) none),(2,intV 0),(20,.slice (l.map bindC) none),(21,intV l.length),(22,intV k)]) (fun k=>HL H []) (fun k=>∀ p∈(l.map (·.2)).take k,p.valid=0) (weak_HL hcl rfl ?_ ?_) ?_ (fun k hk hi2=>?_) (fun hi2=>?_)
 ·simp
 ·simp
 ·simp
 ·obtain ⟨x,hx⟩:∃ x,l[k]?=some x:=⟨_,List.getElem?_eq_getElem hk⟩
  refine awp_sr fun K hK=>?_;simp [hk];apply hK;clear hK K;refine awp_seq_k fun K hK=>?_;refine awp_condT rfl (by simp) ?_;refine awp_skip ?_;apply hK;clear hK K;refine awp_seq_k fun K hK=>?_;refine awp_block ?_
  obtain ⟨s,n',l'⟩:=x
  refine awp_sr fun K hK=>?_;simp [hx,bindC,Ty.cells];apply hK;clear hK K;refine awp_sr fun K hK=>?_;refine aOps_split 2 fun K hK=>?_;simp;apply hK;clear hK K
  have hc:=validate_c (.mk n' l')
  simp only [Ty.enc,Ty.cells,cellsL_eq] at hc;refine aOps_call (hc _) (by first | rfl | simp) rfl rfl rfl ?_
  clear hc
  simp;apply hK;clear hK K
  have hx2:(l.map (·.2))[k]?=some (.mk n' l'):=by simp [hx]
  by_cases hv:(Ty.mk n' l').valid=0
  ·refine awp_sr fun K hK=>?_;simp [hv];apply hK;clear hK K;refine awp_condF rfl (by simp [hv]) ?_;refine awp_skip ?_;apply hK;clear hK K;refine awp_region ?_;simp [wrap_succ (show k < 4611686018427387904 by omega)]
   refine ⟨fun y hy=>?_,?_⟩
   ·rw [take_one hx2] at hy
    simp only [List.mem_append,List.mem_singleton] at hy
    rcases hy with hy | rfl
    ·exact hi2 y hy
    ·exact hv
   ·refine weak_HL hcl rfl (by simp) (by simp)
  ·refine awp_sr fun K hK=>?_;simp [hv];apply hK;clear hK K;refine awp_condT rfl (by simp [hv]) ?_;refine awp_sr fun K hK=>?_;simp;apply hK;clear hK K
   have e:substV l=(Ty.mk n' l').valid:=by
    unfold substV
    rw [if_pos hall,allV_of hx2 hi2 hv,if_neg hv]
   rw [e]
   simp [reset_all hcl]
 rw [List.take_of_length_le (by simp)] at hi2
 have hval:=allV_zero hi2
 refine awp_sr fun K hK=>?_;simp;apply hK;clear hK K;refine awp_seq_k fun K hK=>?_;refine awp_condF rfl (by simp) ?_;refine awp_exit ?_;simp;clear hK K;apply hK;clear hK K;repeat with_reducible refine awp_assoc ?_
 refine awp_sr fun K hK=>?_;simp;apply hK;clear hK K
 have hS:substV l=if ascM l then 0 else 5:=by unfold substV;rw [if_pos hall,hval];rfl
 refine awp_seq_k fun K hK=>?_;refine awp_block ?_
 refine awp_up (l.length - 1) (fun k=>Env.ofL [(0,.slice (l.map bindC) none),(2,intV 0),(8,intV ((k:Int)+1))]) (fun k=>HL H []) (fun k=>∀ j p q,j < k→l[j]?=some p→l[j+1]?=some q→Op.bytesLess p.1.toList q.1.toList=true) (weak_HL hcl rfl ?_ ?_) ?_ (fun k hk hi3=>?_) (fun hi3=>?_)
 ·simp
 ·simp
 ·simp
 ·have hk1:k+1 < l.length:=by omega
  have hk1':(k:Int)+1 < l.length:=by omega
  obtain ⟨x,hx⟩:∃ x,l[k]?=some x:=⟨_,List.getElem?_eq_getElem (by omega)⟩
  obtain ⟨y,hy⟩:∃ y,l[k+1]?=some y:=⟨_,List.getElem?_eq_getElem hk1⟩
  have w1:IntKind.i64.wrap (k:Int)=k:=wrap64 (by omega) (by omega)
  have w2:IntKind.i64.wrap ((k:Int)+1+1)=(k:Int)+1+1:=wrap64 (by omega) (by omega)
  have t1:((k:Int)+1).toNat=k+1:=by omega
  have t2:(0:Int)≤(k:Int)+1:=by omega
  repeat with_reducible refine awp_assoc ?_
  refine awp_sr fun K hK=>?_;simp [hk1'];apply hK;clear hK K;refine awp_seq_k fun K hK=>?_;refine awp_condT rfl (by simp) ?_;refine awp_skip ?_;apply hK;clear hK K;refine awp_seq_k fun K hK=>?_;refine awp_block ?_
  obtain ⟨s,n',l'⟩:=x
  obtain ⟨s2,n2,l2⟩:=y
  refine awp_sd [] [[],[0],[0],[],[],[1],[0,1,2,3,4,5],[0,1,2,3,4,5,6],[0,1,2,3,4,5],[0,1,2,3,4,5],[0,1,2,3,4,5],[0,1,2,6,7]] (by kernel_rfl) fun K hK=>?_
  refine aLex_pre 12 rfl fun K hK=>?_;simp [hx,hy,w1,t1,t2,bindC,Ty.cells]
  refine hK _ ?_
  clear hK K;refine aLex_end ?_;simp;apply hK;clear hK K
  cases hb:Op.bytesLess s.toList s2.toList
  ·refine awp_condT rfl (by simp [hb]) ?_;refine awp_sr fun K hK=>?_;simp;apply hK;clear hK K
   have e:substV l=5:=by
    rw [hS,if_neg]
    intro h
    have:=(ascM_iff l).1 h k _ _ hx hy
    rw [hb] at this;cases this
   simp [e,reset_all hcl]
  ·refine awp_condF rfl (by simp [hb]) ?_;refine awp_skip ?_;apply hK;clear hK K;refine awp_region ?_;simp [w2]
   refine ⟨fun j a b a2 b2 hj ha hq=>?_,?_⟩
   ·rcases Nat.lt_or_ge j k with h | h
    ·exact hi3 j (a,b) (a2,b2) h ha hq
    ·obtain rfl:j=k:=by omega
     rw [hx] at ha;rw [hy] at hq
     simp only [Option.some.injEq,Prod.mk.injEq] at ha hq
     rw [←ha.1,←hq.1];exact hb
   ·refine weak_HL hcl rfl (by simp) (by simp)
 have hasc:ascM l=true:=(ascM_iff l).2 fun j p q hp hq=>hi3 j p q (by
  rcases Nat.lt_or_ge (j+1) l.length with h | h
  ·omega
  ·simp [List.getElem?_eq_none h] at hq) hp hq
 have hend:¬ (((l.length - 1:Nat):Int)+1 < l.length):=by omega
 repeat with_reducible refine awp_assoc ?_
 refine awp_sr fun K hK=>?_;simp [hend];apply hK;clear hK K;refine awp_seq_k fun K hK=>?_;refine awp_condF rfl (by simp) ?_;refine awp_exit ?_;simp;clear hK K;apply hK;clear hK K;refine awp_sr fun K hK=>?_;simp;apply hK;clear hK K
 rw [hS,hasc]
 simp [reset_all hcl]
end Go.Proofs.YtgeehnbbhnpimaaGreat
namespace Go.Proofs.YtgeehnbbhnpimaaGreat
open Go Go.Abs Go.Proofs
theorem bl_irrefl:∀ l:List UInt8,Op.bytesLess l l=false
 | []=>rfl
 | a::l=>by simp [Op.bytesLess,bl_irrefl l]
theorem bl_trans:∀ {a b c:List UInt8},Op.bytesLess a b=true→Op.bytesLess b c=true→Op.bytesLess a c=true
 | _,[],_,h,_=>by cases ‹List UInt8› <;> simp [Op.bytesLess] at h
 | _,_::_,[],_,h=>by simp [Op.bytesLess] at h
 | [],_::_,_::_,_,_=>rfl
 | x::a,y::b,z::c,h,k=>by
  simp only [Op.bytesLess,Bool.or_eq_true,decide_eq_true_eq,Bool.and_eq_true,beq_iff_eq] at h k ⊢
  rcases h with h | ⟨rfl,h⟩ <;> rcases k with k | ⟨rfl,k⟩
  ·exact .inl (UInt8.lt_trans h k)
  ·exact .inl h
  ·exact .inl k
  ·exact .inr ⟨rfl,bl_trans h k⟩
theorem bl_total:∀ (a b:List UInt8),Op.bytesLess a b=true∨a=b∨Op.bytesLess b a=true
 | [],[]=>.inr (.inl rfl)
 | [],_::_=>.inl rfl
 | _::_,[]=>.inr (.inr rfl)
 | x::a,y::b=>by
  simp only [Op.bytesLess,Bool.or_eq_true,decide_eq_true_eq,Bool.and_eq_true,beq_iff_eq,List.cons.injEq]
  rcases Nat.lt_trichotomy x.toNat y.toNat with h | h | h
  ·exact .inl (.inl h)
  ·obtain rfl:=UInt8.toNat_inj.1 h
   rcases bl_total a b with h | h | h
   ·exact .inl (.inr ⟨rfl,h⟩)
   ·exact .inr (.inl ⟨rfl,h⟩)
   ·exact .inr (.inr (.inr ⟨rfl,h⟩))
  ·exact .inr (.inr (.inl h))
def ltS (a b:ByteArray):Bool:=Op.bytesLess a.toList b.toList
theorem ltS_irrefl (a:ByteArray):ltS a a=false:=bl_irrefl _
theorem ltS_trans {a b c:ByteArray} (h:ltS a b=true) (k:ltS b c=true):ltS a c=true:=bl_trans h k
theorem ltS_total (a b:ByteArray):ltS a b=true∨a=b∨ltS b a=true:=by
 rcases bl_total a.toList b.toList with h | h | h
 ·exact .inl h
 ·refine .inr (.inl ?_)
  rw [ByteArray.toList_eq,ByteArray.toList_eq,Array.toList_inj] at h
  cases a;cases b;simpa using h
 ·exact .inr (.inr h)
theorem ascM_pairwise:∀ {l:TyM},ascM l=true→l.Pairwise fun p q=>ltS p.1 q.1=true
 | [],_=>.nil
 | [p],_=>by simp
 | p::q::r,h=>by
  simp only [ascM,Bool.and_eq_true] at h
  have ih:=ascM_pairwise h.2
  refine List.Pairwise.cons (fun x hx=>?_) ih
  rcases List.mem_cons.1 hx with rfl | hx
  ·exact h.1
  ·exact ltS_trans h.1 (List.rel_of_pairwise_cons ih hx)
theorem asc_nodup {l:TyM} (h:ascM l=true):(l.map (·.1)).Nodup:=by
 rw [List.Nodup,List.pairwise_map]
 refine (ascM_pairwise h).imp fun {p q} h e=>?_
 rw [e,ltS_irrefl] at h;cases h
abbrev Asc (l:TyM):Prop:=l.Pairwise fun p q=>ltS p.1 q.1=true
theorem asc_unique:∀ {a b:TyM},Asc a→Asc b→a.Perm b→a=b
 | [],b,_,_,h=>by simpa using h.symm.eq_nil
 | p::a,[],_,_,h=>by simpa using h.eq_nil
 | p::a,q::b,ha,hb,h=>by
  have hpq:p=q:=by
   rcases List.mem_cons.1 (h.subset (List.mem_cons_self ..)) with e | h1
   ·exact e
   ·rcases List.mem_cons.1 (h.symm.subset (List.mem_cons_self ..)) with e | h2
    ·exact e.symm
    ·have k1:=List.rel_of_pairwise_cons hb h1
     have k2:=List.rel_of_pairwise_cons ha h2
     have:=ltS_trans k1 k2
     rw [ltS_irrefl] at this;cases this
  subst hpq
  rw [asc_unique ha.of_cons hb.of_cons (List.Perm.cons_inv h)]
def insM (p:ByteArray × Ty):TyM→TyM
 | []=>[p]
 | q::l=>if ltS p.1 q.1 then p::q::l else q::insM p l
def sortM (l:TyM):TyM:=l.foldr insM []
theorem insM_perm (p:ByteArray × Ty):∀ l:TyM,(insM p l).Perm (p::l)
 | []=>.refl _
 | q::l=>by
  simp only [insM]
  split
  ·exact .refl _
  ·exact ((insM_perm p l).cons q).trans (.swap p q l)
theorem sortM_perm:∀ l:TyM,(sortM l).Perm l
 | []=>.refl _
 | p::l=>(insM_perm p _).trans ((sortM_perm l).cons p)
theorem insM_asc {p:ByteArray × Ty}:∀ {l:TyM},Asc l→(∀ q∈l,p.1≠q.1)→Asc (insM p l)
 | [],_,_=>by simp [insM]
 | q::l,h,hn=>by
  simp only [insM]
  split
  ·rename_i hlt
   refine List.Pairwise.cons (fun x hx=>?_) h
   rcases List.mem_cons.1 hx with rfl | hx
   ·exact hlt
   ·exact ltS_trans hlt (List.rel_of_pairwise_cons h hx)
  ·rename_i hlt
   refine List.Pairwise.cons (fun x hx=>?_) (insM_asc h.of_cons fun x hx=>hn x (by simp [hx]))
   rcases List.mem_cons.1 ((insM_perm p l).subset hx) with rfl | hx
   ·rcases ltS_total x.1 q.1 with h1 | h1 | h1
    ·exact absurd h1 hlt
    ·exact absurd h1 (hn q (by simp))
    ·exact h1
   ·exact List.rel_of_pairwise_cons h hx
theorem sortM_asc:∀ {l:TyM},(l.map (·.1)).Nodup→Asc (sortM l)
 | [],_=>.nil
 | p::l,h=>by
  simp only [List.map_cons,List.nodup_cons] at h
  refine insM_asc (sortM_asc h.2) fun q hq e=>h.1 ?_
  rw [e];exact List.mem_map_of_mem ((sortM_perm l).subset hq)
theorem sortM_eq {l r:TyM} (hn:(l.map (·.1)).Nodup) (hp:r.Perm l) (ha:Asc r):r=sortM l:=asc_unique ha (sortM_asc hn) (hp.trans (sortM_perm l).symm)
set_option maxRecDepth 20000
attribute [local simp] aOps wantedA aStep aop aLoad aStore aBin aUn aFieldAddr aField aIndexAddr aIndex aLen aBuild aFill aAlloc aAppend aBuildSlice litRows newRows isMut isOwn isNilS nilsW bytesR tokW tokAV tokL ret readC splice aeval isLit isLate AV.celled AV.one AV.ofValue Value.oneCell' Value.cells intOp strOp get_nid upd_nid awp aEnd aResults aResult Det unord isCall isNext
attribute [local simp] low_take low_strs low_comp low_tcomp wkEs_refl' WkBs WkEnv WkB WkL WkE WkO ABlock.low lowO lowL lowR AV.low cellsL_eq Ty.low low_map Ty.cells_length Ty.cells_one
attribute [local simp] low_bind
def zeroTy:Ty:=.mk ByteArray.empty []
def applyV (l:TyM) (t:Ty):Ty × Int :=
 if substV l=0 then (if t.valid=0 then (if (putT l t).large then (zeroTy,3) else (putT l t,0)) else (zeroTy,t.valid)) else (zeroTy,substV l)
theorem substV_zero {l:TyM} (h:substV l=0):(∀ p∈l,smallN p.1=true∧p.2.valid=0)∧ascM l=true:=by
 unfold substV at h
 split at h
 ·rename_i h1
  split at h
  ·rename_i h2
   split at h
   ·rename_i h3
    refine ⟨fun p hp=>⟨List.all_eq_true.1 h1 p hp,?_⟩,h3⟩
    have:∀ {l:List Ty},allV l=0→∀ x∈l,x.valid=0:=by
     intro l
     induction l with
     | nil=>intro _ x hx;cases hx
     | cons t l ih =>
      intro h x hx
      simp only [allV] at h
      split at h
      ·rename_i ht
       rcases List.mem_cons.1 hx with rfl | hx
       ·exact ht
       ·exact ih h x hx
      ·rename_i ht;exact absurd h ht
    exact this h2 _ (List.mem_map_of_mem hp)
   ·cases h
  ·rename_i h2;exact absurd h h2
 ·cases h
theorem valid_cnt {t:Ty} (h:t.valid=0):t.large=false∧t.cnt≤200∧t.good=true:=by
 unfold Ty.valid at h
 split at h
 ·cases h
 ·rename_i hl
  have hl':t.large=false:=by simpa using hl
  split at h
  ·rename_i hg;exact ⟨hl',large_cnt hl',hg⟩
  ·cases h
set_option maxRecDepth 10000 in
theorem apply_c (l:TyM) (hl:l.length < 4611686018427387904) (t:Ty) (H:AHeap) :
  ACalls Tryz.prog 27 [.slice (l.map bindC) none,t.enc] H (.tuple [(applyV l t).1.enc,intV (applyV l t).2]) H:=by
 obtain ⟨nm,tl⟩:=t
 refine acalls_walk (fun _=>.imm) [0,1,3,4,5,6,7,8,10,11,15,21,25,26,27,28,41] Tryz.mixed Tryz.func27 rfl rfl rfl (by decide) (fun hcl hlow=>?_)
 simp only [Ty.enc,Ty.cells];refine awp_sr fun K hK=>?_;simp;apply hK;clear hK K;repeat with_reducible refine awp_assoc ?_
 refine awp_sr fun K hK=>?_;refine aOps_split 1 fun K hK=>?_;simp;apply hK;clear hK K;refine aOps_call (isSubst_c l hl _) (by first | rfl | simp) rfl rfl (by first | (simp;done) | rfl) ?_;simp;apply hK;clear hK K
 by_cases hs:substV l=0
 rotate_left
 ·have e:applyV l (.mk nm tl)=(zeroTy,substV l):=by unfold applyV;rw [if_neg hs]
  repeat with_reducible refine awp_assoc ?_
  refine awp_sr fun K hK=>?_;simp [hs];apply hK;clear hK K;refine awp_seq_k fun K hK=>?_;refine awp_condT rfl (by simp [hs]) ?_;refine awp_sr fun K hK=>?_;simp;apply hK;clear hK K
  rw [e]
  simp [zeroTy,Ty.cells,reset_all hcl]
  exact Wk.tuple ⟨Wk.agg (by simp),.refl _,trivial⟩
 repeat with_reducible refine awp_assoc ?_
 refine awp_sr fun K hK=>?_;simp [hs];apply hK;clear hK K;refine awp_seq_k fun K hK=>?_;refine awp_condF rfl (by simp [hs]) ?_;refine awp_skip ?_;apply hK;clear hK K;repeat with_reducible refine awp_assoc ?_
 refine awp_sr fun K hK=>?_;refine aOps_split 1 fun K hK=>?_;simp;apply hK;clear hK K
 have hc:=validate_c (.mk nm tl)
 simp only [Ty.enc,Ty.cells,cellsL_eq] at hc;refine aOps_call (hc _) (by first | rfl | simp) rfl rfl rfl ?_
 clear hc
 simp;apply hK;clear hK K
 by_cases hv:(Ty.mk nm tl).valid=0
 rotate_left
 ·have e:applyV l (.mk nm tl)=(zeroTy,(Ty.mk nm tl).valid):=by unfold applyV;rw [if_pos hs,if_neg hv]
  repeat with_reducible refine awp_assoc ?_
  refine awp_sr fun K hK=>?_;simp [hv];apply hK;clear hK K;refine awp_seq_k fun K hK=>?_;refine awp_condT rfl (by simp [hv]) ?_;refine awp_sr fun K hK=>?_;simp;apply hK;clear hK K
  rw [e]
  simp [zeroTy,Ty.cells,reset_all hcl]
  exact Wk.tuple ⟨Wk.agg (by simp),.refl _,trivial⟩
 repeat with_reducible refine awp_assoc ?_
 refine awp_sr fun K hK=>?_;simp [hv];apply hK;clear hK K;refine awp_seq_k fun K hK=>?_;refine awp_condF rfl (by simp [hv]) ?_;refine awp_skip ?_;apply hK;clear hK K;refine awp_sr fun K hK=>?_;simp;apply hK;clear hK K;repeat with_reducible refine awp_assoc ?_
 refine awp_sr fun K hK=>?_;simp;apply hK;clear hK K
 obtain ⟨hall,hasc⟩:=substV_zero hs
 have hnd:=asc_nodup hasc
 have hl40:l.length < 4611686018427387904:=hl
 refine awp_seq_k fun K hK=>?_;refine awp_block ?_
 refine awp_up l.length (fun k=>Env.ofL [(3,.ref (nid H.next 0) 0),(4,.ref (nid H.next 1) 0),(8,.map (nid H.next 2)),(25,.slice (l.map bindC) none),(26,intV l.length),(27,intV k)]) (fun k=>HL (H) [.cells [strV nm,.slice (tl.map Ty.cells) none],.cells [strV ByteArray.empty,.v (.slice none 0 0)],.amap (tyEs (l.take k)) k]) (fun k=>True) (weak_HL (hcl) (by simp) ?_ ?_) ?_ (fun k hk hi=>?_) (fun hi=>?_)
 ·simp [low_ty,lowEs,show tyEs []=[] from rfl]
 ·simp [low_ty,lowEs,show tyEs []=[] from rfl]
 ·trivial
 ·obtain ⟨x,hx⟩:∃ x,l[k]?=some x:=⟨_,List.getElem?_eq_getElem hk⟩
  have hnone:lookT (l.take k) x.1=none:=lookT_none (by
   intro hm
   have h2:=hnd
   rw [←List.take_append_drop k l,List.map_append,List.nodup_append] at h2
   refine h2.2.2 _ hm x.1 ?_ rfl
   rw [List.drop_eq_getElem_cons hk]
   rw [List.getElem?_eq_getElem hk] at hx
   simp at hx;simp [hx])
  have e1:aPut (tyEs (l.take k)) (.string x.1) x.2.enc=tyEs (l.take (k+1)):=by
   rw [take_one hx,aPut_ty,putM_new hnone]
  have hv1:aVer (tyEs (l.take k)) (.string x.1) k true=k+1:=by rw [aVer_ty,hnone];rfl
  obtain ⟨s,n',l'⟩:=x
  simp only [enc_mk] at e1;refine awp_sr fun K hK=>?_;simp [hk];apply hK;clear hK K;refine awp_seq_k fun K hK=>?_;refine awp_condT rfl (by simp) ?_;refine awp_skip ?_;apply hK;clear hK K;refine awp_seq_k fun K hK=>?_;refine awp_block ?_;refine awp_sr fun K hK=>?_;simp [hx,bindC,Ty.cells];apply hK;clear hK K;refine awp_region ?_;simp [aMapUpdate,keys_ty,keyOk,hv1,e1];apply hK;clear hK K;refine awp_region ?_;simp [wrap_succ (show k < 4611686018427387904 by omega)]
  exact weak_HL hcl rfl (by simp [low_ty]) (by simp)
 ·refine awp_sr fun K hK=>?_;simp;apply hK;clear hK K;refine awp_seq_k fun K hK=>?_;refine awp_condF rfl (by simp) ?_;refine awp_exit ?_;simp;clear hK K;apply hK;clear hK K
  obtain ⟨hlg,hcn,hgd⟩:=valid_cnt hv
  have hcp:=fun bs hg=>put_c l (fun p hp=>by have:=valid_cnt (hall p hp).2;omega) (nid H.next 2) l.length (.mk nm tl) (by omega) (HL H bs) hg
  obtain ⟨ny,ly,hy⟩:∃ ny ly,putT l (.mk nm tl)=.mk ny ly:=by cases putT l (.mk nm tl) with | mk a b=>exact ⟨a,b,rfl⟩
  have hlc:=isLarge_c (.mk ny ly)
  have e0:applyV l (.mk nm tl)=if (putT l (.mk nm tl)).large then (zeroTy,3) else (putT l (.mk nm tl),0):=by unfold applyV;rw [if_pos hs,if_pos hv]
  rw [hy] at hcp e0
  simp only [enc_mk] at hcp hlc;refine awp_sr fun K hK=>?_;refine aOps_split 2 fun K hK=>?_;simp;apply hK;clear hK K;refine aOps_call (hcp _ (by simp)) (by first | rfl | simp) rfl rfl rfl ?_;simp;apply hK;clear hK K;repeat with_reducible refine awp_assoc ?_
  refine awp_sr fun K hK=>?_;refine aOps_split 1 fun K hK=>?_;simp;apply hK;clear hK K;refine aOps_call (hlc _) (by first | rfl | simp) rfl rfl (by first | (simp;done) | rfl) ?_;simp;apply hK;clear hK K
  cases hb:(Ty.mk ny ly).large
  ·refine awp_seq_k fun K hK=>?_;refine awp_condF rfl (by simp [hb]) ?_;refine awp_skip ?_;apply hK;clear hK K;refine awp_sr fun K hK=>?_;simp;apply hK;clear hK K
   rw [e0,hb]
   simp [Ty.cells,reset_all hcl]
  ·refine awp_seq_k fun K hK=>?_;refine awp_condT rfl (by simp [hb]) ?_;refine awp_sr fun K hK=>?_;simp;apply hK;clear hK K
   rw [e0,hb]
   simp [zeroTy,Ty.cells,reset_all hcl]
   exact Wk.tuple ⟨Wk.agg (by simp),.refl _,trivial⟩
mutual
def matT:Ty→Ty→TyM→Bool × TyM
 | .mk n l,t,m=>if headP smallB n then (match lookT m n with | some x=>(eqT x t,m) | none=>(true,m++[(n,t)]))
   else if n=t.name∧l.length=t.args.length then matL l t.args m else (false,m)
def matL:List Ty→List Ty→TyM→Bool × TyM
 | p::ps,t::ts,m=>if (matT p t m).1 then matL ps ts (matT p t m).2 else (false,(matT p t m).2)
 | _,_,m=>(true,m)
end
theorem matL_append (a b c d:List Ty) (h:a.length=c.length) (m:TyM):matL (a++b) (c++d) m=if (matL a c m).1 then matL b d (matL a c m).2 else (false,(matL a c m).2):=by
 induction a generalizing c m with
 | nil=>cases c with
  | nil=>simp [matL]
  | cons=>simp at h
 | cons p ps ih=>cases c with
  | nil=>simp at h
  | cons t ts =>
   simp only [List.cons_append,matL]
   by_cases h1:(matT p t m).1=true
   ·simp only [h1,if_true];exact ih ts (by simpa using h) _
   ·simp [h1]
theorem matL_take {l l':List Ty} {k:Nat} {x y:Ty} (hl:l.length=l'.length) (hx:l[k]?=some x) (hy:l'[k]?=some y) (m:TyM) (h0:(matL (l.take k) (l'.take k) m).1=true) :
  matL (l.take (k+1)) (l'.take (k+1)) m=matT x y (matL (l.take k) (l'.take k) m).2:=by
 rw [take_one hx,take_one hy,matL_append _ _ _ _ (by simp [hl]),h0]
 simp only [if_true,matL]
 generalize matT x y (matL (l.take k) (l'.take k) m).2=r
 obtain ⟨c,d⟩:=r
 cases c <;> simp
theorem matL_false {l l':List Ty} {k:Nat} (hl:l.length=l'.length) (m:TyM) (h0:(matL (l.take k) (l'.take k) m).1=false):matL l l' m=matL (l.take k) (l'.take k) m:=by
 rw [←List.take_append_drop k l,←List.take_append_drop k l',matL_append _ _ _ _ (by simp [hl])]
 simp only [List.take_append_drop,h0,Bool.false_eq_true,if_false]
 rw [←h0]
def bndM (m:TyM):Prop:=∀ p∈m,p.2.cnt < 1099511627776
theorem bndM_app {m:TyM} {s:ByteArray} {t:Ty} (h:bndM m) (ht:t.cnt < 1099511627776):bndM (m++[(s,t)]):=by
 intro p hp
 rcases List.mem_append.1 hp with hp | hp
 ·exact h p hp
 ·simp at hp;subst hp;exact ht
mutual
theorem matT_bnd:∀ (p t:Ty) (m:TyM),t.cnt < 1099511627776→bndM m→bndM (matT p t m).2
 | .mk n l,t,m,ht,hm=>by
  rw [matT]
  split
  ·split
   ·exact hm
   ·exact bndM_app hm ht
  ·split
   ·refine matL_bnd l t.args m ?_ hm
    intro x hx
    obtain ⟨n',l'⟩:=t
    obtain ⟨k,hk⟩:=List.getElem?_of_mem hx
    have:x.cnt≤(nodesL l').length:=cnt_mem hk
    have h2:(Ty.mk n' l').cnt=(nodesL l').length+1:=by simp [Ty.cnt,Ty.nodes]
    omega
   ·exact hm
theorem matL_bnd:∀ (l l':List Ty) (m:TyM),(∀ x∈l',x.cnt < 1099511627776)→bndM m→bndM (matL l l' m).2
 | p::ps,t::ts,m,ht,hm=>by
  rw [matL]
  split
  ·exact matL_bnd ps ts _ (fun x hx=>ht x (by simp [hx])) (matT_bnd p t m (ht t (by simp)) hm)
  ·exact matT_bnd p t m (ht t (by simp)) hm
 | [],_,m,_,hm=>by simpa [matL] using hm
 | _::_,[],m,_,hm=>by simpa [matL] using hm
end
theorem enc_eq (t:Ty):t.enc=.agg [strV t.name,.slice (t.args.map Ty.cells) none]:=by cases t;exact enc_mk _ _
set_option maxRecDepth 10000 in
theorem match_c:∀ (p t:Ty) (m:TyM) (i:Nat) (H:AHeap),t.cnt < 1099511627776→bndM m→H.get i=some (.amap (tyEs m) m.length) →
  ACalls Tryz.prog 62 [p.enc,t.enc,.map i] H (boolV (matT p t m).1) (H.upd i (.amap (tyEs (matT p t m).2) (matT p t m).2.length)):=by
 intro p
 induction p using Ty.ind with
 | h n l ih =>
 intro t m i H ht hm hH
 obtain ⟨n',l'⟩:=t
 have hcnt:(Ty.mk n' l').cnt=(nodesL l').length+1:=by simp [Ty.cnt,Ty.nodes]
 have hll:=nodesL_len l'
 refine acalls_walk (fun _=>.imm) [0,1,2,3,4,6,7,8,9,11,19,41,44,45,46,60] Tryz.mixed Tryz.func62 rfl rfl rfl (by decide) (fun hcl hlow=>?_)
 simp only [Ty.enc,Ty.cells]
 have hil:i < H.next:=(hcl _ _ hH).1
 have hg:∀ bs,(HL H bs).get i=some (.amap (tyEs m) m.length):=fun bs=>by rw [get_lt hil];exact hH
 have hcu:∀ m' v,(H.upd i (.amap (tyEs m') v)).Closed:=fun m' v=>closed_upd hcl hil (low_ty _ _)
 refine awp_sr fun K hK=>?_;simp;apply hK;clear hK K;repeat with_reducible refine awp_assoc ?_
 refine awp_sr fun K hK=>?_;refine aOps_split 1 fun K hK=>?_;simp;apply hK;clear hK K
 have hc:=isVar_c (.mk n l)
 simp only [Ty.enc,Ty.cells,cellsL_eq] at hc;refine aOps_call (hc _) (by first | rfl | simp) rfl rfl rfl ?_
 clear hc
 simp;apply hK;clear hK K
 cases hv:(Ty.mk n l).isVar
 rotate_left
 ·have hv':headP smallB n=true:=hv
  refine awp_seq_k fun K hK=>?_;refine awp_condT rfl (by simp [hv]) ?_
  cases hk:lookT m n with
  | some x =>
   have e:matT (.mk n l) (.mk n' l') m=(eqT x (.mk n' l'),m):=by rw [matT,if_pos hv',hk]
   have hc:=equal_c x (.mk n' l') (by have:=hm _ (lookT_mem hk);simp only at this;omega)
   simp only [enc_eq x,enc_mk] at hc;repeat with_reducible refine awp_assoc ?_
   refine awp_sr fun K hK=>?_;simp [aLookup,hg,keys_ty,keyOk,aLook_ty,hk,enc_eq];apply hK;clear hK K;repeat with_reducible refine awp_assoc ?_
   refine awp_sr fun K hK=>?_;simp;apply hK;clear hK K;refine awp_seq_k fun K hK=>?_;refine awp_condT rfl (by simp) ?_;refine awp_sr fun K hK=>?_;refine aOps_split 2 fun K hK=>?_;simp;apply hK;clear hK K;refine aOps_call (hc _) (by first | rfl | simp) rfl rfl (by first | (simp;done) | rfl) ?_;simp;apply hK;clear hK K
   rw [e]
   simp [upd_same hH,reset_all hcl]
  | none =>
   have e:matT (.mk n l) (.mk n' l') m=(true,m++[(n,.mk n' l')]):=by rw [matT,if_pos hv',hk]
   have hc:=copy_c (.mk n' l') (by omega)
   simp only [enc_mk] at hc
   have e1:aPut (tyEs m) (.string n) (.agg [strV n',.slice (l'.map Ty.cells) none])=tyEs (m++[(n,.mk n' l')]):=by
    rw [←enc_mk,aPut_ty,putM_new hk]
   have e2:aVer (tyEs m) (.string n) m.length true=m.length+1:=by rw [aVer_ty,hk];rfl
   repeat with_reducible refine awp_assoc ?_
   refine awp_sr fun K hK=>?_;simp [aLookup,hg,keys_ty,keyOk,aLook_ty,hk];apply hK;clear hK K;repeat with_reducible refine awp_assoc ?_
   refine awp_sr fun K hK=>?_;simp;apply hK;clear hK K;refine awp_seq_k fun K hK=>?_;refine awp_condF rfl (by simp) ?_;refine awp_skip ?_;apply hK;clear hK K
   refine awp_sd [5] [[],[0],[0],[0,1,2],[0,1,2],[]] (by kernel_rfl) fun K hK=>?_
   refine aLex_read rfl rfl rfl rfl fun K hK=>?_;simp
   refine hK _ _ _ ?_
   clear hK K;refine aLex_read rfl rfl rfl rfl fun K hK=>?_;simp
   refine hK _ _ _ ?_
   clear hK K;refine aLex_read rfl rfl rfl rfl fun K hK=>?_;simp
   refine hK _ _ _ ?_
   clear hK K;refine aLex_read rfl rfl rfl rfl fun K hK=>?_;simp
   refine hK _ _ _ ?_
   clear hK K
   refine aLex_call (v:=.agg [strV n',.slice (l'.map Ty.cells) none]) rfl rfl ?_ (by simp) ?_
   ·simp
    exact hc _
   refine aLex_eff rfl rfl rfl rfl fun K hK=>?_;simp [aMapUpdate,hg,keys_ty,keyOk,e1,e2,upd_lt hil];apply hK;clear hK K;refine aLex_end ?_;simp;apply hK;clear hK K;refine awp_sr fun K hK=>?_;simp;apply hK;clear hK K
   rw [e]
   simp [reset_all (hcu _ _)]
 have hv':¬ headP smallB n=true:=by rw [show headP smallB n=(Ty.mk n l).isVar from rfl,hv];simp
 refine awp_seq_k fun K hK=>?_;refine awp_condF rfl (by simp [hv]) ?_;refine awp_skip ?_;apply hK;clear hK K
 by_cases hn:n=n'
 rotate_left
 ·have e:matT (.mk n l) (.mk n' l') m=(false,m):=by rw [matT,if_neg hv',if_neg (fun h=>hn h.1)]
  repeat with_reducible refine awp_assoc ?_
  refine awp_sr fun K hK=>?_;simp [hn];apply hK;clear hK K;refine awp_seq_k fun K hK=>?_;refine awp_condT rfl (by simp) ?_;refine awp_sr fun K hK=>?_;simp;apply hK;clear hK K
  rw [e]
  simp [upd_same hH,reset_all hcl]
 subst hn
 by_cases hlen:l.length=l'.length
 rotate_left
 ·have e:matT (.mk n l) (.mk n l') m=(false,m):=by rw [matT,if_neg hv',if_neg (fun h=>hlen h.2)]
  repeat with_reducible refine awp_assoc ?_
  refine awp_sr fun K hK=>?_;simp;apply hK;clear hK K;refine awp_seq_k fun K hK=>?_;refine awp_condT rfl (by simp [show ¬ (l.length:Int)=l'.length by omega]) ?_;refine awp_sr fun K hK=>?_;simp;apply hK;clear hK K
  rw [e]
  simp [upd_same hH,reset_all hcl]
 have e:matT (.mk n l) (.mk n l') m=matL l l' m:=by rw [matT,if_neg hv',if_pos ⟨rfl,hlen⟩];rfl
 rw [e]
 repeat with_reducible refine awp_assoc ?_
 refine awp_sr fun K hK=>?_;simp;apply hK;clear hK K;refine awp_seq_k fun K hK=>?_;refine awp_condF rfl (by simp [hlen]) ?_;refine awp_skip ?_;apply hK;clear hK K;repeat with_reducible refine awp_assoc ?_
 refine awp_sr fun K hK=>?_;simp;apply hK;clear hK K
 have hgk:∀ m' bs,(HL (H.upd i (.amap (tyEs m') m'.length)) bs).get i=some (.amap (tyEs m') m'.length):=fun m' bs=>by rw [get_lt (by exact hil)];exact get_upd_self
 refine awp_seq_k fun K hK=>?_;refine awp_block ?_
 refine awp_up l.length (fun k=>Env.ofL [(2,.map i),(3,.ref (nid H.next 0) 0),(4,.ref (nid H.next 1) 0),(6,boolV false),(44,intV l.length),(45,intV k)])
  (fun k=>HL (H.upd i (.amap (tyEs (matL (l.take k) (l'.take k) m).2) (matL (l.take k) (l'.take k) m).2.length)) [.cells [strV n,.slice (l.map Ty.cells) none],.cells [strV n,.slice (l'.map Ty.cells) none]])
  (fun k=>(matL (l.take k) (l'.take k) m).1=true) ?_ (by simp [matL]) (fun k hk hi=>?_) (fun hi=>?_)
 ·simp only [List.take_zero,matL]
  rw [upd_same hH]
  refine weak_HL hcl rfl (by simp) (by simp [lt_nid hil])
 ·obtain ⟨x,hx⟩:∃ x,l[k]?=some x:=⟨_,List.getElem?_eq_getElem hk⟩
  obtain ⟨y,hy⟩:∃ y,l'[k]?=some y:=⟨_,List.getElem?_eq_getElem (by omega)⟩
  have hyc:y.cnt < 1099511627776:=by have:=cnt_mem hy;omega
  have hbk:bndM (matL (l.take k) (l'.take k) m).2:=matL_bnd _ _ _ (fun z hz=>by
   obtain ⟨j,hj⟩:=List.getElem?_of_mem (List.mem_of_mem_take hz)
   have:=cnt_mem hj;omega) hm
  have e1:=matL_take hlen hx hy m hi
  have hf:=matL_false (k:=k+1) hlen m
  generalize hmk:(matL (l.take k) (l'.take k) m).2=mk at *
  refine awp_sr fun K hK=>?_;simp [hk];apply hK;clear hK K;refine awp_seq_k fun K hK=>?_;refine awp_condT rfl (by simp) ?_;refine awp_skip ?_;apply hK;clear hK K;refine awp_seq_k fun K hK=>?_;refine awp_block ?_;refine awp_sr fun K hK=>?_;simp;apply hK;clear hK K
  have hc:=ih x (List.mem_of_getElem? hx) y mk i (HL (H.upd i (.amap (tyEs mk) mk.length)) [.cells [strV n,.slice (l.map Ty.cells) none],.cells [strV n,.slice (l'.map Ty.cells) none]]) hyc hbk (hgk _ _)
  rw [upd_lt (by exact hil),upd_upd] at hc
  obtain ⟨nx,lx⟩:=x
  obtain ⟨ny,ly⟩:=y
  simp only [enc_mk] at hc
  refine awp_sd [11] [[],[],[0,1],[],[],[0,1,2,3,4],[0,1,2,3,4],[0,1,2,3,4,5,6],[0,1,2,3,4],[0,1,2,3,4],[0,1,2,3,4,5,6,7,8,9],[0,5],[0,1,2,5,6,7]] (by kernel_rfl) fun K hK=>?_
  refine aLex_read rfl rfl rfl rfl fun K hK=>?_;simp
  refine hK _ _ _ ?_
  clear hK K;refine aLex_read rfl rfl rfl rfl fun K hK=>?_;simp
  refine hK _ _ _ ?_
  clear hK K;refine aLex_read rfl rfl rfl rfl fun K hK=>?_;simp
  refine hK _ _ _ ?_
  clear hK K;refine aLex_read rfl rfl rfl rfl fun K hK=>?_;simp [hx,Ty.cells]
  refine hK _ _ _ ?_
  clear hK K;refine aLex_read rfl rfl rfl rfl fun K hK=>?_;simp
  refine hK _ _ _ ?_
  clear hK K;refine aLex_read rfl rfl rfl rfl fun K hK=>?_;simp
  refine hK _ _ _ ?_
  clear hK K;refine aLex_read rfl rfl rfl rfl fun K hK=>?_;simp
  refine hK _ _ _ ?_
  clear hK K;refine aLex_read rfl rfl rfl rfl fun K hK=>?_;simp
  refine hK _ _ _ ?_
  clear hK K;refine aLex_read rfl rfl rfl rfl fun K hK=>?_;simp [hy,Ty.cells]
  refine hK _ _ _ ?_
  clear hK K;refine aLex_read rfl rfl rfl rfl fun K hK=>?_;simp
  refine hK _ _ _ ?_
  clear hK K;refine aLex_read rfl rfl rfl rfl fun K hK=>?_;simp
  refine hK _ _ _ ?_
  clear hK K
  refine aLex_calle (v:=boolV (matT (.mk nx lx) (.mk ny ly) mk).1) (H1:=HL (H.upd i (.amap (tyEs (matT (.mk nx lx) (.mk ny ly) mk).2) (matT (.mk nx lx) (.mk ny ly) mk).2.length)) [.cells [strV n,.slice (l.map Ty.cells) none],.cells [strV n,.slice (l'.map Ty.cells) none]]) rfl rfl ?_ ?_ ?_
  ·simp
   exact hc
  ·simp
  refine aLex_read rfl rfl rfl rfl fun K hK=>?_;simp
  refine hK _ _ _ ?_
  clear hK K;refine aLex_end ?_;simp;apply hK;clear hK K
  cases hb:(matT (.mk nx lx) (.mk ny ly) mk).1
  ·refine awp_condT rfl (by simp [hb]) ?_;refine awp_sr fun K hK=>?_;simp;apply hK;clear hK K
   have e2:matL l l' m=matT (.mk nx lx) (.mk ny ly) mk:=by rw [←e1];exact hf (by rw [e1];exact hb)
   rw [e2,hb]
   simp [reset_all (hcu _ _)]
  ·refine awp_condF rfl (by simp [hb]) ?_;refine awp_skip ?_;apply hK;clear hK K;refine awp_region ?_;simp [wrap_succ (show k < 4611686018427387904 by omega)]
   rw [e1]
   exact ⟨hb,weak_HL (hcu _ _) rfl (by simp) (by simp [lt_nid hil])⟩
 ·refine awp_sr fun K hK=>?_;simp;apply hK;clear hK K;refine awp_seq_k fun K hK=>?_;refine awp_condF rfl (by simp) ?_;refine awp_exit ?_;simp;clear hK K;apply hK;clear hK K;refine awp_sr fun K hK=>?_;simp;apply hK;clear hK K
  rw [List.take_length,hlen,List.take_length] at hi
  simp only [hlen,List.take_length]
  rw [hi]
  simp [reset_all (hcu _ _)]
def pickM (m:TyM) (seen:List Nat):TyM:=seen.filterMap fun j=>m[j]?
theorem pickM_app {m:TyM} {seen:List Nat} {j:Nat} {p:ByteArray × Ty} (h:m[j]?=some p):pickM m (seen++[j])=pickM m seen++[p]:=by
 simp [pickM,h]
theorem pickM_range (m:TyM):pickM m (List.range m.length)=m:=by
 have key:∀ (n:Nat),pickM m (List.range n)=m.take n:=by
  intro n
  induction n with
  | zero=>rfl
  | succ n ih =>
   rw [List.range_succ,List.take_add_one,←ih]
   cases h:m[n]? with
   | none=>simp [pickM,h]
   | some p=>rw [pickM_app h];rfl
 rw [key,List.take_length]
theorem pickM_len (m:TyM):∀ (seen:List Nat),(pickM m seen).length≤seen.length
 | []=>Nat.le_refl _
 | j::s=>by
  have:=pickM_len m s
  unfold pickM at this ⊢
  rw [List.filterMap_cons]
  split <;> simp <;> omega
theorem bindC_len (p:ByteArray × Ty):(bindC p).length=3:=by simp [bindC,Ty.cells_length]
structure Sift (L:TyM) (x:ByteArray × Ty) (R:TyM):Prop where
 asc:Asc (L++R)
 lt:∀ y∈R,ltS x.1 y.1=true
theorem Sift.step {L R:TyM} {x y:ByteArray × Ty} (h:Sift (L++[y]) x R) (hlt:ltS x.1 y.1=true):Sift L x (y::R) :=
 ⟨by have:=h.asc;rw [List.append_assoc] at this;exact this,fun z hz=>by
  rcases List.mem_cons.1 hz with rfl | hz
  ·exact hlt
  ·exact h.lt z hz⟩
theorem Sift.done {L R:TyM} {x:ByteArray × Ty} (h:Sift L x R) (hd:∀ y∈L,y.1≠x.1) (he:∀ L' y,L=L'++[y]→ltS x.1 y.1=false):Asc (L++x::R):=by
 have ha:=List.pairwise_append.1 h.asc
 refine List.pairwise_append.2 ⟨ha.1,List.Pairwise.cons h.lt ha.2.1,fun a haL b hb=>?_⟩
 have hax:ltS a.1 x.1=true:=by
  rcases List.eq_nil_or_concat L with rfl | ⟨L',y,rfl⟩
  ·cases haL
  ·rw [List.concat_eq_append] at *
   have hy:ltS y.1 x.1=true:=by
    rcases ltS_total y.1 x.1 with h1 | h1 | h1
    ·exact h1
    ·exact absurd h1 (hd y (by simp))
    ·rw [he L' y rfl] at h1;cases h1
   rcases List.mem_append.1 haL with h1 | h1
   ·exact ltS_trans ((List.pairwise_append.1 ha.1).2.2 a h1 y (by simp)) hy
   ·simp at h1;subst h1;exact hy
 rcases List.mem_cons.1 hb with rfl | hb
 ·exact hax
 ·exact ltS_trans hax (h.lt b hb)
set_option maxRecDepth 10000 in
theorem binds_c (m:TyM) (hm:m.length < 1099511627776) (hn:(m.map (·.1)).Nodup) (i v:Nat) (H:AHeap) (hH:H.get i=some (.amap (tyEs m) v)) :
  ACalls Tryz.prog 63 [.map i] H (.slice ((sortM m).map bindC) none) H:=by
 refine acalls_walk (fun d=>if d=3 then .nilm 3 else if d=62 then .frz else .imm) [0,2,3,4,5,6,7,9,11,24,43] Tryz.mixed Tryz.func63 rfl rfl rfl (by decide) (fun hcl hlow=>?_)
 have hil:i < H.next:=(hcl _ _ hH).1
 have hg:∀ bs,(HL H bs).get i=some (.amap (tyEs m) v):=fun bs=>by rw [get_lt hil];exact hH
 refine awp_sr fun K hK=>?_;simp;apply hK;clear hK K;refine awp_sr fun K hK=>?_;simp;apply hK;clear hK K;repeat with_reducible refine awp_assoc ?_
 refine awp_sr fun K hK=>?_;simp [hg];apply hK;clear hK K
 have hlen:(tyEs m).length=m.length:=by simp [tyEs]
 refine awp_seq_k fun K hK=>?_;refine awp_block ?_
 refine awp_loop (fun n env H'=>∃ (seen left:List Nat) (cur:Option Nat),(seen++left).Perm (List.range m.length)∧n=left.length ∧
   env=Env.ofL [(3,.vec (nid H.next 0) (pickM m seen).length),(9,.ref (nid H.next 1) 0)]∧H'=HL H [.tok (pickM m seen).length 3 (some ((pickM m seen).map bindC)),.iter i v left cur]) m.length (weak_HL hcl rfl ?_ ?_) ⟨[],List.range m.length,none,by simp,by simp,rfl,rfl⟩ ?_
 ·simp [hlen,WkR,lt_nid hil,pickM]
 ·simp [pickM]
 rintro n env H' ⟨seen,left,cur,hp,rfl,rfl,rfl⟩
 have hpl:=pickM_len m seen
 have hsl:seen.length≤m.length:=by have:=hp.length_eq;simp at this;omega
 generalize hout:pickM m seen=out at hpl ⊢
 refine awp_sr fun K hK=>?_;simp [aNext,hg]
 refine ⟨fun hl0=>?_,fun j hj s tv he=>?_⟩
 ·apply hK;clear hK K;refine awp_seq_k fun K hK=>?_;refine awp_condF rfl (by simp) ?_;refine awp_exit ?_;simp;clear hK K;apply hK;clear hK K
  subst hl0
  have hperm:out.Perm m:=by
   rw [←hout]
   have h1:seen.Perm (List.range m.length):=by simpa using hp
   have h2:(pickM m seen).Perm (pickM m (List.range m.length)):=h1.filterMap _
   rwa [pickM_range] at h2
  have hon:(out.map (·.1)).Nodup:=(hperm.map _).nodup_iff.2 hn
  have hol:=hperm.length_eq
  clear hp hpl hsl hout
  repeat with_reducible refine awp_assoc ?_
  refine awp_sr fun K hK=>?_;simp;apply hK;clear hK K;refine awp_seq_k fun K hK=>?_;refine awp_block ?_
  refine awp_loop (fun n env H'=>∃ (q:Nat) (c:TyM),c.Perm out∧q≤out.length∧Asc (c.take (q+1))∧n=out.length - q∧env=Env.ofL [(3,.vec (nid H.next 0) out.length),(6,intV ((q:Int)+1))]∧H'=HL H [.tok out.length 3 (some (c.map bindC))])
   out.length (weak_HL hcl rfl ?_ ?_) ⟨0,out,.refl _,Nat.zero_le _,?_,rfl,rfl,rfl⟩ ?_
  ·simp [WkO,WkR.refl]
  ·simp
  ·cases out <;> simp
  rintro n env H' ⟨q,c,hc,hq,hasc,rfl,rfl,rfl⟩
  have hcl2:=hc.length_eq
  by_cases hlt:q+1 < out.length
  ·have hlt':(q:Int)+1 < out.length:=by omega
   repeat with_reducible refine awp_assoc ?_
   refine awp_sr fun K hK=>?_;simp [hlt'];apply hK;clear hK K;refine awp_seq_k fun K hK=>?_;refine awp_condT rfl (by simp) ?_;refine awp_skip ?_;apply hK;clear hK K;refine awp_seq_k fun K hK=>?_;refine awp_block ?_;refine awp_sr fun K hK=>?_;simp;apply hK;clear hK K
   obtain ⟨x,hx⟩:∃ x,c[q+1]?=some x:=⟨_,List.getElem?_eq_getElem (by omega)⟩
   have hcs:c=c.take (q+1)++x::c.drop (q+2):=by
    rw [List.getElem?_eq_getElem (by omega)] at hx
    simp only [Option.some.injEq] at hx
    rw [←hx,←List.drop_eq_getElem_cons,List.take_append_drop]
   refine awp_block ?_
   refine awp_loop (fun n env H'=>∃ (L R:TyM),Sift L x R∧L.length+R.length=q+1∧(L++R).Perm (c.take (q+1))∧n=L.length ∧
     env=Env.ofL [(3,.vec (nid H.next 0) out.length),(6,intV ((q:Int)+1)),(7,intV L.length)]∧H'=HL H [.tok out.length 3 (some ((L++x::R++c.drop (q+2)).map bindC))])
    (q+1) (weak_HL hcl rfl ?_ ?_) ⟨c.take (q+1),[],⟨by simpa using hasc,by simp⟩,by simp;omega,by simp,by simp;omega,rfl,rfl⟩ ?_
   ·rw [show c.take (q+1)++x::[]++c.drop (q+2)=c by rw [List.append_assoc];exact hcs.symm]
    simp [WkO,WkR.refl]
   ·have:min (q+1) c.length=q+1:=by omega
    simp [this]
   rintro n env H' ⟨L,R,hS,hLR,hLp,rfl,rfl,rfl⟩
   have w1:IntKind.i64.wrap ((q:Int)+1+1)=((q+1:Nat):Int)+1:=by rw [wrap64 (by omega) (by omega)];omega
   have hxm:x∈c:=List.mem_of_getElem? hx
   have hcn:(c.map (·.1)).Nodup:=(hc.map _).nodup_iff.2 hon
   have hck:(c.take (q+1)++x::c.drop (q+2)).map (·.1) |>.Nodup:=by rw [←hcs];exact hcn
   have hdis:∀ y∈c.take (q+1),y.1≠x.1:=by
    intro y hy e
    rw [List.map_append,List.nodup_append] at hck
    exact hck.2.2 y.1 (List.mem_map_of_mem hy) x.1 (by simp) e
   have hfin:∀ env:Env,env 3=.vec (nid H.next 0) out.length→env 6=intV ((q:Int)+1)→(∀ L' y,L=L'++[y]→ltS x.1 y.1=false)→∀ cl,cl=(L++x::R++c.drop (q+2)).map bindC→K env (HL H [.tok out.length 3 (some cl)]):=by
    intro env h3 h6 hd cl hcl'
    subst hcl'
    apply hK;refine awp_region ?_
    have hasc':Asc (L++x::R):=hS.done (fun y hy=>hdis y (hLp.subset (by simp [hy]))) hd
    have hp2:(L++x::R++c.drop (q+2)).Perm out:=by
     refine List.Perm.trans ?_ hc
     refine List.Perm.trans ?_ (List.Perm.of_eq hcs.symm)
     have h1:(L++x::R).Perm (x::(L++R)):=List.perm_middle
     have h2:(c.take (q+1)++x::c.drop (q+2)).Perm (x::(c.take (q+1)++c.drop (q+2))):=List.perm_middle
     refine (h1.append_right _).trans (List.Perm.trans ?_ h2.symm)
     exact (hLp.append_right _).cons x
    simp [h3,h6,w1]
    refine ⟨out.length - (q+1),_,_,weak_HL hcl rfl ?_ ?_,by omega,q+1,L++x::R++c.drop (q+2),hp2,by omega,?_,rfl,rfl,rfl⟩
    ·refine ⟨?_,low_bind _ _,trivial⟩
     simp [WkO,WkR.refl]
    ·simp [h3,h6,w1]
    ·rw [List.take_append_of_le_length (by simp;omega),List.take_of_length_le (by simp;omega)]
     exact hasc'
   rcases List.eq_nil_or_concat L with rfl | ⟨L',y,rfl⟩
   ·repeat with_reducible refine awp_assoc ?_
    refine awp_sd [] [[],[],[],[],[3],[],[],[],[3,4,5,6,7],[3,4,5,6,7,8],[3,4,5,6,7,8],[3,4,5,6,7],[3,4,5,6,7],[3,4,5,6,7,9],[3,4,8,9,10],[3,4,5,8,9,10,11]] (by kernel_rfl) fun K hK=>?_
    refine aLex_pre 16 rfl fun K hK=>?_;simp
    refine hK _ ?_
    clear hK K;refine aLex_end ?_;simp;apply hK;clear hK K;refine awp_seq_k fun K hK=>?_;refine awp_condF rfl (by simp) ?_;refine awp_exit ?_;simp
    exact hfin _ rfl rfl (by simp) _ (by simp)
   ·rw [List.concat_eq_append] at *
    have hgy:(L'++[y]++x::R++c.drop (q+2))[L'.length]?=some y:=by simp
    have hgx:(L'++[y]++x::R++c.drop (q+2))[L'.length+1]?=some x:=by
     rw [List.append_assoc,List.getElem?_append_right (by simp)];simp
    generalize hrows:(L'++[y]++x::R++c.drop (q+2)).map bindC=rows at *
    have hry:rows[L'.length]?=some (bindC y):=by rw [←hrows,List.getElem?_map,hgy];rfl
    have hrx:rows[L'.length+1]?=some (bindC x):=by rw [←hrows,List.getElem?_map,hgx];rfl
    have hrl:∀ r∈rows,r.length=3:=by
     intro r hr;rw [←hrows] at hr;obtain ⟨p,_,rfl⟩:=List.mem_map.1 hr;exact bindC_len p
    have hL':L'.length+1≤q+1:=by simp at hLR;omega
    have e0:((L'++[y]).length:Int)=(L'.length:Int)+1:=by simp
    have w3:IntKind.i64.wrap (L'.length:Int)=(L'.length:Int):=wrap64 (by omega) (by omega)
    have t1:((L'.length:Int)+1).toNat=L'.length+1:=by omega
    have p1:(0:Int) < (L'.length:Int)+1:=by omega
    have p2:(0:Int)≤(L'.length:Int)+1:=by omega
    have p3:L'.length+1 < out.length:=by omega
    have p4:L'.length < out.length:=by omega
    simp only [e0];repeat with_reducible refine awp_assoc ?_
    refine awp_sd [] [[],[],[],[],[3],[],[],[],[3,4,5,6,7],[3,4,5,6,7,8],[3,4,5,6,7,8],[3,4,5,6,7],[3,4,5,6,7],[3,4,5,6,7,9],[3,4,8,9,10],[3,4,5,8,9,10,11]] (by kernel_rfl) fun K hK=>?_
    refine aLex_pre 3 rfl fun K hK=>?_;simp [p1]
    refine hK _ ?_
    clear hK K;refine aLex_pre 2 rfl fun K hK=>?_;simp
    refine hK _ ?_
    clear hK K;refine aLex_pre 3 rfl fun K hK=>?_;simp [t1,p2,p3,hrx,eq_true hrl,bindC]
    refine hK _ ?_
    clear hK K;refine aLex_pre 3 rfl fun K hK=>?_;simp [w3]
    refine hK _ ?_
    clear hK K;refine aLex_pre 3 rfl fun K hK=>?_;simp [p4,hry,eq_true hrl,bindC]
    refine hK _ ?_
    clear hK K;refine aLex_pre 2 rfl fun K hK=>?_;simp
    refine hK _ ?_
    clear hK K;refine aLex_end ?_;simp;apply hK;clear hK K
    cases hlt2:ltS x.1 y.1
    ·have hlt3:Op.bytesLess x.1.toList y.1.toList=false:=hlt2
     refine awp_seq_k fun K hK=>?_;refine awp_condF rfl (by simp [hlt3]) ?_;refine awp_exit ?_;simp
     refine hfin _ rfl rfl (fun L2 y2 e=>?_) _ rfl
     obtain ⟨_,e2⟩:=List.append_inj' e rfl
     simp only [List.cons.injEq,and_true] at e2
     rw [←e2];exact hlt2
    ·have hlt3:Op.bytesLess x.1.toList y.1.toList=true:=hlt2
     refine awp_seq_k fun K hK=>?_;refine awp_condT rfl (by simp [hlt3]) ?_;refine awp_skip ?_;apply hK;clear hK K;refine awp_seq_k fun K2 hK2=>?_;refine awp_block ?_
     obtain ⟨xn,xa,xl⟩:=x
     obtain ⟨yn,ya,yl⟩:=y
     have hrl2:∀ r∈rows.set (L'.length+1) (bindC (yn,.mk ya yl)),r.length=3:=by
      intro r hr
      rcases List.mem_or_eq_of_mem_set hr with h | h
      ·exact hrl r h
      ·rw [h];rfl
     simp only [bindC,Ty.cells,cellsL_eq] at hrl2
     refine awp_drawo [15,17] [[],[0],[0,1],[0,1,2],[0,1,2],[0,1,2,3,4],[0,1,2,3,4,5],[0,1,2,3,4,5],[0,1,2,3,4],[0,1,2,3,4],[0,1,2,3,4,5,6,7,8,9],[0,1,2,3,4,5,6,7,8,9,10],[0,1,2,3,4,5,6,7,8,9],[0,1,2,3,4,5,6,7,8,9],[2,3,4],[2,3,4],[],[]] (by kernel_rfl) (by rfl) (by rfl) ?_
     simp [w3,t1,p2,p3,p4,hry,hrx,eq_true hrl,eq_true hrl2,bindC,Ty.cells]
     refine hK2 _ _ ?_
     refine awp_region ?_
     have hset:(rows.set (L'.length+1) [strV yn,AV.v (Value.string ya),AV.slice (List.map Ty.cells yl) none]).set L'.length [strV xn,AV.v (Value.string xa),AV.slice (List.map Ty.cells xl) none] =
       (L'++(xn,Ty.mk xa xl)::(yn,Ty.mk ya yl)::R++c.drop (q+2)).map bindC:=by
      rw [←hrows]
      have e1:([strV yn,AV.v (Value.string ya),AV.slice (List.map Ty.cells yl) none]:List AV)=bindC (yn,Ty.mk ya yl):=by simp [bindC,Ty.cells,cellsL_eq]
      have e2:([strV xn,AV.v (Value.string xa),AV.slice (List.map Ty.cells xl) none]:List AV)=bindC (xn,Ty.mk xa xl):=by simp [bindC,Ty.cells,cellsL_eq]
      rw [e1,e2,←List.map_set,←List.map_set]
      congr 1
      simp [List.set_append]
     rw [hset]
     have hlowc:=low_bind (nid H.next 1) (L'++(xn,Ty.mk xa xl)::(yn,Ty.mk ya yl)::R++c.drop (q+2))
     generalize hcl4:(L'++(xn,Ty.mk xa xl)::(yn,Ty.mk ya yl)::R++c.drop (q+2)).map bindC=cl4 at hlowc ⊢
     simp [w3]
     refine ⟨L'.length,_,HL H [.tok out.length 3 (some cl4)],weak_HL hcl rfl ?_ ?_,by omega,L',(yn,Ty.mk ya yl)::R,hS.step hlt2,by simp at hLR ⊢;omega,by simpa using hLp,rfl,rfl,by rw [←hcl4];simp⟩
     ·exact ⟨.refl _,hlowc,trivial⟩
     ·simp
  ·have hlt':¬ (q:Int)+1 < out.length:=by omega
   repeat with_reducible refine awp_assoc ?_
   refine awp_sr fun K hK=>?_;simp [hlt'];apply hK;clear hK K;refine awp_seq_k fun K hK=>?_;refine awp_condF rfl (by simp) ?_;refine awp_exit ?_;simp;clear hK K;apply hK;clear hK K;refine awp_sr fun K hK=>?_;simp
   have hcm:c=sortM m:=by
    refine sortM_eq hn (hc.trans hperm) ?_
    rwa [List.take_of_length_le (by omega)] at hasc
   refine ⟨by omega,fun r a b hab hr=>?_,hK _ _ ?_⟩
   ·subst hr
    obtain ⟨bn,bl⟩:=b
    simp [bindC,Ty.cells]
   clear hK K
   rw [hcm]
   simp [reset_all hcl]
 ·obtain ⟨p,hp2,rfl,rfl⟩:∃ p,m[j]?=some p∧s=.string p.1∧tv=p.2.enc:=by
   simp only [tyEs,List.getElem?_map,Option.map_eq_some_iff] at he
   obtain ⟨p,h1,h2⟩:=he
   simp only [Prod.mk.injEq] at h2
   exact ⟨p,h1,h2.1.symm,h2.2.symm⟩
  apply hK;clear hK K
  have e1:pickM m (seen++[j])=out++[p]:=by rw [←hout];exact pickM_app hp2
  have hget:(tyEs m)[j]?=some (.string p.1,p.2.enc):=he
  obtain ⟨sn,n',l'⟩:=p
  simp only [enc_mk] at hget;refine awp_seq_k fun K hK=>?_;refine awp_condT rfl (by simp) ?_;refine awp_skip ?_;apply hK;clear hK K;refine awp_block ?_;refine awp_sr fun K hK=>?_;simp [aEntry,hg,hget];apply hK;clear hK K;refine awp_region ?_;simp
  have hnl:left.Nodup:=(List.nodup_append.1 (hp.symm.nodup List.nodup_range)).2.1
  have hlt:(left.filter (· != j)).length < left.length:=by
   rw [←hnl.erase_eq_filter,List.length_erase_of_mem hj]
   have:=List.length_pos_of_mem hj;omega
  refine ⟨by omega,fun r a b hab hr=>?_,(left.filter (· != j)).length,Env.ofL [(3,.vec (nid H.next 0) (out++[(sn,Ty.mk n' l')]).length),(9,.ref (nid H.next 1) 0)],
   HL H [.tok (out++[(sn,Ty.mk n' l')]).length 3 (some ((out++[(sn,Ty.mk n' l')]).map bindC)),.iter i v (left.filter (· != j)) (some j)],weak_HL hcl rfl ?_ ?_,hlt,seen++[j],left.filter (· != j),?_,rfl,by rw [e1],some j,by rw [e1]⟩
  ·subst hr
   obtain ⟨bn,bl⟩:=b
   simp [bindC,Ty.cells]
  ·simp [bindC,Ty.cells,WkO,lt_nid hil]
   exact WkR.refl _
  ·simp
  ·rw [←hnl.erase_eq_filter]
   refine List.Perm.trans ?_ hp
   rw [List.append_assoc]
   exact List.Perm.append_left seen (List.perm_cons_erase hj).symm
end Go.Proofs.YtgeehnbbhnpimaaGreat
