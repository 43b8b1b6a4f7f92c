/- The program: how many arguments a constructor has; rows whose types clash. -/
import Derived.Test.YtdppfcbeiplckaaGreatMM9
import Derived.Test.YtdppfcbeiplckaaGreatMM6
import Derived.Test.YtdppfcbeiplckaaGreatMD6
set_option linter.unusedVariables false
set_option linter.unusedSimpArgs false
namespace Go.Proofs.YtdppfcbeiplckaaGreat
open Go Go.Abs Go.Proofs
set_option maxRecDepth 20000
attribute [local simp] aOps wantedA aStep aop aLoad aStore aBin aUn aFieldAddr aField aIndexAddr aIndex aLen aBuild aFill aAlloc aAppend aAppendOwn aMin aMax aBuildSlice litRows newRows isMut isOwn isNilS nilsW bytesR tokW tokAV tokL ret readC splice aeval isLit isLate isCut aCut AV.celled AV.one AV.ofValue Value.oneCell' Value.cells intOp strOp get_nid upd_nid awp aEnd aResults aResult Det unord isCall isNext
attribute [local simp] low_take low_strs low_comp low_tcomp wkEs_refl' WkBs WkEnv WkB WkL WkE WkO ABlock.low lowO lowL lowR AV.low cellsL_eq Ty.low low_map Ty.cells_length Ty.cells_one
attribute [local simp] ConD.cells Dat.cells PredD.cells SigD.cells ClsD.cells InstD.cells DeclsD.cells DeclsD.enc Dat.enc low_datL low_conL low_predL low_sigL low_clsL low_instL
attribute [local simp] cellsNd_eq low_nds Nd.cells_length Nd.cells_one low_ints low_rows low_strs low_strR low_rowR
def entF (P:List Ent) (s:ByteArray):Option Ent:=P.find? fun e=>decide (s=e.1)
def arF (P:List Ent) (s:ByteArray):Int × Bool :=
 match entF P s with
 | none=>(0,false)
 | some e=>(((e.2.1.cons[e.2.2]?).map fun c=>(c.args.length:Int)).getD 0,true)
def EntOk (P:List Ent):Prop:=∀ e∈P,∃ c,e.2.1.cons[e.2.2]?=some c
structure TabAt (H:AHeap) (p a b:Nat) (P:List Ent):Prop where
 top:H.get p=some (.cells [.map a,.map b])
 data:H.get a=some (.amap (tEs P) P.length)
 nums:H.get b=some (.amap (aEs P) P.length)
theorem entX_ok (x:Dat):EntOk (entX x):=by
 intro e he
 unfold entX at he
 obtain ⟨p,hp,rfl⟩:=List.mem_map.1 he
 exact ⟨p.1,List.mem_zipIdx_iff_getElem?.1 hp⟩
theorem entsL_ok (l:List Dat):EntOk (entsL l):=by
 intro e he
 obtain ⟨x,hx,he⟩:=List.mem_flatMap.1 he
 exact entX_ok x e he
theorem lk_t (P:List Ent) (s:ByteArray):aLook (tEs P) (.string s)=(entF P s).map fun e=>.agg e.2.1.cells:=look_tEs P s
theorem lk_a (P:List Ent) (s:ByteArray):aLook (aEs P) (.string s)=(entF P s).map fun e=>intV (e.2.2:Int):=look_aEs P s
section
variable {H:AHeap} {p a b:Nat} {P:List Ent}
theorem arity_c (hP:EntOk P) (hT:TabAt H p a b P) (s:ByteArray):ACalls Tryz.prog 47 [.ref p 0,strV s] H (.tuple [intV (arF P s).1,boolV (arF P s).2]) H:=by
 obtain ⟨t1,t2,t3⟩:=hT
 refine acalls_walk (fun _=>.imm) [0,1,4,5,6,7,18] Tryz.mixed Tryz.func47 rfl rfl rfl (by decide) (fun hcl hlow=>?_)
 have gp:∀ bs,(HL H bs).get p=some (.cells [.map a,.map b]):=fun bs=>by rw [get_lt (hcl _ _ t1).1];exact t1
 have ga:∀ bs,(HL H bs).get a=some (.amap (tEs P) P.length):=fun bs=>by rw [get_lt (hcl _ _ t2).1];exact t2
 have gb:∀ bs,(HL H bs).get b=some (.amap (aEs P) P.length):=fun bs=>by rw [get_lt (hcl _ _ t3).1];exact t3
 unfold arF
 repeat with_reducible refine awp_assoc ?_
 refine awp_sr fun K hK=>?_
 simp
 refine hK _ _ ?_
 clear hK K
 cases hk:entF P s with
 | none =>
  repeat with_reducible refine awp_assoc ?_
  refine awp_sr fun K hK=>?_
  refine aOps_split 4 fun K hK=>?_
  simp [gp]
  refine hK _ _ ?_
  clear hK K
  refine aOps_split 4 fun K hK=>?_
  simp [aLookup,gp,ga,keys_tEs,keyOk,lk_t,hk]
  refine hK _ _ ?_
  clear hK K
  simp
  refine hK _ _ ?_
  clear hK K
  repeat with_reducible refine awp_assoc ?_
  refine awp_sr fun K hK=>?_
  simp
  refine hK _ _ ?_
  clear hK K
  repeat with_reducible refine awp_assoc ?_
  refine awp_seq_k fun K hK=>?_
  refine awp_condT rfl (by simp) ?_
  repeat with_reducible refine awp_assoc ?_
  refine awp_sr fun K hK=>?_
  simp
  refine hK _ _ ?_
  clear hK K
  simp [reset_all hcl]
 | some e =>
  obtain ⟨nm,x,i⟩:=e
  obtain ⟨c,hc⟩:=hP _ (List.mem_of_find?_eq_some hk)
  simp only at hc
  repeat with_reducible refine awp_assoc ?_
  refine awp_sr fun K hK=>?_
  refine aOps_split 4 fun K hK=>?_
  simp [gp]
  refine hK _ _ ?_
  clear hK K
  refine aOps_split 4 fun K hK=>?_
  simp [aLookup,gp,ga,keys_tEs,keyOk,lk_t,hk]
  refine hK _ _ ?_
  clear hK K
  simp
  refine hK _ _ ?_
  clear hK K
  repeat with_reducible refine awp_assoc ?_
  refine awp_sr fun K hK=>?_
  simp
  refine hK _ _ ?_
  clear hK K
  repeat with_reducible refine awp_assoc ?_
  refine awp_seq_k fun K hK=>?_
  refine awp_condF rfl (by simp) ?_
  refine awp_skip ?_
  refine hK _ _ ?_
  clear hK K
  repeat with_reducible refine awp_assoc ?_
  refine awp_sdc [] [[],[],[0,1],[0,1],[0,1],[0,1],[0,1,2,3,4,5],[0,1,2],[2,3],[2,3,4],[0,2,3,4,5,6],[0,1,2,3,4,5,6,7],[],[]] (by kernel_rfl) (by rfl) fun K hK=>?_
  refine aCalm_pre 6 (by rfl) fun K hK=>?_
  simp [gp]
  refine hK _ _ ?_
  clear hK K
  refine aCalm_pre 2 (by rfl) fun K hK=>?_
  simp [aLookup,gp,gb,keys_aEs,keyOk,lk_a,hk]
  refine hK _ _ ?_
  clear hK K
  refine aCalm_pre 6 (by rfl) fun K hK=>?_
  simp [hc]
  refine hK _ _ ?_
  clear hK K
  refine aCalm_end ?_
  simp
  refine hK _ _ ?_
  clear hK K
  simp [reset_all hcl,hc]
def tyN (P:List Ent) (s:ByteArray):ByteArray:=((entF P s).map fun e=>e.2.1.name).getD ⟨#[]⟩
mutual
def clashN (P:List Ent):Nd→Nd→Bool
 | .mk o s _ l,.mk o' s' _ l'=>if o < 3∨o' < 3 then false else if o≠o' then true else if o=3 then (if tyN P s≠tyN P s' then true else if s=s' then clashL P l l' else false) else false
def clashL (P:List Ent):List Nd→List Nd→Bool
 | t::l,q::m=>clashN P t q || clashL P l m
 | _,_=>false
end
theorem clashL_zip (P:List Ent):∀ a b:List Nd,clashL P a b=(a.zip b).any fun x=>clashN P x.1 x.2
 | t::l,q::m=>by simp [clashL,clashL_zip P l m]
 | [],_=>by simp [clashL]
 | _::_,[]=>by simp [clashL]
def arOk (P:List Ent) (t:Nd):Prop:=∀ c∈t.conL,arF P c.name=((c.kids.length:Int),true)
theorem arOk_kid {P:List Ent} {o:Int} {s:ByteArray} {n:Int} {l:List Nd} (h:arOk P (.mk o s n l)):∀ t∈l,arOk P t:=fun t ht c hc=>h c (by simp only [Nd.conL,List.mem_append];exact .inr (conLL_mem ht hc))
theorem arOk_top {P:List Ent} {s:ByteArray} {n:Int} {l:List Nd} (h:arOk P (.mk 3 s n l)):arF P s=((l.length:Int),true):=h (.mk 3 s n l) (by simp [Nd.conL])
set_option maxHeartbeats 4000000 in
theorem clash_c {bd:Nat} (hbd:bd≤4611686018427387904) (hP:EntOk P):∀ t:Nd,t.Sh bd→(∀ x∈t.kids,arOk P x)→∀ m:List Nd,(∀ x∈m,arOk P x)→t.kids.length≤m.length→∀ {H:AHeap} {p a b:Nat},TabAt H p a b P →
  ACalls Tryz.prog 48 [.ref p 0,.slice (t.kids.map Nd.cells) none,.slice (m.map Nd.cells) none] H (boolV (clashL P t.kids m)) H:=by
 refine Nd.ind fun o0 s0 n0 l ih hs ha m hm hlm H p a b hT=>?_
 have hi:=hs.inv
 simp only [Nd.kids] at ha hlm ⊢
 have hlen:l.length < 4611686018427387904:=by omega
 have hT':=hT
 obtain ⟨t1,t2,t3⟩:=hT
 rw [clashL_zip]
 refine acalls_walk (fun d=>if d=9 then .late else .imm) [0,1,2,6,7,8,9,11,12,13,30,59,77] Tryz.mixed Tryz.func48 rfl rfl rfl (by decide) (fun hcl hlow=>?_)
 have gp:∀ bs,(HL H bs).get p=some (.cells [.map a,.map b]):=fun bs=>by rw [get_lt (hcl _ _ t1).1];exact t1
 have ga:∀ bs,(HL H bs).get a=some (.amap (tEs P) P.length):=fun bs=>by rw [get_lt (hcl _ _ t2).1];exact t2
 have gb:∀ bs,(HL H bs).get b=some (.amap (aEs P) P.length):=fun bs=>by rw [get_lt (hcl _ _ t3).1];exact t3
 repeat with_reducible refine awp_assoc ?_
 refine awp_sr fun K hK=>?_
 simp
 refine hK _ _ ?_
 clear hK K
 repeat with_reducible refine awp_assoc ?_
 refine awp_sr fun K hK=>?_
 simp
 refine hK _ _ ?_
 clear hK K
 have hpl:∀ m,p < nid H.next m:=fun m=>by have:=(hcl _ _ t1).1;unfold nid;omega
 generalize hres:((l.zip m).any fun x=>clashN P x.1 x.2)=res
 repeat with_reducible refine awp_assoc ?_
 refine awp_seq_k fun K hK=>?_
 refine awp_block ?_
 refine awp_up l.length (fun k=>Env.ofL [(0,.ref p 0),(1,.slice (l.map Nd.cells) none),(2,.slice (m.map Nd.cells) none),(6,boolV false),(11,intV l.length),(12,intV k)]) (fun k=>HL H []) (fun k=>((l.zip m).take k).any (fun x=>clashN P x.1 x.2)=false) (weak_HL hcl rfl (by simp [hpl]) (by simp [hpl])) (by simp) (fun k hk hvk=>?_) (fun hvk=>?_)
 rotate_left
 ·repeat with_reducible refine awp_assoc ?_
  refine awp_sr fun K hK=>?_
  simp
  refine hK _ _ ?_
  clear hK K
  repeat with_reducible refine awp_assoc ?_
  refine awp_seq_k fun K hK=>?_
  refine awp_condF rfl (by simp) ?_
  refine awp_exit ?_
  simp
  clear hK K
  refine hK _ _ ?_
  clear hK K
  repeat with_reducible refine awp_assoc ?_
  refine awp_sr fun K hK=>?_
  simp
  refine hK _ _ ?_
  clear hK K
  rw [List.take_of_length_le (by simp;omega)] at hvk
  rw [hvk] at hres
  subst hres
  simp [reset_all hcl]
 obtain ⟨t,ht⟩:∃ t,l[k]?=some t:=⟨_,List.getElem?_eq_getElem hk⟩
 obtain ⟨q,hq⟩:∃ q,m[k]?=some q:=⟨_,List.getElem?_eq_getElem (by omega)⟩
 have hz:(l.zip m)[k]?=some (t,q):=by rw [List.getElem?_zip_eq_some];exact ⟨ht,hq⟩
 have hyes:clashN P t q=true→res=true:=fun h=>by rw [←hres];exact any_at (p:=fun x:Nd × Nd=>clashN P x.1 x.2) hz h
 have hmiss:=miss (p:=fun x:Nd × Nd=>clashN P x.1 x.2) hz hvk
 clear hres
 have hat:=ha t (List.mem_of_getElem? ht)
 have haq:=hm q (List.mem_of_getElem? hq)
 have iht:=ih t (List.mem_of_getElem? ht) (hi.2 t (List.mem_of_getElem? ht))
 obtain ⟨o,s,n,tl⟩:=t
 obtain ⟨o',s',n',ql⟩:=q
 simp only [Nd.kids] at iht
 have ht':(l.map Nd.cells)[k]?=some [intV o,strV s,intV n,.slice (tl.map Nd.cells) none]:=by simp [ht,Nd.cells]
 have hq':(m.map Nd.cells)[k]?=some [intV o',strV s',intV n',.slice (ql.map Nd.cells) none]:=by simp [hq,Nd.cells]
 repeat with_reducible refine awp_assoc ?_
 refine awp_sr fun K hK=>?_
 simp [hk]
 refine hK _ _ ?_
 clear hK K
 repeat with_reducible refine awp_assoc ?_
 refine awp_seq_k fun K hK=>?_
 refine awp_condT rfl (by simp) ?_
 refine awp_skip ?_
 refine hK _ _ ?_
 clear hK K
 refine awp_seq_k fun KB hKB=>?_
 refine awp_block ?_
 repeat with_reducible refine awp_assoc ?_
 refine awp_sr fun K hK=>?_
 simp
 refine hK _ _ ?_
 clear hK K
 repeat with_reducible refine awp_assoc ?_
 refine awp_sds 1 9 (fillAt (nid H.next 0) [intV 0,strV ByteArray.empty,intV 0,.v (.slice none 0 0)]) [8,10,11] [[],[0],[],[],[0,1,2,3],[0,1,2,3,4],[0,1,2,3],[0,1,2,3],[0,1,2,3,4,5,6,7],[0,1,2,3,4,5,6,7,8],[4,5,6,7],[]] (by kernel_rfl) (by rfl) fun K hK=>?_
 simp only [holes,alloc_HL,List.nil_append]
 refine sLex_pre 8 (by rfl) fun K2 hK2=>?_
 simp [sOps,stillRd,regM,litOp,isReg,isLit,noTok,ht',hq']
 refine hK2 _ ?_
 clear hK2 K2
 refine sLex_eff rfl rfl rfl rfl rfl fun K2 hK2=>?_
 simp
 refine hK2 _ _ (fun _=>by simp [Det,fillAt]) (by simp) ?_
 clear hK2 K2
 refine sLex_self (v:=.ref (nid H.next 0) 0) rfl rfl (det_late rfl rfl rfl (by simp;rfl) rfl (by simp)) ?_ ?_
 ·intro p hp hu
  simp only [List.mem_singleton] at hp
  subst hp
  exact det_late rfl rfl rfl (by simp;rfl) rfl (by simp)
 refine sLex_effA rfl rfl rfl rfl rfl rfl fun K2 hK2=>?_
 simp [fillAt]
 refine hK2 _ _ (by simp [fillAt]) (by simp [unord]) ?_
 clear hK2 K2
 refine sLex_effA rfl rfl rfl rfl rfl rfl fun K2 hK2=>?_
 simp [fillAt]
 refine hK2 _ _ (by simp [fillAt]) (by simp [unord]) ?_
 clear hK2 K2
 refine sLex_end ?_
 simp [fillAt]
 refine hK _ _ ?_
 clear hK K
 by_cases h1:o < 3
 ·have b1:=eq_true h1
  repeat with_reducible refine awp_assoc ?_
  refine awp_sr fun K hK=>?_
  simp [b1]
  refine hK _ _ ?_
  clear hK K
  repeat with_reducible refine awp_assoc ?_
  refine awp_seq_k fun K hK=>?_
  refine awp_condT rfl (by simp) ?_
  refine awp_exit ?_
  simp
  refine hKB _ _ ?_
  clear hKB
  refine awp_region ?_
  simp [wrap_succ (show k < 4611686018427387904 by omega)]
  refine ⟨?_,weak_HL hcl rfl (by simp [hpl]) (by simp [hpl])⟩
  simpa using hmiss (by simp [clashN,h1])
 by_cases h2:o' < 3
 ·have b2:=eq_true h2
  repeat with_reducible refine awp_assoc ?_
  refine awp_sr fun K hK=>?_
  simp [h1,b2]
  refine hK _ _ ?_
  clear hK K
  repeat with_reducible refine awp_assoc ?_
  refine awp_seq_k fun K hK=>?_
  refine awp_condT rfl (by simp) ?_
  refine awp_exit ?_
  simp
  refine hKB _ _ ?_
  clear hKB
  refine awp_region ?_
  simp [wrap_succ (show k < 4611686018427387904 by omega)]
  refine ⟨?_,weak_HL hcl rfl (by simp [hpl]) (by simp [hpl])⟩
  simpa using hmiss (by simp [clashN,h2])
 repeat with_reducible refine awp_assoc ?_
 refine awp_sr fun K hK=>?_
 simp [h1,h2]
 refine hK _ _ ?_
 clear hK K
 repeat with_reducible refine awp_assoc ?_
 refine awp_seq_k fun K hK=>?_
 refine awp_condF rfl (by simp) ?_
 refine awp_skip ?_
 refine hK _ _ ?_
 clear hK K
 by_cases h3:o=o'
 rotate_left
 ·repeat with_reducible refine awp_assoc ?_
  refine awp_sdc [] [[],[],[0,1],[0,1],[],[],[0,2],[0,2],[0,2],[0,2],[0,1,2,3,6],[0,1,2,3,6],[0,1,2,3,6],[0,1,2,3,6],[0,1,2,3,6,10,11,12,13],[0,1,2,3,6,10,11,12,13],[0,1,2,3,6,10],[0,1,2,3,6,10,11],[0,1,2,3,6,10,11,12,13,14,15,16,17],[0,1,2,3,6,10,11,12,13,14,15,16,17],[0,1,2,3,6,10,11,12,13,14,15,16,17],[0,1,2,3,6,10,11,12,13,14,15,16,17],[0,1,2,3,6,10,11,12,13,14,15,16,17,18,19,20,21],[0,1,2,3,6,10,11,12,13,14,15,16,17,18,19,20,21],[0,1,2,3,6,10,11,12,13,14,15,16,17,18],[0,1,2,3,6,10,11,12,13,14,15,16,17,18,19],[0,1,2,3,6,10,11,12,14,18,19,20,22],[0,2,6,10,11,12,13,14,15,18,19,20,21,22,23],[0,2,6,7,10,11,12,13,14,15,16,18,19,20,21,22,23,24]] (by kernel_rfl) (by rfl) fun K hK=>?_
  refine aCalm_pre 6 (by rfl) fun K hK=>?_
  simp [h3]
  refine hK _ _ ?_
  clear hK K
  refine aCalm_pre 6 (by rfl) fun K hK=>?_
  simp [h3]
  refine hK _ _ ?_
  clear hK K
  refine aCalm_pre 6 (by rfl) fun K hK=>?_
  simp [h3]
  refine hK _ _ ?_
  clear hK K
  refine aCalm_pre 6 (by rfl) fun K hK=>?_
  simp [h3]
  refine hK _ _ ?_
  clear hK K
  refine aCalm_pre 5 (by rfl) fun K hK=>?_
  simp [h3]
  refine hK _ _ ?_
  clear hK K
  refine aCalm_end ?_
  simp
  refine hK _ _ ?_
  clear hK K
  repeat with_reducible refine awp_assoc ?_
  refine awp_seq_k fun K hK=>?_
  refine awp_condT rfl (by simp) ?_
  repeat with_reducible refine awp_assoc ?_
  refine awp_sr fun K hK=>?_
  simp
  refine hK _ _ ?_
  clear hK K
  rw [hyes (by simp [clashN,h1,h2,h3])]
  simp [reset_all hcl]
 subst h3
 by_cases h4:o=3
 rotate_left
 ·repeat with_reducible refine awp_assoc ?_
  refine awp_sdc [] [[],[],[0,1],[0,1],[],[],[0,2],[0,2],[0,2],[0,2],[0,1,2,3,6],[0,1,2,3,6],[0,1,2,3,6],[0,1,2,3,6],[0,1,2,3,6,10,11,12,13],[0,1,2,3,6,10,11,12,13],[0,1,2,3,6,10],[0,1,2,3,6,10,11],[0,1,2,3,6,10,11,12,13,14,15,16,17],[0,1,2,3,6,10,11,12,13,14,15,16,17],[0,1,2,3,6,10,11,12,13,14,15,16,17],[0,1,2,3,6,10,11,12,13,14,15,16,17],[0,1,2,3,6,10,11,12,13,14,15,16,17,18,19,20,21],[0,1,2,3,6,10,11,12,13,14,15,16,17,18,19,20,21],[0,1,2,3,6,10,11,12,13,14,15,16,17,18],[0,1,2,3,6,10,11,12,13,14,15,16,17,18,19],[0,1,2,3,6,10,11,12,14,18,19,20,22],[0,2,6,10,11,12,13,14,15,18,19,20,21,22,23],[0,2,6,7,10,11,12,13,14,15,16,18,19,20,21,22,23,24]] (by kernel_rfl) (by rfl) fun K hK=>?_
  refine aCalm_pre 6 (by rfl) fun K hK=>?_
  simp [h4]
  refine hK _ _ ?_
  clear hK K
  refine aCalm_pre 6 (by rfl) fun K hK=>?_
  simp [h4]
  refine hK _ _ ?_
  clear hK K
  refine aCalm_pre 6 (by rfl) fun K hK=>?_
  simp [h4]
  refine hK _ _ ?_
  clear hK K
  refine aCalm_pre 6 (by rfl) fun K hK=>?_
  simp [h4]
  refine hK _ _ ?_
  clear hK K
  refine aCalm_pre 5 (by rfl) fun K hK=>?_
  simp [h4]
  refine hK _ _ ?_
  clear hK K
  refine aCalm_end ?_
  simp
  refine hK _ _ ?_
  clear hK K
  repeat with_reducible refine awp_assoc ?_
  refine awp_seq_k fun K hK=>?_
  refine awp_condF rfl (by simp) ?_
  refine awp_skip ?_
  refine hK _ _ ?_
  clear hK K
  repeat with_reducible refine awp_assoc ?_
  refine awp_sr fun K hK=>?_
  refine aOps_split 6 fun K hK=>?_
  simp [h4]
  refine hK _ _ ?_
  clear hK K
  refine aOps_split 6 fun K hK=>?_
  simp [h4]
  refine hK _ _ ?_
  clear hK K
  simp [h4]
  refine hK _ _ ?_
  clear hK K
  refine awp_condF rfl (by simp) ?_
  refine awp_skip ?_
  refine hKB _ _ ?_
  clear hKB
  refine awp_region ?_
  simp [wrap_succ (show k < 4611686018427387904 by omega)]
  refine ⟨?_,weak_HL hcl rfl (by simp [hpl]) (by simp [hpl])⟩
  simpa using hmiss (by simp [clashN,h1,h4])
 subst h4
 have a1:=arOk_top hat
 have a2:=arOk_top haq
 obtain ⟨⟨n1,x1,i1⟩,e1⟩:∃ e,entF P s=some e:=by
  cases h:entF P s with
  | none=>simp [arF,h] at a1
  | some e=>exact ⟨e,rfl⟩
 obtain ⟨⟨n2,x2,i2⟩,e2⟩:∃ e,entF P s'=some e:=by
  cases h:entF P s' with
  | none=>simp [arF,h] at a2
  | some e=>exact ⟨e,rfl⟩
 have y1:tyN P s=x1.name:=by simp [tyN,e1]
 have y2:tyN P s'=x2.name:=by simp [tyN,e2]
 by_cases h5:x1.name=x2.name
 rotate_left
 ·repeat with_reducible refine awp_assoc ?_
  refine awp_sdc [] [[],[],[0,1],[0,1],[],[],[0,2],[0,2],[0,2],[0,2],[0,1,2,3,6],[0,1,2,3,6],[0,1,2,3,6],[0,1,2,3,6],[0,1,2,3,6,10,11,12,13],[0,1,2,3,6,10,11,12,13],[0,1,2,3,6,10],[0,1,2,3,6,10,11],[0,1,2,3,6,10,11,12,13,14,15,16,17],[0,1,2,3,6,10,11,12,13,14,15,16,17],[0,1,2,3,6,10,11,12,13,14,15,16,17],[0,1,2,3,6,10,11,12,13,14,15,16,17],[0,1,2,3,6,10,11,12,13,14,15,16,17,18,19,20,21],[0,1,2,3,6,10,11,12,13,14,15,16,17,18,19,20,21],[0,1,2,3,6,10,11,12,13,14,15,16,17,18],[0,1,2,3,6,10,11,12,13,14,15,16,17,18,19],[0,1,2,3,6,10,11,12,14,18,19,20,22],[0,2,6,10,11,12,13,14,15,18,19,20,21,22,23],[0,2,6,7,10,11,12,13,14,15,16,18,19,20,21,22,23,24]] (by kernel_rfl) (by rfl) fun K hK=>?_
  refine aCalm_pre 6 (by rfl) fun K hK=>?_
  simp
  refine hK _ _ ?_
  clear hK K
  refine aCalm_pre 6 (by rfl) fun K hK=>?_
  simp [gp]
  refine hK _ _ ?_
  clear hK K
  refine aCalm_pre 2 (by rfl) fun K hK=>?_
  simp [gp]
  refine hK _ _ ?_
  clear hK K
  refine aCalm_pre 4 (by rfl) fun K hK=>?_
  simp [aLookup,gp,ga,keys_tEs,keyOk,lk_t,e1]
  refine hK _ _ ?_
  clear hK K
  refine aCalm_pre 4 (by rfl) fun K hK=>?_
  simp [gp]
  refine hK _ _ ?_
  clear hK K
  refine aCalm_pre 4 (by rfl) fun K hK=>?_
  simp [aLookup,gp,ga,keys_tEs,keyOk,lk_t,e2]
  refine hK _ _ ?_
  clear hK K
  refine aCalm_pre 3 (by rfl) fun K hK=>?_
  simp [h5]
  refine hK _ _ ?_
  clear hK K
  refine aCalm_end ?_
  simp
  refine hK _ _ ?_
  clear hK K
  repeat with_reducible refine awp_assoc ?_
  refine awp_seq_k fun K hK=>?_
  refine awp_condT rfl (by simp) ?_
  repeat with_reducible refine awp_assoc ?_
  refine awp_sr fun K hK=>?_
  simp
  refine hK _ _ ?_
  clear hK K
  rw [hyes (by simp [clashN,y1,y2,h5])]
  simp [reset_all hcl]
 repeat with_reducible refine awp_assoc ?_
 refine awp_sdc [] [[],[],[0,1],[0,1],[],[],[0,2],[0,2],[0,2],[0,2],[0,1,2,3,6],[0,1,2,3,6],[0,1,2,3,6],[0,1,2,3,6],[0,1,2,3,6,10,11,12,13],[0,1,2,3,6,10,11,12,13],[0,1,2,3,6,10],[0,1,2,3,6,10,11],[0,1,2,3,6,10,11,12,13,14,15,16,17],[0,1,2,3,6,10,11,12,13,14,15,16,17],[0,1,2,3,6,10,11,12,13,14,15,16,17],[0,1,2,3,6,10,11,12,13,14,15,16,17],[0,1,2,3,6,10,11,12,13,14,15,16,17,18,19,20,21],[0,1,2,3,6,10,11,12,13,14,15,16,17,18,19,20,21],[0,1,2,3,6,10,11,12,13,14,15,16,17,18],[0,1,2,3,6,10,11,12,13,14,15,16,17,18,19],[0,1,2,3,6,10,11,12,14,18,19,20,22],[0,2,6,10,11,12,13,14,15,18,19,20,21,22,23],[0,2,6,7,10,11,12,13,14,15,16,18,19,20,21,22,23,24]] (by kernel_rfl) (by rfl) fun K hK=>?_
 refine aCalm_pre 6 (by rfl) fun K hK=>?_
 simp
 refine hK _ _ ?_
 clear hK K
 refine aCalm_pre 6 (by rfl) fun K hK=>?_
 simp [gp]
 refine hK _ _ ?_
 clear hK K
 refine aCalm_pre 2 (by rfl) fun K hK=>?_
 simp [gp]
 refine hK _ _ ?_
 clear hK K
 refine aCalm_pre 4 (by rfl) fun K hK=>?_
 simp [aLookup,gp,ga,keys_tEs,keyOk,lk_t,e1]
 refine hK _ _ ?_
 clear hK K
 refine aCalm_pre 4 (by rfl) fun K hK=>?_
 simp [gp]
 refine hK _ _ ?_
 clear hK K
 refine aCalm_pre 4 (by rfl) fun K hK=>?_
 simp [aLookup,gp,ga,keys_tEs,keyOk,lk_t,e2]
 refine hK _ _ ?_
 clear hK K
 refine aCalm_pre 3 (by rfl) fun K hK=>?_
 simp [h5]
 refine hK _ _ ?_
 clear hK K
 refine aCalm_end ?_
 simp
 refine hK _ _ ?_
 clear hK K
 repeat with_reducible refine awp_assoc ?_
 refine awp_seq_k fun K hK=>?_
 refine awp_condF rfl (by simp) ?_
 refine awp_skip ?_
 refine hK _ _ ?_
 clear hK K
 by_cases h6:s=s'
 rotate_left
 ·repeat with_reducible refine awp_assoc ?_
  refine awp_sr fun K hK=>?_
  refine aOps_split 6 fun K hK=>?_
  simp [h6]
  refine hK _ _ ?_
  clear hK K
  refine aOps_split 6 fun K hK=>?_
  simp [h6]
  refine hK _ _ ?_
  clear hK K
  simp [h6]
  refine hK _ _ ?_
  clear hK K
  refine awp_condF rfl (by simp) ?_
  refine awp_skip ?_
  refine hKB _ _ ?_
  clear hKB
  refine awp_region ?_
  simp [wrap_succ (show k < 4611686018427387904 by omega)]
  refine ⟨?_,weak_HL hcl rfl (by simp [hpl]) (by simp [hpl])⟩
  simpa using hmiss (by simp [clashN,y1,y2,h5,h6])
 subst h6
 have hll:tl.length=ql.length:=by have:=congrArg Prod.fst (a1.symm.trans a2);simp only at this;omega
 have hc:=iht (arOk_kid hat) ql (arOk_kid haq) (by omega) (H:=HL H [.cells [intV 3,strV s,intV n',.slice (ql.map Nd.cells) none],.cells [intV 3,strV s,intV n,.slice (tl.map Nd.cells) none]]) ⟨gp _,ga _,gb _⟩
 repeat with_reducible refine awp_assoc ?_
 refine awp_sr fun K hK=>?_
 refine aOps_split 6 fun K hK=>?_
 simp
 refine hK _ _ ?_
 clear hK K
 refine aOps_split 6 fun K hK=>?_
 simp
 refine hK _ _ ?_
 clear hK K
 refine aOps_split 4 fun K hK=>?_
 simp
 refine hK _ _ ?_
 clear hK K
 refine aOps_call (hc) (by first | rfl | simp) rfl rfl (by first | (simp;done) | rfl) ?_
 cases hcl2:clashL P tl ql with
 | true =>
  simp
  refine hK _ _ ?_
  clear hK K
  refine awp_condT rfl (by simp) ?_
  repeat with_reducible refine awp_assoc ?_
  refine awp_sr fun K hK=>?_
  simp
  refine hK _ _ ?_
  clear hK K
  rw [hyes (by simp [clashN,y1,y2,h5,hcl2])]
  simp [reset_all hcl]
 | false =>
  simp
  refine hK _ _ ?_
  clear hK K
  refine awp_condF rfl (by simp) ?_
  refine awp_skip ?_
  refine hKB _ _ ?_
  clear hKB
  refine awp_region ?_
  simp [wrap_succ (show k < 4611686018427387904 by omega)]
  refine ⟨?_,weak_HL hcl rfl (by simp [hpl]) (by simp [hpl])⟩
  simpa using hmiss (by simp [clashN,y1,y2,h5,hcl2])
end
end Go.Proofs.YtdppfcbeiplckaaGreat
