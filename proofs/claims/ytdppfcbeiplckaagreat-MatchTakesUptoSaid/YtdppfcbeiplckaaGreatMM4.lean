/- The reference: what is a tree; ground values; Alone. -/
import Derived.Test.YtdppfcbeiplckaaGreatMM3
set_option linter.unusedVariables false
set_option linter.unusedSimpArgs false
namespace Go.Proofs.YtdppfcbeiplckaaGreat
open Go Go.Abs Go.Proofs
set_option maxRecDepth 20000
attribute [local simp] aOps wantedA aStep aop aLoad aStore aBin aUn aFieldAddr aField aIndexAddr aIndex aLen aBuild aFill aAlloc aAppend aAppendOwn aMin aMax aBuildSlice litRows newRows isMut isOwn isNilS nilsW bytesR tokW tokAV tokL ret readC splice aeval isLit isLate isCut aCut AV.celled AV.one AV.ofValue Value.oneCell' Value.cells intOp strOp get_nid upd_nid awp aEnd aResults aResult Det unord isCall isNext
attribute [local simp] low_take low_strs low_comp low_tcomp wkEs_refl' WkBs WkEnv WkB WkL WkE WkO ABlock.low lowO lowL lowR AV.low cellsL_eq Ty.low low_map Ty.cells_length Ty.cells_one
attribute [local simp] cellsNd_eq low_nds Nd.cells_length Nd.cells_one cellsDT_eq low_dts DT.kcells_length DT.kcells_one low_ints low_rows low_pls
theorem cntRL_big (l:List DT) {n:Nat} (h:¬ n≤400):cntRL l n=n:=by cases l <;> simp [cntRL,h]
theorem cntRL_append:∀ (a b:List DT) (n:Nat),cntRL (a++b) n=cntRL b (cntRL a n)
 | [],b,n=>rfl
 | t::a,b,n=>by
  simp only [List.cons_append,cntRL]
  by_cases h:n≤400
  ·rw [if_pos h,if_pos h,cntRL_append a b]
  ·rw [if_neg h,if_neg h,cntRL_big b h]
mutual
theorem cntR_le:∀ (t:DT) (n:Nat),n≤400→t.cntR n≤401
 | .mk _ _ _ _ _ l,n,h=>cntRL_le l _ (show n+1≤401 by omega)
theorem cntRL_le:∀ (l:List DT) (n:Nat),n≤401→cntRL l n≤401
 | [],n,h=>h
 | t::l,n,h=>by
  simp only [cntRL]
  by_cases hn:n≤400
  ·rw [if_pos hn];exact cntRL_le l _ (cntR_le t n hn)
  ·rw [if_neg hn];exact h
end
set_option maxHeartbeats 1000000 in
theorem rCount_c {b:Nat} (hb:b≤4611686018427387904):∀ t:DT,t.Sh b→∀ n:Nat,n≤400→∀ H,ACalls Tryz.prog 60 [t.enc,intV (n:Int)] H (intV (t.cntR n:Int)) H:=by
 refine DT.ind fun s m kd p r l ih hs n hn H=>?_
 have hi:=hs.inv
 have hlen:l.length < 4611686018427387904:=by omega
 have e0:(DT.mk s m kd p r l).cntR n=cntRL l (n+1):=by simp [DT.cntR]
 rw [e0]
 obtain ⟨F,hF⟩:∃ F,cntRL l (n+1)=F:=⟨_,rfl⟩
 rw [hF]
 obtain ⟨st,hst⟩:∃ st:Nat→Nat,∀ k,st k=cntRL (l.take k) (n+1):=⟨_,fun _=>rfl⟩
 have hst0:st 0=n+1:=by rw [hst,List.take_zero];rfl
 have hle2:∀ k,st k≤401:=fun k=>by rw [hst];exact cntRL_le _ _ (by omega)
 have hFl:st l.length=F:=by rw [hst,List.take_length,hF]
 have hFk:∀ k,¬ st k≤400→F=st k:=fun k h=>by
  have h2:=cntRL_append (l.take k) (l.drop k) (n+1)
  rw [List.take_append_drop,←hst,cntRL_big _ h] at h2
  rw [←hF,h2]
 have hstep:∀ k t,l[k]?=some t→st k≤400→st (k+1)=t.cntR (st k):=fun k t h h2=>by
  rw [hst,take_one h,cntRL_append,←hst];simp [cntRL,h2]
 simp only [DT.enc_mk]
 refine acalls_walk (fun _=>.imm) [0,1,2,4,5,16] Tryz.mixed Tryz.func60 rfl rfl rfl (by decide) (fun hcl hlow=>?_)
 have w1:IntKind.i64.wrap ((n:Int)+1)=(n:Int)+1:=wrap64 (by omega) (by omega)
 repeat with_reducible refine awp_assoc ?_
 refine awp_sr fun K hK=>?_
 simp
 refine hK _ _ ?_
 clear hK K
 repeat with_reducible refine awp_assoc ?_
 refine awp_sr fun K hK=>?_
 simp [w1]
 refine hK _ _ ?_
 clear hK K
 repeat with_reducible refine awp_assoc ?_
 refine awp_sr fun K hK=>?_
 simp
 refine hK _ _ ?_
 clear hK K
 refine awp_seq_k fun KB hKB=>?_
 refine awp_block ?_
 have hB:∀ env,env 1=intV (F:Int)→KB env (HL H [.cells [intV kd,.slice (p.map intR) none,.slice (r.map intR) none,.slice (l.map DT.kcells) none]]):=by
  intro env e1
  refine hKB _ _ ?_
  clear hKB KB
  repeat with_reducible refine awp_assoc ?_
  refine awp_sr fun K hK=>?_
  simp [e1]
  refine hK _ _ ?_
  clear hK K
  simp [reset_all hcl]
 clear hKB
 rw [show ((n:Int)+1)=(st 0:Int) by rw [hst0];push_cast;rfl]
 refine awp_up l.length (fun k=>Env.ofL [(1,intV (st k:Int)),(2,.ref (nid H.next 0) 0),(5,intV k)]) (fun k=>HL H [.cells [intV kd,.slice (p.map intR) none,.slice (r.map intR) none,.slice (l.map DT.kcells) none]]) (fun _=>True) (weak_HL hcl rfl (by simp) (by simp)) trivial (fun k hk _=>?_) (fun _=>?_)
 ·obtain ⟨t,ht⟩:∃ t,l[k]?=some t:=⟨_,List.getElem?_eq_getElem hk⟩
  have hih:=ih t (List.mem_of_getElem? ht) (hi.2.2.2 t (List.mem_of_getElem? ht)) (st k)
  have hs1:=hstep k t ht
  have hfk:=hFk k
  clear hstep hFk hst hle2 hFl ih
  generalize hq:st k=q at *
  generalize hq1:st (k+1)=q1 at *
  by_cases hm:q≤400
  ·have hm':(q:Int)≤400:=by omega
   have hc:=hih hm
   have hs2:=hs1 hm
   clear hih hs1 hfk hB
   subst hs2
   generalize t.cntR q=z at *
   obtain ⟨tn,tm,tk,tp,tr,tl⟩:=t
   simp only [DT.enc_mk] at hc
   repeat with_reducible refine awp_assoc ?_
   refine awp_sr fun K hK=>?_
   refine aOps_split 6 fun K hK=>?_
   simp [hk,hm']
   refine hK _ _ ?_
   clear hK K
   simp [hk,hm']
   refine hK _ _ ?_
   clear hK K
   repeat with_reducible refine awp_assoc ?_
   refine awp_seq_k fun K hK=>?_
   refine awp_condT rfl (by simp) ?_
   refine awp_skip ?_
   refine hK _ _ ?_
   clear hK K
   refine awp_seq_k fun KC hKC=>?_
   refine awp_block ?_
   refine awp_region ?_
   refine aOps_split 7 fun K hK=>?_
   simp [ht,DT.kcells]
   refine hK _ _ ?_
   clear hK K
   refine aOps_call (hc _) (by first | rfl | simp) rfl rfl (by first | (simp;done) | rfl) ?_
   simp
   refine hKC _ _ ?_
   clear hKC KC
   refine awp_region ?_
   simp [wrap_succ (show k < 4611686018427387904 by omega)]
   exact weak_HL hcl rfl (by simp) (by simp)
  ·have hm':¬ (q:Int)≤400:=by omega
   have hf:=hfk hm
   subst hf
   repeat with_reducible refine awp_assoc ?_
   refine awp_sr fun K hK=>?_
   refine aOps_split 6 fun K hK=>?_
   simp [hk,hm']
   refine hK _ _ ?_
   clear hK K
   simp [hk,hm']
   refine hK _ _ ?_
   clear hK K
   refine awp_seq_k fun K hK=>?_
   refine awp_condF rfl (by simp) ?_
   refine awp_exit ?_
   simp
   exact hB _ rfl
 ·rw [hFl]
  repeat with_reducible refine awp_assoc ?_
  refine awp_sr fun K hK=>?_
  refine aOps_split 6 fun K hK=>?_
  simp
  refine hK _ _ ?_
  clear hK K
  simp
  refine hK _ _ ?_
  clear hK K
  refine awp_seq_k fun K hK=>?_
  refine awp_condF rfl (by simp) ?_
  refine awp_exit ?_
  simp
  exact hB _ rfl
theorem rIsTree_c {b:Nat} (hb:b≤4611686018427387904):∀ t:DT,t.Sh b→∀ H,ACalls Tryz.prog 61 [t.enc] H (boolV t.wfB) H:=by
 refine DT.ind fun s m kd p r l ih hs H=>?_
 have hi:=hs.inv
 have hlen:l.length < 4611686018427387904:=by omega
 have e0:(DT.mk s m kd p r l).wfB=(shB kd p l && l.all DT.wfB):=by simp [DT.wfB,wfL_all]
 rw [e0]
 simp only [DT.enc_mk]
 refine acalls_walk (fun _=>.imm) [0,1,2,3,5,6,12,23,24,29,34,44] Tryz.mixed Tryz.func61 rfl rfl rfl (by decide) (fun hcl hlow=>?_)
 repeat with_reducible refine awp_assoc ?_
 refine awp_sr fun K hK=>?_
 simp
 refine hK _ _ ?_
 clear hK K
 repeat with_reducible refine awp_assoc ?_
 refine awp_sr fun K hK=>?_
 simp
 refine hK _ _ ?_
 clear hK K
 refine awp_seq_k fun KA hKA=>?_
 refine awp_block ?_
 have hA:∀ env,shB kd p l=true→env 1=.ref (nid H.next 0) 0→KA env (HL H [.cells [intV kd,.slice (p.map intR) none,.slice (r.map intR) none,.slice (l.map DT.kcells) none]]):=by
  intro env hsh e1
  refine hKA _ _ ?_
  clear hKA KA
  rw [hsh,Bool.true_and]
  repeat with_reducible refine awp_assoc ?_
  refine awp_sr fun K hK=>?_
  simp
  refine hK _ _ ?_
  clear hK K
  refine awp_seq_k fun KB hKB=>?_
  refine awp_block ?_
  refine awp_up l.length (fun k=>Env.ofL [(1,.ref (nid H.next 0) 0),(3,intV k)]) (fun k=>HL H [.cells [intV kd,.slice (p.map intR) none,.slice (r.map intR) none,.slice (l.map DT.kcells) none]]) (fun k=>∀ y∈l.take k,y.wfB=true) (weak_HL hcl rfl (by simp) (by simp [e1])) (by simp) (fun k hk hv=>?_) (fun hv=>?_)
  ·obtain ⟨t,ht⟩:∃ t,l[k]?=some t:=⟨_,List.getElem?_eq_getElem hk⟩
   have hm:=List.mem_of_getElem? ht
   have hc:=ih t hm (hi.2.2.2 t hm)
   have htk:=take_all (p:=fun y=>DT.wfB y=true) ht
   have hf:t.wfB=false→l.all DT.wfB=false:=fun h=>by rw [List.all_eq_false];exact ⟨t,hm,by simp [h]⟩
   generalize t.wfB=z at *
   obtain ⟨tn,tm,tk,tp,tr,tl⟩:=t
   simp only [DT.enc_mk] at hc
   repeat with_reducible refine awp_assoc ?_
   refine awp_sr fun K hK=>?_
   simp [hk]
   refine hK _ _ ?_
   clear hK K
   repeat with_reducible refine awp_assoc ?_
   refine awp_seq_k fun K hK=>?_
   refine awp_condT rfl (by simp) ?_
   refine awp_skip ?_
   refine hK _ _ ?_
   clear hK K
   refine awp_seq_k fun KC hKC=>?_
   refine awp_block ?_
   repeat with_reducible refine awp_assoc ?_
   refine awp_sr fun K hK=>?_
   refine aOps_split 6 fun K hK=>?_
   simp [ht,DT.kcells]
   refine hK _ _ ?_
   clear hK K
   refine aOps_call (hc _) (by first | rfl | simp) rfl rfl (by first | (simp;done) | rfl) ?_
   simp
   refine hK _ _ ?_
   clear hK K
   cases z with
   | false =>
    refine awp_condT rfl (by simp) ?_
    repeat with_reducible refine awp_assoc ?_
    refine awp_sr fun K hK=>?_
    simp
    refine hK _ _ ?_
    clear hK K
    simp [hf rfl,reset_all hcl]
   | true =>
    refine awp_condF rfl (by simp) ?_
    refine awp_skip ?_
    refine hKC _ _ ?_
    clear hKC KC
    refine awp_region ?_
    simp [wrap_succ (show k < 4611686018427387904 by omega)]
    exact ⟨by simpa using htk rfl hv,weak_HL hcl rfl (by simp) (by simp)⟩
  ·rw [List.take_length] at hv
   have hall:l.all DT.wfB=true:=List.all_eq_true.2 hv
   repeat with_reducible refine awp_assoc ?_
   refine awp_sr fun K hK=>?_
   simp
   refine hK _ _ ?_
   clear hK K
   refine awp_seq_k fun K hK=>?_
   refine awp_condF rfl (by simp) ?_
   refine awp_exit ?_
   simp
   refine hKB _ _ ?_
   clear hK K hKB KB
   repeat with_reducible refine awp_assoc ?_
   refine awp_sr fun K hK=>?_
   simp
   refine hK _ _ ?_
   clear hK K
   simp [hall,reset_all hcl]
 clear hKA
 by_cases k1:kd=1
 ·have b1:=eq_true k1
  refine awp_sr fun K hK=>?_
  simp [b1]
  refine hK _ _ ?_
  clear hK K
  refine awp_condT rfl (by simp) ?_
  repeat with_reducible refine awp_assoc ?_
  refine awp_sr fun K hK=>?_
  simp
  refine hK _ _ ?_
  clear hK K
  subst k1
  cases l <;> simp [shB,reset_all hcl]
 refine awp_sr fun K hK=>?_
 simp [k1]
 refine hK _ _ ?_
 clear hK K
 refine awp_condF rfl (by simp) ?_
 by_cases k2:kd=2
 ·have b2:=eq_true k2
  refine awp_sr fun K hK=>?_
  simp [b2]
  refine hK _ _ ?_
  clear hK K
  refine awp_condT rfl (by simp) ?_
  by_cases h0:p=[]
  ·have b0:=eq_true h0
   repeat with_reducible refine awp_assoc ?_
   refine awp_sr fun K hK=>?_
   refine aOps_split 5 fun K hK=>?_
   simp [b0]
   refine hK _ _ ?_
   clear hK K
   simp [b0]
   refine hK _ _ ?_
   clear hK K
   refine awp_condT rfl (by simp) ?_
   repeat with_reducible refine awp_assoc ?_
   refine awp_sr fun K hK=>?_
   simp
   refine hK _ _ ?_
   clear hK K
   simp [shB,k2,h0,reset_all hcl]
  ·have hp0:¬ p.length=0:=fun h=>h0 (List.length_eq_zero_iff.1 h)
   by_cases hl0:l=[]
   ·have b0:=eq_true hl0
    repeat with_reducible refine awp_assoc ?_
    refine awp_sr fun K hK=>?_
    refine aOps_split 5 fun K hK=>?_
    simp [h0,hp0,b0]
    refine hK _ _ ?_
    clear hK K
    simp [h0,hp0,b0]
    refine hK _ _ ?_
    clear hK K
    refine awp_condT rfl (by simp) ?_
    repeat with_reducible refine awp_assoc ?_
    refine awp_sr fun K hK=>?_
    simp
    refine hK _ _ ?_
    clear hK K
    simp [shB,k2,hl0,reset_all hcl]
   ·have hl0':¬ l.length=0:=fun h=>hl0 (List.length_eq_zero_iff.1 h)
    repeat with_reducible refine awp_assoc ?_
    refine awp_sr fun K hK=>?_
    refine aOps_split 5 fun K hK=>?_
    simp [h0,hp0,hl0,hl0']
    refine hK _ _ ?_
    clear hK K
    simp [h0,hp0,hl0,hl0']
    refine hK _ _ ?_
    clear hK K
    refine awp_condF rfl (by simp) ?_
    refine awp_skip ?_
    refine hA _ ?_ ?_
    ·simp [shB,k2,h0,hl0]
    ·rfl
 refine awp_sr fun K hK=>?_
 simp [k2]
 refine hK _ _ ?_
 clear hK K
 refine awp_condF rfl (by simp) ?_
 by_cases k3:kd=3
 ·have b3:=eq_true k3
  refine awp_sr fun K hK=>?_
  simp [b3]
  refine hK _ _ ?_
  clear hK K
  refine awp_condT rfl (by simp) ?_
  by_cases h2:l.length=2
  ·have b2:((l.length:Int)=2)=True:=eq_true (by omega)
   refine awp_sr fun K hK=>?_
   simp [b2]
   refine hK _ _ ?_
   clear hK K
   refine awp_condF rfl (by simp) ?_
   refine awp_skip ?_
   refine hA _ ?_ ?_
   ·simp [shB,k3,h2]
   ·rfl
  ·have h2':¬ (l.length:Int)=2:=by omega
   refine awp_sr fun K hK=>?_
   simp [h2']
   refine hK _ _ ?_
   clear hK K
   refine awp_condT rfl (by simp) ?_
   repeat with_reducible refine awp_assoc ?_
   refine awp_sr fun K hK=>?_
   simp
   refine hK _ _ ?_
   clear hK K
   simp [shB,k3,h2,reset_all hcl]
 refine awp_sr fun K hK=>?_
 simp [k3]
 refine hK _ _ ?_
 clear hK K
 refine awp_condF rfl (by simp) ?_
 repeat with_reducible refine awp_assoc ?_
 refine awp_sr fun K hK=>?_
 simp
 refine hK _ _ ?_
 clear hK K
 simp [shB,k1,k2,k3,reset_all hcl]
theorem rTree_c {b:Nat} (hb:b≤4611686018427387904) (t:DT) (hs:t.Sh b) (H:AHeap):ACalls Tryz.prog 27 [t.enc] H (boolV (treeB t)) H:=by
 have hc:=fun H=>rCount_c hb t hs 0 (by omega) H
 have hi:=fun H=>rIsTree_c hb t hs H
 unfold treeB
 generalize t.cntR 0=n at *
 generalize t.wfB=w at *
 obtain ⟨s,m,k,p,q,l⟩:=t
 simp only [DT.enc_mk] at *
 simp at hc
 refine acalls_walk (fun _=>.imm) [0,1,2] Tryz.mixed Tryz.func27 rfl rfl rfl (by decide) (fun hcl hlow=>?_)
 repeat with_reducible refine awp_assoc ?_
 refine awp_sr fun K hK=>?_
 simp
 refine hK _ _ ?_
 clear hK K
 by_cases hn:n≤400
 ·have hn':(n:Int)≤400:=by omega
  repeat with_reducible refine awp_assoc ?_
  refine awp_sr fun K hK=>?_
  refine aOps_split 1 fun K hK=>?_
  simp
  refine hK _ _ ?_
  clear hK K
  refine aOps_call (hc _) (by first | rfl | simp) rfl rfl (by first | (simp;done) | rfl) ?_
  refine aOps_split 3 fun K hK=>?_
  simp [hn,hn']
  refine hK _ _ ?_
  clear hK K
  refine aOps_call (hi _) (by first | rfl | simp) rfl rfl (by first | (simp;done) | rfl) ?_
  simp
  refine hK _ _ ?_
  clear hK K
  simp [hn,reset_all hcl]
 ·have hn':¬ (n:Int)≤400:=by omega
  repeat with_reducible refine awp_assoc ?_
  refine awp_sr fun K hK=>?_
  refine aOps_split 1 fun K hK=>?_
  simp
  refine hK _ _ ?_
  clear hK K
  refine aOps_call (hc _) (by first | rfl | simp) rfl rfl (by first | (simp;done) | rfl) ?_
  refine aOps_split 6 fun K hK=>?_
  simp [hn,hn']
  refine hK _ _ ?_
  clear hK K
  simp [hn,hn']
  refine hK _ _ ?_
  clear hK K
  simp [hn,reset_all hcl]
theorem rGround1_c {b:Nat} (hb:b≤4611686018427387904):∀ t:Nd,t.Sh b→∀ H,ACalls Tryz.prog 62 [t.enc] H (boolV t.gnd) H:=by
 refine Nd.ind fun o s n l ih hs H=>?_
 have hi:=hs.inv
 have hlen:l.length < 4611686018427387904:=by omega
 have hg:(Nd.mk o s n l).gnd=((decide (o=2) || decide (o=1)) && l.all Nd.gnd):=by simp [Nd.gnd,gndL_all]
 rw [hg]
 simp only [Nd.enc_mk]
 refine acalls_walk (fun _=>.imm) [0,1,2,3,11,16,25] Tryz.mixed Tryz.func62 rfl rfl rfl (by decide) (fun hcl hlow=>?_)
 repeat with_reducible refine awp_assoc ?_
 refine awp_sr fun K hK=>?_
 simp
 refine hK _ _ ?_
 clear hK K
 have hA:o=2∨o=1→∀ (K:Env→AHeap→Prop) (h:∀ env,K env (HL H [.cells [intV o,strV s,intV n,.slice (l.map Nd.cells) none]])→K env (HL H [.cells [intV o,strV s,intV n,.slice (l.map Nd.cells) none]])),True:=fun _ _ _=>trivial
 clear hA
 by_cases hno:¬ o=2∧¬ o=1
 ·repeat with_reducible refine awp_assoc ?_
  refine awp_sr fun K hK=>?_
  refine aOps_split 5 fun K hK=>?_
  simp [hno.1,hno.2]
  refine hK _ _ ?_
  clear hK K
  simp [hno.1,hno.2]
  refine hK _ _ ?_
  clear hK K
  repeat with_reducible refine awp_assoc ?_
  refine awp_seq_k fun K hK=>?_
  refine awp_condT rfl (by simp) ?_
  repeat with_reducible refine awp_assoc ?_
  refine awp_sr fun K hK=>?_
  simp
  refine hK _ _ ?_
  clear hK K
  simp [hno.1,hno.2,reset_all hcl]
 have hok:(decide (o=2) || decide (o=1))=true:=by
  by_cases h2:o=2
  ·simp [h2]
  ·by_cases h1:o=1
   ·simp [h1]
   ·exact absurd ⟨h2,h1⟩ hno
 rw [hok,Bool.true_and]
 repeat with_reducible refine awp_assoc ?_
 refine awp_sr fun K hK=>?_
 have hE:∀ env,env 1=.ref (nid H.next 0) 0→env 11=boolV false→K env (HL H [.cells [intV o,strV s,intV n,.slice (l.map Nd.cells) none]]):=by
  intro env e1 e11
  refine hK _ _ ?_
  clear hK K
  refine awp_seq_k fun K hK=>?_
  refine awp_condF (t:=false) (by exact e11) rfl ?_
  refine awp_skip ?_
  refine hK _ _ ?_
  clear hK K
  repeat with_reducible refine awp_assoc ?_
  refine awp_sr fun K hK=>?_
  simp [e1]
  refine hK _ _ ?_
  clear hK K
  refine awp_seq_k fun KB hKB=>?_
  refine awp_block ?_
  refine awp_up l.length (fun k=>Env.ofL [(1,.ref (nid H.next 0) 0),(3,intV k)]) (fun k=>HL H [.cells [intV o,strV s,intV n,.slice (l.map Nd.cells) none]]) (fun k=>∀ y∈l.take k,y.gnd=true) (weak_HL hcl rfl (by simp) (by simp [e1])) (by simp) (fun k hk hv=>?_) (fun hv=>?_)
  ·obtain ⟨t,ht⟩:∃ t,l[k]?=some t:=⟨_,List.getElem?_eq_getElem hk⟩
   have hm:=List.mem_of_getElem? ht
   have hc:=ih t hm (hi.2 t hm)
   have htk:=take_all (p:=fun y=>Nd.gnd y=true) ht
   have hf:t.gnd=false→l.all Nd.gnd=false:=fun h=>by rw [List.all_eq_false];exact ⟨t,hm,by simp [h]⟩
   generalize t.gnd=z at *
   obtain ⟨to,ts,tn,tl⟩:=t
   simp only [Nd.enc_mk] at hc
   repeat with_reducible refine awp_assoc ?_
   refine awp_sr fun K hK=>?_
   simp [hk]
   refine hK _ _ ?_
   clear hK K
   repeat with_reducible refine awp_assoc ?_
   refine awp_seq_k fun K hK=>?_
   refine awp_condT rfl (by simp) ?_
   refine awp_skip ?_
   refine hK _ _ ?_
   clear hK K
   refine awp_seq_k fun KC hKC=>?_
   refine awp_block ?_
   repeat with_reducible refine awp_assoc ?_
   refine awp_sr fun K hK=>?_
   refine aOps_split 5 fun K hK=>?_
   simp [ht,Nd.cells]
   refine hK _ _ ?_
   clear hK K
   refine aOps_call (hc _) (by first | rfl | simp) rfl rfl (by first | (simp;done) | rfl) ?_
   simp
   refine hK _ _ ?_
   clear hK K
   cases z with
   | false =>
    refine awp_condT rfl (by simp) ?_
    repeat with_reducible refine awp_assoc ?_
    refine awp_sr fun K hK=>?_
    simp
    refine hK _ _ ?_
    clear hK K
    simp [hf rfl,reset_all hcl]
   | true =>
    refine awp_condF rfl (by simp) ?_
    refine awp_skip ?_
    refine hKC _ _ ?_
    clear hKC KC
    refine awp_region ?_
    simp [wrap_succ (show k < 4611686018427387904 by omega)]
    exact ⟨by simpa using htk rfl hv,weak_HL hcl rfl (by simp) (by simp)⟩
  ·rw [List.take_length] at hv
   have hall:l.all Nd.gnd=true:=List.all_eq_true.2 hv
   repeat with_reducible refine awp_assoc ?_
   refine awp_sr fun K hK=>?_
   simp
   refine hK _ _ ?_
   clear hK K
   refine awp_seq_k fun K hK=>?_
   refine awp_condF rfl (by simp) ?_
   refine awp_exit ?_
   simp
   refine hKB _ _ ?_
   clear hK K hKB KB
   repeat with_reducible refine awp_assoc ?_
   refine awp_sr fun K hK=>?_
   simp
   refine hK _ _ ?_
   clear hK K
   simp [hall,reset_all hcl]
 clear hK
 by_cases h1:o=1
 ·have b1:=eq_true h1
  refine aOps_split 4 fun K hK=>?_
  simp [b1]
  refine hK _ _ ?_
  clear hK K
  simp [b1]
  refine hE _ ?_ ?_
  ·rfl
  ·rfl
 ·have h2:o=2:=by
   by_cases h2:o=2
   ·exact h2
   ·exact absurd ⟨h2,h1⟩ hno
  have b2:=eq_true h2
  refine aOps_split 4 fun K hK=>?_
  simp [h1,b2]
  refine hK _ _ ?_
  clear hK K
  simp [h1,b2]
  refine hE _ ?_ ?_
  ·rfl
  ·rfl
theorem rGround_c {b:Nat} (hb:b≤4611686018427387904) (l:List Nd) (hl:l.length < b) (hs:∀ x∈l,x.Sh b) (H:AHeap):ACalls Tryz.prog 28 [.slice (l.map Nd.cells) none] H (boolV (l.all Nd.gnd)) H:=by
 have hlen:l.length < 4611686018427387904:=by omega
 refine acalls_walk (fun _=>.imm) [0,2,3,7,15] Tryz.mixed Tryz.func28 rfl rfl rfl (by decide) (fun hcl hlow=>?_)
 repeat with_reducible refine awp_assoc ?_
 refine awp_sr fun K hK=>?_
 simp
 refine hK _ _ ?_
 clear hK K
 repeat with_reducible refine awp_assoc ?_
 refine awp_sr fun K hK=>?_
 simp
 refine hK _ _ ?_
 clear hK K
 refine awp_seq_k fun KB hKB=>?_
 refine awp_block ?_
 refine awp_up l.length (fun k=>Env.ofL [(0,.slice (l.map Nd.cells) none),(3,intV k)]) (fun k=>HL H []) (fun k=>∀ y∈l.take k,y.gnd=true) (weak_HL hcl rfl (by simp) (by simp)) (by simp) (fun k hk hv=>?_) (fun hv=>?_)
 ·obtain ⟨t,ht⟩:∃ t,l[k]?=some t:=⟨_,List.getElem?_eq_getElem hk⟩
  have hm:=List.mem_of_getElem? ht
  have hc:=fun H=>rGround1_c hb t (hs t hm) H
  have htk:=take_all (p:=fun y=>Nd.gnd y=true) ht
  have hf:t.gnd=false→l.all Nd.gnd=false:=fun h=>by rw [List.all_eq_false];exact ⟨t,hm,by simp [h]⟩
  generalize t.gnd=z at *
  obtain ⟨to,ts,tn,tl⟩:=t
  simp only [Nd.enc_mk] at hc
  repeat with_reducible refine awp_assoc ?_
  refine awp_sr fun K hK=>?_
  simp [hk]
  refine hK _ _ ?_
  clear hK K
  repeat with_reducible refine awp_assoc ?_
  refine awp_seq_k fun K hK=>?_
  refine awp_condT rfl (by simp) ?_
  refine awp_skip ?_
  refine hK _ _ ?_
  clear hK K
  refine awp_seq_k fun KC hKC=>?_
  refine awp_block ?_
  repeat with_reducible refine awp_assoc ?_
  refine awp_sr fun K hK=>?_
  refine aOps_split 4 fun K hK=>?_
  simp [ht,Nd.cells]
  refine hK _ _ ?_
  clear hK K
  refine aOps_call (hc _) (by first | rfl | simp) rfl rfl (by first | (simp;done) | rfl) ?_
  simp
  refine hK _ _ ?_
  clear hK K
  cases z with
  | false =>
   refine awp_condT rfl (by simp) ?_
   repeat with_reducible refine awp_assoc ?_
   refine awp_sr fun K hK=>?_
   simp
   refine hK _ _ ?_
   clear hK K
   simp [hf rfl,reset_all hcl]
  | true =>
   refine awp_condF rfl (by simp) ?_
   refine awp_skip ?_
   refine hKC _ _ ?_
   clear hKC KC
   refine awp_region ?_
   simp [wrap_succ (show k < 4611686018427387904 by omega)]
   exact ⟨by simpa using htk rfl hv,weak_HL hcl rfl (by simp) (by simp)⟩
 ·rw [List.take_length] at hv
  have hall:l.all Nd.gnd=true:=List.all_eq_true.2 hv
  repeat with_reducible refine awp_assoc ?_
  refine awp_sr fun K hK=>?_
  simp
  refine hK _ _ ?_
  clear hK K
  refine awp_seq_k fun K hK=>?_
  refine awp_condF rfl (by simp) ?_
  refine awp_exit ?_
  simp
  refine hKB _ _ ?_
  clear hK K hKB KB
  repeat with_reducible refine awp_assoc ?_
  refine awp_sr fun K hK=>?_
  simp
  refine hK _ _ ?_
  clear hK K
  simp [hall,reset_all hcl]
theorem rAlone1_c {b:Nat} (hb:b≤4611686018427387904):∀ t:DT,t.Sh b→∀ H,ACalls Tryz.prog 31 [t.enc] H (boolV t.aloneB) H:=by
 refine DT.ind fun s m kd p q l ih hs H=>?_
 have hi:=hs.inv
 have hlen:l.length < 4611686018427387904:=by omega
 have hg:(DT.mk s m kd p q l).aloneB=((!decide (kd=3)) && ((!decide (kd=1)) || decide (q.length < 2)) && l.all DT.aloneB):=by simp [DT.aloneB,aloneL_all]
 rw [hg]
 simp only [DT.enc_mk]
 refine acalls_walk (fun _=>.imm) [0,1,2,3,17,22,32] Tryz.mixed Tryz.func31 rfl rfl rfl (by decide) (fun hcl hlow=>?_)
 repeat with_reducible refine awp_assoc ?_
 refine awp_sr fun K hK=>?_
 simp
 refine hK _ _ ?_
 clear hK K
 repeat with_reducible refine awp_assoc ?_
 refine awp_sr fun K hK=>?_
 have hE:∀ env,((!decide (kd=3)) && ((!decide (kd=1)) || decide (q.length < 2)))=true→env 1=.ref (nid H.next 0) 0→env 17=boolV false→K env (HL H [.cells [intV kd,.slice (p.map intR) none,.slice (q.map intR) none,.slice (l.map DT.kcells) none]]):=by
  intro env hok e1 e17
  refine hK _ _ ?_
  clear hK K
  rw [hok,Bool.true_and]
  refine awp_seq_k fun K hK=>?_
  refine awp_condF (t:=false) (by exact e17) rfl ?_
  refine awp_skip ?_
  refine hK _ _ ?_
  clear hK K
  repeat with_reducible refine awp_assoc ?_
  refine awp_sr fun K hK=>?_
  simp [e1]
  refine hK _ _ ?_
  clear hK K
  refine awp_seq_k fun KB hKB=>?_
  refine awp_block ?_
  refine awp_up l.length (fun k=>Env.ofL [(1,.ref (nid H.next 0) 0),(3,intV k)]) (fun k=>HL H [.cells [intV kd,.slice (p.map intR) none,.slice (q.map intR) none,.slice (l.map DT.kcells) none]]) (fun k=>∀ y∈l.take k,y.aloneB=true) (weak_HL hcl rfl (by simp) (by simp [e1])) (by simp) (fun k hk hv=>?_) (fun hv=>?_)
  ·obtain ⟨t,ht⟩:∃ t,l[k]?=some t:=⟨_,List.getElem?_eq_getElem hk⟩
   have hm:=List.mem_of_getElem? ht
   have hc:=ih t hm (hi.2.2.2 t hm)
   have htk:=take_all (p:=fun y=>DT.aloneB y=true) ht
   have hf:t.aloneB=false→l.all DT.aloneB=false:=fun h=>by rw [List.all_eq_false];exact ⟨t,hm,by simp [h]⟩
   generalize t.aloneB=z at *
   obtain ⟨tn,tm,tk,tp,tr,tl⟩:=t
   simp only [DT.enc_mk] at hc
   repeat with_reducible refine awp_assoc ?_
   refine awp_sr fun K hK=>?_
   simp [hk]
   refine hK _ _ ?_
   clear hK K
   repeat with_reducible refine awp_assoc ?_
   refine awp_seq_k fun K hK=>?_
   refine awp_condT rfl (by simp) ?_
   refine awp_skip ?_
   refine hK _ _ ?_
   clear hK K
   refine awp_seq_k fun KC hKC=>?_
   refine awp_block ?_
   repeat with_reducible refine awp_assoc ?_
   refine awp_sr fun K hK=>?_
   refine aOps_split 6 fun K hK=>?_
   simp [ht,DT.kcells]
   refine hK _ _ ?_
   clear hK K
   refine aOps_call (hc _) (by first | rfl | simp) rfl rfl (by first | (simp;done) | rfl) ?_
   simp
   refine hK _ _ ?_
   clear hK K
   cases z with
   | false =>
    refine awp_condT rfl (by simp) ?_
    repeat with_reducible refine awp_assoc ?_
    refine awp_sr fun K hK=>?_
    simp
    refine hK _ _ ?_
    clear hK K
    simp [hf rfl,reset_all hcl]
   | true =>
    refine awp_condF rfl (by simp) ?_
    refine awp_skip ?_
    refine hKC _ _ ?_
    clear hKC KC
    refine awp_region ?_
    simp [wrap_succ (show k < 4611686018427387904 by omega)]
    exact ⟨by simpa using htk rfl hv,weak_HL hcl rfl (by simp) (by simp)⟩
  ·rw [List.take_length] at hv
   have hall:l.all DT.aloneB=true:=List.all_eq_true.2 hv
   repeat with_reducible refine awp_assoc ?_
   refine awp_sr fun K hK=>?_
   simp
   refine hK _ _ ?_
   clear hK K
   refine awp_seq_k fun K hK=>?_
   refine awp_condF rfl (by simp) ?_
   refine awp_exit ?_
   simp
   refine hKB _ _ ?_
   clear hK K hKB KB
   repeat with_reducible refine awp_assoc ?_
   refine awp_sr fun K hK=>?_
   simp
   refine hK _ _ ?_
   clear hK K
   simp [hall,reset_all hcl]
 have hN:∀ env,((!decide (kd=3)) && ((!decide (kd=1)) || decide (q.length < 2)))=false→env 17=boolV true→K env (HL H [.cells [intV kd,.slice (p.map intR) none,.slice (q.map intR) none,.slice (l.map DT.kcells) none]]):=by
  intro env hok e17
  refine hK _ _ ?_
  clear hK hE K
  rw [hok,Bool.false_and]
  refine awp_seq_k fun K hK=>?_
  refine awp_condT (t:=true) (by exact e17) rfl ?_
  repeat with_reducible refine awp_assoc ?_
  refine awp_sr fun K hK=>?_
  simp
  refine hK _ _ ?_
  clear hK K
  simp [reset_all hcl]
 clear hK
 by_cases k3:kd=3
 ·have b3:=eq_true k3
  refine aOps_split 8 fun K hK=>?_
  simp [b3]
  refine hK _ _ ?_
  clear hK K
  simp [b3]
  refine hN _ ?_ ?_
  ·simp [k3]
  ·rfl
 by_cases k1:kd=1
 ·have b1:=eq_true k1
  by_cases hq:q.length < 2
  ·have hq':¬ (1:Int) < (q.length:Int):=by omega
   refine aOps_split 8 fun K hK=>?_
   simp [k3,b1]
   refine hK _ _ ?_
   clear hK K
   simp [k3,b1,hq']
   refine hE _ ?_ ?_ ?_
   ·simp [k1,hq]
   ·rfl
   ·rfl
  ·have hq':(1:Int) < (q.length:Int):=by omega
   refine aOps_split 8 fun K hK=>?_
   simp [k3,b1]
   refine hK _ _ ?_
   clear hK K
   simp [k3,b1,hq']
   refine hN _ ?_ ?_
   ·simp [k1,hq]
   ·rfl
 ·refine aOps_split 8 fun K hK=>?_
  simp [k3,k1]
  refine hK _ _ ?_
  clear hK K
  simp [k3,k1]
  refine hE _ ?_ ?_ ?_
  ·simp [k3,k1]
  ·rfl
  ·rfl
theorem rAlone_c {b:Nat} (hb:b≤4611686018427387904) (t:DT) (hs:t.Sh b) (H:AHeap) :
  ACalls Tryz.prog 9 [t.enc] H (.tuple [boolV (if treeB t=true then t.aloneB else false),intV (if treeB t=true then 0 else 1)]) H:=by
 have hv:=fun H=>rTree_c hb t hs H
 have ha:=fun H=>rAlone1_c hb t hs H
 generalize treeB t=w at *
 generalize t.aloneB=a at *
 obtain ⟨s,n,k,p,q,l⟩:=t
 simp only [DT.enc_mk] at *
 refine acalls_walk (fun _=>.imm) [0,1,2,3,6] Tryz.mixed Tryz.func9 rfl rfl rfl (by decide) (fun hcl hlow=>?_)
 repeat with_reducible refine awp_assoc ?_
 refine awp_sr fun K hK=>?_
 simp
 refine hK _ _ ?_
 clear hK K
 repeat with_reducible refine awp_assoc ?_
 refine awp_sr fun K hK=>?_
 refine aOps_split 1 fun K hK=>?_
 simp
 refine hK _ _ ?_
 clear hK K
 refine aOps_call (hv _) (by first | rfl | simp) rfl rfl (by first | (simp;done) | rfl) ?_
 simp
 refine hK _ _ ?_
 clear hK K
 cases w with
 | false =>
  repeat with_reducible refine awp_assoc ?_
  refine awp_seq_k fun K hK=>?_
  refine awp_condT rfl (by simp) ?_
  repeat with_reducible refine awp_assoc ?_
  refine awp_sr fun K hK=>?_
  simp
  refine hK _ _ ?_
  clear hK K
  simp [reset_all hcl]
 | true =>
  repeat with_reducible refine awp_assoc ?_
  refine awp_seq_k fun K hK=>?_
  refine awp_condF rfl (by simp) ?_
  refine awp_skip ?_
  refine hK _ _ ?_
  clear hK K
  repeat with_reducible refine awp_assoc ?_
  refine awp_sr fun K hK=>?_
  refine aOps_split 1 fun K hK=>?_
  simp
  refine hK _ _ ?_
  clear hK K
  refine aOps_call (ha _) (by first | rfl | simp) rfl rfl (by first | (simp;done) | rfl) ?_
  simp
  refine hK _ _ ?_
  clear hK K
  simp [reset_all hcl]
set_option maxHeartbeats 1000000 in
theorem rAt_c {b:Nat} (hb:b≤4611686018427387904) (l:List Nd) (hl:VOk b (l,zeroNd)) (i0:Int) (p:List Int) (hp:(i0::p).length < b) (H:AHeap) :
  ACalls Tryz.prog 63 [.slice (l.map Nd.cells) none,.slice ((i0::p).map intR) none] H (.tuple [(if (valFm l zeroNd (i0::p)).2=true then (valFm l zeroNd (i0::p)).1 else zeroNd).enc,boolV (valFm l zeroNd (i0::p)).2]) H:=by
 have hlen:l.length < 4611686018427387904:=by have:=hl.1;simp only at this;omega
 have hplen:p.length+1 < 4611686018427387904:=by simp only [List.length_cons] at hp;omega
 refine acalls_walk (fun _=>.imm) [0,1,4,5,6,7,19,30,47] Tryz.mixed Tryz.func63 rfl rfl rfl (by decide) (fun hcl hlow=>?_)
 repeat with_reducible refine awp_assoc ?_
 refine awp_sr fun K hK=>?_
 simp
 refine hK _ _ ?_
 clear hK K
 by_cases c1:i0 < 0
 ·have e:valFm l zeroNd (i0::p)=(zeroNd,false):=by simp [valFm,c1]
  rw [e]
  repeat with_reducible refine awp_assoc ?_
  refine awp_sr fun K hK=>?_
  refine aOps_split 6 fun K hK=>?_
  simp [c1]
  refine hK _ _ ?_
  clear hK K
  simp [c1]
  refine hK _ _ ?_
  clear hK K
  repeat with_reducible refine awp_assoc ?_
  refine awp_seq_k fun K hK=>?_
  refine awp_condT rfl (by simp) ?_
  repeat with_reducible refine awp_assoc ?_
  refine awp_sr fun K hK=>?_
  simp
  refine hK _ _ ?_
  clear hK K
  simp [zeroNd,Nd.enc_mk,reset_all hcl]
  exact Wk.tuple ⟨Wk.agg ⟨.refl _,.refl _,.refl _,Wk.nilSlice,trivial⟩,.refl _,trivial⟩
 by_cases c2:(l.length:Int)≤i0
 ·have e:valFm l zeroNd (i0::p)=(zeroNd,false):=by simp [valFm,c1,c2]
  rw [e]
  repeat with_reducible refine awp_assoc ?_
  refine awp_sr fun K hK=>?_
  refine aOps_split 6 fun K hK=>?_
  simp [c1,c2]
  refine hK _ _ ?_
  clear hK K
  simp [c1,c2]
  refine hK _ _ ?_
  clear hK K
  repeat with_reducible refine awp_assoc ?_
  refine awp_seq_k fun K hK=>?_
  refine awp_condT rfl (by simp) ?_
  repeat with_reducible refine awp_assoc ?_
  refine awp_sr fun K hK=>?_
  simp
  refine hK _ _ ?_
  clear hK K
  simp [zeroNd,Nd.enc_mk,reset_all hcl]
  exact Wk.tuple ⟨Wk.agg ⟨.refl _,.refl _,.refl _,Wk.nilSlice,trivial⟩,.refl _,trivial⟩
 have c2':i0.toNat < l.length:=by omega
 obtain ⟨x,hx⟩:∃ x,l[i0.toNat]?=some x:=⟨_,List.getElem?_eq_getElem c2'⟩
 have c3:0≤i0:=by omega
 have hv0:=hl.kids (k:=i0.toNat) hx
 have e:valFm l zeroNd (i0::p)=valFm x.kids x p:=by simp [valFm,c1,c2,hx]
 rw [e]
 obtain ⟨R,hR⟩:∃ R,valFm x.kids x p=R:=⟨_,rfl⟩
 rw [hR]
 obtain ⟨st,hst⟩:∃ st:Nat→VS,∀ k,st k=(p.take k).foldl stepV (x.kids,x):=⟨_,fun _=>rfl⟩
 have hst0:st 0=(x.kids,x):=by rw [hst];simp
 have hst1:∀ k i,p[k]?=some i→st (k+1)=stepV (st k) i:=fun k i h=>by rw [hst,hst,take_one h,List.foldl_append];rfl
 clear hst e
 repeat with_reducible refine awp_assoc ?_
 refine awp_sr fun K hK=>?_
 refine aOps_split 6 fun K hK=>?_
 simp [c1,c2]
 refine hK _ _ ?_
 clear hK K
 simp [c1,c2]
 refine hK _ _ ?_
 clear hK K
 repeat with_reducible refine awp_assoc ?_
 refine awp_seq_k fun K hK=>?_
 refine awp_condF rfl (by simp) ?_
 refine awp_skip ?_
 refine hK _ _ ?_
 clear hK K
 have h0c:(st 0).2.cells=x.cells:=by rw [hst0]
 obtain ⟨xo,xs,xn,xl⟩:=x
 repeat with_reducible refine awp_assoc ?_
 refine awp_sr fun K hK=>?_
 simp [hx,c3,Nd.cells]
 refine hK _ _ ?_
 clear hK K
 repeat with_reducible refine awp_assoc ?_
 refine awp_sr fun K hK=>?_
 simp
 refine hK _ _ ?_
 clear hK K
 refine awp_seq_k fun KB hKB=>?_
 refine awp_block ?_
 refine awp_up p.length (fun k=>Env.ofL [(1,.slice ((i0::p).map intR) none),(4,.ref (nid H.next 0) 0),(6,.ref (nid H.next 1) 0),(7,intV ((k:Int)+1))]) (fun k=>HL H [.cells [intV 0,strV ByteArray.empty,intV 0,.v (.slice none 0 0)],.cells (st k).2.cells]) (fun k=>(st k).1=(st k).2.kids∧VOk b (st k)∧valFm (st k).1 (st k).2 (p.drop k)=R) ?_ ⟨by rw [hst0],by rw [hst0];exact hv0,by rw [hst0,List.drop_zero];exact hR⟩ (fun k hk hv=>?_) (fun hv=>?_)
 ·rw [h0c]
  exact weak_HL hcl rfl (by simp [Nd.cells]) (by simp)
 ·obtain ⟨i,hi⟩:∃ i,p[k]?=some i:=⟨_,List.getElem?_eq_getElem hk⟩
  have hs1:=hst1 k i hi
  generalize hq:st k=q at *
  obtain ⟨ql,qv⟩:=q
  obtain ⟨hv0',hv1,hv2⟩:=hv
  obtain ⟨vo,vs,vn,vl⟩:=qv
  simp only [Nd.kids] at hv0'
  subst hv0'
  simp only [Nd.cells,cellsNd_eq]
  have hdr:p.drop k=i::p.drop (k+1):=by
   rw [List.drop_eq_getElem_cons hk]
   congr 1
   have:=List.getElem?_eq_getElem hk
   rw [this] at hi;simpa using hi
  rw [hdr] at hv2
  simp only [valFm] at hv2
  have hlenq:ql.length < 4611686018427387904:=by have:=hv1.1;simp only at this;omega
  have t1:((k:Int)+1).toNat=k+1:=by omega
  have t2:(0:Int)≤(k:Int)+1:=by omega
  have hk1:(k:Int)+1 < (p.length:Int)+1:=by omega
  have hi':(i0::p)[k+1]?=some i:=by simpa using hi
  have w2:IntKind.i64.wrap ((k:Int)+1+1)=(k:Int)+1+1:=wrap64 (by omega) (by omega)
  repeat with_reducible refine awp_assoc ?_
  refine awp_sr fun K hK=>?_
  simp [hk1,hk]
  refine hK _ _ ?_
  clear hK K
  repeat with_reducible refine awp_assoc ?_
  refine awp_seq_k fun K hK=>?_
  refine awp_condT rfl (by simp) ?_
  refine awp_skip ?_
  refine hK _ _ ?_
  clear hK K
  refine awp_seq_k fun KC hKC=>?_
  refine awp_block ?_
  by_cases d1:i < 0
  ·rw [if_pos (.inl d1)] at hv2
   subst hv2
   repeat with_reducible refine awp_assoc ?_
   refine awp_sdc [] [[],[0],[],[],[],[0,1],[0,1,2],[0,1,2,6],[0,1,2],[0,1,2],[0,1,2,6,7,8,9],[0,1,2,6,7,8,9],[0,1,2,6,7,8,9],[0,1,2],[0,1,2,6,7,10]] (by kernel_rfl) (by rfl) fun K hK=>?_
   refine aCalm_pre 6 (by rfl) fun K hK=>?_
   simp [hi,hi',t1,t2,d1]
   refine hK _ _ ?_
   clear hK K
   refine aCalm_pre 9 (by rfl) fun K hK=>?_
   simp [hi,hi',t1,t2,d1]
   refine hK _ _ ?_
   clear hK K
   refine aCalm_end ?_
   simp
   refine hK _ _ ?_
   clear hK K
   repeat with_reducible refine awp_assoc ?_
   refine awp_seq_k fun K hK=>?_
   refine awp_condT rfl (by simp) ?_
   repeat with_reducible refine awp_assoc ?_
   refine awp_sr fun K hK=>?_
   simp
   refine hK _ _ ?_
   clear hK K
   simp [zeroNd,Nd.enc_mk,reset_all hcl]
   exact Wk.tuple ⟨Wk.agg ⟨.refl _,.refl _,.refl _,Wk.nilSlice,trivial⟩,.refl _,trivial⟩
  by_cases d2:(ql.length:Int)≤i
  ·rw [if_pos (.inr d2)] at hv2
   subst hv2
   repeat with_reducible refine awp_assoc ?_
   refine awp_sdc [] [[],[0],[],[],[],[0,1],[0,1,2],[0,1,2,6],[0,1,2],[0,1,2],[0,1,2,6,7,8,9],[0,1,2,6,7,8,9],[0,1,2,6,7,8,9],[0,1,2],[0,1,2,6,7,10]] (by kernel_rfl) (by rfl) fun K hK=>?_
   refine aCalm_pre 6 (by rfl) fun K hK=>?_
   simp [hi,hi',t1,t2,d1]
   refine hK _ _ ?_
   clear hK K
   refine aCalm_pre 9 (by rfl) fun K hK=>?_
   simp [hi,hi',t1,t2,d1,d2]
   refine hK _ _ ?_
   clear hK K
   refine aCalm_end ?_
   simp
   refine hK _ _ ?_
   clear hK K
   repeat with_reducible refine awp_assoc ?_
   refine awp_seq_k fun K hK=>?_
   refine awp_condT rfl (by simp) ?_
   repeat with_reducible refine awp_assoc ?_
   refine awp_sr fun K hK=>?_
   simp
   refine hK _ _ ?_
   clear hK K
   simp [zeroNd,Nd.enc_mk,reset_all hcl]
   exact Wk.tuple ⟨Wk.agg ⟨.refl _,.refl _,.refl _,Wk.nilSlice,trivial⟩,.refl _,trivial⟩
  have d2':i.toNat < ql.length:=by omega
  obtain ⟨y,hy⟩:∃ y,ql[i.toNat]?=some y:=⟨_,List.getElem?_eq_getElem d2'⟩
  rw [if_neg (by omega),hy] at hv2
  simp only at hv2
  have hs2:st (k+1)=(y.kids,y):=by rw [hs1];simp [stepV,hy]
  have hvk:=hv1.kids (k:=i.toNat) hy
  have d3:0≤i:=by omega
  obtain ⟨yo,ys,yn,yl⟩:=y
  repeat with_reducible refine awp_assoc ?_
  refine awp_sdc [] [[],[0],[],[],[],[0,1],[0,1,2],[0,1,2,6],[0,1,2],[0,1,2],[0,1,2,6,7,8,9],[0,1,2,6,7,8,9],[0,1,2,6,7,8,9],[0,1,2],[0,1,2,6,7,10]] (by kernel_rfl) (by rfl) fun K hK=>?_
  refine aCalm_pre 6 (by rfl) fun K hK=>?_
  simp [hi,hi',t1,t2,d1]
  refine hK _ _ ?_
  clear hK K
  refine aCalm_pre 9 (by rfl) fun K hK=>?_
  simp [hi,hi',t1,t2,d1,d2]
  refine hK _ _ ?_
  clear hK K
  refine aCalm_end ?_
  simp
  refine hK _ _ ?_
  clear hK K
  repeat with_reducible refine awp_assoc ?_
  refine awp_seq_k fun K hK=>?_
  refine awp_condF rfl (by simp) ?_
  refine awp_skip ?_
  refine hK _ _ ?_
  clear hK K
  refine awp_draw [8] [[],[],[0,1],[0,1,2],[0,1],[0,1],[],[2,3],[]] (by kernel_rfl) ?_
  refine aLex_read rfl rfl rfl rfl fun K hK=>?_
  simp
  refine hK _ _ _ ?_
  clear hK K
  refine aLex_read rfl rfl rfl rfl fun K hK=>?_
  simp
  refine hK _ _ _ ?_
  clear hK K
  refine aLex_read rfl rfl rfl rfl fun K hK=>?_
  simp
  refine hK _ _ _ ?_
  clear hK K
  refine aLex_read rfl rfl rfl rfl fun K hK=>?_
  simp
  refine hK _ _ _ ?_
  clear hK K
  refine aLex_read rfl rfl rfl rfl fun K hK=>?_
  simp [hi,hi',t1,t2]
  refine hK _ _ _ ?_
  clear hK K
  refine aLex_read rfl rfl rfl rfl fun K hK=>?_
  simp [hi,hi',t1,t2]
  refine hK _ _ _ ?_
  clear hK K
  refine aLex_read rfl rfl rfl rfl fun K hK=>?_
  simp [hy,d3,Nd.cells]
  refine hK _ _ _ ?_
  clear hK K
  refine aLex_read rfl rfl rfl rfl fun K hK=>?_
  simp [hy,d3,Nd.cells]
  refine hK _ _ _ ?_
  clear hK K
  refine aLex_eff rfl rfl rfl rfl fun K hK=>?_
  simp [hy,d3,Nd.cells]
  refine hK _ _ ?_
  clear hK K
  refine aLex_end ?_
  simp
  refine hKC _ _ ?_
  clear hKC KC
  refine awp_region ?_
  simp [w2]
  rw [hs2]
  exact ⟨⟨rfl,hvk,hv2⟩,weak_HL hcl rfl (by simp [Nd.cells]) (by simp)⟩
 ·rw [List.drop_length] at hv
  generalize hq:st p.length=q at *
  obtain ⟨ql,qv⟩:=q
  obtain ⟨vo,vs,vn,vl⟩:=qv
  obtain ⟨_,_,hv2⟩:=hv
  simp only [valFm] at hv2
  subst hv2
  simp only [Nd.cells,cellsNd_eq]
  repeat with_reducible refine awp_assoc ?_
  refine awp_sr fun K hK=>?_
  simp
  refine hK _ _ ?_
  clear hK K
  refine awp_seq_k fun K hK=>?_
  refine awp_condF rfl (by simp) ?_
  refine awp_exit ?_
  simp
  refine hKB _ _ ?_
  clear hK K hKB KB
  repeat with_reducible refine awp_assoc ?_
  refine awp_sr fun K hK=>?_
  simp
  refine hK _ _ ?_
  clear hK K
  simp [Nd.cells,Nd.enc,reset_all hcl]
end Go.Proofs.YtdppfcbeiplckaaGreat
