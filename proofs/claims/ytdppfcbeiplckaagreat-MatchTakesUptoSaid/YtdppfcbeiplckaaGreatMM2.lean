/- The program: what is a tree; the value at a path. -/
import Derived.Test.YtdppfcbeiplckaaGreatMM1
set_option linter.unusedVariables false
set_option linter.unusedSimpArgs false
namespace Go.Proofs.YtdppfcbeiplckaaGreat
open Go Go.Abs Go.Proofs
set_option maxRecDepth 20000
attribute [local simp] aOps wantedA aStep aop aLoad aStore aBin aUn aFieldAddr aField aIndexAddr aIndex aLen aBuild aFill aAlloc aAppend aAppendOwn aMin aMax aBuildSlice litRows newRows isMut isOwn isNilS nilsW bytesR tokW tokAV tokL ret readC splice aeval isLit isLate isCut aCut AV.celled AV.one AV.ofValue Value.oneCell' Value.cells intOp strOp get_nid upd_nid awp aEnd aResults aResult Det unord isCall isNext
attribute [local simp] low_take low_strs low_comp low_tcomp wkEs_refl' WkBs WkEnv WkB WkL WkE WkO ABlock.low lowO lowL lowR AV.low cellsL_eq Ty.low low_map Ty.cells_length Ty.cells_one
attribute [local simp] cellsNd_eq low_nds Nd.cells_length Nd.cells_one cellsDT_eq low_dts DT.kcells_length DT.kcells_one low_ints low_rows low_pls
def cN (H:AHeap) (i:Nat) (n:Nat):AHeap:=H.upd i (.cells [intV (n:Int)])
@[simp] theorem cN_next (H:AHeap) (i n:Nat):(cN H i n).next=H.next:=Eq.trans rfl rfl
@[simp] theorem cN_cN (H:AHeap) (i m n:Nat):cN (cN H i m) i n=cN H i n:=upd_upd
theorem cN_get (H:AHeap) (i n:Nat):(cN H i n).get i=some (.cells [intV (n:Int)]):=get_upd_self
theorem cN_closed {H:AHeap} {i:Nat} (m n:Nat) (hcl:(cN H i m).Closed):(cN H i n).Closed:=by
 have h:=hcl i _ (cN_get H i m)
 have:=closed_upd (b:=.cells [intV (n:Int)]) hcl h.1 (by simp [lowL,AV.low])
 rwa [show (cN H i m).upd i (.cells [intV (n:Int)])=cN H i n from upd_upd] at this
theorem isTL_false (l:List DT) (m:Nat):isTL l (false,m)=(false,m):=by cases l <;> simp [isTL]
theorem isTL_append:∀ (a b:List DT) (s:Bool × Nat),isTL (a++b) s=isTL b (isTL a s)
 | [],b,s=>rfl
 | t::a,b,(false,n)=>by rw [isTL_false,isTL_false,isTL_false]
 | t::a,b,(true,n)=>by
  simp only [List.cons_append,isTL,if_true]
  by_cases h:n≤400
  ·rw [if_pos h,if_pos h,isTL_append a b]
  ·rw [if_neg h,if_neg h,isTL_false]
theorem isTL_at {l:List DT} {k:Nat} {t:DT} (h:l[k]?=some t) (s:Bool × Nat):isTL (l.take (k+1)) s=isTL [t] (isTL (l.take k) s):=by
 rw [take_one h,isTL_append]
mutual
theorem isT_le:∀ (t:DT) (n:Nat),n≤400→(t.isT n).2≤401
 | .mk _ _ k p _ l,n,h=>isTL_le l _ (show n+1≤401 by omega)
theorem isTL_le:∀ (l:List DT) (s:Bool × Nat),s.2≤401→(isTL l s).2≤401
 | [],s,h=>h
 | t::l,(false,n),h=>by rw [isTL_false];exact h
 | t::l,(true,n),h=>by
  simp only [isTL,if_true]
  by_cases hn:n≤400
  ·rw [if_pos hn];exact isTL_le l _ (isT_le t n hn)
  ·rw [if_neg hn];exact h
end
theorem isTree_c {b:Nat} (hb:b≤4611686018427387904):∀ t:DT,t.Sh b→∀ n:Nat,n≤400→∀ (H:AHeap) (i:Nat),ACalls Tryz.prog 53 [t.enc,.ref i 0] (cN H i n) (boolV (t.isT n).1) (cN H i (t.isT n).2):=by
 refine DT.ind fun s m kd p r l ih hs n hn H i=>?_
 have hi:=hs.inv
 have hlen:l.length < 4611686018427387904:=by omega
 have hplen:p.length < 4611686018427387904:=by omega
 have e0:(DT.mk s m kd p r l).isT n=((isTL l (shB kd p l,n+1)).1 && decide ((isTL l (shB kd p l,n+1)).2≤400),(isTL l (shB kd p l,n+1)).2):=by simp [DT.isT]
 rw [e0]
 have hle:∀ k,(isTL (l.take k) (shB kd p l,n+1)).2≤401:=fun k=>isTL_le _ _ (show n+1≤401 by omega)
 simp only [DT.enc_mk]
 refine acalls_walk (fun _=>.imm) [0,1,2,4,5,6,13,14,20,32,45] Tryz.mixed Tryz.func53 rfl rfl rfl (by decide) (fun hcl hlow=>?_)
 have hil:i < H.next:=(hcl i _ (cN_get H i n)).1
 have gm:∀ m bs,(HL (cN H i m) bs).get i=some (.cells [intV (m:Int)]):=fun m bs=>by rw [get_lt (by exact hil)];exact cN_get _ _ _
 have um:∀ (m m':Nat) bs,(HL (cN H i m) bs).upd i (.cells [intV (m':Int)])=HL (cN H i m') bs:=fun m m' bs=>by
  rw [upd_lt (by exact hil)];congr 1;exact upd_upd
 have hclm:=fun m=>cN_closed n m hcl
 have hz:∀ m,¬ i=nid H.next m:=fun m=>by unfold nid;omega
 have w1:IntKind.i64.wrap ((n:Int)+1)=(n:Int)+1:=wrap64 (by omega) (by omega)
 have um1:∀ bs,(HL (cN H i n) bs).upd i (.cells [intV ((n:Int)+1)])=HL (cN H i (n+1)) bs:=fun bs=>um n (n+1) bs
 repeat with_reducible refine awp_assoc ?_
 refine awp_sr fun K hK=>?_
 simp
 refine hK _ _ ?_
 clear hK K
 repeat with_reducible refine awp_assoc ?_
 refine awp_sr fun K hK=>?_
 simp [gm,w1,um1]
 refine hK _ _ ?_
 clear hK K
 repeat with_reducible refine awp_assoc ?_
 refine awp_sr fun K hK=>?_
 simp
 refine hK _ _ ?_
 clear hK K
 repeat with_reducible refine awp_assoc ?_
 refine awp_sr fun K hK=>?_
 simp
 refine hK _ _ ?_
 clear hK K
 have hF:(isTL l (shB kd p l,n+1)).2≤401:=isTL_le _ _ (show n+1≤401 by omega)
 refine awp_seq_k fun KA hKA=>?_
 refine awp_block ?_
 have hA:∀ env,env 1=.ref i 0→env 2=.ref (nid H.next 0) 0→env 5=boolV (shB kd p l)→KA env (HL (cN H i (n+1)) [.cells [intV kd,.slice (p.map intR) none,.slice (r.map intR) none,.slice (l.map DT.kcells) none]]):=by
  intro env e1 e2 e5
  refine hKA _ _ ?_
  clear hKA KA
  repeat with_reducible refine awp_assoc ?_
  refine awp_sr fun K hK=>?_
  simp [e1,e2,e5]
  refine hK _ _ ?_
  clear hK K
  obtain ⟨st,hst⟩:∃ st:Nat→Bool × Nat,∀ k,st k=isTL (l.take k) (shB kd p l,n+1):=⟨_,fun _=>rfl⟩
  have hst0:st 0=(shB kd p l,n+1):=by rw [hst,List.take_zero];rfl
  have hle2:∀ k,(st k).2≤401:=fun k=>by rw [hst];exact hle k
  obtain ⟨F,hFe⟩:∃ F,isTL l (shB kd p l,n+1)=F:=⟨_,rfl⟩
  have hFl:st l.length=F:=by rw [hst,List.take_length,hFe]
  have hFk:∀ k m,st k=(false,m)→F=(false,m):=fun k m h=>by
   have h2:=isTL_append (l.take k) (l.drop k) (shB kd p l,n+1)
   rw [List.take_append_drop] at h2
   rw [←hFe,h2,←hst,h,isTL_false]
  have hstep:∀ k t,l[k]?=some t→st (k+1)=isTL [t] (st k):=fun k t h=>by rw [hst,hst,isTL_at h]
  rw [hFe]
  rw [hFe] at hF
  refine awp_seq_k fun KB hKB=>?_
  refine awp_block ?_
  have hB:∀ env,env 1=.ref i 0→env 5=boolV F.1→KB env (HL (cN H i F.2) [.cells [intV kd,.slice (p.map intR) none,.slice (r.map intR) none,.slice (l.map DT.kcells) none]]):=by
   intro env e1 e5
   refine hKB _ _ ?_
   clear hKB KB
   obtain ⟨f1,f2⟩:=F
   simp only at e5 hF ⊢
   cases f1
   ·repeat with_reducible refine awp_assoc ?_
    refine awp_sr fun K hK=>?_
    refine aOps_split 8 fun K hK=>?_
    simp [e1,e5]
    refine hK _ _ ?_
    clear hK K
    simp [e1,e5]
    refine hK _ _ ?_
    clear hK K
    simp [reset_all (hclm _)]
   ·by_cases h4:f2≤400
    ·have h4':(f2:Int)≤400:=by omega
     repeat with_reducible refine awp_assoc ?_
     refine awp_sr fun K hK=>?_
     refine aOps_split 8 fun K hK=>?_
     simp [e1,e5,gm,h4']
     refine hK _ _ ?_
     clear hK K
     simp [e1,e5,gm,h4']
     refine hK _ _ ?_
     clear hK K
     simp [reset_all (hclm _),h4]
    ·have h4':¬ (f2:Int)≤400:=by omega
     repeat with_reducible refine awp_assoc ?_
     refine awp_sr fun K hK=>?_
     refine aOps_split 8 fun K hK=>?_
     simp [e1,e5,gm,h4']
     refine hK _ _ ?_
     clear hK K
     simp [e1,e5,gm,h4']
     refine hK _ _ ?_
     clear hK K
     simp [reset_all (hclm _),h4]
  clear hKB
  rw [show shB kd p l=(st 0).1 by rw [hst0],show n+1=(st 0).2 by rw [hst0]]
  refine awp_up l.length (fun k=>Env.ofL [(1,.ref i 0),(2,.ref (nid H.next 0) 0),(5,boolV (st k).1),(6,intV k)]) (fun k=>HL (cN H i (st k).2) [.cells [intV kd,.slice (p.map intR) none,.slice (r.map intR) none,.slice (l.map DT.kcells) none]]) (fun _=>True) (weak_HL (hclm _) rfl (by simp) (by simp [lt_nid hil])) trivial (fun k hk _=>?_) (fun _=>?_)
  ·obtain ⟨t,ht⟩:∃ t,l[k]?=some t:=⟨_,List.getElem?_eq_getElem hk⟩
   have hih:=ih t (List.mem_of_getElem? ht) (hi.2.2.2 t (List.mem_of_getElem? ht))
   have hs1:=hstep k t ht
   have hmk:=hle2 k
   have hfk:=hFk k
   generalize hq:st k=q at *
   obtain ⟨ok,m⟩:=q
   cases ok with
   | false =>
    have hf:=hfk m rfl
    subst hf
    repeat with_reducible refine awp_assoc ?_
    refine awp_sr fun K hK=>?_
    refine aOps_split 6 fun K hK=>?_
    simp [hk]
    refine hK _ _ ?_
    clear hK K
    simp [hk]
    refine hK _ _ ?_
    clear hK K
    refine awp_seq_k fun K hK=>?_
    refine awp_condF rfl (by simp) ?_
    refine awp_exit ?_
    simp
    exact hB _ rfl rfl
   | true =>
    have e1:isTL [t] (true,m)=if m≤400 then t.isT m else (false,m):=by simp [isTL]
    rw [e1] at hs1
    clear hB hfk hF hFk hFe hFl
    repeat with_reducible refine awp_assoc ?_
    refine awp_sr fun K hK=>?_
    refine aOps_split 6 fun K hK=>?_
    simp [hk]
    refine hK _ _ ?_
    clear hK K
    simp [hk]
    refine hK _ _ ?_
    clear hK K
    repeat with_reducible refine awp_assoc ?_
    refine awp_seq_k fun K hK=>?_
    refine awp_condT rfl (by simp) ?_
    refine awp_skip ?_
    refine hK _ _ ?_
    clear hK K
    refine awp_seq_k fun KC hKC=>?_
    refine awp_block ?_
    by_cases hm:m≤400
    ·rw [if_pos hm] at hs1
     have hm':(m:Int)≤400:=by omega
     have hc:∀ bs,ACalls Tryz.prog 53 [t.enc,.ref i 0] (HL (cN H i m) bs) (boolV (t.isT m).1) (HL (cN H i (t.isT m).2) bs):=fun bs=>by
      have:=hih m hm (HL (cN H i m) bs) i
      rwa [show cN (HL (cN H i m) bs) i m=HL (cN H i m) bs from um m m bs,show cN (HL (cN H i m) bs) i (t.isT m).2=HL (cN H i (t.isT m).2) bs from um m _ bs] at this
     generalize t.isT m=q at *
     obtain ⟨r1,r2⟩:=q
     obtain ⟨tn,tm,tk,tp,tr,tl⟩:=t
     simp only [DT.enc_mk] at hc
     refine awp_region ?_
     refine aOps_split 6 fun K hK=>?_
     simp [gm,hm']
     refine hK _ _ ?_
     clear hK K
     refine aOps_split 6 fun K hK=>?_
     simp [gm,hm',ht,DT.kcells]
     refine hK _ _ ?_
     clear hK K
     refine aOps_call (hc _) (by first | rfl | simp) rfl rfl (by first | (simp;done) | rfl) ?_
     simp
     refine hKC _ _ ?_
     clear hKC KC
     refine awp_region ?_
     simp [wrap_succ (show k < 4611686018427387904 by omega)]
     rw [hs1]
     exact weak_HL (hclm _) rfl (by simp) (by simp [lt_nid hil])
    ·rw [if_neg hm] at hs1
     have hm':¬ (m:Int)≤400:=by omega
     refine awp_region ?_
     refine aOps_split 6 fun K hK=>?_
     simp [gm,hm']
     refine hK _ _ ?_
     clear hK K
     refine aOps_split 6 fun K hK=>?_
     simp [gm,hm']
     refine hK _ _ ?_
     clear hK K
     simp
     refine hKC _ _ ?_
     clear hKC KC
     refine awp_region ?_
     simp [wrap_succ (show k < 4611686018427387904 by omega)]
     rw [hs1]
     exact weak_HL (hclm _) rfl (by simp) (by simp [lt_nid hil])
  ·have hfin:((st l.length).1=F.1)∧(st l.length).2=F.2:=by rw [hFl];exact ⟨rfl,rfl⟩
   rw [hFl]
   repeat with_reducible refine awp_assoc ?_
   refine awp_sr fun K hK=>?_
   refine aOps_split 6 fun K hK=>?_
   simp
   refine hK _ _ ?_
   clear hK K
   simp
   refine hK _ _ ?_
   clear hK K
   refine awp_seq_k fun K hK=>?_
   refine awp_condF rfl (by simp) ?_
   refine awp_exit ?_
   simp
   exact hB _ rfl rfl
 clear hKA
 by_cases k1:kd=1
 ·subst k1
  refine awp_sr fun K hK=>?_
  simp
  refine hK _ _ ?_
  clear hK K
  refine awp_condT rfl (by simp) ?_
  refine awp_region ?_
  simp
  refine hA _ ?_ ?_ ?_
  ·rfl
  ·rfl
  ·cases l <;> simp [shB]
 refine awp_sr fun K hK=>?_
 simp [k1]
 refine hK _ _ ?_
 clear hK K
 refine awp_condF rfl (by simp) ?_
 by_cases k2:kd=2
 ·subst k2
  refine awp_sr fun K hK=>?_
  simp
  refine hK _ _ ?_
  clear hK K
  refine awp_condT rfl (by simp) ?_
  refine awp_region ?_
  by_cases h0:p=[]
  ·subst h0
   refine aOps_split 6 fun K hK=>?_
   simp
   refine hK _ _ ?_
   clear hK K
   refine aOps_split 6 fun K hK=>?_
   simp
   refine hK _ _ ?_
   clear hK K
   simp
   refine hA _ ?_ ?_ ?_
   ·rfl
   ·rfl
   ·simp [shB]
  ·have h0':0 < p.length:=List.length_pos_iff.2 h0
   have h0'':¬ (p.length:Int)≤0:=by omega
   refine aOps_split 5 fun K hK=>?_
   simp [h0,h0',h0'']
   refine hK _ _ ?_
   clear hK K
   refine aOps_split 6 fun K hK=>?_
   simp [h0,h0',h0'']
   refine hK _ _ ?_
   clear hK K
   simp
   refine hA _ ?_ ?_ ?_
   ·rfl
   ·rfl
   ·cases l <;> simp [shB,h0]
 refine awp_sr fun K hK=>?_
 simp [k2]
 refine hK _ _ ?_
 clear hK K
 refine awp_condF rfl (by simp) ?_
 by_cases k3:kd=3
 ·subst k3
  refine awp_sr fun K hK=>?_
  simp
  refine hK _ _ ?_
  clear hK K
  refine awp_condT rfl (by simp) ?_
  refine awp_region ?_
  simp
  refine hA _ ?_ ?_ ?_
  ·rfl
  ·rfl
  ·simp [shB]
   omega
 refine awp_sr fun K hK=>?_
 simp [k3]
 refine hK _ _ ?_
 clear hK K
 refine awp_condF rfl (by simp) ?_
 refine awp_skip ?_
 refine hA _ ?_ ?_ ?_
 ·rfl
 ·rfl
 ·simp [shB,k1,k2,k3]
theorem valid_c {b:Nat} (hb:b≤4611686018427387904) (t:DT) (hs:t.Sh b) (H:AHeap):ACalls Tryz.prog 22 [t.enc] H (intV (if treeB t=true then 0 else 1)) H:=by
 have hc:=fun H i=>isTree_c hb t hs 0 (by omega) H i
 rw [tree_same] at hc
 generalize treeB t=r at *
 generalize (t.isT 0).2=m at *
 obtain ⟨s,n,k,p,q,l⟩:=t
 simp only [DT.enc_mk] at hc ⊢
 refine acalls_walk (fun _=>.imm) [0,1,2,3,6] Tryz.mixed Tryz.func22 rfl rfl rfl (by decide) (fun hcl hlow=>?_)
 repeat with_reducible refine awp_assoc ?_
 refine awp_sr fun K hK=>?_
 simp
 refine hK _ _ ?_
 clear hK K
 repeat with_reducible refine awp_assoc ?_
 refine awp_sr fun K hK=>?_
 simp
 refine hK _ _ ?_
 clear hK K
 have hc2:ACalls Tryz.prog 53 [.agg [intV k,.slice (p.map intR) none,.slice (q.map intR) none,.slice (l.map DT.kcells) none],.ref (nid H.next 1) 0]
   (HL H [.cells [intV k,.slice (p.map intR) none,.slice (q.map intR) none,.slice (l.map DT.kcells) none],.cells [intV 0]]) (boolV r) (HL H [.cells [intV k,.slice (p.map intR) none,.slice (q.map intR) none,.slice (l.map DT.kcells) none],.cells [intV (m:Int)]]):=by
  have:=hc (HL H [.cells [intV k,.slice (p.map intR) none,.slice (q.map intR) none,.slice (l.map DT.kcells) none],.cells [intV 0]]) (nid H.next 1)
  simpa [cN] using this
 repeat with_reducible refine awp_assoc ?_
 refine awp_sr fun K hK=>?_
 refine aOps_split 1 fun K hK=>?_
 simp
 refine hK _ _ ?_
 clear hK K
 refine aOps_call (hc2) (by first | rfl | simp) rfl rfl (by first | (simp;done) | rfl) ?_
 simp
 refine hK _ _ ?_
 clear hK K
 cases r
 ·repeat with_reducible refine awp_assoc ?_
  refine awp_seq_k fun K hK=>?_
  refine awp_condT rfl (by simp) ?_
  repeat with_reducible refine awp_assoc ?_
  refine awp_sr fun K hK=>?_
  simp
  refine hK _ _ ?_
  clear hK K
  simp [reset_all hcl]
 ·repeat with_reducible refine awp_assoc ?_
  refine awp_seq_k fun K hK=>?_
  refine awp_condF rfl (by simp) ?_
  refine awp_skip ?_
  refine hK _ _ ?_
  clear hK K
  repeat with_reducible refine awp_assoc ?_
  refine awp_sr fun K hK=>?_
  simp
  refine hK _ _ ?_
  clear hK K
  simp [reset_all hcl]
abbrev VS:=List Nd × Nd
def stepV (s:VS) (i:Int):VS:=match s.1[i.toNat]? with | some x=>(x.kids,x) | none=>s
def VOk (b:Nat) (s:VS):Prop:=s.1.length < b∧∀ x∈s.1,x.Sh b
theorem VOk.kids {b:Nat} {s:VS} (h:VOk b s) {k:Nat} {x:Nd} (hx:s.1[k]?=some x):VOk b (x.kids,x):=by
 have h1:=h.2 x (List.mem_of_getElem? hx)
 obtain ⟨o,n,m,l⟩:=x
 exact h1.inv
set_option maxHeartbeats 1000000 in
theorem value_c {b:Nat} (hb:b≤4611686018427387904) (l:List Nd) (hl:VOk b (l,zeroNd)) (p:List Int) (hp:p.length < b) (H:AHeap):ACalls Tryz.prog 57 [.slice (l.map Nd.cells) none,.slice (p.map intR) none] H (.tuple [(valFm l zeroNd p).1.enc,boolV (valFm l zeroNd p).2]) H:=by
 obtain ⟨R,hR⟩:∃ R,valFm l zeroNd p=R:=⟨_,rfl⟩
 rw [hR]
 obtain ⟨st,hst⟩:∃ st:Nat→VS,∀ k,st k=(p.take k).foldl stepV (l,zeroNd):=⟨_,fun _=>rfl⟩
 have hst0:st 0=(l,zeroNd):=by rw [hst];simp
 have hst1:∀ k i,p[k]?=some i→st (k+1)=stepV (st k) i:=fun k i h=>by rw [hst,hst,take_one h,List.foldl_append];rfl
 clear hst
 have hplen:p.length < 4611686018427387904:=by omega
 refine acalls_walk (fun _=>.imm) [0,1,4,5,6,7,9,11,12,13,14,24] Tryz.mixed Tryz.func57 rfl rfl rfl (by decide) (fun hcl hlow=>?_)
 repeat with_reducible refine awp_assoc ?_
 refine awp_sr fun K hK=>?_
 simp
 refine hK _ _ ?_
 clear hK K
 repeat with_reducible refine awp_assoc ?_
 refine awp_sr fun K hK=>?_
 simp
 refine hK _ _ ?_
 clear hK K
 repeat with_reducible refine awp_assoc ?_
 refine awp_sr fun K hK=>?_
 simp
 refine hK _ _ ?_
 clear hK K
 repeat with_reducible refine awp_assoc ?_
 refine awp_sr fun K hK=>?_
 simp
 refine hK _ _ ?_
 clear hK K
 refine awp_seq_k fun K hK=>?_
 refine awp_block ?_
 refine awp_up p.length (fun k=>Env.ofL [(4,.ref (nid H.next 0) 0),(6,.slice ((st k).1.map Nd.cells) none),(7,.ref (nid H.next 1) 0),(11,.slice (p.map intR) none),(12,intV (p.length:Int)),(13,intV k)]) (fun k=>HL H [.cells [intV 0,strV ByteArray.empty,intV 0,.slice [] none],.cells (st k).2.cells]) (fun k=>VOk b (st k)∧valFm (st k).1 (st k).2 (p.drop k)=R) ?_ ⟨by rw [hst0];exact hl,by rw [hst0,List.drop_zero];exact hR⟩ (fun k hk hv=>?_) (fun hv=>?_)
 ·rw [hst0]
  exact weak_HL hcl rfl (by simp [zeroNd,Nd.cells]) (by simp [zeroNd,Nd.cells])
 ·obtain ⟨i,hi⟩:∃ i,p[k]?=some i:=⟨_,List.getElem?_eq_getElem hk⟩
  have hs1:=hst1 k i hi
  generalize hq:st k=q at *
  obtain ⟨ql,qv⟩:=q
  obtain ⟨hv1,hv2⟩:=hv
  obtain ⟨vo,vs,vn,vl⟩:=qv
  simp only [Nd.cells,cellsNd_eq]
  have hdr:p.drop k=i::p.drop (k+1):=by
   rw [List.drop_eq_getElem_cons hk]
   congr 1
   have:=List.getElem?_eq_getElem hk
   rw [this] at hi;simpa using hi
  rw [hdr] at hv2
  simp only [valFm] at hv2
  have hlenq:ql.length < 4611686018427387904:=by have:=hv1.1;simp only at this;omega
  repeat with_reducible refine awp_assoc ?_
  refine awp_sr fun K hK=>?_
  simp [hk]
  refine hK _ _ ?_
  clear hK K
  repeat with_reducible refine awp_assoc ?_
  refine awp_seq_k fun K hK=>?_
  refine awp_condT rfl (by simp) ?_
  refine awp_skip ?_
  refine hK _ _ ?_
  clear hK K
  refine awp_seq_k fun KC hKC=>?_
  refine awp_block ?_
  repeat with_reducible refine awp_assoc ?_
  refine awp_sr fun K hK=>?_
  simp [hi]
  refine hK _ _ ?_
  clear hK K
  by_cases c1:i < 0
  ·rw [if_pos (.inl c1)] at hv2
   subst hv2
   repeat with_reducible refine awp_assoc ?_
   refine awp_sr fun K hK=>?_
   refine aOps_split 8 fun K hK=>?_
   simp [c1]
   refine hK _ _ ?_
   clear hK K
   simp [c1]
   refine hK _ _ ?_
   clear hK K
   repeat with_reducible refine awp_assoc ?_
   refine awp_seq_k fun K hK=>?_
   refine awp_condT rfl (by simp) ?_
   repeat with_reducible refine awp_assoc ?_
   refine awp_sr fun K hK=>?_
   simp
   refine hK _ _ ?_
   clear hK K
   simp [Nd.cells,Nd.enc,reset_all hcl]
  by_cases c2:(ql.length:Int)≤i
  ·rw [if_pos (.inr c2)] at hv2
   subst hv2
   repeat with_reducible refine awp_assoc ?_
   refine awp_sr fun K hK=>?_
   refine aOps_split 8 fun K hK=>?_
   simp [c1,c2]
   refine hK _ _ ?_
   clear hK K
   simp [c1,c2]
   refine hK _ _ ?_
   clear hK K
   repeat with_reducible refine awp_assoc ?_
   refine awp_seq_k fun K hK=>?_
   refine awp_condT rfl (by simp) ?_
   repeat with_reducible refine awp_assoc ?_
   refine awp_sr fun K hK=>?_
   simp
   refine hK _ _ ?_
   clear hK K
   simp [Nd.cells,Nd.enc,reset_all hcl]
  have c2':i.toNat < ql.length:=by omega
  obtain ⟨x,hx⟩:∃ x,ql[i.toNat]?=some x:=⟨_,List.getElem?_eq_getElem c2'⟩
  rw [if_neg (by omega),hx] at hv2
  simp only at hv2
  have hs2:st (k+1)=(x.kids,x):=by rw [hs1];simp [stepV,hx]
  have hvk:=hv1.kids (k:=i.toNat) hx
  have c3:0≤i:=by omega
  repeat with_reducible refine awp_assoc ?_
  refine awp_sr fun K hK=>?_
  refine aOps_split 8 fun K hK=>?_
  simp [c1,c2]
  refine hK _ _ ?_
  clear hK K
  simp [c1,c2]
  refine hK _ _ ?_
  clear hK K
  repeat with_reducible refine awp_assoc ?_
  refine awp_seq_k fun K hK=>?_
  refine awp_condF rfl (by simp) ?_
  refine awp_skip ?_
  refine hK _ _ ?_
  clear hK K
  obtain ⟨xo,xs,xn,xl⟩:=x
  refine awp_draw [9] [[],[0],[],[],[0,1,2,3],[0,1,2,3,4],[0,1,2,3],[0,1,2,3],[0,1,2,3],[4,5,6,7,8],[]] (by kernel_rfl) ?_
  refine aLex_read rfl rfl rfl rfl fun K hK=>?_
  simp
  refine hK _ _ _ ?_
  clear hK K
  refine aLex_read rfl rfl rfl rfl fun K hK=>?_
  simp
  refine hK _ _ _ ?_
  clear hK K
  refine aLex_read rfl rfl rfl rfl fun K hK=>?_
  simp [hx,c3,Nd.cells]
  refine hK _ _ _ ?_
  clear hK K
  refine aLex_read rfl rfl rfl rfl fun K hK=>?_
  simp [hx,c3,Nd.cells]
  refine hK _ _ _ ?_
  clear hK K
  refine aLex_read rfl rfl rfl rfl fun K hK=>?_
  simp
  refine hK _ _ _ ?_
  clear hK K
  refine aLex_read rfl rfl rfl rfl fun K hK=>?_
  simp
  refine hK _ _ _ ?_
  clear hK K
  refine aLex_read rfl rfl rfl rfl fun K hK=>?_
  simp [hx,c3,Nd.cells]
  refine hK _ _ _ ?_
  clear hK K
  refine aLex_read rfl rfl rfl rfl fun K hK=>?_
  simp [hx,c3,Nd.cells]
  refine hK _ _ _ ?_
  clear hK K
  refine aLex_read rfl rfl rfl rfl fun K hK=>?_
  simp [hx,c3,Nd.cells]
  refine hK _ _ _ ?_
  clear hK K
  refine aLex_eff rfl rfl rfl rfl fun K hK=>?_
  simp [hx,c3,Nd.cells]
  refine hK _ _ ?_
  clear hK K
  refine aLex_read rfl rfl rfl rfl fun K hK=>?_
  simp
  refine hK _ _ _ ?_
  clear hK K
  refine aLex_end ?_
  simp
  refine hKC _ _ ?_
  clear hKC KC
  refine awp_region ?_
  simp [wrap_succ (show k < 4611686018427387904 by omega)]
  rw [hs2]
  refine ⟨⟨hvk,hv2⟩,weak_HL hcl rfl (by simp [Nd.cells]) (by simp [Nd.kids])⟩
 ·rw [List.drop_length] at hv
  generalize hq:st p.length=q at *
  obtain ⟨ql,qv⟩:=q
  obtain ⟨vo,vs,vn,vl⟩:=qv
  obtain ⟨_,hv2⟩:=hv
  simp only [valFm] at hv2
  subst hv2
  simp only [Nd.cells,cellsNd_eq]
  repeat with_reducible refine awp_assoc ?_
  refine awp_sr fun K hK=>?_
  simp
  refine hK _ _ ?_
  clear hK K
  repeat with_reducible refine awp_assoc ?_
  refine awp_seq_k fun K hK=>?_
  refine awp_condF rfl (by simp) ?_
  refine awp_exit ?_
  simp
  clear hK K
  refine hK _ _ ?_
  clear hK K
  repeat with_reducible refine awp_assoc ?_
  refine awp_sr fun K hK=>?_
  simp
  refine hK _ _ ?_
  clear hK K
  simp [Nd.cells,Nd.enc,reset_all hcl]
def cR (H:AHeap) (i j:Nat) (r:List Int):AHeap:=(H.upd i (.cells [.vec j r.length])).upd j (.tok r.length 1 (some (r.map intR)))
def Two (H:AHeap) (i j:Nat):Prop:=i < H.next∧j < H.next∧i≠j
@[simp] theorem cR_next (H:AHeap) (i j:Nat) (r:List Int):(cR H i j r).next=H.next:=Eq.trans rfl rfl
theorem cR_get1 {H:AHeap} {i j:Nat} (h:i≠j) (r:List Int):(cR H i j r).get i=some (.cells [.vec j r.length]):=by unfold cR;rw [get_upd_ne h,get_upd_self]
theorem cR_get2 (H:AHeap) (i j:Nat) (r:List Int):(cR H i j r).get j=some (.tok r.length 1 (some (r.map intR))):=get_upd_self
theorem cR_HL {H:AHeap} {i j:Nat} (h:Two H i j) (r:List Int) (bs:List ABlock):cR (HL H bs) i j r=HL (cR H i j r) bs:=by
 unfold cR
 rw [upd_lt h.1,upd_lt (by exact h.2.1)]
theorem cR_upd {H:AHeap} {i j:Nat} (h:i≠j) (r q:List Int):((cR H i j r).upd j (.tok q.length 1 (some (q.map intR)))).upd i (.cells [.vec j q.length])=cR H i j q:=by
 unfold cR
 rw [upd_upd,upd_comm (Ne.symm h),upd_upd]
theorem cR_closed {H:AHeap} {i j:Nat} {r:List Int} (q:List Int) (h:i≠j) (hcl:(cR H i j r).Closed):(cR H i j q).Closed:=by
 have hi:=hcl i _ (cR_get1 h r)
 have hj:=hcl j _ (cR_get2 H i j r)
 have h1:=closed_upd (b:=.tok q.length 1 (some (q.map intR))) hcl hj.1 (by simp [ABlock.low,lowO,low_ints])
 have h2:=closed_upd (b:=.cells [.vec j q.length]) h1 (by exact hi.1) (by simp [ABlock.low,lowL,AV.low];exact hj.1)
 rwa [cR_upd h] at h2
theorem sh_two {p:List Int} {l:List DT} (h:shB 3 p l=true):∃ a b,l=[a,b]:=by
 have:l.length=2:=by simpa [shB] using h
 match l,this with
 | [a,b],_=>exact ⟨a,b,rfl⟩
theorem szL_mem {l:List DT} {t:DT} (h:t∈l):t.sz≤szL l:=by
 induction l with
 | nil=>cases h
 | cons x l ih =>
  simp only [szL]
  rcases List.mem_cons.1 h with e | e
  ·subst e;omega
  ·have:=ih e;omega
theorem tk_len {b:Nat} (args:List Nd):∀ t:DT,t.Sh b→(t.tk args).2.length≤t.sz * b:=by
 refine DT.ind fun s n k p r l ih hs=>?_
 have hi:=hs.inv
 have hq:(szL l+1) * b=szL l * b+b:=by rw [Nat.add_mul,Nat.one_mul]
 have key:∀ t∈l,(t.tk args).2.length≤szL l * b:=fun t ht=>Nat.le_trans (ih t ht (hi.2.2.2 t ht)) (Nat.mul_le_mul_right _ (szL_mem ht))
 simp only [DT.tk,tkAll_eq,DT.sz]
 unfold tkC
 split
 ·simp only;omega
 split
 ·match l,ih,hi,key with
  | [],_,_,_=>simp
  | [_],_,_,_=>simp
  | a::c::l',ih,hi,key =>
   simp only [List.map_cons]
   have h1:=ih a (by simp) (hi.2.2.2 a (by simp))
   have h2:=ih c (by simp) (hi.2.2.2 c (by simp))
   have h3:(a.sz+(c.sz+szL l')+1) * b=a.sz * b+(c.sz * b+szL l' * b)+b:=by simp only [Nat.add_mul,Nat.one_mul]
   simp only [szL]
   split
   ·simp only [List.length_append];omega
   ·simp only;omega
 ·split
  ·simp
  ·split
   ·rename_i i hf
    rw [List.getD_eq_getElem?_getD,List.getElem?_map]
    cases hg:l[i]? with
    | none=>simp
    | some t=>have:=key t (List.mem_of_getElem? hg);simp only [Option.map_some,Option.getD_some];omega
   ·simp
set_option maxHeartbeats 1000000 in
theorem take_c {b:Nat} (hb:b≤1099511627776) (args:List Nd) (ha:VOk b (args,zeroNd)):∀ t:DT,t.Sh b→t.wfB=true→∀ (r:List Int),r.length+t.sz * b < 1099511627776→∀ (H:AHeap) (i j:Nat),i≠j →
  ACalls Tryz.prog 24 [t.enc,.slice (args.map Nd.cells) none,.ref i 0] (cR H i j r) (boolV (t.tk args).1) (cR H i j (r++(t.tk args).2)):=by
 refine DT.ind fun s m kd p q l ih hs hw r hr H i j hij=>?_
 have hi:=hs.inv
 have hval:=fun H=>value_c (by omega) args ha p hi.1 H
 have hsh:shB kd p l=true∧wfL l=true:=by simpa [DT.wfB] using hw
 have hwl:∀ t∈l,t.wfB=true:=by have:=hsh.2;rw [wfL_all] at this;exact fun t ht=>List.all_eq_true.1 this t ht
 have e0:(DT.mk s m kd p q l).tk args=tkC args kd p q l (l.map (DT.tk args)):=by simp [DT.tk,tkAll_eq]
 rw [e0]
 simp only [DT.sz] at hr
 unfold tkC
 simp only [DT.enc_mk]
 refine acalls_walk (fun _=>.imm) [0,1,2,3,6,7,8,10,12,13,23,51,53,54,55,56,90] Tryz.mixed Tryz.func24 rfl rfl rfl (by decide) (fun hcl hlow=>?_)
 have hil:i < H.next:=(hcl i _ (cR_get1 hij r)).1
 have hjl:j < H.next:=(hcl j _ (cR_get2 H i j r)).1
 have g1:∀ q bs,(HL (cR H i j q) bs).get i=some (.cells [.vec j q.length]):=fun q bs=>by rw [get_lt (by exact hil)];exact cR_get1 hij q
 have g2:∀ q bs,(HL (cR H i j q) bs).get j=some (.tok q.length 1 (some (q.map intR))):=fun q bs=>by rw [get_lt (by exact hjl)];exact cR_get2 _ _ _ q
 have gS:∀ q bs,(HL (cR H i j q) bs).upd i (.cells [.vec j q.length])=HL (cR H i j q) bs:=fun q bs=>upd_same (g1 q bs)
 have hclm:=fun q=>cR_closed q hij hcl
 have hT:Two H i j:=⟨hil,hjl,hij⟩
 repeat with_reducible refine awp_assoc ?_
 refine awp_sr fun K hK=>?_
 simp
 refine hK _ _ ?_
 clear hK K
 repeat with_reducible refine awp_assoc ?_
 refine awp_sr fun K hK=>?_
 simp
 refine hK _ _ ?_
 clear hK K
 refine awp_seq_k fun KA hKA=>?_
 refine awp_block ?_
 by_cases k1:kd=1
 ·subst k1
  refine awp_sr fun K hK=>?_
  simp
  refine hK _ _ ?_
  clear hK K
  refine awp_condT rfl (by simp) ?_
  rw [if_pos rfl]
  simp only
  have hq:q.length < b:=hi.2.1
  have hq2:(szL l+1) * b=szL l * b+b:=by rw [Nat.add_mul,Nat.one_mul]
  have hq3:(r.length+q.length) * 8≤70368744177664:=by omega
  have hrow:∀ x∈r.map intR,x.length=1∧x.all (·.one)=true:=fun x hx=>by
   obtain ⟨y,_,rfl⟩:=List.mem_map.1 hx;exact ⟨rfl,rfl⟩
  have gU:∀ bs,((HL (cR H i j r) bs).upd j (.tok (r.length+q.length) 1 (some (r.map intR++q.map intR)))).upd i (.cells [.vec j (r.length+q.length)])=HL (cR H i j (r++q)) bs:=fun bs=>by
   rw [upd_lt (by exact hjl),upd_lt (by exact hil)]
   have:=cR_upd (H:=H) hij r (r++q)
   simp only [List.length_append,List.map_append] at this
   rw [this]
  have gV:∀ bs B,((HL (cR H i j r) bs).upd j B).get i=some (.cells [.vec j r.length]):=fun bs B=>by rw [get_upd_ne hij];exact g1 r bs
  repeat with_reducible refine awp_assoc ?_
  refine awp_sdc [6,8] [[],[0],[0],[0],[0,1,2,3],[0,1,2,3],[0],[],[]] (by kernel_rfl) (by rfl) fun K hK=>?_
  refine aCalm_pre 6 (by rfl) fun K hK=>?_
  simp [g1,g2]
  refine hK _ _ ?_
  clear hK K
  by_cases hqn:q=[]
  ·subst hqn
   simp only [List.map_nil,List.append_nil,List.length_nil,Nat.add_zero] at *
   refine aCalm_pre 3 (by rfl) fun K hK=>?_
   simp [g1,g2,gS]
   refine ⟨hq3,hK _ _ ?_⟩
   clear hK K
   refine aCalm_end ?_
   simp
   refine hK _ _ ?_
   clear hK K
   repeat with_reducible refine awp_assoc ?_
   refine awp_sr fun K hK=>?_
   simp
   refine hK _ _ ?_
   clear hK K
   simp [reset_all (hclm _)]
  ·refine aCalm_pre 3 (by rfl) fun K hK=>?_
   simp [g1,g2,hqn,gV,gU]
   refine ⟨hq3,hK _ _ ?_⟩
   clear hK K
   refine aCalm_end ?_
   simp
   refine hK _ _ ?_
   clear hK K
   repeat with_reducible refine awp_assoc ?_
   refine awp_sr fun K hK=>?_
   simp
   refine hK _ _ ?_
   clear hK K
   simp [reset_all (hclm _)]
 refine awp_sr fun K hK=>?_
 simp [k1]
 refine hK _ _ ?_
 clear hK K
 refine awp_condF rfl (by simp) ?_
 rw [if_neg k1]
 by_cases k3:kd=3
 ·subst k3
  obtain ⟨ta,tb,rfl⟩:=sh_two hsh.1
  have ha1:=ih ta (by simp) (hi.2.2.2 ta (by simp)) (hwl ta (by simp)) r
  have hb1:=ih tb (by simp) (hi.2.2.2 tb (by simp)) (hwl tb (by simp)) (r++(ta.tk args).2)
  refine awp_sr fun K hK=>?_
  simp
  refine hK _ _ ?_
  clear hK K
  refine awp_condT rfl (by simp) ?_
  simp only [szL,Nat.add_zero] at hr
  have hq3:(ta.sz+tb.sz+1) * b=ta.sz * b+tb.sz * b+b:=by simp only [Nat.add_mul,Nat.one_mul]
  have hla:=tk_len args ta (hi.2.2.2 ta (by simp))
  have hA:∀ bs,ACalls Tryz.prog 24 [ta.enc,.slice (args.map Nd.cells) none,.ref i 0] (HL (cR H i j r) bs) (boolV (ta.tk args).1) (HL (cR H i j (r++(ta.tk args).2)) bs):=fun bs=>by
   have:=ha1 (by omega) (HL H bs) i j hij
   rwa [cR_HL hT,cR_HL hT] at this
  have hB:∀ bs,ACalls Tryz.prog 24 [tb.enc,.slice (args.map Nd.cells) none,.ref i 0] (HL (cR H i j (r++(ta.tk args).2)) bs) (boolV (tb.tk args).1) (HL (cR H i j (r++(ta.tk args).2++(tb.tk args).2)) bs):=fun bs=>by
   have:=hb1 (by simp only [List.length_append];omega) (HL H bs) i j hij
   rwa [cR_HL hT,cR_HL hT] at this
  clear ha1 hb1 ih hla
  simp only [List.map_cons,List.map_nil,if_true,List.append_assoc] at hB ⊢
  generalize ta.tk args=ra at *
  generalize tb.tk args=rb at *
  obtain ⟨a1,a2⟩:=ra
  obtain ⟨b1,b2⟩:=rb
  obtain ⟨ea,am,ak,ap,aq,al⟩:=ta
  obtain ⟨eb,bm,bk,bp,bq,bl⟩:=tb
  simp only [DT.enc_mk] at hA hB
  repeat with_reducible refine awp_assoc ?_
  refine awp_sr fun K hK=>?_
  refine aOps_split 7 fun K hK=>?_
  simp [DT.kcells]
  refine hK _ _ ?_
  clear hK K
  refine aOps_call (hA _) (by first | rfl | simp) rfl rfl (by first | (simp;done) | rfl) ?_
  cases a1
  ·refine aOps_split 7 fun K hK=>?_
   simp
   refine hK _ _ ?_
   clear hK K
   simp
   refine hK _ _ ?_
   clear hK K
   simp [reset_all (hclm _)]
  ·refine aOps_split 8 fun K hK=>?_
   simp [DT.kcells]
   refine hK _ _ ?_
   clear hK K
   refine aOps_call (hB _) (by first | rfl | simp) rfl rfl (by first | (simp;done) | rfl) ?_
   simp
   refine hK _ _ ?_
   clear hK K
   simp [reset_all (hclm _)]
 refine awp_sr fun K hK=>?_
 simp [k3]
 refine hK _ _ ?_
 clear hK K
 refine awp_condF rfl (by simp) ?_
 rw [if_neg k3]
 refine awp_skip ?_
 refine hKA _ _ ?_
 clear hKA KA
 generalize hvf:valFm args zeroNd p=V at *
 obtain ⟨v,ok⟩:=V
 obtain ⟨vo,vs,vn,vl⟩:=v
 simp only [Nd.enc_mk] at hval
 repeat with_reducible refine awp_assoc ?_
 refine awp_sr fun K hK=>?_
 refine aOps_split 3 fun K hK=>?_
 simp
 refine hK _ _ ?_
 clear hK K
 refine aOps_call (hval _) (by first | rfl | simp) rfl rfl (by first | (simp;done) | rfl) ?_
 refine aOps_split 6 fun K hK=>?_
 simp
 refine hK _ _ ?_
 clear hK K
 simp
 refine hK _ _ ?_
 clear hK K
 cases ok with
 | false =>
  repeat with_reducible refine awp_assoc ?_
  refine awp_sr fun K hK=>?_
  simp
  refine hK _ _ ?_
  clear hK K
  repeat with_reducible refine awp_assoc ?_
  refine awp_seq_k fun K hK=>?_
  refine awp_condT rfl (by simp) ?_
  repeat with_reducible refine awp_assoc ?_
  refine awp_sr fun K hK=>?_
  simp
  refine hK _ _ ?_
  clear hK K
  simp [k1,k3,reset_all (hclm _)]
 | true =>
 repeat with_reducible refine awp_assoc ?_
 refine awp_sr fun K hK=>?_
 simp
 refine hK _ _ ?_
 clear hK K
 repeat with_reducible refine awp_assoc ?_
 refine awp_seq_k fun K hK=>?_
 refine awp_condF rfl (by simp) ?_
 refine awp_skip ?_
 refine hK _ _ ?_
 clear hK K
 repeat with_reducible refine awp_assoc ?_
 refine awp_sr fun K hK=>?_
 simp
 refine hK _ _ ?_
 clear hK K
 have hll:l.length < 4611686018427387904:=by omega
 refine awp_seq_k fun KL hKL=>?_
 refine awp_block ?_
 refine awp_up l.length (fun k=>Env.ofL [(1,.slice (args.map Nd.cells) none),(2,.ref i 0),(3,.ref (nid H.next 0) 0),(7,.ref (nid H.next 1) 0),(53,.slice (l.map DT.kcells) none),(54,intV (l.length:Int)),(55,intV k)]) (fun k=>HL (cR H i j r) [.cells [intV kd,.slice (p.map intR) none,.slice (q.map intR) none,.slice (l.map DT.kcells) none],.cells [intV vo,strV vs,intV vn,.slice (vl.map Nd.cells) none]])
  (fun k=>∀ y∈l.take k,hitB (.mk vo vs vn vl) y=false) (weak_HL hcl rfl (by simp) (by simp [lt_nid hil])) (by simp) (fun k hk hv=>?_) (fun hv=>?_)
 ·obtain ⟨x,hx⟩:∃ x,l[k]?=some x:=⟨_,List.getElem?_eq_getElem hk⟩
  have hxm:=List.mem_of_getElem? hx
  have hxs:=szL_mem hxm
  have hc1:=ih x hxm (hi.2.2.2 x hxm) (hwl x hxm) r
  have hat:=ix_at (p:=hitB (.mk vo vs vn vl)) hx
  have htk:=take_all (p:=fun y=>hitB (.mk vo vs vn vl) y=false) hx
  have hxb:x.sz * b≤szL l * b:=Nat.mul_le_mul_right _ hxs
  have hq2:(szL l+1) * b=szL l * b+b:=by rw [Nat.add_mul,Nat.one_mul]
  have hget:Option.map (DT.tk args) l[k]?=some (x.tk args):=by rw [hx];rfl
  have hA:∀ bs,ACalls Tryz.prog 24 [x.enc,.slice (args.map Nd.cells) none,.ref i 0] (HL (cR H i j r) bs) (boolV (x.tk args).1) (HL (cR H i j (r++(x.tk args).2)) bs):=fun bs=>by
   have:=hc1 (by omega) (HL H bs) i j hij
   rwa [cR_HL hT,cR_HL hT] at this
  clear hc1 ih
  generalize x.tk args=rx at *
  obtain ⟨r1,r2⟩:=rx
  obtain ⟨xs,xm,xk,xp,xr,xl⟩:=x
  simp only [DT.enc_mk] at hA
  generalize hhit:hitB (.mk vo vs vn vl) (.mk xs xm xk xp xr xl)=hit at *
  simp only [hitB,Nd.op,Nd.num,Nd.name,DT.name,DT.num] at hhit
  repeat with_reducible refine awp_assoc ?_
  refine awp_sr fun K hK=>?_
  simp [hk]
  refine hK _ _ ?_
  clear hK K
  repeat with_reducible refine awp_assoc ?_
  refine awp_seq_k fun K hK=>?_
  refine awp_condT rfl (by simp) ?_
  refine awp_skip ?_
  refine hK _ _ ?_
  clear hK K
  refine awp_seq_k fun KC hKC=>?_
  refine awp_block ?_
  repeat with_reducible refine awp_assoc ?_
  refine awp_sr fun K hK=>?_
  simp [hx,DT.kcells]
  refine hK _ _ ?_
  clear hK K
  refine awp_sr fun KD hKD=>?_
  have hE:∀ (bb:Bool) (env:Env),env 1=.slice (args.map Nd.cells) none→env 2=.ref i 0→env 3=.ref (nid H.next 0) 0→env 7=.ref (nid H.next 1) 0→env 10=.ref (nid H.next 2) 0→env 53=.slice (l.map DT.kcells) none→env 54=intV (l.length:Int)→env 55=intV k→env 90=boolV bb→bb=hit→KD env (HL (cR H i j r) [.cells [intV kd,.slice (p.map intR) none,.slice (q.map intR) none,.slice (l.map DT.kcells) none],.cells [intV vo,strV vs,intV vn,.slice (vl.map Nd.cells) none],.cells [strV xs,intV xm,intV xk,.slice (xp.map intR) none,.slice (xr.map intR) none,.slice (xl.map DT.kcells) none]]):=by
   intro bb env e1 e2 e3 e7 e10 e53 e54 e55 e90 hbb
   subst hbb
   refine hKD _ _ ?_
   clear hKD KD
   cases bb with
   | true =>
    refine awp_condT (t:=true) (by exact e90) rfl ?_
    repeat with_reducible refine awp_assoc ?_
    refine awp_sr fun K hK=>?_
    refine aOps_split 4 fun K hK=>?_
    simp [e1,e2,e10]
    refine hK _ _ ?_
    clear hK K
    refine aOps_call (hA _) (by first | rfl | simp) rfl rfl (by first | (simp;done) | rfl) ?_
    simp
    refine hK _ _ ?_
    clear hK K
    simp [k1,k3,hat rfl hv,hget,List.getD_eq_getElem?_getD,reset_all (hclm _)]
   | false =>
    refine awp_condF (t:=false) (by exact e90) rfl ?_
    refine awp_skip ?_
    refine hKC _ _ ?_
    clear hKC KC
    refine awp_region ?_
    simp [wrap_succ (show k < 4611686018427387904 by omega),e55]
    refine ⟨by simpa using htk rfl hv,?_⟩
    exact weak_HL (hclm _) rfl (by simp) (by simp [e1,e2,e3,e7,e53,e54,lt_nid hil])
  clear hKD hKC hKL
  by_cases c1:vo=2
  ·have c4:¬ vo=1:=by omega
   have b1:=eq_true c1
   by_cases c2:xs=ByteArray.empty
   ·have b2:=eq_true c2
    have b2':(xs=⟨#[]⟩)=True:=b2
    by_cases c3:xm=vn
    ·have b3:=eq_true c3
     refine aOps_split 8 fun K hK=>?_
     simp [b1,b2,b2',b3,c4]
     refine hK _ _ ?_
     clear hK K
     refine aOps_split 8 fun K hK=>?_
     simp [b1,b2,b2',b3,c4]
     refine hK _ _ ?_
     clear hK K
     refine aOps_split 8 fun K hK=>?_
     simp [b1,b2,b2',b3,c4]
     refine hK _ _ ?_
     clear hK K
     simp [b1,b2,b2',b3,c4]
     refine hE true _ ?_ ?_ ?_ ?_ ?_ ?_ ?_ ?_ ?_ ?_
     all_goals first | rfl | (rw [←hhit];simp [b1,b2,b2',b3,c4])
    ·refine aOps_split 8 fun K hK=>?_
     simp [b1,b2,b2',c3,c4]
     refine hK _ _ ?_
     clear hK K
     refine aOps_split 8 fun K hK=>?_
     simp [b1,b2,b2',c3,c4]
     refine hK _ _ ?_
     clear hK K
     refine aOps_split 8 fun K hK=>?_
     simp [b1,b2,b2',c3,c4]
     refine hK _ _ ?_
     clear hK K
     simp [b1,b2,b2',c3,c4]
     refine hE false _ ?_ ?_ ?_ ?_ ?_ ?_ ?_ ?_ ?_ ?_
     all_goals first | rfl | (rw [←hhit];simp [b1,b2,b2',c3,c4])
   ·have c2':¬ xs=⟨#[]⟩:=c2
    refine aOps_split 8 fun K hK=>?_
    simp [b1,c2,c2',c4]
    refine hK _ _ ?_
    clear hK K
    refine aOps_split 8 fun K hK=>?_
    simp [b1,c2,c2',c4]
    refine hK _ _ ?_
    clear hK K
    refine aOps_split 8 fun K hK=>?_
    simp [b1,c2,c2',c4]
    refine hK _ _ ?_
    clear hK K
    simp [b1,c2,c2',c4]
    refine hE false _ ?_ ?_ ?_ ?_ ?_ ?_ ?_ ?_ ?_ ?_
    all_goals first | rfl | (rw [←hhit];simp [b1,c2,c2',c4])
  by_cases c4:vo=1
  ·have b4:=eq_true c4
   by_cases c2:xs=ByteArray.empty
   ·have b2:=eq_true c2
    have b2':(xs=⟨#[]⟩)=True:=b2
    refine aOps_split 8 fun K hK=>?_
    simp [c1,b2,b2',b4]
    refine hK _ _ ?_
    clear hK K
    refine aOps_split 8 fun K hK=>?_
    simp [c1,b2,b2',b4]
    refine hK _ _ ?_
    clear hK K
    refine aOps_split 8 fun K hK=>?_
    simp [c1,b2,b2',b4]
    refine hK _ _ ?_
    clear hK K
    simp [c1,b2,b2',b4]
    refine hE false _ ?_ ?_ ?_ ?_ ?_ ?_ ?_ ?_ ?_ ?_
    all_goals first | rfl | (rw [←hhit];simp [c1,b2,b2',b4])
   ·have c2':¬ xs=⟨#[]⟩:=c2
    by_cases c5:xs=vs
    ·have b5:=eq_true c5
     refine aOps_split 8 fun K hK=>?_
     simp [c1,c2,c2',b4,b5]
     refine hK _ _ ?_
     clear hK K
     refine aOps_split 8 fun K hK=>?_
     simp [c1,c2,c2',b4,b5]
     refine hK _ _ ?_
     clear hK K
     refine aOps_split 8 fun K hK=>?_
     simp [c1,c2,c2',b4,b5]
     refine hK _ _ ?_
     clear hK K
     simp [c1,c2,c2',b4,b5]
     refine hE true _ ?_ ?_ ?_ ?_ ?_ ?_ ?_ ?_ ?_ ?_
     all_goals first | rfl | (rw [←hhit];simp [c1,c2,c2',b4,b5])
    ·refine aOps_split 8 fun K hK=>?_
     simp [c1,c2,c2',b4,c5]
     refine hK _ _ ?_
     clear hK K
     refine aOps_split 8 fun K hK=>?_
     simp [c1,c2,c2',b4,c5]
     refine hK _ _ ?_
     clear hK K
     refine aOps_split 8 fun K hK=>?_
     simp [c1,c2,c2',b4,c5]
     refine hK _ _ ?_
     clear hK K
     simp [c1,c2,c2',b4,c5]
     refine hE false _ ?_ ?_ ?_ ?_ ?_ ?_ ?_ ?_ ?_ ?_
     all_goals first | rfl | (rw [←hhit];simp [c1,c2,c2',b4,c5])
  refine aOps_split 8 fun K hK=>?_
  simp [c1,c4]
  refine hK _ _ ?_
  clear hK K
  refine aOps_split 8 fun K hK=>?_
  simp [c1,c4]
  refine hK _ _ ?_
  clear hK K
  refine aOps_split 8 fun K hK=>?_
  simp [c1,c4]
  refine hK _ _ ?_
  clear hK K
  simp [c1,c4]
  refine hE false _ ?_ ?_ ?_ ?_ ?_ ?_ ?_ ?_ ?_ ?_
  all_goals first | rfl | (rw [←hhit];simp [c1,c4])
 ·repeat with_reducible refine awp_assoc ?_
  refine awp_sr fun K hK=>?_
  simp
  refine hK _ _ ?_
  clear hK K
  refine awp_seq_k fun K hK=>?_
  refine awp_condF rfl (by simp) ?_
  refine awp_exit ?_
  simp
  refine hKL _ _ ?_
  clear hK K hKL KL
  repeat with_reducible refine awp_assoc ?_
  refine awp_sr fun K hK=>?_
  simp
  refine hK _ _ ?_
  clear hK K
  rw [List.take_length] at hv
  simp [k1,k3,ix_none hv,reset_all (hclm _)]
end Go.Proofs.YtdppfcbeiplckaaGreat
