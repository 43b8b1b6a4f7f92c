/- The reference: what a tree leads to. -/
import Derived.Test.YtdppfcbeiplckaaGreatMM4
set_option linter.unusedVariables false
set_option linter.unusedSimpArgs false
namespace Go.Proofs.YtdppfcbeiplckaaGreat
open Go Go.Abs Go.Proofs
set_option maxRecDepth 20000
attribute [local simp] aOps wantedA aStep aop aLoad aStore aBin aUn aFieldAddr aField aIndexAddr aIndex aLen aBuild aFill aAlloc aAppend aAppendOwn aMin aMax aBuildSlice litRows newRows isMut isOwn isNilS nilsW bytesR tokW tokAV tokL ret readC splice aeval isLit isLate isCut aCut AV.celled AV.one AV.ofValue Value.oneCell' Value.cells intOp strOp get_nid upd_nid awp aEnd aResults aResult Det unord isCall isNext
attribute [local simp] low_take low_strs low_comp low_tcomp wkEs_refl' WkBs WkEnv WkB WkL WkE WkO ABlock.low lowO lowL lowR AV.low cellsL_eq Ty.low low_map Ty.cells_length Ty.cells_one
attribute [local simp] cellsNd_eq low_nds Nd.cells_length Nd.cells_one cellsDT_eq low_dts DT.kcells_length DT.kcells_one low_ints low_rows low_pls
def setEs (m:List Int):List (Value × AV):=m.map fun x=>(.int .i64 x,boolV true)
theorem keys_set (m:List Int):keysOk (.int .i64) (setEs m):=by
 intro e he
 obtain ⟨p,_,rfl⟩:=List.mem_map.1 he
 rfl
theorem aPut_set (m:List Int) (x:Int):aPut (setEs m) (.int .i64 x) (boolV true)=setEs (putN m x):=by
 induction m with
 | nil=>rfl
 | cons y m ih =>
  simp only [setEs,List.map_cons,aPut,keq,putN] at ih ⊢
  by_cases h:x=y
  ·simp [h]
  ·have h':¬ (x == y)=true:=by simpa using h
   simp only [beq_self_eq_true,Bool.true_and,h',if_false,Bool.false_eq_true]
   rw [ih]
   by_cases hm:x∈m
   ·simp [hm]
   ·simp [hm,h]
theorem aLook_set (m:List Int) (x:Int):(aLook (setEs m) (.int .i64 x)).isSome=decide (x∈m):=by
 unfold aLook setEs
 rw [List.find?_map,Option.isSome_map,Option.isSome_map]
 induction m with
 | nil=>rfl
 | cons y m ih =>
  simp only [List.find?_cons,Function.comp,keq]
  by_cases h:x=y
  ·simp [h]
  ·have h':(x == y)=false:=by simpa using h
   simp only [beq_self_eq_true,Bool.true_and,h']
   simp only [Function.comp,keq] at ih
   rw [ih];simp [h]
theorem aVer_set (m:List Int) (x:Int):aVer (setEs m) (.int .i64 x) m.length true=(putN m x).length:=by
 unfold aVer putN
 rw [aLook_set]
 by_cases h:x∈m <;> simp [h]
theorem low_set (n:Nat) (m:List Int):lowEs n (setEs m):=by
 induction m with
 | nil=>trivial
 | cons x l ih=>exact ⟨trivial,ih⟩
def cM (H:AHeap) (i:Nat) (m:List Int):AHeap:=H.upd i (.amap (setEs m) m.length)
@[simp] theorem cM_next (H:AHeap) (i:Nat) (m:List Int):(cM H i m).next=H.next:=Eq.trans rfl rfl
theorem cM_get (H:AHeap) (i:Nat) (m:List Int):(cM H i m).get i=some (.amap (setEs m) m.length):=get_upd_self
theorem cM_HL {H:AHeap} {i:Nat} (h:i < H.next) (m:List Int) (bs:List ABlock):cM (HL H bs) i m=HL (cM H i m) bs:=upd_lt h
theorem cM_closed {H:AHeap} {i:Nat} {m:List Int} (q:List Int) (hcl:(cM H i m).Closed):(cM H i q).Closed:=by
 have h:=hcl i _ (cM_get H i m)
 have:=closed_upd (b:=.amap (setEs q) q.length) hcl h.1 (low_set _ _)
 rwa [show (cM H i m).upd i (.amap (setEs q) q.length)=cM H i q from upd_upd] at this
theorem path_ne {kd:Int} {p:List Int} {l:List DT} (h:shB kd p l=true) (h1:¬ kd=1) (h3:¬ kd=3):∃ i p',p=i::p':=by
 cases p with
 | cons i p'=>exact ⟨i,p',rfl⟩
 | nil=>simp [shB,h1,h3] at h
set_option maxHeartbeats 1000000 in
theorem rTake_c {b:Nat} (hb:b≤1099511627776) (args:List Nd) (ha:VOk b (args,zeroNd)):∀ t:DT,t.Sh b→t.wfB=true→∀ (m:List Int) (H:AHeap) (i:Nat),
  ACalls Tryz.prog 29 [t.enc,.slice (args.map Nd.cells) none,.map i] (cM H i m) (boolV (t.tkR args m).1) (cM H i (t.tkR args m).2):=by
 refine DT.ind fun s mm kd p q l ih hs hw m H i=>?_
 have hi:=hs.inv
 have hval:=fun i0 p' (e:p=i0::p') H=>rAt_c (by omega) args ha i0 p' (e ▸ hi.1) H
 have hsh:shB kd p l=true∧wfL l=true:=by simpa [DT.wfB] using hw
 have hwl:∀ t∈l,t.wfB=true:=by have:=hsh.2;rw [wfL_all] at this;exact fun t ht=>List.all_eq_true.1 this t ht
 have e0:(DT.mk s mm kd p q l).tkR args m=tkRC args kd p q l (l.map (DT.tkR args)) m:=by simp [DT.tkR,tkRAll_eq]
 rw [e0]
 unfold tkRC
 simp only [DT.enc_mk]
 refine acalls_walk (fun _=>.imm) [0,1,2,3,6,7,8,9,10,11,12,13,15,16,22,31,61,66,105] Tryz.mixed Tryz.func29 rfl rfl rfl (by decide) (fun hcl hlow=>?_)
 have hil:i < H.next:=(hcl i _ (cM_get H i m)).1
 have g1:∀ q bs,(HL (cM H i q) bs).get i=some (.amap (setEs q) q.length):=fun q bs=>by rw [get_lt (by exact hil)];exact cM_get _ _ q
 have hclm:=fun q=>cM_closed q hcl
 have uM:∀ q x bs,(HL (cM H i q) bs).upd i (.amap (setEs (putN q x)) (putN q x).length)=HL (cM H i (putN q x)) bs:=fun q x bs=>by
  rw [upd_lt (by exact hil)];congr 1;exact upd_upd
 repeat with_reducible refine awp_assoc ?_
 refine awp_sr fun K hK=>?_
 simp
 refine hK _ _ ?_
 clear hK K
 repeat with_reducible refine awp_assoc ?_
 refine awp_sr fun K hK=>?_
 simp
 refine hK _ _ ?_
 clear hK K
 refine awp_seq_k fun KA hKA=>?_
 refine awp_block ?_
 by_cases k1:kd=1
 ·subst k1
  refine awp_sr fun K hK=>?_
  simp
  refine hK _ _ ?_
  clear hK K
  refine awp_condT rfl (by simp) ?_
  rw [if_pos rfl]
  simp only
  have hql:q.length < 4611686018427387904:=by omega
  repeat with_reducible refine awp_assoc ?_
  refine awp_sr fun K hK=>?_
  simp
  refine hK _ _ ?_
  clear hK K
  refine awp_seq_k fun KB hKB=>?_
  refine awp_block ?_
  obtain ⟨st,hst⟩:∃ st:Nat→List Int,∀ k,st k=putsN m (q.take k):=⟨_,fun _=>rfl⟩
  have hst0:st 0=m:=by rw [hst];rfl
  have hste:st q.length=putsN m q:=by rw [hst,List.take_length]
  have hst1:∀ k x,q[k]?=some x→st (k+1)=putN (st k) x:=fun k x h=>by rw [hst,hst,take_one h,putsN_append];rfl
  rw [←hst0]
  refine awp_up q.length (fun k=>Env.ofL [(2,.map i),(3,.ref (nid H.next 0) 0),(7,intV k)]) (fun k=>HL (cM H i (st k)) [.cells [intV 1,.slice (p.map intR) none,.slice (q.map intR) none,.slice (l.map DT.kcells) none]]) (fun _=>True) (weak_HL (hclm _) rfl (by simp) (by simp [lt_nid hil])) trivial (fun k hk _=>?_) (fun _=>?_)
  ·obtain ⟨x,hx⟩:∃ x,q[k]?=some x:=⟨_,List.getElem?_eq_getElem hk⟩
   have hs1:=hst1 k x hx
   generalize st k=z at *
   repeat with_reducible refine awp_assoc ?_
   refine awp_sr fun K hK=>?_
   simp [hk]
   refine hK _ _ ?_
   clear hK K
   repeat with_reducible refine awp_assoc ?_
   refine awp_seq_k fun K hK=>?_
   refine awp_condT rfl (by simp) ?_
   refine awp_skip ?_
   refine hK _ _ ?_
   clear hK K
   refine awp_seq_k fun KC hKC=>?_
   refine awp_block ?_
   refine awp_region ?_
   refine aOps_split 6 fun K hK=>?_
   simp [hx]
   refine hK _ _ ?_
   clear hK K
   simp [aMapUpdate,g1,keys_set,keyOk,aPut_set,aVer_set,uM]
   refine hKC _ _ ?_
   clear hKC KC
   refine awp_region ?_
   simp [wrap_succ (show k < 4611686018427387904 by omega)]
   rw [hs1]
   exact weak_HL (hclm _) rfl (by simp) (by simp [lt_nid hil])
  ·rw [hste,hst0]
   repeat with_reducible refine awp_assoc ?_
   refine awp_sr fun K hK=>?_
   simp
   refine hK _ _ ?_
   clear hK K
   refine awp_seq_k fun K hK=>?_
   refine awp_condF rfl (by simp) ?_
   refine awp_exit ?_
   simp
   refine hKB _ _ ?_
   clear hK K hKB KB
   repeat with_reducible refine awp_assoc ?_
   refine awp_sr fun K hK=>?_
   simp
   refine hK _ _ ?_
   clear hK K
   simp [hst0,reset_all (hclm _)]
 refine awp_sr fun K hK=>?_
 simp [k1]
 refine hK _ _ ?_
 clear hK K
 refine awp_condF rfl (by simp) ?_
 rw [if_neg k1]
 by_cases k3:kd=3
 ·subst k3
  obtain ⟨ta,tb,rfl⟩:=sh_two hsh.1
  have ha1:=ih ta (by simp) (hi.2.2.2 ta (by simp)) (hwl ta (by simp)) m
  have hb1:=ih tb (by simp) (hi.2.2.2 tb (by simp)) (hwl tb (by simp)) (ta.tkR args m).2
  refine awp_sr fun K hK=>?_
  simp
  refine hK _ _ ?_
  clear hK K
  refine awp_condT rfl (by simp) ?_
  have hA:∀ bs,ACalls Tryz.prog 29 [ta.enc,.slice (args.map Nd.cells) none,.map i] (HL (cM H i m) bs) (boolV (ta.tkR args m).1) (HL (cM H i (ta.tkR args m).2) bs):=fun bs=>by
   have:=ha1 (HL H bs) i
   rwa [cM_HL hil,cM_HL hil] at this
  have hB:∀ bs,ACalls Tryz.prog 29 [tb.enc,.slice (args.map Nd.cells) none,.map i] (HL (cM H i (ta.tkR args m).2) bs) (boolV (tb.tkR args (ta.tkR args m).2).1) (HL (cM H i (tb.tkR args (ta.tkR args m).2).2) bs):=fun bs=>by
   have:=hb1 (HL H bs) i
   rwa [cM_HL hil,cM_HL hil] at this
  clear ha1 hb1 ih
  simp only [List.map_cons,List.map_nil,if_true] at hB ⊢
  generalize tb.tkR args (ta.tkR args m).2=rb at *
  generalize ta.tkR args m=ra at *
  obtain ⟨a1,a2⟩:=ra
  obtain ⟨b1,b2⟩:=rb
  obtain ⟨ea,am,ak,ap,aq,al⟩:=ta
  obtain ⟨eb,bm,bk,bp,bq,bl⟩:=tb
  simp only [DT.enc_mk] at hA hB
  repeat with_reducible refine awp_assoc ?_
  refine awp_sr fun K hK=>?_
  refine aOps_split 7 fun K hK=>?_
  simp [DT.kcells]
  refine hK _ _ ?_
  clear hK K
  refine aOps_call (hA _) (by first | rfl | simp) rfl rfl (by first | (simp;done) | rfl) ?_
  simp
  refine hK _ _ ?_
  clear hK K
  repeat with_reducible refine awp_assoc ?_
  refine awp_sr fun K hK=>?_
  refine aOps_split 7 fun K hK=>?_
  simp [DT.kcells]
  refine hK _ _ ?_
  clear hK K
  refine aOps_call (hB _) (by first | rfl | simp) rfl rfl (by first | (simp;done) | rfl) ?_
  simp
  refine hK _ _ ?_
  clear hK K
  cases a1
  ·repeat with_reducible refine awp_assoc ?_
   refine awp_sr fun K hK=>?_
   simp
   refine hK _ _ ?_
   clear hK K
   simp [reset_all (hclm _)]
  ·repeat with_reducible refine awp_assoc ?_
   refine awp_sr fun K hK=>?_
   simp
   refine hK _ _ ?_
   clear hK K
   simp [reset_all (hclm _)]
 refine awp_sr fun K hK=>?_
 simp [k3]
 refine hK _ _ ?_
 clear hK K
 refine awp_condF rfl (by simp) ?_
 rw [if_neg k3]
 refine awp_skip ?_
 refine hKA _ _ ?_
 clear hKA KA
 obtain ⟨i0,p',hpe⟩:=path_ne hsh.1 k1 k3
 have hval2:=hval i0 p' hpe
 clear hval
 rw [←hpe] at hval2
 generalize hvf:valFm args zeroNd p=V at *
 obtain ⟨v,ok⟩:=V
 simp only at hval2
 repeat with_reducible refine awp_assoc ?_
 refine awp_sr fun K hK=>?_
 refine aOps_split 3 fun K hK=>?_
 simp
 refine hK _ _ ?_
 clear hK K
 refine aOps_call (hval2 _) (by first | rfl | simp) rfl rfl (by first | (simp;done) | rfl) ?_
 cases ok with
 | false =>
  simp only [Bool.false_eq_true,if_false,zeroNd,Nd.enc_mk]
  refine aOps_split 6 fun K hK=>?_
  simp
  refine hK _ _ ?_
  clear hK K
  simp
  refine hK _ _ ?_
  clear hK K
  repeat with_reducible refine awp_assoc ?_
  refine awp_sr fun K hK=>?_
  simp
  refine hK _ _ ?_
  clear hK K
  repeat with_reducible refine awp_assoc ?_
  refine awp_seq_k fun K hK=>?_
  refine awp_condT rfl (by simp) ?_
  repeat with_reducible refine awp_assoc ?_
  refine awp_sr fun K hK=>?_
  simp
  refine hK _ _ ?_
  clear hK K
  simp [k1,k3,reset_all (hclm _)]
 | true =>
 obtain ⟨vo,vs,vn,vl⟩:=v
 simp only [if_true,Nd.enc_mk]
 refine aOps_split 6 fun K hK=>?_
 simp
 refine hK _ _ ?_
 clear hK K
 simp
 refine hK _ _ ?_
 clear hK K
 repeat with_reducible refine awp_assoc ?_
 refine awp_sr fun K hK=>?_
 simp
 refine hK _ _ ?_
 clear hK K
 repeat with_reducible refine awp_assoc ?_
 refine awp_seq_k fun K hK=>?_
 refine awp_condF rfl (by simp) ?_
 refine awp_skip ?_
 refine hK _ _ ?_
 clear hK K
 repeat with_reducible refine awp_assoc ?_
 refine awp_sr fun K hK=>?_
 simp
 refine hK _ _ ?_
 clear hK K
 have hll:l.length < 4611686018427387904:=by omega
 refine awp_seq_k fun KL hKL=>?_
 refine awp_block ?_
 refine awp_up l.length (fun k=>Env.ofL [(1,.slice (args.map Nd.cells) none),(2,.map i),(3,.ref (nid H.next 0) 0),(10,.ref (nid H.next 1) 0),(12,intV k)]) (fun k=>HL (cM H i m) [.cells [intV kd,.slice (p.map intR) none,.slice (q.map intR) none,.slice (l.map DT.kcells) none],.cells [intV vo,strV vs,intV vn,.slice (vl.map Nd.cells) none]])
  (fun k=>∀ y∈l.take k,hitB (.mk vo vs vn vl) y=false) (weak_HL hcl rfl (by simp) (by simp [lt_nid hil])) (by simp) (fun k hk hv=>?_) (fun hv=>?_)
 ·obtain ⟨x,hx⟩:∃ x,l[k]?=some x:=⟨_,List.getElem?_eq_getElem hk⟩
  have hxm:=List.mem_of_getElem? hx
  have hc1:=ih x hxm (hi.2.2.2 x hxm) (hwl x hxm) m
  have hat:=ix_at (p:=hitB (.mk vo vs vn vl)) hx
  have htk:=take_all (p:=fun y=>hitB (.mk vo vs vn vl) y=false) hx
  have hget:Option.map (DT.tkR args) l[k]?=some (x.tkR args):=by rw [hx];rfl
  have hA:∀ bs,ACalls Tryz.prog 29 [x.enc,.slice (args.map Nd.cells) none,.map i] (HL (cM H i m) bs) (boolV (x.tkR args m).1) (HL (cM H i (x.tkR args m).2) bs):=fun bs=>by
   have:=hc1 (HL H bs) i
   rwa [cM_HL hil,cM_HL hil] at this
  clear hc1 ih
  generalize x.tkR args=rx at *
  obtain ⟨xs,xm,xk,xp,xr,xl⟩:=x
  simp only [DT.enc_mk] at hA
  generalize hhit:hitB (.mk vo vs vn vl) (.mk xs xm xk xp xr xl)=hit at *
  simp only [hitB,Nd.op,Nd.num,Nd.name,DT.name,DT.num] at hhit
  repeat with_reducible refine awp_assoc ?_
  refine awp_sr fun K hK=>?_
  simp [hk]
  refine hK _ _ ?_
  clear hK K
  repeat with_reducible refine awp_assoc ?_
  refine awp_seq_k fun K hK=>?_
  refine awp_condT rfl (by simp) ?_
  refine awp_skip ?_
  refine hK _ _ ?_
  clear hK K
  refine awp_seq_k fun KC hKC=>?_
  refine awp_block ?_
  repeat with_reducible refine awp_assoc ?_
  refine awp_sr fun K hK=>?_
  simp [hx,DT.kcells]
  refine hK _ _ ?_
  clear hK K
  refine awp_sr fun KD hKD=>?_
  have hE:∀ (bb:Bool) (env:Env),env 1=.slice (args.map Nd.cells) none→env 2=.map i→env 3=.ref (nid H.next 0) 0→env 10=.ref (nid H.next 1) 0→env 13=.ref (nid H.next 2) 0→env 12=intV k→env 105=boolV bb→bb=hit→KD env (HL (cM H i m) [.cells [intV kd,.slice (p.map intR) none,.slice (q.map intR) none,.slice (l.map DT.kcells) none],.cells [intV vo,strV vs,intV vn,.slice (vl.map Nd.cells) none],.cells [strV xs,intV xm,intV xk,.slice (xp.map intR) none,.slice (xr.map intR) none,.slice (xl.map DT.kcells) none]]):=by
   intro bb env e1 e2 e3 e10 e13 e12 e105 hbb
   subst hbb
   refine hKD _ _ ?_
   clear hKD KD
   cases bb with
   | true =>
    refine awp_condT (t:=true) (by exact e105) rfl ?_
    repeat with_reducible refine awp_assoc ?_
    refine awp_sr fun K hK=>?_
    refine aOps_split 4 fun K hK=>?_
    simp [e1,e2,e13]
    refine hK _ _ ?_
    clear hK K
    refine aOps_call (hA _) (by first | rfl | simp) rfl rfl (by first | (simp;done) | rfl) ?_
    simp
    refine hK _ _ ?_
    clear hK K
    simp [k1,k3,hat rfl hv,hget,List.getD_eq_getElem?_getD,reset_all (hclm _)]
   | false =>
    refine awp_condF (t:=false) (by exact e105) rfl ?_
    refine awp_skip ?_
    refine hKC _ _ ?_
    clear hKC KC
    refine awp_region ?_
    simp [wrap_succ (show k < 4611686018427387904 by omega),e12]
    refine ⟨by simpa using htk rfl hv,?_⟩
    exact weak_HL (hclm _) rfl (by simp) (by simp [e1,e2,e3,e10,lt_nid hil])
  clear hKD hKC hKL
  by_cases c4:vo=1
  ·have c1:¬ vo=2:=by omega
   have b4:=eq_true c4
   by_cases c2:xs=ByteArray.empty
   ·have b2:=eq_true c2
    have b2':(xs=⟨#[]⟩)=True:=b2
    refine aOps_split 8 fun K hK=>?_
    simp [c1,b2,b2',b4]
    refine hK _ _ ?_
    clear hK K
    refine aOps_split 8 fun K hK=>?_
    simp [c1,b2,b2',b4]
    refine hK _ _ ?_
    clear hK K
    refine aOps_split 8 fun K hK=>?_
    simp [c1,b2,b2',b4]
    refine hK _ _ ?_
    clear hK K
    simp [c1,b2,b2',b4]
    refine hE false _ ?_ ?_ ?_ ?_ ?_ ?_ ?_ ?_
    all_goals first | rfl | (rw [←hhit];simp [c1,b2,b2',b4])
   ·have c2':¬ xs=⟨#[]⟩:=c2
    by_cases c5:xs=vs
    ·have b5:=eq_true c5
     refine aOps_split 8 fun K hK=>?_
     simp [c1,c2,c2',b4,b5]
     refine hK _ _ ?_
     clear hK K
     refine aOps_split 8 fun K hK=>?_
     simp [c1,c2,c2',b4,b5]
     refine hK _ _ ?_
     clear hK K
     refine aOps_split 8 fun K hK=>?_
     simp [c1,c2,c2',b4,b5]
     refine hK _ _ ?_
     clear hK K
     simp [c1,c2,c2',b4,b5]
     refine hE true _ ?_ ?_ ?_ ?_ ?_ ?_ ?_ ?_
     all_goals first | rfl | (rw [←hhit];simp [c1,c2,c2',b4,b5])
    ·refine aOps_split 8 fun K hK=>?_
     simp [c1,c2,c2',b4,c5]
     refine hK _ _ ?_
     clear hK K
     refine aOps_split 8 fun K hK=>?_
     simp [c1,c2,c2',b4,c5]
     refine hK _ _ ?_
     clear hK K
     refine aOps_split 8 fun K hK=>?_
     simp [c1,c2,c2',b4,c5]
     refine hK _ _ ?_
     clear hK K
     simp [c1,c2,c2',b4,c5]
     refine hE false _ ?_ ?_ ?_ ?_ ?_ ?_ ?_ ?_
     all_goals first | rfl | (rw [←hhit];simp [c1,c2,c2',b4,c5])
  by_cases c1:vo=2
  ·have b1:=eq_true c1
   by_cases c2:xs=ByteArray.empty
   ·have b2:=eq_true c2
    have b2':(xs=⟨#[]⟩)=True:=b2
    by_cases c3:xm=vn
    ·have b3:=eq_true c3
     refine aOps_split 8 fun K hK=>?_
     simp [b1,b2,b2',b3,c4]
     refine hK _ _ ?_
     clear hK K
     refine aOps_split 8 fun K hK=>?_
     simp [b1,b2,b2',b3,c4]
     refine hK _ _ ?_
     clear hK K
     refine aOps_split 8 fun K hK=>?_
     simp [b1,b2,b2',b3,c4]
     refine hK _ _ ?_
     clear hK K
     simp [b1,b2,b2',b3,c4]
     refine hE true _ ?_ ?_ ?_ ?_ ?_ ?_ ?_ ?_
     all_goals first | rfl | (rw [←hhit];simp [b1,b2,b2',b3,c4])
    ·refine aOps_split 8 fun K hK=>?_
     simp [b1,b2,b2',c3,c4]
     refine hK _ _ ?_
     clear hK K
     refine aOps_split 8 fun K hK=>?_
     simp [b1,b2,b2',c3,c4]
     refine hK _ _ ?_
     clear hK K
     refine aOps_split 8 fun K hK=>?_
     simp [b1,b2,b2',c3,c4]
     refine hK _ _ ?_
     clear hK K
     simp [b1,b2,b2',c3,c4]
     refine hE false _ ?_ ?_ ?_ ?_ ?_ ?_ ?_ ?_
     all_goals first | rfl | (rw [←hhit];simp [b1,b2,b2',c3,c4])
   ·have c2':¬ xs=⟨#[]⟩:=c2
    refine aOps_split 8 fun K hK=>?_
    simp [b1,c2,c2',c4]
    refine hK _ _ ?_
    clear hK K
    refine aOps_split 8 fun K hK=>?_
    simp [b1,c2,c2',c4]
    refine hK _ _ ?_
    clear hK K
    refine aOps_split 8 fun K hK=>?_
    simp [b1,c2,c2',c4]
    refine hK _ _ ?_
    clear hK K
    simp [b1,c2,c2',c4]
    refine hE false _ ?_ ?_ ?_ ?_ ?_ ?_ ?_ ?_
    all_goals first | rfl | (rw [←hhit];simp [b1,c2,c2',c4])
  refine aOps_split 8 fun K hK=>?_
  simp [c1,c4]
  refine hK _ _ ?_
  clear hK K
  refine aOps_split 8 fun K hK=>?_
  simp [c1,c4]
  refine hK _ _ ?_
  clear hK K
  refine aOps_split 8 fun K hK=>?_
  simp [c1,c4]
  refine hK _ _ ?_
  clear hK K
  simp [c1,c4]
  refine hE false _ ?_ ?_ ?_ ?_ ?_ ?_ ?_ ?_
  all_goals first | rfl | (rw [←hhit];simp [c1,c4])
 ·repeat with_reducible refine awp_assoc ?_
  refine awp_sr fun K hK=>?_
  simp
  refine hK _ _ ?_
  clear hK K
  refine awp_seq_k fun K hK=>?_
  refine awp_condF rfl (by simp) ?_
  refine awp_exit ?_
  simp
  refine hKL _ _ ?_
  clear hK K hKL KL
  repeat with_reducible refine awp_assoc ?_
  refine awp_sr fun K hK=>?_
  simp
  refine hK _ _ ?_
  clear hK K
  rw [List.take_length] at hv
  simp [k1,k3,ix_none hv,reset_all (hclm _)]
end Go.Proofs.YtdppfcbeiplckaaGreat
namespace Go.Proofs.YtdppfcbeiplckaaGreat
open Go Go.Abs Go.Proofs
set_option maxRecDepth 20000
attribute [local simp] aOps wantedA aStep aop aLoad aStore aBin aUn aFieldAddr aField aIndexAddr aIndex aLen aBuild aFill aAlloc aAppend aAppendOwn aMin aMax aBuildSlice litRows newRows isMut isOwn isNilS nilsW bytesR tokW tokAV tokL ret readC splice aeval isLit isLate isCut aCut AV.celled AV.one AV.ofValue Value.oneCell' Value.cells intOp strOp get_nid upd_nid awp aEnd aResults aResult Det unord isCall isNext
attribute [local simp] low_take low_strs low_comp low_tcomp wkEs_refl' WkBs WkEnv WkB WkL WkE WkO ABlock.low lowO lowL lowR AV.low cellsL_eq Ty.low low_map Ty.cells_length Ty.cells_one
attribute [local simp] cellsNd_eq low_nds Nd.cells_length Nd.cells_one cellsDT_eq low_dts DT.kcells_length DT.kcells_one low_ints low_rows low_pls low_set
def sortI (l:List Int):List Int:=l.mergeSort fun x y=>decide (x≤y)
theorem sortI_asc {l:List Int} (h:l.Nodup):AscI (sortI l):=by
 have h1:(sortI l).Pairwise fun x y=>decide (x≤y)=true:=List.pairwise_mergeSort (fun a b c h1 h2=>by simp at *;omega) (fun a b=>by simp;omega) l
 have h2:(sortI l).Nodup:=(List.mergeSort_perm l _).nodup_iff.2 h
 unfold AscI
 unfold List.Nodup at h2
 refine List.Pairwise.imp ?_ (List.Pairwise.and h1 h2)
 intro a b ⟨h3,h4⟩
 simp at h3
 omega
theorem mem_sortI {l:List Int} {x:Int}:x∈sortI l↔x∈l:=(List.mergeSort_perm l _).mem_iff
theorem nodup_putsN {l:List Int}:∀ {m:List Int},m.Nodup→(putsN m l).Nodup:=by
 induction l with
 | nil=>exact fun h=>h
 | cons y l ih =>
  intro m hm
  refine ih ?_
  unfold putN
  split
  ·exact hm
  ·rename_i h
   rw [List.nodup_append]
   exact ⟨hm,by simp,fun a ha b hb=>by simp only [List.mem_singleton] at hb;subst hb;rintro rfl;exact h ha⟩
theorem asc_part {S:List Int} {k:Int} (hS:AscI S) (hk:k ∉ S):∃ A B,S=A++B∧(∀ x∈A,x < k)∧(∀ x∈B,k < x):=by
 induction S with
 | nil=>exact ⟨[],[],rfl,by simp,by simp⟩
 | cons x S ih =>
  unfold AscI at hS
  rw [List.pairwise_cons] at hS
  simp only [List.mem_cons,not_or] at hk
  by_cases h:x < k
  ·obtain ⟨A,B,h1,h2,h3⟩:=ih hS.2 hk.2
   refine ⟨x::A,B,by rw [h1];rfl,fun y hy=>?_,h3⟩
   rcases List.mem_cons.1 hy with e | e
   ·subst e;exact h
   ·exact h2 y e
  ·refine ⟨[],x::S,rfl,by simp,fun y hy=>?_⟩
   rcases List.mem_cons.1 hy with e | e
   ·subst e;have:=hk.1;omega
   ·have:=hS.1 y e;have:=hk.1;omega
theorem asc_mid {A B:List Int} {k:Int} (h:AscI (A++B)) (hA:∀ x∈A,x < k) (hB:∀ x∈B,k < x):AscI (A++k::B):=by
 unfold AscI at *
 rw [List.pairwise_append] at h ⊢
 refine ⟨h.1,List.pairwise_cons.2 ⟨hB,h.2.1⟩,fun a ha b hb=>?_⟩
 rcases List.mem_cons.1 hb with e | e
 ·subst e;exact hA a ha
 ·exact h.2.2 a ha b e
def rTakeV (t:DT) (args:List Nd):List Int × Int :=
 if treeB t=false then ([],1) else if args.all Nd.gnd=false then ([],1) else if (t.tkR args []).1=false then ([],8) else (sortI (t.tkR args []).2,0)
theorem tkR_nodup (args:List Nd):∀ (t:DT) (m:List Int),m.Nodup→(t.tkR args m).2.Nodup:=by
 refine DT.ind fun s n k p r l ih m hm=>?_
 simp only [DT.tkR,tkRAll_eq]
 unfold tkRC
 split
 ·exact nodup_putsN hm
 split
 ·match l,ih with
  | [],_=>exact hm
  | [_],_=>exact hm
  | a::b::_,ih =>
   simp only [List.map_cons]
   exact ih b (by simp) _ (ih a (by simp) m hm)
 ·split
  ·exact hm
  ·split
   ·rename_i i hf
    rw [List.getD_eq_getElem?_getD,List.getElem?_map]
    cases hg:l[i]? with
    | none=>exact hm
    | some t=>exact ih t (List.mem_of_getElem? hg) m hm
   ·exact hm
set_option maxHeartbeats 2000000 in
theorem rTakeTop_c {b:Nat} (hb:b≤1073741824) (t:DT) (hs:t.Sh b) (args:List Nd) (ha:VOk b (args,zeroNd)) (hml:treeB t=true→(t.tkR args []).1=true→(t.tkR args []).2.length < 1099511627776) (H:AHeap) :
  ACalls Tryz.prog 7 [t.enc,.slice (args.map Nd.cells) none] H (.tuple [.slice ((rTakeV t args).1.map intR) none,intV (rTakeV t args).2]) H:=by
 have hv:=fun H=>rTree_c (by omega) t hs H
 have hg:=fun H=>rGround_c (by omega) args ha.1 ha.2 H
 have htk:=fun (hw:treeB t=true) H i=>rTake_c (b:=b) (by omega) args ha t hs (treeB_wf hw).1 [] H i
 have hnd:=tkR_nodup args t [] List.nodup_nil
 unfold rTakeV
 generalize args.all Nd.gnd=g at *
 generalize treeB t=w at *
 generalize t.tkR args []=R at *
 obtain ⟨ok,m⟩:=R
 obtain ⟨s,n,kd,p,q,l⟩:=t
 simp only [DT.enc_mk] at *
 refine acalls_walk (fun t=>if t=7 then .nilm 1 else if t=34 then .lit else if t=65 then .frz else .imm) [0,1,2,4,5,6,7,8,9,17,23,25,27,46] Tryz.mixed Tryz.func7 rfl rfl rfl (by decide) (fun hcl hlow=>?_)
 repeat with_reducible refine awp_assoc ?_
 refine awp_sr fun K hK=>?_
 simp
 refine hK _ _ ?_
 clear hK K
 repeat with_reducible refine awp_assoc ?_
 refine awp_sr fun K hK=>?_
 refine aOps_split 1 fun K hK=>?_
 simp
 refine hK _ _ ?_
 clear hK K
 refine aOps_call (hv _) (by first | rfl | simp) rfl rfl (by first | (simp;done) | rfl) ?_
 cases w with
 | false =>
  refine aOps_split 6 fun K hK=>?_
  simp
  refine hK _ _ ?_
  clear hK K
  simp
  refine hK _ _ ?_
  clear hK K
  repeat with_reducible refine awp_assoc ?_
  refine awp_seq_k fun K hK=>?_
  refine awp_condT rfl (by simp) ?_
  repeat with_reducible refine awp_assoc ?_
  refine awp_sr fun K hK=>?_
  simp
  refine hK _ _ ?_
  clear hK K
  simp [reset_all hcl]
  exact Wk.tuple ⟨Wk.nilSlice,.refl _,trivial⟩
 | true =>
 refine aOps_split 3 fun K hK=>?_
 simp
 refine hK _ _ ?_
 clear hK K
 refine aOps_call (hg _) (by first | rfl | simp) rfl rfl (by first | (simp;done) | rfl) ?_
 cases g with
 | false =>
  simp
  refine hK _ _ ?_
  clear hK K
  repeat with_reducible refine awp_assoc ?_
  refine awp_seq_k fun K hK=>?_
  refine awp_condT rfl (by simp) ?_
  repeat with_reducible refine awp_assoc ?_
  refine awp_sr fun K hK=>?_
  simp
  refine hK _ _ ?_
  clear hK K
  simp [reset_all hcl]
  exact Wk.tuple ⟨Wk.nilSlice,.refl _,trivial⟩
 | true =>
 simp
 refine hK _ _ ?_
 clear hK K
 repeat with_reducible refine awp_assoc ?_
 refine awp_seq_k fun K hK=>?_
 refine awp_condF rfl (by simp) ?_
 refine awp_skip ?_
 refine hK _ _ ?_
 clear hK K
 repeat with_reducible refine awp_assoc ?_
 refine awp_sr fun K hK=>?_
 simp
 refine hK _ _ ?_
 clear hK K
 have h8:ACalls Tryz.prog 29 [.agg [intV kd,.slice (p.map intR) none,.slice (q.map intR) none,.slice (l.map DT.kcells) none],.slice (args.map Nd.cells) none,.map (nid H.next 1)]
   (HL H [.cells [intV kd,.slice (p.map intR) none,.slice (q.map intR) none,.slice (l.map DT.kcells) none],.amap [] 0]) (boolV ok)
   (HL H [.cells [intV kd,.slice (p.map intR) none,.slice (q.map intR) none,.slice (l.map DT.kcells) none],.amap (setEs m) m.length]):=by
  have:=htk rfl (HL H [.cells [intV kd,.slice (p.map intR) none,.slice (q.map intR) none,.slice (l.map DT.kcells) none],.amap [] 0]) (nid H.next 1)
  simpa [cM,setEs] using this
 repeat with_reducible refine awp_assoc ?_
 refine awp_sr fun K hK=>?_
 refine aOps_split 3 fun K hK=>?_
 simp
 refine hK _ _ ?_
 clear hK K
 refine aOps_call (h8) (by first | rfl | simp) rfl rfl (by first | (simp;done) | rfl) ?_
 simp
 refine hK _ _ ?_
 clear hK K
 cases ok with
 | false =>
  repeat with_reducible refine awp_assoc ?_
  refine awp_seq_k fun K hK=>?_
  refine awp_condT rfl (by simp) ?_
  repeat with_reducible refine awp_assoc ?_
  refine awp_sr fun K hK=>?_
  simp
  refine hK _ _ ?_
  clear hK K
  simp [reset_all hcl]
  exact Wk.tuple ⟨Wk.nilSlice,.refl _,trivial⟩
 | true =>
 repeat with_reducible refine awp_assoc ?_
 refine awp_seq_k fun K hK=>?_
 refine awp_condF rfl (by simp) ?_
 refine awp_skip ?_
 refine hK _ _ ?_
 clear hK K
 repeat with_reducible refine awp_assoc ?_
 refine awp_sr fun K hK=>?_
 simp
 refine hK _ _ ?_
 clear hK K
 have hel:(setEs m).length=m.length:=by simp [setEs]
 repeat with_reducible refine awp_assoc ?_
 refine awp_sr fun K hK=>?_
 simp [hel]
 refine hK _ _ ?_
 clear hK K
 have hml':m.length < 1099511627776:=hml rfl rfl
 clear htk hg hv h8 hml
 refine awp_seq_k fun KO hKO=>?_
 refine awp_block ?_
 refine awp_loop (fun n env H'=>∃ (met left:List Nat) (cur:Option Nat) (S:List Int),(met++left).Perm (List.range m.length)∧n=left.length∧AscI S∧S.length=met.length∧(∀ x,x∈S↔∃ j∈met,m[j]?=some x) ∧
   env=Env.ofL [(6,.map (nid H.next 1)),(7,.vec (nid H.next 2) S.length),(25,.ref (nid H.next 3) 0)]∧H'=HL H [.cells [intV kd,.slice (p.map intR) none,.slice (q.map intR) none,.slice (l.map DT.kcells) none],.amap (setEs m) m.length,.tok S.length 1 (some (S.map intR)),.iter (nid H.next 1) m.length left cur]) m.length
  (weak_HL hcl rfl (by simp [WkR]) (by simp)) ⟨[],List.range m.length,none,[],by simp,by simp,List.Pairwise.nil,rfl,by simp,rfl,rfl⟩ ?_
 rintro n env H' ⟨met,left,cur,S,hp,rfl,hSa,hSl,hSm,rfl,rfl⟩
 have hml2:met.length+left.length=m.length:=by have:=hp.length_eq;simpa using this
 repeat with_reducible refine awp_assoc ?_
 refine awp_sr fun K hK=>?_
 simp [aNext]
 refine ⟨fun hl0=>?_,fun j hj key tv he=>?_⟩
 ·refine hK _ _ ?_
  clear hK K
  repeat with_reducible refine awp_assoc ?_
  refine awp_seq_k fun K hK=>?_
  refine awp_condF rfl (by simp) ?_
  refine awp_exit ?_
  simp
  refine hKO _ _ ?_
  clear hK K
  subst hl0
  have hSe:S=sortI m:=by
   refine ascI_unique hSa (sortI_asc hnd) fun x=>?_
   rw [hSm,mem_sortI,List.mem_iff_getElem?]
   constructor
   ·rintro ⟨j,_,h⟩;exact ⟨j,h⟩
   ·rintro ⟨j,h⟩
    have hjl:j < m.length:=(List.getElem?_eq_some_iff.1 h).1
    exact ⟨j,(hp.symm.subset (List.mem_range.2 hjl)) |> (by simpa using ·),h⟩
  refine awp_sr fun K hK=>?_
  simp
  refine hK _ _ ?_
  clear hK K
  subst hSe
  simp [reset_all hcl]
  exact Wk.tuple ⟨Wk.tok _ _,.refl _,trivial⟩
 obtain ⟨x,hx,rfl,rfl⟩:∃ x,m[j]?=some x∧key=.int .i64 x∧tv=boolV true:=by
  simp only [setEs,List.getElem?_map,Option.map_eq_some_iff] at he
  obtain ⟨x,h1,h2⟩:=he
  simp only [Prod.mk.injEq] at h2
  exact ⟨x,h1,h2.1.symm,h2.2.symm⟩
 have hnl:left.Nodup:=(List.nodup_append.1 (hp.symm.nodup List.nodup_range)).2.1
 have hdis:∀ a∈met,∀ b∈left,a≠b:=(List.nodup_append.1 (hp.symm.nodup List.nodup_range)).2.2
 have hlt:(left.filter (· != j)).length < left.length:=by
  rw [←hnl.erase_eq_filter,List.length_erase_of_mem hj]
  have:=List.length_pos_of_mem hj;omega
 have hperm2:(met++[j]++left.filter (· != j)).Perm (List.range m.length):=by
  rw [←hnl.erase_eq_filter]
  refine List.Perm.trans ?_ hp
  rw [List.append_assoc]
  exact List.Perm.append_left met (List.perm_cons_erase hj).symm
 have hxS:x ∉ S:=fun h=>by
  obtain ⟨j',h1,h2⟩:=(hSm x).1 h
  have:j'=j:=(List.getElem?_inj (List.getElem?_eq_some_iff.1 h2).1 hnd).1 (h2.trans hx.symm)
  exact hdis j' h1 j hj this
 obtain ⟨A,B,rfl,hA,hB⟩:=asc_part hSa hxS
 have hSa2:=asc_mid hSa hA hB
 have hSm2:∀ y,y∈A++x::B↔∃ j'∈met++[j],m[j']?=some y:=fun y=>by
  have h1:=hSm y
  constructor
  ·intro h
   by_cases e:y=x
   ·subst e;exact ⟨j,by simp,hx⟩
   ·have h0:y∈A++B:=by
     simp only [List.mem_append,List.mem_cons] at h ⊢
     rcases h with h | h | h
     ·exact .inl h
     ·exact absurd h e
     ·exact .inr h
    obtain ⟨j',h2,h3⟩:=h1.1 h0
    exact ⟨j',by simp [h2],h3⟩
  ·rintro ⟨j',h2,h3⟩
   rcases List.mem_append.1 h2 with h2 | h2
   ·have:=h1.2 ⟨j',h2,h3⟩
    simp only [List.mem_append,List.mem_cons] at this ⊢
    rcases this with h | h
    ·exact .inl h
    ·exact .inr (.inr h)
   ·simp only [List.mem_singleton] at h2
    subst h2
    rw [hx] at h3
    simp only [Option.some.injEq] at h3
    subst h3
    simp
 clear hdis hnl hxS hSm hSa hp
 refine hK _ _ ?_
 clear hK K
 repeat with_reducible refine awp_assoc ?_
 refine awp_seq_k fun K hK=>?_
 refine awp_condT rfl (by simp) ?_
 refine awp_skip ?_
 refine hK _ _ ?_
 clear hK K
 refine awp_block ?_
 have he2:(setEs m)[j]?=some (.int .i64 x,boolV true):=he
 repeat with_reducible refine awp_assoc ?_
 refine awp_sr fun K hK=>?_
 simp [aEntry,he2]
 refine hK _ _ ?_
 clear hK K
 repeat with_reducible refine awp_assoc ?_
 refine awp_sr fun K hK=>?_
 simp
 refine hK _ _ ?_
 clear hK K
 have hn1:(A.length+B.length+1) * 8≤70368744177664:=by simp only [List.length_append] at hSl;omega
 have hrow:∀ r,(∃ a,a∈A∧intR a=r)∨(∃ a,a∈B∧intR a=r)→r.length=1∧r.all (·.one)=true:=fun r hr=>by
  rcases hr with ⟨y,_,rfl⟩ | ⟨y,_,rfl⟩ <;> exact ⟨rfl,rfl⟩
 repeat with_reducible refine awp_assoc ?_
 refine awp_sr fun K hK=>?_
 refine aOps_split 3 fun K hK=>?_
 simp
 refine hK _ _ ?_
 clear hK K
 simp
 refine ⟨hn1,fun r hr=>by rcases hr with ⟨y,_,rfl⟩ | ⟨y,_,rfl⟩ <;> simp,hK _ _ ?_⟩
 clear hK K hn1 hrow
 have hab:A.length+B.length < 1099511627776:=by simp only [List.length_append] at hSl;omega
 obtain ⟨L,hL⟩:∃ L:Nat→List Int,∀ c,L c=A++(B.take (B.length - c)++x::B.drop (B.length - c)):=⟨_,fun _=>rfl⟩
 have hL0:L 0=A++(B++[x]):=by rw [hL];simp
 have hLe:L B.length=A++x::B:=by rw [hL];simp
 have hLl:∀ c,(L c).length=A.length+B.length+1:=fun c=>by
  rw [hL];simp only [List.length_append,List.length_cons,List.length_take,List.length_drop];omega
 have hstep:∀ c,c < B.length→∃ P y Q,L c=P++y::x::Q∧L (c+1)=P++x::y::Q∧P.length+1=A.length+(B.length - c)∧x < y:=fun c hc=>by
  obtain ⟨e,he⟩:∃ e,B.length - c=e+1:=⟨B.length - c - 1,by omega⟩
  have he1:B.length - (c+1)=e:=by omega
  have hel:e < B.length:=by omega
  refine ⟨A++B.take e,B[e],B.drop (e+1),?_,?_,?_,hB _ (List.getElem_mem hel)⟩
  ·rw [hL,he,List.take_add_one,List.getElem?_eq_getElem hel];simp only [Option.toList,List.append_assoc,List.cons_append,List.nil_append]
  ·rw [hL,he1,List.drop_eq_getElem_cons hel];simp
  ·simp only [List.length_append,List.length_take];omega
 clear hL
 refine awp_block ?_
 refine awp_up B.length (fun c=>Env.ofL [(6,.map (nid H.next 1)),(7,.vec (nid H.next 2) (A.length+B.length+1)),(8,intV x),(9,intV ((A.length+(B.length - c):Nat):Int)),(25,.ref (nid H.next 3) 0)]) (fun c=>HL H [.cells [intV kd,.slice (p.map intR) none,.slice (q.map intR) none,.slice (l.map DT.kcells) none],.amap (setEs m) m.length,.tok (A.length+B.length+1) 1 (some ((L c).map intR)),.iter (nid H.next 1) m.length (left.filter (· != j)) (some j)])
  (fun _=>True) ?_ trivial (fun c hc _=>?_) (fun _=>?_)
 ·rw [hL0]
  exact weak_HL hcl rfl (by simp;exact WkR.refl _) (by simp)
 ·obtain ⟨P,y,Q,h1,h2,h3,h4⟩:=hstep c hc
  have hll:=hLl c
  rw [h1] at hll ⊢
  rw [h2]
  rw [←h3]
  have h5:((P.length+1:Nat):Int)=(P.length:Int)+1:=by push_cast;rfl
  have h6:A.length+(B.length - (c+1))=P.length:=by omega
  rw [h5,h6]
  simp only [List.length_append,List.length_cons] at hll
  have w1:IntKind.i64.wrap (P.length:Int)=(P.length:Int):=wrap64 (by omega) (by omega)
  have t1:(0:Int) < (P.length:Int)+1:=by omega
  have t2:((P.length:Int)+1).toNat=P.length+1:=by omega
  have t3:P.length < A.length+B.length+1:=by omega
  have t4:P.length+1 < A.length+B.length+1:=by omega
  repeat with_reducible refine awp_assoc ?_
  refine awp_sr fun K hK=>?_
  refine aOps_split 4 fun K hK=>?_
  simp [t1]
  refine hK _ _ ?_
  clear hK K
  have hr1:∀ r:List AV,((∃ a,a∈P∧intR a=r)∨r=intR y∨r=intR x∨∃ a,a∈Q∧intR a=r)→r.length=1:=by
   rintro r (⟨_,_,rfl⟩ | rfl | rfl | ⟨_,_,rfl⟩) <;> rfl
  refine aOps_split 4 fun K hK=>?_
  simp [t1,w1,t3,h4]
  refine ⟨hr1,hK _ _ ?_⟩
  clear hK K
  simp [h4]
  refine hK _ _ ?_
  clear hK K
  repeat with_reducible refine awp_assoc ?_
  refine awp_seq_k fun K hK=>?_
  refine awp_condT rfl (by simp) ?_
  refine awp_skip ?_
  refine hK _ _ ?_
  clear hK K
  refine awp_seq_k fun KC hKC=>?_
  refine awp_block ?_
  refine awp_drawc [15,17] [[],[0],[0,1],[0,1,2],[0,1,2],[0,1,2,3,4],[0,1,2,3,4,5],[0,1,2,3,4,5],[0,1,2,3,4],[0,1,2,3,4],[0,1,2,3,4,5,6,7,8,9],[0,1,2,3,4,5,6,7,8,9,10],[0,1,2,3,4,5,6,7,8,9],[0,1,2,3,4,5,6,7,8,9],[2,3,4],[2,3,4],[],[]] (by kernel_rfl) (by rfl) ?_
  refine aCalm_pre 9 (by rfl) fun K hK=>?_
  simp [w1,t3]
  refine hK _ _ ?_
  clear hK K
  refine aCalm_pre 1 (by rfl) fun K hK=>?_
  simp [t3]
  refine ⟨hr1,hK _ _ ?_⟩
  clear hK K
  have t0:(0:Int)≤(P.length:Int)+1:=by omega
  refine aCalm_pre 3 (by rfl) fun K hK=>?_
  simp [t0,t2,t4]
  refine hK _ _ ?_
  clear hK K
  refine aCalm_pre 1 (by rfl) fun K hK=>?_
  simp [t2,t4]
  refine ⟨hr1,hK _ _ ?_⟩
  clear hK K
  refine aCalm_pre 1 (by rfl) fun K hK=>?_
  simp [t0,t2,t4]
  refine hK _ _ ?_
  clear hK K
  refine aCalm_pre 1 (by rfl) fun K hK=>?_
  simp [t2,t4]
  refine ⟨hr1,hK _ _ ?_⟩
  clear hK K
  refine aCalm_pre 1 (by rfl) fun K hK=>?_
  simp [t3]
  refine hK _ _ ?_
  clear hK K
  refine aCalm_pre 1 (by rfl) fun K hK=>?_
  simp [t3]
  have hr2:∀ r:List AV,((∃ a,a∈P∧intR a=r)∨r=intR y∨∃ a,a∈Q∧intR a=r)→r.length=1:=by
   rintro r (⟨_,_,rfl⟩ | rfl | ⟨_,_,rfl⟩) <;> rfl
  refine ⟨hr2,hK _ _ ?_⟩
  clear hK K
  refine aCalm_end ?_
  simp
  refine hKC _ _ ?_
  clear hKC KC
  refine awp_region ?_
  simp [w1]
  exact weak_HL hcl rfl (by simp;exact WkR.refl _) (by simp)
 ·have hfin:∀ (N:Nat) (rows:List (List AV)) (env:Env),N=A.length+B.length+1→rows=(A++x::B).map intR→env 6=.map (nid H.next 1)→env 7=.vec (nid H.next 2) N→env 25=.ref (nid H.next 3) 0 →
    ∃ m' env' H',Weak H.next env (HL H [.cells [intV kd,.slice (p.map intR) none,.slice (q.map intR) none,.slice (l.map DT.kcells) none],.amap (setEs m) m.length,.tok N 1 (some rows),.iter (nid H.next 1) m.length (left.filter (· != j)) (some j)]) env' H'∧m' < left.length∧∃ (met left:List Nat) (cur:Option Nat) (S:List Int),(met++left).Perm (List.range m.length)∧m'=left.length∧AscI S∧S.length=met.length∧(∀ x,x∈S↔∃ j∈met,m[j]?=some x) ∧
     env'=Env.ofL [(6,.map (nid H.next 1)),(7,.vec (nid H.next 2) S.length),(25,.ref (nid H.next 3) 0)]∧H'=HL H [.cells [intV kd,.slice (p.map intR) none,.slice (q.map intR) none,.slice (l.map DT.kcells) none],.amap (setEs m) m.length,.tok S.length 1 (some (S.map intR)),.iter (nid H.next 1) m.length left cur]:=by
   intro N rows env hN hrows e6 e7 e25
   subst hN hrows
   have hlen:(A++x::B).length=A.length+B.length+1:=by simp only [List.length_append,List.length_cons];omega
   refine ⟨_,_,_,weak_HL hcl rfl ?_ ?_,hlt,met++[j],left.filter (· != j),some j,A++x::B,hperm2,rfl,hSa2,?_,hSm2,rfl,rfl⟩
   ·rw [hlen];simp;exact WkR.refl _
   ·rw [hlen];simp [e6,e7,e25]
   ·rw [hlen];simp only [List.length_append,List.length_singleton] at hSl ⊢;omega
  rw [hLe]
  have e1:A.length+(B.length - B.length)=A.length:=by omega
  rw [e1]
  clear hstep hLe hLl hL0 hSa2 hSm2 hperm2 hlt
  rcases List.eq_nil_or_concat A with hAe | ⟨A',a,hAe⟩
  ·subst hAe
   repeat with_reducible refine awp_assoc ?_
   refine awp_sr fun K hK=>?_
   refine aOps_split 5 fun K hK=>?_
   simp
   refine hK _ _ ?_
   clear hK K
   simp
   refine hK _ _ ?_
   clear hK K
   refine awp_seq_k fun K hK=>?_
   refine awp_condF rfl (by simp) ?_
   refine awp_exit ?_
   simp only [↓reduceIte]
   refine hfin _ _ _ ?_ ?_ ?_ ?_ ?_
   ·simp
   ·simp
   all_goals rfl
  ·have hax:a < x:=hA a (by rw [hAe];simp)
   have hax':¬ x < a:=by omega
   have hl1:A.length=A'.length+1:=by rw [hAe];simp
   have hmp:(A++x::B).map intR=A'.map intR++intR a::intR x::B.map intR:=by rw [hAe];simp
   rw [hmp] at hfin ⊢
   rw [hl1] at hfin hab ⊢
   have h5:((A'.length+1:Nat):Int)=(A'.length:Int)+1:=by push_cast;rfl
   rw [h5]
   have w1:IntKind.i64.wrap (A'.length:Int)=(A'.length:Int):=wrap64 (by omega) (by omega)
   have t1:(0:Int) < (A'.length:Int)+1:=by omega
   have t3:A'.length < A'.length+1+B.length+1:=by omega
   have hr1:∀ r:List AV,((∃ b,b∈A'∧intR b=r)∨r=intR a∨r=intR x∨∃ a,a∈B∧intR a=r)→r.length=1:=by
    rintro r (⟨_,_,rfl⟩ | rfl | rfl | ⟨_,_,rfl⟩) <;> rfl
   repeat with_reducible refine awp_assoc ?_
   refine awp_sr fun K hK=>?_
   refine aOps_split 4 fun K hK=>?_
   simp [t1]
   refine hK _ _ ?_
   clear hK K
   refine aOps_split 4 fun K hK=>?_
   simp [t1,w1,t3]
   refine ⟨hr1,hK _ _ ?_⟩
   clear hK K
   simp [hax']
   refine hK _ _ ?_
   clear hK K
   refine awp_seq_k fun K hK=>?_
   refine awp_condF rfl (by simp) ?_
   refine awp_exit ?_
   simp only [↓reduceIte]
   refine hfin _ _ _ ?_ ?_ ?_ ?_ ?_
   ·simp
   ·simp
   all_goals rfl
end Go.Proofs.YtdppfcbeiplckaaGreat
