/- Nodes of types: sizes and depths. -/
import Derived.Test.YtgeehnbbhnpimaaGreatMR8
set_option linter.unusedVariables false
set_option linter.unusedSimpArgs false
namespace Go.Proofs.YtgeehnbbhnpimaaGreat
open Go Go.Abs Go.Proofs
set_option maxRecDepth 20000
attribute [local simp] aOps wantedA aStep aop aLoad aStore aBin aUn aFieldAddr aField aIndexAddr aIndex aLen aBuild aFill aAlloc aAppend aBuildSlice litRows newRows isMut isOwn isNilS nilsW bytesR tokW tokAV tokL ret readC splice aeval isLit isLate AV.celled AV.one AV.ofValue Value.oneCell' Value.cells intOp strOp get_nid upd_nid awp aEnd aResults aResult Det unord isCall isNext
attribute [local simp] low_take low_strs low_comp low_tcomp wkEs_refl' WkBs WkEnv WkB WkL WkE WkO ABlock.low lowO lowL lowR AV.low cellsL_eq Ty.low low_map Ty.cells_length Ty.cells_one
attribute [local simp] low_bind
theorem det_lateS {P:Program} {md:Nat→Abs.Mode} {env:Env} {H:AHeap} {o:Oper} {t:TypeId} {d:Nat} {id n:Nat} {x y:Operand} {by_:Nat} {z:List Value} (ho:o.op=.makeSlice t x y) (hd:o.dst=some d) (hmd:md d=.late) (hz:elT P t=some (1,by_,z))
  (hx:aeval env x=intV (n:Int)) (hy:aeval env y=intV (n:Int)) (hb:n * by_≤70368744177664) (hn:n≤70368744177664) (hh:H.get id=some .hole) :
  Det P md o env H (.ms id 0 n) (fillAt id ((List.range n).map fun _=>.v (z.getD 0 undef)) H):=by
 obtain ⟨dst,op,ty,pos,after,guard⟩:=o
 simp only at ho hd
 subst ho hd
 unfold Det
 rw [aStep_aop rfl rfl,tokW_noTok (by simp [noTok,hmd])]
 have h1:isMut md (some d)=false:=by simp [isMut,hmd]
 have h2:isLate md (some d)=true:=by simp [isLate,hmd]
 have hcell:(List.range (((n:Int).toNat) * 1)).map (fun i=>AV.v (z.getD (i % 1) undef))=(List.range n).map fun _=>.v (z.getD 0 undef):=by
  simp only [Int.toNat_natCast,Nat.mul_one,Nat.mod_one]
 simp only [aop,aMakeSlice,hz,hx,hy,h1,h2,Bool.false_eq_true,if_false,if_true]
 refine ⟨by omega,Int.le_refl _,by omega,by omega,id,hh,rfl,?_⟩
 rw [hcell]
 simp only [fillAt,hh]
theorem cells0 (n:Nat):(List.range n).map (fun _=>AV.v (Value.int IntKind.i64 0))=(List.replicate n 0).map nV:=by
 rw [List.map_replicate]
 rw [List.eq_replicate_iff]
 simp
theorem cellsF (n:Nat):(List.range n).map (fun _=>AV.v (Value.bool false))=(List.replicate n false).map boolV:=by
 rw [List.map_replicate]
 rw [List.eq_replicate_iff]
 simp
theorem low_nl (n:Nat):∀ l:List Nat,lowL n (l.map nV)
 | []=>trivial
 | _::l=>⟨trivial,low_nl n l⟩
theorem low_bl (n:Nat):∀ l:List Bool,lowL n (l.map boolV)
 | []=>trivial
 | _::l=>⟨trivial,low_bl n l⟩
theorem low_r1 (n k x:Nat):lowL n (List.replicate k (nV x)):=by rw [←List.map_replicate];exact low_nl n _
theorem low_r2 (n k:Nat) (b:Bool):lowL n (List.replicate k (boolV b)):=by rw [←List.map_replicate];exact low_bl n _
theorem set_map {α:Type} (f:α→AV) (l:List α) (k:Nat) (x:α) (hk:k < l.length):(l.map f).take k++f x::(l.map f).drop (k+1)=(l.set k x).map f:=by
 rw [List.map_set,List.set_eq_take_append_cons_drop,if_pos (by simpa using hk)]
set_option maxHeartbeats 2000000 in
theorem heights_c (wi ni ai ui:Nat) (hne:ND wi ni ai ui) (S:TmS) (n:Nat) (hS:JoinOk S n) (hw:WfU n S.up) (H:AHeap) (hH:Holds H (tmB wi ni ai ui S)) :
  ACalls Tryz.prog 107 [.ref wi 0] H
   (if heightsOk S.up (heightsS (topOf S.up) S.ar S.up n) n=true then .tuple [.ms (nid H.next 1) 0 n,.ms (nid H.next 0) 0 n,boolV true] else .tuple [.v (.slice none 0 0),.v (.slice none 0 0),boolV false])
   (HL H [.cells ((heightsS (topOf S.up) S.ar S.up n).dp.map nV),.cells ((heightsS (topOf S.up) S.ar S.up n).sz.map nV)]):=by
 obtain ⟨gw0,gn0,ga0,gu0,_⟩:=id hH
 refine acalls_walk (fun d=>if d=26 then .late else if d=24 then .mut else if d=28 then .mut else .imm) [0,2,3,4,5,6,7,8,9,10,11,12,13,14,15,16,17,31,36,53,63,82,90,96,101,115,118,136] Tryz.mixed Tryz.func107 rfl rfl rfl (by decide) (fun hcl hlow=>?_)
 have hwl:wi < H.next:=(hcl _ _ gw0).1
 have hul:ui < H.next:=(hcl _ _ gu0).1
 have gw:∀ bs,(HL H bs).get wi=some (.cells [.slice (S.nm.map fun s=>[strV s]) (some ni),.slice (S.ar.map fun l=>[argV l]) (some ai),.vec ui S.up.length]):=fun bs=>by rw [get_lt hwl];exact gw0
 have gu:∀ bs,(HL H bs).get ui=some (.tok S.up.length 1 (some (S.up.map fun i=>[nV i]))):=fun bs=>by rw [get_lt hul];exact gu0
 have hh:∀ bs,Holds (HL H bs) (tmB wi ni ai ui S):=fun bs=>(holds_HL (fun p hp=>(holds_lt hcl hH p hp))).2 hH
 have hsz:=hS.sz
 have hnl:=hS.nm
 refine awp_sr fun K hK=>?_;simp;apply hK;clear hK K;refine awp_sr fun K hK=>?_;simp [gw,hnl];apply hK;clear hK K
 refine awp_sdf 1 3 (fillAt (nid H.next 0) ((List.range n).map fun _=>.v (.int .i64 0))) [1] [[],[],[0,1],[0,1],[],[]] (by kernel_rfl) (by rfl) (by rfl) fun K hK=>?_
 simp only [holes,alloc_HL,List.cons_append,List.nil_append]
 refine fLex_pre (nid H.next 0) 1 (fun G i h=>fillAt_off G i h) (by rfl) fun K2 hK2=>?_
 simp [oOps,offs,AV.off,Op.operands,Call.operands,regM,litOp,isReg,isLit,noTok]
 refine hK2 _ ?_
 clear hK2 K2
 refine fLex_eff rfl rfl rfl rfl rfl fun K2 hK2=>?_
 simp [aMakeSlice,isMut,Nat.mod_one]
 refine ⟨by omega,by omega,hK2 _ _ (fun _=>?_) (by simp) ?_⟩
 ·simp [Det,aMakeSlice,isMut,Nat.mod_one,fillAt]
  omega
 clear hK2 K2
 refine fLex_pre (nid H.next 0) 1 (fun G i h=>fillAt_off G i h) (by rfl) fun K2 hK2=>?_
 simp [oOps,offs,AV.off,Op.operands,Call.operands,regM,litOp,isReg,isLit,noTok]
 refine hK2 _ ?_
 clear hK2 K2
 refine fLex_self (v:=.ms (nid H.next 0) 0 n) rfl rfl ?_ ?_ ?_
 ·exact det_lateS (n:=n) (z:=[.int .i64 0]) (by_:=8) rfl rfl rfl (by simp) (by simp) (by simp) (by omega) (by omega) (by simp)
 ·intro p hp hu
  simp only [List.mem_singleton] at hp
  subst hp
  exact det_lateS (n:=n) (z:=[.int .i64 0]) (by_:=8) rfl rfl rfl (by simp) (by simp) (by simp) (by omega) (by omega) (by simp)
 refine fLex_pre (nid H.next 0) 2 (fun G i h=>fillAt_off G i h) (by rfl) fun K2 hK2=>?_
 simp [oOps,offs,AV.off,Op.operands,Call.operands,regM,litOp,isReg,isLit,noTok]
 refine hK2 _ ?_
 clear hK2 K2
 refine fLex_end ?_
 simp [fillAt];apply hK;clear hK K
 rw [cells0]
 refine awp_sr fun K hK=>?_;simp [aMakeSlice,isMut,Nat.mod_one]
 refine ⟨by omega,hK _ _ ?_⟩
 clear hK K
 rw [cellsF]
 have hτ:=fun (i:Nat) (hi:i < n) bs=>top_of wi ni ai ui S hw i hi _ (hh bs)
 have hτl:=fun (i:Nat) (hi:i < n)=>hw.top_lt hi
 have hok0:=hok0 n
 have hfin:heightsS (topOf S.up) S.ar S.up n=iterH (topOf S.up) S.ar S.up n (n+1) ⟨List.replicate n 0,List.replicate n 0,List.replicate n false⟩:=rfl
 generalize heightsS (topOf S.up) S.ar S.up n=fin at hfin ⊢
 have hul2:=hw.len
 generalize topOf S.up=τ at *
 repeat with_reducible refine awp_assoc ?_
 refine awp_sr fun K hK=>?_;simp;apply hK;clear hK K;refine awp_seq_k fun K0 hK0=>?_;refine awp_block ?_
 refine awp_loop (fun m env H'=>∃ (rd:Nat) (st:HS),m+rd=n+1∧HOk n st∧fin=iterH τ S.ar S.up n m st ∧
   env=Env.ofL [(0,.ref wi 0),(5,intV (n:Int)),(6,.ms (nid H.next 1) 0 n),(7,.ms (nid H.next 0) 0 n),(8,.ms (nid H.next 2) 0 n),(9,intV (rd:Int))] ∧
   H'=HL H [.cells (st.dp.map nV),.cells (st.sz.map nV),.cells (st.dn.map boolV)])
  (n+1) (weak_HL hcl rfl (by simp [low_r1,low_r2]) (by simp [lt_nid hwl])) ⟨0,_,rfl,hok0,hfin,rfl,rfl⟩ ?_
 clear hfin hok0
 rintro m env H' ⟨rd,st,hm,hst,hfin,rfl,rfl⟩
 have hend:∀ (st:HS) (b9 b10 b11 b12 b13 b14 b15 b16 b31 b36 b53 b63 b82 b90 b96 b101 b115:AV),HOk n st→fin=st→K0 (Env.ofL [(0,.ref wi 0),(2,.undef),(3,.undef),(4,.undef),(5,intV (n:Int)),(6,.ms (nid H.next 1) 0 n),(7,.ms (nid H.next 0) 0 n),(8,.ms (nid H.next 2) 0 n),(9,b9),(10,b10),(11,b11),(12,b12),(13,b13),(14,b14),(15,b15),(16,b16),(17,.undef),(31,b31),(36,b36),(53,b53),(63,b63),(82,b82),(90,b90),(96,b96),(101,b101),(115,b115),(118,.undef),(136,.undef)])
   (HL H [.cells (st.dp.map nV),.cells (st.sz.map nV),.cells (st.dn.map boolV)]):=by
  intro st b9 b10 b11 b12 b13 b14 b15 b16 b31 b36 b53 b63 b82 b90 b96 b101 b115 hst he
  refine hK0 _ _ ?_
  clear hK0
  rw [he]
  clear hfin he
  generalize hY:heightsOk S.up st n=yb
  repeat with_reducible refine awp_assoc ?_
  refine awp_sr fun K hK=>?_;simp;apply hK;clear hK K;refine awp_seq_k fun K hK=>?_;refine awp_block ?_
  refine awp_up n (fun k=>Env.ofL [(0,.ref wi 0),(5,intV (n:Int)),(6,.ms (nid H.next 1) 0 n),(7,.ms (nid H.next 0) 0 n),(8,.ms (nid H.next 2) 0 n),(17,intV (k:Int))]) (fun k=>HL H [.cells (st.dp.map nV),.cells (st.sz.map nV),.cells (st.dn.map boolV)])
   (fun k=>(List.range k).all (fun i=>!(upAt S.up i == i) || st.dn.getD i false)=true) (weak_HL hcl rfl (by simp [low_nl,low_bl]) (by simp [lt_nid hwl])) (by simp) (fun k hk hi=>?_) (fun hi=>?_)
  ·have hku:k < S.up.length:=by omega
   have hor:=one_rows S.up
   have hgk:=upAt_get hku
   have hel:=upAt_el hku
   obtain ⟨dk,hdk⟩:∃ d,st.dn[k]?=some d:=⟨_,List.getElem?_eq_getElem (by rw [hst.dn];exact hk)⟩
   have hdk2:st.dn.getD k false=dk:=by rw [List.getD_eq_getElem?_getD,hdk];rfl
   repeat with_reducible refine awp_assoc ?_
   refine awp_sr fun K hK=>?_;simp [hk];apply hK;clear hK K;refine awp_seq_k fun K hK=>?_;refine awp_condT rfl (by simp [hk]) ?_;refine awp_skip ?_;apply hK;clear hK K;refine awp_seq_k fun K2 hK2=>?_;refine awp_block ?_;refine awp_sr fun K hK=>?_
   suffices hk2:∀ c:Bool,c=((upAt S.up k == k) && !dk)→K (Env.ofL [(0,.ref wi 0),(2,.undef),(3,.undef),(4,.undef),(5,intV (n:Int)),(6,.ms (nid H.next 1) 0 n),(7,.ms (nid H.next 0) 0 n),(8,.ms (nid H.next 2) 0 n),(9,.undef),(10,.undef),(11,.undef),(12,.undef),(13,.undef),(14,.undef),(15,.undef),(16,.undef),(17,intV (k:Int)),(31,.undef),(36,.undef),(53,.undef),(63,.undef),(82,.undef),(90,.undef),(96,.undef),(101,.undef),(115,.undef),(118,boolV true),(136,boolV c)])
     (HL H [.cells (st.dp.map nV),.cells (st.sz.map nV),.cells (st.dn.map boolV)]) by
    by_cases htop:upAt S.up k=k
    ·rw [htop] at hel
     refine aOps_split 4 fun K hK=>?_;simp [gw];apply hK;clear hK K;refine aOps_split 3 fun K hK=>?_;simp [gu,hku,hor,hel];apply hK;clear hK K;refine aOps_split 3 fun K hK=>?_;simp;apply hK;clear hK K;refine aOps_split 4 fun K hK=>?_;simp [hk,hdk];apply hK;clear hK K;refine aOps_split 2 fun K hK=>?_;simp;apply hK;clear hK K;simp
     exact hk2 _ (by simp [htop])
    ·have htop':¬ ((upAt S.up k:Nat):Int)=(k:Int):=by omega
     refine aOps_split 4 fun K hK=>?_;simp [gw];apply hK;clear hK K;refine aOps_split 3 fun K hK=>?_;simp [gu,hku,hor,hel];apply hK;clear hK K;refine aOps_split 3 fun K hK=>?_;simp [htop'];apply hK;clear hK K;refine aOps_split 4 fun K hK=>?_;simp;apply hK;clear hK K;refine aOps_split 2 fun K hK=>?_;simp;apply hK;clear hK K;simp
     exact hk2 _ (by simp [htop])
   intro c hcd
   apply hK
   clear hK
   cases c
   ·refine awp_condF rfl (by simp) ?_;refine awp_skip ?_
    refine hK2 _ _ ?_
    clear hK2
    refine awp_rk fun K hK=>?_;simp [wrap_succ (show k < 4611686018427387904 by omega)]
    refine hK _ _ ⟨?_,?_⟩
    ·rw [List.range_succ,List.all_append,hi]
     simp only [List.all_cons,List.all_nil,Bool.and_true,Bool.true_and,hdk2]
     revert hcd
     cases (upAt S.up k == k) <;> cases dk <;> simp
    ·refine weak_HL (hcl) (by simp) (by simp [lt_nid hwl,low_nl,low_bl]) (by simp [lt_nid hwl,low_nl,low_bl])
   ·have hno:heightsOk S.up st n=false:=by
     rw [Bool.eq_false_iff]
     intro h
     have:=List.all_eq_true.1 h k (List.mem_range.2 hk)
     rw [hdk2] at this
     revert this hcd
     cases (upAt S.up k == k) <;> cases dk <;> simp
    obtain rfl:yb=false:=by rw [←hY,hno]
    refine awp_condT rfl (by simp) ?_;refine awp_sr fun K hK=>?_;simp;apply hK;clear hK K;simp
    exact ⟨reset_HL hcl (by simp [low_nl]),le_nid⟩
  ·have hy:heightsOk S.up st n=true:=hi
   obtain rfl:yb=true:=by rw [←hY,hy]
   repeat with_reducible refine awp_assoc ?_
   refine awp_sr fun K hK=>?_;simp;apply hK;clear hK K;refine awp_seq_k fun K hK=>?_;refine awp_condF rfl (by simp) ?_;refine awp_exit ?_;simp;clear hK K;apply hK;clear hK K;refine awp_sr fun K hK=>?_;simp;apply hK;clear hK K;simp
   exact ⟨reset_HL hcl (by simp [low_nl]),le_nid⟩
 cases m with
 | zero =>
  obtain rfl:rd=n+1:=by omega
  simp only [iterH] at hfin;repeat with_reducible refine awp_assoc ?_
  refine awp_sr fun K hK=>?_;simp;apply hK;clear hK K;refine awp_seq_k fun K hK=>?_;refine awp_condF rfl (by simp;omega) ?_;refine awp_exit ?_;simp
  exact hend st _ _ _ _ _ _ _ _ _ _ _ _ _ _ _ _ _ hst hfin
 | succ m =>
  have hyes:rd≤n:=by omega
  rw [iterH] at hfin
  repeat with_reducible refine awp_assoc ?_
  refine awp_sr fun K hK=>?_;simp [hyes];apply hK;clear hK K;refine awp_seq_k fun K hK=>?_;refine awp_condT rfl (by simp [hyes]) ?_;refine awp_skip ?_;apply hK;clear hK K;refine awp_seq_k fun K1 hK1=>?_;refine awp_block ?_;refine awp_sr fun K hK=>?_;simp;apply hK;clear hK K;repeat with_reducible refine awp_assoc ?_
  refine awp_sr fun K hK=>?_;simp;apply hK;clear hK K;refine awp_seq_k fun K2 hK2=>?_;refine awp_block ?_
  have hrk:=fun k=>roundH_ok (τ:=τ) (ar:=S.ar) (up:=S.up) hst k
  refine awp_up n (fun k=>Env.ofL [(0,.ref wi 0),(5,intV (n:Int)),(6,.ms (nid H.next 1) 0 n),(7,.ms (nid H.next 0) 0 n),(8,.ms (nid H.next 2) 0 n),(9,intV (rd:Int)),(10,boolV (roundH τ S.ar S.up st k).2),(11,intV (k:Int))])
   (fun k=>HL H [.cells ((roundH τ S.ar S.up st k).1.dp.map nV),.cells ((roundH τ S.ar S.up st k).1.sz.map nV),.cells ((roundH τ S.ar S.up st k).1.dn.map boolV)]) (fun _=>True) (weak_HL hcl rfl (by simp [roundH,low_nl,low_bl]) (by simp [roundH,lt_nid hwl])) trivial (fun k hk _=>?_) (fun _=>?_)
  ·have hs:=hrk k (by omega)
   have e1:roundH τ S.ar S.up st (k+1)=((nodeH τ S.ar S.up (roundH τ S.ar S.up st k).1 k).1,(roundH τ S.ar S.up st k).2 || (nodeH τ S.ar S.up (roundH τ S.ar S.up st k).1 k).2):=rfl
   rw [e1]
   generalize roundH τ S.ar S.up st k=rk at hs ⊢
   obtain ⟨t,mo⟩:=rk
   simp only at hs ⊢
   generalize hN:nodeH τ S.ar S.up t k=r2
   have hsN:HOk n r2.1:=by rw [←hN];exact nodeH_ok hs hk
   clear hend hfin hrk e1
   have hku:k < S.up.length:=by omega
   have hor:=one_rows S.up
   have hgk:=upAt_get hku
   have hel:=upAt_el hku
   obtain ⟨dk,hdk⟩:∃ d,t.dn[k]?=some d:=⟨_,List.getElem?_eq_getElem (by rw [hs.dn];exact hk)⟩
   have hdk2:t.dn.getD k false=dk:=by rw [List.getD_eq_getElem?_getD,hdk];rfl
   repeat with_reducible refine awp_assoc ?_
   refine awp_sr fun K hK=>?_;simp [hk];apply hK;clear hK K;refine awp_seq_k fun K hK=>?_;refine awp_condT rfl (by simp [hk]) ?_;refine awp_skip ?_;apply hK;clear hK K;refine awp_seq_k fun K3 hK3=>?_;refine awp_block ?_;repeat with_reducible refine awp_assoc ?_
   refine awp_sr fun K hK=>?_
   suffices hk2:∀ c:Bool,c=(!(upAt S.up k == k) || dk)→K (Env.ofL [(0,.ref wi 0),(2,.undef),(3,.undef),(4,.undef),(5,intV (n:Int)),(6,.ms (nid H.next 1) 0 n),(7,.ms (nid H.next 0) 0 n),(8,.ms (nid H.next 2) 0 n),(9,intV (rd:Int)),(10,boolV mo),(11,intV (k:Int)),(12,.undef),(13,.undef),(14,.undef),(15,.undef),(16,.undef),(17,.undef),(31,.undef),(36,boolV true),(53,boolV c),(63,.undef),(82,.undef),(90,.undef),(96,.undef),(101,.undef),(115,.undef),(118,.undef),(136,.undef)])
     (HL H [.cells (t.dp.map nV),.cells (t.sz.map nV),.cells (t.dn.map boolV)]) by
    by_cases htop:upAt S.up k=k
    ·rw [htop] at hel
     refine aOps_split 4 fun K hK=>?_;simp [gw];apply hK;clear hK K;refine aOps_split 3 fun K hK=>?_;simp [gu,hku,hor,hel];apply hK;clear hK K;refine aOps_split 3 fun K hK=>?_;simp;apply hK;clear hK K;refine aOps_split 4 fun K hK=>?_;simp [hk,hdk];apply hK;clear hK K;refine aOps_split 1 fun K hK=>?_;simp;apply hK;clear hK K;simp
     exact hk2 _ (by simp [htop])
    ·have htop':¬ ((upAt S.up k:Nat):Int)=(k:Int):=by omega
     refine aOps_split 4 fun K hK=>?_;simp [gw];apply hK;clear hK K;refine aOps_split 3 fun K hK=>?_;simp [gu,hku,hor,hel];apply hK;clear hK K;refine aOps_split 3 fun K hK=>?_;simp [htop'];apply hK;clear hK K;refine aOps_split 4 fun K hK=>?_;simp;apply hK;clear hK K;refine aOps_split 1 fun K hK=>?_;simp;apply hK;clear hK K;simp
     exact hk2 _ (by simp [htop])
   intro c hcd
   apply hK
   clear hK
   cases c
   rotate_left
   ·have hno:nodeH τ S.ar S.up t k=(t,false):=by
     unfold nodeH
     rw [if_neg]
     rintro ⟨h1,h2⟩
     rw [hdk2] at h2
     rw [h1,h2] at hcd
     simp at hcd
    obtain rfl:r2=(t,false):=by rw [←hN,hno]
    refine awp_seq_k fun K hK=>?_;refine awp_condT rfl (by simp) ?_;refine awp_exit ?_;simp
    refine hK3 _ _ ?_
    clear hK3
    refine awp_rk fun K hK=>?_;simp [wrap_succ (show k < 4611686018427387904 by omega)]
    refine hK _ _ ⟨trivial,?_⟩
    refine weak_HL (hcl) (by simp) (by simp [lt_nid hwl,low_nl,low_bl]) (by simp [lt_nid hwl,low_nl,low_bl])
   ·have htop:upAt S.up k=k:=by
     revert hcd;cases hq:(upAt S.up k == k) <;> simp at hq ⊢
     exact fun _=>hq
    have hdk3:dk=false:=by revert hcd;cases dk <;> simp
    subst hdk3
    have hyes2:nodeH τ S.ar S.up t k=(match argScan τ t (S.ar.getD k []) 1 0 with
      | some (s,d)=>(⟨t.sz.set k s,t.dp.set k (d+1),t.dn.set k true⟩,true)
      | none=>(t,false)):=if_pos ⟨htop,hdk2⟩
    rw [hN] at hyes2
    obtain ⟨ak,hak⟩:∃ s,S.ar[k]?=some s:=⟨_,List.getElem?_eq_getElem (by rw [hS.ar];exact hk)⟩
    have eak:S.ar.getD k []=ak:=by rw [List.getD_eq_getElem?_getD,hak];rfl
    have hfk:=hS.few k hk
    have hka:=hS.inn k hk
    rw [eak] at hfk hka hyes2
    refine awp_seq_k fun K hK=>?_;refine awp_condF rfl (by simp) ?_;refine awp_skip ?_;apply hK;clear hK K;refine awp_sr fun K hK=>?_;simp;apply hK;clear hK K;repeat with_reducible refine awp_assoc ?_
    refine awp_sr fun K hK=>?_;simp;apply hK;clear hK K;refine awp_seq_k fun K4 hK4=>?_;refine awp_block ?_
    have hdone:∀ (s d:Nat) (c:Bool) (b15 b16 b63 b82 b90 b96:AV),(c=true→argScan τ t ak 1 0=some (s,d)∧s≤mxN∧d≤cntT t.dn)→(c=false→argScan τ t ak 1 0=none) →
      K4 (Env.ofL [(0,.ref wi 0),(2,.undef),(3,.undef),(4,.undef),(5,intV (n:Int)),(6,.ms (nid H.next 1) 0 n),(7,.ms (nid H.next 0) 0 n),(8,.ms (nid H.next 2) 0 n),(9,intV (rd:Int)),(10,boolV mo),(11,intV (k:Int)),(12,intV (s:Int)),(13,intV (d:Int)),(14,boolV c),(15,b15),(16,b16),(17,.undef),(31,.undef),(36,.undef),(53,.undef),(63,b63),(82,b82),(90,b90),(96,b96),(101,.undef),(115,.undef),(118,.undef),(136,.undef)])
       (HL H [.cells (t.dp.map nV),.cells (t.sz.map nV),.cells (t.dn.map boolV)]):=by
     intro s d c b15 b16 b63 b82 b90 b96 hct hcf
     refine hK4 _ _ ?_
     clear hK4
     refine awp_sr fun K hK=>?_;simp;apply hK;clear hK K
     cases c
     ·rw [hcf rfl] at hyes2
      subst hyes2
      refine awp_condF rfl (by simp) ?_;refine awp_skip ?_
      refine hK3 _ _ ?_
      clear hK3
      refine awp_rk fun K hK=>?_;simp [wrap_succ (show k < 4611686018427387904 by omega)]
      refine hK _ _ ⟨trivial,?_⟩
      refine weak_HL (hcl) (by simp) (by simp [lt_nid hwl,low_nl,low_bl]) (by simp [lt_nid hwl,low_nl,low_bl])
     ·obtain ⟨h1,h2,h3⟩:=hct rfl
      rw [h1] at hyes2
      simp only at hyes2
      subst hyes2
      have hcl3:=cntT_le t.dn
      rw [hs.dn] at hcl3
      have wd:IntKind.i64.wrap ((d:Int)+1)=((d+1:Nat):Int):=wrap_succ (by omega)
      have hkd:k < t.dn.length:=by rw [hs.dn];exact hk
      have hkz:k < t.sz.length:=by rw [hs.sz];exact hk
      have hkp:k < t.dp.length:=by rw [hs.dp];exact hk
      refine awp_condT rfl (by simp) ?_;refine awp_rk fun KR hKR=>?_;refine aOps_split 6 fun K hK=>?_;simp;apply hK;clear hK K;refine aOps_split 3 fun K hK=>?_;simp [wd];apply hK;clear hK K;refine aOps_split 1 fun K hK=>?_;simp [hk];apply hK;clear hK K;refine aOps_split 1 fun K hK=>?_;simp
      refine ⟨by omega,?_⟩
      rw [show List.take k (List.map boolV t.dn)++AV.v (Value.bool true)::List.drop (k+1) (List.map boolV t.dn)=(t.dn.set k true).map boolV from set_map boolV t.dn k true hkd]
      apply hK;clear hK K;refine aOps_split 1 fun K hK=>?_;simp [hk];apply hK;clear hK K;refine aOps_split 1 fun K hK=>?_;simp
      refine ⟨by omega,?_⟩
      rw [show List.take k (List.map nV t.sz)++AV.v (Value.int IntKind.i64 (s:Int))::List.drop (k+1) (List.map nV t.sz)=(t.sz.set k s).map nV from set_map nV t.sz k s hkz]
      apply hK;clear hK K;refine aOps_split 1 fun K hK=>?_;simp [hk];apply hK;clear hK K;refine aOps_split 1 fun K hK=>?_;simp
      refine ⟨by omega,?_⟩
      rw [show List.take k (List.map nV t.dp)++AV.v (Value.int IntKind.i64 ((d:Int)+1))::List.drop (k+1) (List.map nV t.dp)=(t.dp.set k (d+1)).map nV from set_map nV t.dp k (d+1) hkp]
      apply hK;clear hK K;simp
      refine hKR _ _ ?_
      clear hKR
      refine hK3 _ _ ?_
      clear hK3
      refine awp_rk fun K hK=>?_;simp [wrap_succ (show k < 4611686018427387904 by omega)]
      refine hK _ _ ⟨trivial,?_⟩
      refine weak_HL hcl rfl (by simp [low_nl,low_bl,←List.map_set]) (by simp [lt_nid hwl])
    refine awp_loop (fun m2 env H'=>∃ (j s d:Nat),m2=ak.length - j∧j≤ak.length∧argScan τ t ak 1 0=argScan τ t (ak.drop j) s d∧s≤mxN∧d≤cntT t.dn ∧
      env=Env.ofL [(0,.ref wi 0),(5,intV (n:Int)),(6,.ms (nid H.next 1) 0 n),(7,.ms (nid H.next 0) 0 n),(8,.ms (nid H.next 2) 0 n),(9,intV (rd:Int)),(10,boolV mo),(11,intV (k:Int)),(12,intV (s:Int)),(13,intV (d:Int)),(14,boolV true),(15,intV (j:Int))] ∧
      H'=HL H [.cells (t.dp.map nV),.cells (t.sz.map nV),.cells (t.dn.map boolV)])
     ak.length (weak_HL hcl rfl (by simp [low_nl,low_bl]) (by simp [lt_nid hwl])) ⟨0,1,0,by omega,Nat.zero_le _,by simp,by unfold mxN;omega,Nat.zero_le _,rfl,rfl⟩ ?_
    rintro m2 env H' ⟨j,s,d,rfl,hj,hsc,hsm,hdm,rfl,rfl⟩
    by_cases hjl:j < ak.length
    ·obtain ⟨y,hy⟩:∃ y,ak[j]?=some y:=⟨_,List.getElem?_eq_getElem hjl⟩
     have hdr:ak.drop j=y::ak.drop (j+1):=by
      obtain ⟨h1,h2⟩:=List.getElem?_eq_some_iff.1 hy
      rw [List.drop_eq_getElem_cons h1,h2]
     have hyn:y < n:=hka y (List.mem_of_getElem? hy)
     have hty:=hτl y hyn
     have cy:=hτ y hyn
     rw [hdr,argScan] at hsc
     generalize τ y=ty at hty cy hsc
     obtain ⟨dy,hdy⟩:∃ b,t.dn[ty]?=some b:=⟨_,List.getElem?_eq_getElem (by rw [hs.dn];exact hty)⟩
     obtain ⟨sy,hsy⟩:∃ b,t.sz[ty]?=some b:=⟨_,List.getElem?_eq_getElem (by rw [hs.sz];exact hty)⟩
     obtain ⟨py,hpy⟩:∃ b,t.dp[ty]?=some b:=⟨_,List.getElem?_eq_getElem (by rw [hs.dp];exact hty)⟩
     have e1:t.dn.getD ty false=dy:=by rw [List.getD_eq_getElem?_getD,hdy];rfl
     have e2:t.sz.getD ty 0=sy:=by rw [List.getD_eq_getElem?_getD,hsy];rfl
     have e3:t.dp.getD ty 0=py:=by rw [List.getD_eq_getElem?_getD,hpy];rfl
     have hmx:=hs.mx ty
     have hmd:=hs.md ty
     rw [e2] at hmx
     rw [e3] at hmd
     rw [e1,e2,e3] at hsc
     have hcl3:=cntT_le t.dn
     rw [hs.dn] at hcl3
     repeat with_reducible refine awp_assoc ?_
     refine awp_sr fun K hK=>?_;refine aOps_split 5 fun K hK=>?_;simp [gw];apply hK;clear hK K;refine aOps_split 3 fun K hK=>?_;simp [hak,argV];apply hK;clear hK K;simp [hjl];apply hK;clear hK K;refine awp_seq_k fun K hK=>?_;refine awp_condT rfl (by simp [hjl]) ?_;refine awp_skip ?_;apply hK;clear hK K;refine awp_seq_k fun K5 hK5=>?_;refine awp_block ?_;refine awp_sr fun K hK=>?_;refine aOps_split 5 fun K hK=>?_;simp [gw];apply hK;clear hK K;refine aOps_split 3 fun K hK=>?_;simp [hak,argV];apply hK;clear hK K;refine aOps_split 3 fun K hK=>?_;simp [hy];apply hK;clear hK K;refine aOps_call (cy _) (by first | rfl | simp) rfl rfl (by first | (simp;done) | rfl) ?_;simp;apply hK;clear hK K;repeat with_reducible refine awp_assoc ?_
     refine awp_sr fun K hK=>?_;refine aOps_split 4 fun K hK=>?_;simp [hty,hdy];apply hK;clear hK K;simp;apply hK;clear hK K
     cases dy
     ·rw [if_neg (by simp)] at hsc
      refine awp_seq_k fun K hK=>?_;refine awp_condT rfl (by simp) ?_;refine awp_sr fun K hK=>?_;simp;apply hK;clear hK K;refine awp_exit ?_;simp
      exact hdone s d false _ _ _ _ _ _ (fun h=>by cases h) (fun _=>hsc)
     ·rw [if_pos rfl] at hsc
      unfold mxN at hmx hsm
      have ws:IntKind.i64.wrap ((s:Int)+sy)=((s+sy:Nat):Int):=by rw [wrap64 (by omega) (by omega)];omega
      refine awp_seq_k fun K hK=>?_;refine awp_condF rfl (by simp) ?_;refine awp_skip ?_;apply hK;clear hK K;refine awp_sr fun K hK=>?_;refine aOps_split 3 fun K hK=>?_;simp;apply hK;clear hK K;refine aOps_split 2 fun K hK=>?_;simp [hty,hsy];apply hK;clear hK K;simp [ws];apply hK;clear hK K
      have hE:∀ (s2 d2 b90 b96:AV),s2=intV ((min (s+sy) 1099511627776:Nat):Int)→d2=intV ((max d py:Nat):Int)→K5 (Env.ofL [(0,.ref wi 0),(2,.undef),(3,.undef),(4,.undef),(5,intV (n:Int)),(6,.ms (nid H.next 1) 0 n),(7,.ms (nid H.next 0) 0 n),(8,.ms (nid H.next 2) 0 n),(9,intV (rd:Int)),(10,boolV mo),(11,intV (k:Int)),(12,s2),(13,d2),(14,boolV true),(15,intV (j:Int)),(16,nV ty),(17,.undef),(31,.undef),(36,.undef),(53,.undef),(63,boolV true),(82,boolV false),(90,b90),(96,b96),(101,.undef),(115,.undef),(118,.undef),(136,.undef)])
        (HL H [.cells (t.dp.map nV),.cells (t.sz.map nV),.cells (t.dn.map boolV)]):=by
       intro s2 d2 b90 b96 hs2 hd2
       subst hs2 hd2
       refine hK5 _ _ ?_
       clear hK5
       refine awp_rk fun K hK=>?_;simp [wrap_succ (show j < 4611686018427387904 by omega)]
       refine hK _ _ ⟨ak.length - (j+1),_,_,weak_HL hcl rfl (by simp [low_nl,low_bl]) (by simp [lt_nid hwl];exact Wk.refl _),by omega,j+1,min (s+sy) mxN,max d py,rfl,by omega,hsc,Nat.min_le_right _ _,Nat.max_le.2 ⟨hdm,hmd⟩,rfl,rfl⟩
      repeat with_reducible refine awp_assoc ?_
      refine awp_sr fun K hK=>?_;simp;apply hK;clear hK K;refine awp_seq_k fun K6 hK6=>?_
      have hF:∀ (s2 b90:AV),s2=intV ((min (s+sy) 1099511627776:Nat):Int)→K6 (Env.ofL [(0,.ref wi 0),(2,.undef),(3,.undef),(4,.undef),(5,intV (n:Int)),(6,.ms (nid H.next 1) 0 n),(7,.ms (nid H.next 0) 0 n),(8,.ms (nid H.next 2) 0 n),(9,intV (rd:Int)),(10,boolV mo),(11,intV (k:Int)),(12,s2),(13,intV (d:Int)),(14,boolV true),(15,intV (j:Int)),(16,nV ty),(17,.undef),(31,.undef),(36,.undef),(53,.undef),(63,boolV true),(82,boolV false),(90,b90),(96,.undef),(101,.undef),(115,.undef),(118,.undef),(136,.undef)])
        (HL H [.cells (t.dp.map nV),.cells (t.sz.map nV),.cells (t.dn.map boolV)]):=by
       intro s2 b90 hs2
       refine hK6 _ _ ?_
       clear hK6
       refine awp_sr fun K hK=>?_;refine aOps_split 4 fun K hK=>?_;simp [hty,hpy];apply hK;clear hK K;simp;apply hK;clear hK K
       by_cases hpd:d < py
       ·have hpd':(d:Int) < py:=by omega
        refine awp_condT rfl (by simp [hpd]) ?_;refine awp_rk fun K hK=>?_;refine aOps_split 4 fun K hK=>?_;simp [hty,hpy];apply hK;clear hK K;simp;apply hK
        exact hE _ _ _ _ hs2 (by rw [Nat.max_eq_right (by omega)])
       ·refine awp_condF rfl (by simp;omega) ?_;refine awp_skip ?_
        exact hE _ _ _ _ hs2 (by rw [Nat.max_eq_left (by omega)])
      by_cases hbig:1099511627776 < s+sy
      ·have hbig':(1099511627776:Int) < (s:Int)+sy:=by omega
       refine awp_condT rfl (by simp;omega) ?_;refine awp_rk fun K hK=>?_;simp;apply hK
       exact hF _ _ (by rw [Nat.min_eq_right (by omega)];rfl)
      ·refine awp_condF rfl (by simp;omega) ?_;refine awp_skip ?_
       exact hF _ _ (by rw [Nat.min_eq_left (by omega)];simp)
    ·obtain rfl:j=ak.length:=by omega
     rw [List.drop_length] at hsc
     repeat with_reducible refine awp_assoc ?_
     refine awp_sr fun K hK=>?_;refine aOps_split 5 fun K hK=>?_;simp [gw];apply hK;clear hK K;refine aOps_split 3 fun K hK=>?_;simp [hak,argV];apply hK;clear hK K;simp;apply hK;clear hK K;refine awp_seq_k fun K hK=>?_;refine awp_condF rfl (by simp) ?_;refine awp_exit ?_;simp
     exact hdone s d true _ _ _ _ _ _ (fun _=>⟨hsc,hsm,hdm⟩) (fun h=>by cases h)
  ·have hs:=hrk n (Nat.le_refl _)
   have hcontR:(roundH τ S.ar S.up st n).2=true→fin=iterH τ S.ar S.up n m (roundH τ S.ar S.up st n).1:=fun h=>by rw [hfin,if_pos h]
   have hendR:(roundH τ S.ar S.up st n).2=false→fin=(roundH τ S.ar S.up st n).1:=fun h=>by rw [hfin,if_neg (by simp [h])]
   generalize roundH τ S.ar S.up st n=rk at hs hcontR hendR ⊢
   obtain ⟨t,mo⟩:=rk
   simp only at hs hcontR hendR ⊢
   clear hrk hfin
   repeat with_reducible refine awp_assoc ?_
   refine awp_sr fun K hK=>?_;simp;apply hK;clear hK K;refine awp_seq_k fun K hK=>?_;refine awp_condF rfl (by simp) ?_;refine awp_exit ?_;simp
   refine hK2 _ _ ?_
   clear hK2
   refine awp_sr fun K hK=>?_;simp;apply hK;clear hK K
   cases mo
   ·refine awp_condT rfl (by simp) ?_;refine awp_exit ?_;simp
    exact hend t _ _ _ _ _ _ _ _ _ _ _ _ _ _ _ _ _ hs (hendR rfl)
   ·refine awp_condF rfl (by simp) ?_;refine awp_skip ?_
    refine hK1 _ _ ?_
    clear hK1
    refine awp_rk fun K hK=>?_;simp [wrap_succ (show rd < 4611686018427387904 by omega)]
    refine hK _ _ ⟨m,_,_,?_,Nat.lt_succ_self m,rd+1,t,by omega,hs,hcontR rfl,rfl,rfl⟩
    refine weak_HL (hcl) (by simp) (by simp [lt_nid hwl,low_nl,low_bl]) (by simp [lt_nid hwl,low_nl,low_bl])
section
variable (τ:Nat→Nat) (nm:List ByteArray) (ar:List (List Nat)) (names:List ByteArray)
mutual
def treeF:Nat→Nat→Option Ty
 | 0,_=>none
 | f+1,i=>if vrAt nm (τ i)=true then some (.mk (names.getD (τ i) ByteArray.empty) []) else (match treeFL f (ar.getD (τ i) []) with
  | none=>none
  | some l=>some (.mk (nm.getD (τ i) ByteArray.empty) l))
def treeFL:Nat→List Nat→Option (List Ty)
 | 0,_=>none
 | _+1,[]=>some []
 | f+1,i::l=>match treeF f i,treeFL f l with
  | some t,some ts=>some (t::ts)
  | _,_=>none
end
theorem treeFL_at:∀ {f:Nat} {l:List Nat} {ts:List Ty},treeFL τ nm ar names f l=some ts→ts.length=l.length∧∀ (j i:Nat),l[j]?=some i→∃ t g,ts[j]?=some t∧g < f∧treeF τ nm ar names g i=some t:=by
 intro f
 induction f with
 | zero=>intro l ts h;simp [treeFL] at h
 | succ f ih =>
  intro l ts h
  cases l with
  | nil=>simp only [treeFL,Option.some.injEq] at h;subst h;exact ⟨rfl,fun j i h=>by simp at h⟩
  | cons a l =>
   simp only [treeFL] at h
   split at h
   ·rename_i t ts' h1 h2
    simp only [Option.some.injEq] at h
    subst h
    obtain ⟨h3,h4⟩:=ih h2
    refine ⟨by simp [h3],fun j i hi=>?_⟩
    cases j with
    | zero=>simp only [List.getElem?_cons_zero,Option.some.injEq] at hi;subst hi;exact ⟨t,f,rfl,by omega,h1⟩
    | succ j =>
     obtain ⟨t',g,h5,h6,h7⟩:=h4 j i (by simpa using hi)
     exact ⟨t',g,by simpa using h5,by omega,h7⟩
   ·cases h
end
set_option maxHeartbeats 2000000 in
theorem tree_c (wi ni ai ui di:Nat) (S:TmS) (n:Nat) (hS:JoinOk S n) (hw:WfU n S.up) (names:List ByteArray) (hnl:names.length=n):∀ (f i:Nat) (t:Ty),i < n→treeF (topOf S.up) S.nm S.ar names f i=some t→∀ (H:AHeap),Holds H (tmB wi ni ai ui S)→H.get di=some (.cells (names.map strV)) →
  ACalls Tryz.prog 109 [.ref wi 0,nV i,.ms di 0 n] H t.enc H:=by
 intro f
 induction f using Nat.strongRecOn with
 | _ f ih =>
 intro i t hi he H hH hD
 cases f with
 | zero=>simp [treeF] at he
 | succ f =>
 rw [treeF] at he
 have hti:=hw.top_lt hi
 obtain ⟨gw0,gn0,ga0,gu0,_⟩:=id hH
 refine acalls_walk (fun d=>if d=27 then .nilv 2 else if d=55 then .lit else .imm) [0,1,2,6,7,8,14,37] Tryz.mixed Tryz.func109 rfl rfl rfl (by decide) (fun hcl hlow=>?_)
 have hwl:wi < H.next:=(hcl _ _ gw0).1
 have hdl:di < H.next:=(hcl _ _ hD).1
 have gw:∀ bs,(HL H bs).get wi=some (.cells [.slice (S.nm.map fun s=>[strV s]) (some ni),.slice (S.ar.map fun l=>[argV l]) (some ai),.vec ui S.up.length]):=fun bs=>by rw [get_lt hwl];exact gw0
 have gd:∀ bs,(HL H bs).get di=some (.cells (names.map strV)):=fun bs=>by rw [get_lt hdl];exact hD
 have hh:∀ bs,Holds (HL H bs) (tmB wi ni ai ui S):=fun bs=>(holds_HL (fun p hp=>(holds_lt hcl hH p hp))).2 hH
 have ct:=fun bs=>top_of wi ni ai ui S hw i hi _ (hh bs)
 generalize hτ:topOf S.up i=kk at *
 obtain ⟨sk,hsk⟩:∃ s,S.nm[kk]?=some s:=⟨_,List.getElem?_eq_getElem (by rw [hS.nm];exact hti)⟩
 have ek:S.nm.getD kk ByteArray.empty=sk:=by rw [List.getD_eq_getElem?_getD,hsk];rfl
 have cv:=fun bs=>tmVar_c wi ni ai ui S kk sk hsk (hS.one _ (List.mem_of_getElem? hsk)) _ (hh bs)
 unfold vrAt at he
 rw [ek] at he
 refine awp_sr fun K hK=>?_;simp;apply hK;clear hK K;refine awp_sr fun K hK=>?_;refine aOps_split 2 fun K hK=>?_;simp;apply hK;clear hK K;refine aOps_call (ct _) (by first | rfl | simp) rfl rfl (by first | (simp;done) | rfl) ?_;simp;apply hK;clear hK K;repeat with_reducible refine awp_assoc ?_
 refine awp_sr fun K hK=>?_;refine aOps_split 2 fun K hK=>?_;simp;apply hK;clear hK K;refine aOps_call (cv _) (by first | rfl | simp) rfl rfl (by first | (simp;done) | rfl) ?_;simp;apply hK;clear hK K
 cases hv:headP smallB sk
 rotate_left
 ·rw [hv,if_pos rfl] at he
  simp only [Option.some.injEq] at he
  subst he
  obtain ⟨s,hs⟩:∃ s,names[kk]?=some s:=⟨_,List.getElem?_eq_getElem (by rw [hnl];exact hti)⟩
  have es:names.getD kk ByteArray.empty=s:=by rw [List.getD_eq_getElem?_getD,hs];rfl
  rw [es]
  refine awp_seq_k fun K hK=>?_;refine awp_condT rfl (by simp [hv]) ?_;refine awp_sr fun K hK=>?_;simp [gd,hti,hs];apply hK;clear hK K;simp [enc_mk]
  exact ⟨Wk.agg ⟨.refl _,Wk.nilSlice,trivial⟩,reset_all hcl⟩
 rw [hv,if_neg (by simp)] at he
 obtain ⟨ak,hak⟩:∃ s,S.ar[kk]?=some s:=⟨_,List.getElem?_eq_getElem (by rw [hS.ar];exact hti)⟩
 have eak:S.ar.getD kk []=ak:=by rw [List.getD_eq_getElem?_getD,hak];rfl
 have hfk:=hS.few kk hti
 have hka:=hS.inn kk hti
 rw [eak] at hfk hka he
 cases hl:treeFL (topOf S.up) S.nm S.ar names f ak with
 | none=>rw [hl] at he;cases he
 | some ts =>
 rw [hl] at he
 simp only [Option.some.injEq] at he
 subst he
 obtain ⟨hlen,hat⟩:=treeFL_at _ _ _ _ hl
 refine awp_seq_k fun K hK=>?_;refine awp_condF rfl (by simp [hv]) ?_;refine awp_skip ?_;apply hK;clear hK K;refine awp_sr fun K hK=>?_;refine aOps_split 4 fun K hK=>?_;simp [gw];apply hK;clear hK K;refine aOps_split 3 fun K hK=>?_;simp [hsk];apply hK;clear hK K;simp;apply hK;clear hK K;repeat with_reducible refine awp_assoc ?_
 refine awp_sr fun K hK=>?_;simp;apply hK;clear hK K;refine awp_seq_k fun K hK=>?_;refine awp_block ?_
 refine awp_up ak.length (fun k=>Env.ofL [(0,.ref wi 0),(1,nV kk),(2,.ms di 0 n),(6,.ref (nid H.next 0) 0),(7,.ref (nid H.next 2) 0),(8,intV k)]) (fun k=>HL (H) [.cells [strV ByteArray.empty,.v (.slice none 0 0)],.tok k 2 none,.cells [strV sk,.slice ((ts.take k).map Ty.cells) (some (nid H.next 1))]]) (fun k=>True) (weak_HL (hcl) (by simp) ?_ ?_) ?_ (fun k hk hi=>?_) (fun hi=>?_)
 ·simp [lt_nid hwl,lt_nid hdl]
 ·simp [lt_nid hwl,lt_nid hdl]
 ·trivial
 ·obtain ⟨y,hy⟩:∃ y,ak[k]?=some y:=⟨_,List.getElem?_eq_getElem hk⟩
  obtain ⟨ty,g,hty,hg,htr⟩:=hat k y hy
  have hyn:=hka y (List.mem_of_getElem? hy)
  have hc:=fun H hH hD=>ih g (by omega) y ty hyn htr H hH hD
  have e1:(ts.take (k+1)).map Ty.cells=(ts.take k).map Ty.cells++[ty.cells]:=by rw [take_one hty,List.map_append];rfl
  have hkl:(ts.take k).length=k:=by rw [List.length_take];omega
  have hr2:∀ r∈(ts.take k).map Ty.cells,r.length=2:=fun r hr=>by
   obtain ⟨u,_,rfl⟩:=List.mem_map.1 hr
   exact Ty.cells_length u
  have hr2':∀ (r:List AV) (x:Ty),x∈ts.take k→x.cells=r→r.length=2:=fun r x _ h=>by rw [←h];exact Ty.cells_length x
  rw [e1]
  obtain ⟨yn,yl⟩:=ty
  simp only [enc_mk] at hc
  have hnwi:∀ i,¬ wi=nid H.next i:=fun i=>by unfold nid;omega
  have hndi:∀ i,¬ di=nid H.next i:=fun i=>by unfold nid;omega
  repeat with_reducible refine awp_assoc ?_
  refine awp_sr fun K hK=>?_;refine aOps_split 5 fun K hK=>?_;simp [gw];apply hK;clear hK K;refine aOps_split 3 fun K hK=>?_;simp [hak,argV];apply hK;clear hK K;simp [hk];apply hK;clear hK K;refine awp_seq_k fun K hK=>?_;refine awp_condT rfl (by simp [hk]) ?_;refine awp_skip ?_;apply hK;clear hK K;refine awp_seq_k fun K2 hK2=>?_;refine awp_block ?_
  refine awp_drawf 0 16 (fun G=>G.upd (nid H.next 1) (.tok (k+1) 2 none)) [18] [[],[],[0,1],[0,1,2],[0,1,2],[0,1,2],[0,1,2],[0,1,2,3,4,5,6],[0,1,2,3],[0,1,2,3,4],[0,1,2,3,4,5,6,7,8,9],[0,1,2,3,4,5],[0,1,2,3,4,5,6,7],[0,1,2,3,4,5,6,7,8,9,10,11,12],[0,1,3,4,5,6,7,8],[0,1,3,4,5,6,7,8,9,10],[3,4,5,6,7,8,9,10],[],[]] (by kernel_rfl) (by rfl) (by rfl) ?_
  simp only [holes]
  refine fLex_pre (nid H.next 1) 3 (fun G i h=>upd_off G i h) (by rfl) fun K2 hK2=>?_
  simp [oOps,offs,AV.off,Op.operands,Call.operands,regM,litOp,isReg,isLit,noTok]
  refine hK2 _ ?_
  clear hK2 K2
  refine fLex_pre (nid H.next 1) 4 (fun G i h=>upd_off G i h) (by rfl) fun K2 hK2=>?_
  simp [oOps,offs,AV.off,Op.operands,Call.operands,regM,litOp,isReg,isLit,noTok,gw,hnwi]
  refine hK2 _ ?_
  clear hK2 K2
  refine fLex_pre (nid H.next 1) 3 (fun G i h=>upd_off G i h) (by rfl) fun K2 hK2=>?_
  simp [oOps,offs,AV.off,Op.operands,Call.operands,regM,litOp,isReg,isLit,noTok,hak,argV]
  refine hK2 _ ?_
  clear hK2 K2
  refine fLex_pre (nid H.next 1) 4 (fun G i h=>upd_off G i h) (by rfl) fun K2 hK2=>?_
  simp [oOps,offs,AV.off,Op.operands,Call.operands,regM,litOp,isReg,isLit,noTok,hy]
  refine hK2 _ ?_
  clear hK2 K2
  refine fLex_call0 (hc _ (hh _) (gd _)) ?_ (by first | rfl | simp) rfl rfl rfl rfl (by simp) ?_
  ·simp
   exact hc _ (hh _) (gd _)
  refine fLex_pre (nid H.next 1) 1 (fun G i h=>upd_off G i h) (by rfl) fun K2 hK2=>?_
  simp [oOps,offs,AV.off,Op.operands,Call.operands,regM,litOp,isReg,isLit,noTok]
  refine hK2 _ ?_
  clear hK2 K2
  refine fLex_self (v:=.slice ((ts.take k).map Ty.cells++[(Ty.mk yn yl).cells]) (some (nid H.next 1))) rfl rfl ?_ (by simp) ?_
  ·simp [Det,hkl,Ty.cells]
   have hm:min k ts.length=k:=by omega
   rw [hm]
   refine ⟨by omega,rfl,fun r hr=>?_,rfl⟩
   obtain ⟨u,_,rfl⟩:=List.mem_map.1 (List.mem_of_mem_take hr)
   exact Ty.cells_length u
  refine fLex_pre (nid H.next 1) 1 (fun G i h=>upd_off G i h) (by rfl) fun K2 hK2=>?_
  simp [oOps,offs,AV.off,Op.operands,Call.operands,regM,litOp,isReg,isLit,noTok]
  refine hK2 _ ?_
  clear hK2 K2
  refine fLex_effA rfl rfl rfl rfl rfl rfl fun K3 hK3=>?_
  simp
  refine hK3 _ _ (by simp) (by simp [unord]) ?_
  clear hK3
  refine fLex_end ?_
  simp
  refine hK2 _ _ ?_
  clear hK2
  refine awp_rk fun K hK=>?_;simp [wrap_succ (show k < 4611686018427387904 by omega)]
  refine hK _ _ ⟨trivial,?_⟩
  refine weak_HL (hcl) (by simp) (by simp [lt_nid hwl,lt_nid hdl]) (by simp [lt_nid hwl,lt_nid hdl])
 ·rw [List.take_of_length_le (by omega)]
  repeat with_reducible refine awp_assoc ?_
  refine awp_sr fun K hK=>?_;refine aOps_split 5 fun K hK=>?_;simp [gw];apply hK;clear hK K;refine aOps_split 3 fun K hK=>?_;simp [hak,argV];apply hK;clear hK K;simp;apply hK;clear hK K;refine awp_seq_k fun K hK=>?_;refine awp_condF rfl (by simp) ?_;refine awp_exit ?_;simp;clear hK K;apply hK;clear hK K;refine awp_sr fun K hK=>?_;simp;apply hK;clear hK K;simp [enc_mk]
  exact ⟨Wk.agg ⟨.refl _,Wk.tok _ _,trivial⟩,reset_all hcl⟩
end Go.Proofs.YtgeehnbbhnpimaaGreat
namespace Go.Proofs.YtgeehnbbhnpimaaGreat
open Go Go.Abs Go.Proofs
set_option maxRecDepth 20000
attribute [local simp] aOps wantedA aStep aop aLoad aStore aBin aUn aFieldAddr aField aIndexAddr aIndex aLen aBuild aFill aAlloc aAppend aBuildSlice litRows newRows isMut isOwn isNilS nilsW bytesR tokW tokAV tokL ret readC splice aeval isLit isLate AV.celled AV.one AV.ofValue Value.oneCell' Value.cells intOp strOp get_nid upd_nid awp aEnd aResults aResult Det unord isCall isNext
attribute [local simp] low_take low_strs low_comp low_tcomp wkEs_refl' WkBs WkEnv WkB WkL WkE WkO ABlock.low lowO lowL lowR AV.low cellsL_eq Ty.low low_map Ty.cells_length Ty.cells_one
attribute [local simp] low_bind
def Tm0:TmS:=⟨[],[],[]⟩
def varT (s:ByteArray):Ty:=.mk s []
def uVars (a b:Ty):List ByteArray:=namesL [a,b]
def uSeed (a b:Ty):List Nat × TmS:=addL ((uVars a b).map varT) Tm0
def uA (a b:Ty):Nat × TmS:=addT a (uSeed a b).2
def uB (a b:Ty):Nat × TmS:=addT b (uA a b).2
def uS (a b:Ty):TmS:=(uB a b).2
def nameTab (τ:Nat→Nat):List ByteArray→List Nat→List ByteArray→List ByteArray
 | s::vs,i::is,tab=>nameTab τ vs is (if tab.getD (τ i) ByteArray.empty=ByteArray.empty then tab.set (τ i) s else tab)
 | _,_,tab=>tab
theorem nameTab_len (τ:Nat→Nat):∀ (vs:List ByteArray) (is:List Nat) (tab:List ByteArray),(nameTab τ vs is tab).length=tab.length
 | [],_,tab=>by simp [nameTab]
 | _::_,[],tab=>by simp [nameTab]
 | s::vs,i::is,tab=>by
  rw [nameTab,nameTab_len τ vs is]
  split <;> simp
theorem nameTab_append (τ:Nat→Nat):∀ (vs:List ByteArray) (is:List Nat) (ws:List ByteArray) (js:List Nat) (tab:List ByteArray),vs.length=is.length→nameTab τ (vs++ws) (is++js) tab=nameTab τ ws js (nameTab τ vs is tab)
 | [],[],ws,js,tab,_=>by simp [nameTab]
 | [],_::_,_,_,_,h=>by simp at h
 | _::_,[],_,_,_,h=>by simp at h
 | s::vs,i::is,ws,js,tab,h=>by
  simp only [List.cons_append,nameTab]
  exact nameTab_append τ vs is ws js _ (by simpa using h)
def outS:List ByteArray→List Ty→TyM→TyM
 | s::vs,t::ts,out=>outS vs ts (if eqT t (varT s) then out else putS out (s,t))
 | _,_,out=>out
theorem outS_append:∀ (vs:List ByteArray) (ts:List Ty) (ws:List ByteArray) (us:List Ty) (out:TyM),vs.length=ts.length→outS (vs++ws) (ts++us) out=outS ws us (outS vs ts out)
 | [],[],ws,us,out,_=>by simp [outS]
 | [],_::_,_,_,_,h=>by simp at h
 | _::_,[],_,_,_,h=>by simp at h
 | s::vs,t::ts,ws,us,out,h=>by
  simp only [List.cons_append,outS]
  exact outS_append vs ts ws us _ (by simpa using h)
theorem outS_len:∀ (vs:List ByteArray) (ts:List Ty) (out:TyM),(outS vs ts out).length≤out.length+vs.length
 | [],_,out=>by simp [outS]
 | _::_,[],out=>by simp [outS]
 | s::vs,t::ts,out=>by
  rw [outS]
  have:=outS_len vs ts (if eqT t (varT s) then out else putS out (s,t))
  have h2:(if eqT t (varT s) then out else putS out (s,t)).length≤out.length+1:=by split <;> simp [putS_len]
  simp only [List.length_cons];omega
noncomputable def uRes (a b:Ty) (r:List Nat × Bool) (ts:List Ty):TyM × Int :=
 if r.2=false then ([],8)
 else if heightsOk r.1 (heightsS (topOf r.1) (uS a b).ar r.1 (uS a b).nm.length) (uS a b).nm.length=false then ([],10)
 else if (heightsS (topOf r.1) (uS a b).ar r.1 (uS a b).nm.length).sz.getD (topOf r.1 (uA a b).1) 0 > 200∨(heightsS (topOf r.1) (uS a b).ar r.1 (uS a b).nm.length).dp.getD (topOf r.1 (uA a b).1) 0 > 40 then ([],3)
 else (outS (uVars a b) ts [],0)
noncomputable def uTab (a b:Ty) (r:List Nat × Bool):List ByteArray:=nameTab (topOf r.1) (uVars a b) (uSeed a b).1 (List.replicate (uS a b).nm.length ByteArray.empty)
structure UOk (a b:Ty) (r:List Nat × Bool) (ts:List Ty):Prop where
 ga:a.good=true
 gb:b.good=true
 ca:a.cnt≤200
 cb:b.cnt≤200
 sok:JoinOk (uS a b) (uS a b).nm.length
 wf0:WfU (uS a b).nm.length (uS a b).up
 pot:potU (uS a b).ar (uS a b).up < 1099511627776
 xa:(uA a b).1 < (uS a b).nm.length
 xb:(uB a b).1 < (uS a b).nm.length
 xs:∀ i∈(uSeed a b).1,i < (uS a b).nm.length
 run:∃ f,tjF (uS a b).nm (uS a b).ar f [((uA a b).1,(uB a b).1)] (uS a b).up true=some r
 wf:WfU (uS a b).nm.length r.1
 hok:HOk (uS a b).nm.length (heightsS (topOf r.1) (uS a b).ar r.1 (uS a b).nm.length)
 tlen:ts.length=(uSeed a b).1.length
 tcnt:∀ t∈ts,t.cnt < 1099511627776
 trees:r.2=true→heightsOk r.1 (heightsS (topOf r.1) (uS a b).ar r.1 (uS a b).nm.length) (uS a b).nm.length=true→¬ ((heightsS (topOf r.1) (uS a b).ar r.1 (uS a b).nm.length).sz.getD (topOf r.1 (uA a b).1) 0 > 200∨(heightsS (topOf r.1) (uS a b).ar r.1 (uS a b).nm.length).dp.getD (topOf r.1 (uA a b).1) 0 > 40)→∀ (j i:Nat),(uSeed a b).1[j]?=some i→∃ t f,ts[j]?=some t∧treeF (topOf r.1) (uS a b).nm (uS a b).ar (uTab a b r) f i=some t
def uBlk (n0:Nat) (an:ByteArray) (al:List Ty) (bn:ByteArray) (bl:List Ty) (S:TmS):List ABlock:=[.cells [strV an,.slice (al.map Ty.cells) none],.cells [strV bn,.slice (bl.map Ty.cells) none],.tok S.nm.length 1 none,.tok S.ar.length 1 none,.tok S.up.length 1 (some (S.up.map fun i=>[nV i])),.cells [.slice (S.nm.map fun s=>[strV s]) (some (nid n0 2)),.slice (S.ar.map fun l=>[argV l]) (some (nid n0 3)),.vec (nid n0 4) S.up.length]]
theorem uBlk_puts (H:AHeap) (an:ByteArray) (al:List Ty) (bn:ByteArray) (bl:List Ty) (S S':TmS) (rest:List ABlock):puts (HL H (uBlk H.next an al bn bl S++rest)) (tmB (nid H.next 5) (nid H.next 2) (nid H.next 3) (nid H.next 4) S')=HL H (uBlk H.next an al bn bl S'++rest):=by
 simp [uBlk,tmB,puts]
theorem uBlk_holds (H:AHeap) (an:ByteArray) (al:List Ty) (bn:ByteArray) (bl:List Ty) (S:TmS) (rest:List ABlock):Holds (HL H (uBlk H.next an al bn bl S++rest)) (tmB (nid H.next 5) (nid H.next 2) (nid H.next 3) (nid H.next 4) S):=by
 simp [uBlk,tmB,Holds]
theorem low_args (n:Nat) (l:List (List Nat)):lowR n (l.map fun l=>[argV l]):=lowR_map fun l _=>⟨⟨by simp,low_nats n l⟩,trivial⟩
theorem cellsS (n:Nat):(List.range n).map (fun _=>AV.v (Value.string ByteArray.empty))=(List.replicate n ByteArray.empty).map strV:=by
 rw [List.map_replicate]
 rw [List.eq_replicate_iff]
 simp
theorem low_rep (n:Nat) (s:ByteArray):∀ k:Nat,lowL n (List.replicate k (strV s))
 | 0=>trivial
 | k+1=>by rw [List.replicate_succ];exact ⟨trivial,low_rep n s k⟩
theorem low_sl (n:Nat):∀ l:List ByteArray,lowL n (l.map strV)
 | []=>trivial
 | _::l=>⟨trivial,low_sl n l⟩
set_option maxHeartbeats 2000000 in
theorem unifier_c (a b:Ty) (r:List Nat × Bool) (ts:List Ty) (hU:UOk a b r ts) (H:AHeap):ACalls Tryz.prog 72 [a.enc,b.enc] H (.tuple [.slice ((uRes a b r ts).1.map bindC) none,intV (uRes a b r ts).2]) H:=by
 obtain ⟨ga,gb,ca,cb,sok,wf0,pot,xa,xb,xs,⟨fj,hrun⟩,wf,hok,tlen,tcnt,trees⟩:=hU
 have hvl:(uVars a b).length≤400:=by
  have:=names_len [a,b]
  simp only [nodesL,List.append_nil,List.length_append] at this
  unfold uVars;unfold Ty.cnt at ca cb;omega
 have hva:=namesAll_c [a,b] (by simp [ga,gb]) (by simp only [nodesL,List.append_nil,List.length_append];unfold Ty.cnt at ca cb;omega)
 generalize hres:uRes a b r ts=res
 obtain ⟨an,al⟩:=a
 obtain ⟨bn,bl⟩:=b
 refine acalls_walk (fun d=>if d=23 then .nils [(1,false),(1,false),(1,true)] else if d=8 then .nilv 1 else if d=76 then .mut else if d=26 then .lit else .imm) [0,1,2,3,4,5,6,7,8,9,10,11,12,13,14,15,16,17,18,19,20,21,22,31,51,58,72,80,92,103,119] Tryz.mixed Tryz.func72 rfl rfl rfl (by decide) (fun hcl hlow=>?_)
 simp only [enc_mk];refine awp_sr fun K hK=>?_;simp;apply hK;clear hK K;refine awp_sr fun K hK=>?_;simp;apply hK;clear hK K
 have hva':=fun H=>hva H
 simp [Ty.cells,cellsL_eq] at hva'
 have hvv:namesL [Ty.mk an al,Ty.mk bn bl]=uVars (.mk an al) (.mk bn bl):=rfl
 rw [hvv] at hva'
 refine awp_sr fun K hK=>?_;refine aOps_split 3 fun K hK=>?_;simp;apply hK;clear hK K;refine aOps_call (hva' _) (by first | rfl | simp) rfl rfl (by first | (simp;done) | rfl) ?_;simp;apply hK;clear hK K;refine awp_sr fun K hK=>?_;simp;apply hK;clear hK K;repeat with_reducible refine awp_assoc ?_
 refine awp_sr fun K hK=>?_;simp;apply hK;clear hK K
 have hseed:uSeed (.mk an al) (.mk bn bl)=addL ((uVars (.mk an al) (.mk bn bl)).map varT) Tm0:=rfl
 have hev0:Tm0.Even:=⟨rfl,rfl⟩
 have hND:ND (nid H.next 5) (nid H.next 2) (nid H.next 3) (nid H.next 4):=by simp [nid]
 have hinit:[ABlock.cells [strV an,AV.slice (List.map Ty.cells al) none],ABlock.cells [strV bn,AV.slice (List.map Ty.cells bl) none],ABlock.tok 0 1 none,ABlock.tok 0 1 none,ABlock.tok 0 1 (some []),ABlock.cells [AV.slice [] (some (nid H.next 2)),AV.slice [] (some (nid H.next 3)),AV.vec (nid H.next 4) 0],ABlock.tok 0 1 none]=uBlk H.next an al bn bl Tm0++[.tok 0 1 none]:=rfl
 rw [hinit]
 generalize hvs:uVars (.mk an al) (.mk bn bl)=vs at *
 refine awp_seq_k fun K0 hK0=>?_;refine awp_block ?_
 refine awp_up vs.length (fun k=>Env.ofL [(2,.ref (nid H.next 0) 0),(3,.ref (nid H.next 1) 0),(6,.ref (nid H.next 5) 0),(7,strs vs none),(8,.slice ((addL ((vs.map varT).take k) Tm0).1.map fun i=>[nV i]) (some (nid H.next 6))),(9,intV (k:Int))])
  (fun k=>HL H (uBlk H.next an al bn bl (addL ((vs.map varT).take k) Tm0).2++[.tok k 1 none])) (fun _=>True) (weak_HL hcl rfl ?_ ?_) trivial (fun k hk _=>?_) (fun _=>?_)
 ·simp [uBlk,addL,Tm0]
  trivial
 ·simp [addL,uBlk]
 ·obtain ⟨s,hs⟩:∃ s,vs[k]?=some s:=⟨_,List.getElem?_eq_getElem hk⟩
  have hs2:(vs.map varT)[k]?=some (varT s):=by rw [List.getElem?_map,hs];rfl
  have e1:=addL_take hs2 Tm0
  have hev:=addL_even ((vs.map varT).take k) Tm0 hev0
  have hgr:=addL_grow ((vs.map varT).take k) Tm0
  have hll:=addL_len ((vs.map varT).take k) Tm0
  have hnl:(nodesL ((vs.map varT).take k)).length≤400:=by
   have:∀ (l:List ByteArray),(nodesL (l.map varT)).length=l.length:=by
    intro l;induction l with
    | nil=>rfl
    | cons x l ih=>simp [nodesL,varT,Ty.nodes,ih]
   rw [←List.map_take,this,List.length_take];omega
  have hkl:((vs.map varT).take k).length=k:=by rw [List.length_take,List.length_map];omega
  rw [hkl] at hll
  generalize addL ((vs.map varT).take k) Tm0=rk at e1 hev hgr hll ⊢
  generalize addL ((vs.map varT).take (k+1)) Tm0=rk' at e1 ⊢
  subst e1
  obtain ⟨us,Sk⟩:=rk
  simp only at hev hgr hll ⊢
  have h0:Tm0.nm.length=0:=rfl
  have hc:=tmAdd_c (nid H.next 5) (nid H.next 2) (nid H.next 3) (nid H.next 4) hND (varT s) Sk (HL H (uBlk H.next an al bn bl Sk++[.tok k 1 none])) (by simp [varT,Ty.cnt,Ty.nodes,nodesL]) (by simp [varT,Ty.cnt,Ty.nodes,nodesL];omega) hev (uBlk_holds H an al bn bl Sk _)
  rw [uBlk_puts] at hc
  generalize addT (varT s) Sk=rc at hc ⊢
  obtain ⟨y,S'⟩:=rc
  simp only [varT,enc_mk] at hc ⊢;repeat with_reducible refine awp_assoc ?_
  refine awp_sr fun K hK=>?_;simp [hk];apply hK;clear hK K;refine awp_seq_k fun K hK=>?_;refine awp_condT rfl (by simp [hk]) ?_;refine awp_skip ?_;apply hK;clear hK K;refine awp_seq_k fun KB hKB=>?_;refine awp_block ?_;refine awp_sr fun K hK=>?_;refine aOps_split 5 fun K hK=>?_;simp [hs];apply hK;clear hK K;refine aOps_callW hc (by first | rfl | simp) rfl rfl ⟨.refl _,Wk.agg ⟨.refl _,Wk.nilSlice,trivial⟩,trivial⟩ ?_;simp;apply hK;clear hK K;refine awp_rk fun K2 hK2=>?_;simp [uBlk,hll]
  refine ⟨by omega,hK2 _ _ ?_⟩
  clear hK2
  refine hKB _ _ ?_
  clear hKB
  refine awp_rk fun K2 hK2=>?_;simp [wrap_succ (show k < 4611686018427387904 by omega)]
  refine hK2 _ _ ⟨trivial,?_⟩
  refine weak_HL hcl rfl (by simp [uBlk,low_nats,low_args,WkR.refl]) (by simp [uBlk,low_nats,low_strs])
 rw [List.take_of_length_le (by simp)]
 rw [←hseed]
 repeat with_reducible refine awp_assoc ?_
 refine awp_sr fun K hK=>?_;simp;apply hK;clear hK K;refine awp_seq_k fun K hK=>?_;refine awp_condF rfl (by simp) ?_;refine awp_exit ?_;simp
 refine hK0 _ _ ?_
 clear hK0
 have hevS:(uSeed (.mk an al) (.mk bn bl)).2.Even:=by rw [hseed];exact addL_even _ _ hev0
 have hgrS:=addL_grow (vs.map varT) Tm0
 rw [←hseed] at hgrS
 have hnl:(nodesL (vs.map varT)).length≤400:=by
  have:∀ (l:List ByteArray),(nodesL (l.map varT)).length=l.length:=by
   intro l;induction l with
   | nil=>rfl
   | cons x l ih=>simp [nodesL,varT,Ty.nodes,ih]
  rw [this];omega
 have h0:Tm0.nm.length=0:=rfl
 have eA:uA (.mk an al) (.mk bn bl)=addT (.mk an al) (uSeed (.mk an al) (.mk bn bl)).2:=rfl
 have eB:uB (.mk an al) (.mk bn bl)=addT (.mk bn bl) (uA (.mk an al) (.mk bn bl)).2:=rfl
 have eS:uS (.mk an al) (.mk bn bl)=(uB (.mk an al) (.mk bn bl)).2:=rfl
 have eT:uTab (.mk an al) (.mk bn bl) r=nameTab (topOf r.1) vs (uSeed (.mk an al) (.mk bn bl)).1 (List.replicate (uS (.mk an al) (.mk bn bl)).nm.length ByteArray.empty):=by rw [←hvs];rfl
 have eR:uRes (.mk an al) (.mk bn bl) r ts=if r.2=false then ([],8)
  else if heightsOk r.1 (heightsS (topOf r.1) (uS (.mk an al) (.mk bn bl)).ar r.1 (uS (.mk an al) (.mk bn bl)).nm.length) (uS (.mk an al) (.mk bn bl)).nm.length=false then ([],10)
  else if (heightsS (topOf r.1) (uS (.mk an al) (.mk bn bl)).ar r.1 (uS (.mk an al) (.mk bn bl)).nm.length).sz.getD (topOf r.1 (uA (.mk an al) (.mk bn bl)).1) 0 > 200∨(heightsS (topOf r.1) (uS (.mk an al) (.mk bn bl)).ar r.1 (uS (.mk an al) (.mk bn bl)).nm.length).dp.getD (topOf r.1 (uA (.mk an al) (.mk bn bl)).1) 0 > 40 then ([],3)
  else (outS vs ts [],0):=by rw [←hvs];rfl
 rw [hres] at eR
 have hvlen:vs.length=(uSeed (.mk an al) (.mk bn bl)).1.length:=by rw [hseed,addL_len,List.length_map]
 generalize uTab (.mk an al) (.mk bn bl) r=tab0 at *
 generalize uSeed (.mk an al) (.mk bn bl)=seed at *
 obtain ⟨ids,S1⟩:=seed
 simp only at *
 have hgrA:=addT_grow (.mk an al) S1
 have hevA:=addT_even (.mk an al) S1 hevS
 have hcA:=tmAdd_c (nid H.next 5) (nid H.next 2) (nid H.next 3) (nid H.next 4) hND (.mk an al) S1 (HL H (uBlk H.next an al bn bl S1++[.tok vs.length 1 none])) (by omega) (by omega) hevS (uBlk_holds H an al bn bl S1 _)
 rw [uBlk_puts,←eA] at hcA
 rw [←eA] at hgrA hevA
 generalize uA (.mk an al) (.mk bn bl)=ua at *
 obtain ⟨xn,S2⟩:=ua
 simp only at *
 have hgrB:=addT_grow (.mk bn bl) S2
 have hevB:=addT_even (.mk bn bl) S2 hevA
 have hcB:=tmAdd_c (nid H.next 5) (nid H.next 2) (nid H.next 3) (nid H.next 4) hND (.mk bn bl) S2 (HL H (uBlk H.next an al bn bl S2++[.tok vs.length 1 none])) (by omega) (by omega) hevA (uBlk_holds H an al bn bl S2 _)
 rw [uBlk_puts,←eB] at hcB
 rw [←eB] at hgrB hevB
 generalize uS (.mk an al) (.mk bn bl)=S3 at *
 generalize uB (.mk an al) (.mk bn bl)=ub at *
 obtain ⟨yn,S3'⟩:=ub
 simp only at *
 subst eS
 have hcJ:=tmJoin_c (nid H.next 5) (nid H.next 2) (nid H.next 3) (nid H.next 4) hND S3 _ sok wf0 pot xn yn xa xb fj r hrun (HL H (uBlk H.next an al bn bl S3++[.tok vs.length 1 none])) (uBlk_holds H an al bn bl S3 _)
 rw [uBlk_puts] at hcJ
 obtain ⟨up,okJ⟩:=r
 simp only at *
 have hcH:=heights_c (nid H.next 5) (nid H.next 2) (nid H.next 3) (nid H.next 4) hND { S3 with up:=up } S3.nm.length ⟨sok.nm,sok.ar,sok.sz,sok.one,sok.inn,sok.few⟩ wf (HL H (uBlk H.next an al bn bl { S3 with up:=up }++[.tok vs.length 1 none])) (uBlk_holds H an al bn bl { S3 with up:=up } _)
 have hcT:=fun (i:Nat) (hi:i < S3.nm.length) (rest:List ABlock)=>top_of (nid H.next 5) (nid H.next 2) (nid H.next 3) (nid H.next 4) { S3 with up:=up } wf i hi _ (uBlk_holds H an al bn bl { S3 with up:=up } rest)
 simp only [enc_mk,uBlk,List.cons_append,List.nil_append] at hcA hcB hcJ hcH hcT;simp at hcH;simp only [uBlk,List.cons_append,List.nil_append];refine awp_sr fun K hK=>?_;refine aOps_split 1 fun K hK=>?_;simp;apply hK;clear hK K;refine aOps_call (hcA) (by first | rfl | simp) rfl rfl (by first | (simp;done) | rfl) ?_;simp;apply hK;clear hK K;refine awp_sr fun K hK=>?_;refine aOps_split 1 fun K hK=>?_;simp;apply hK;clear hK K;refine aOps_call (hcB) (by first | rfl | simp) rfl rfl (by first | (simp;done) | rfl) ?_;simp;apply hK;clear hK K;repeat with_reducible refine awp_assoc ?_
 refine awp_sr fun K hK=>?_;refine aOps_split 2 fun K hK=>?_;simp;apply hK;clear hK K;refine aOps_call (hcJ) (by first | rfl | simp) rfl rfl (by first | (simp;done) | rfl) ?_;simp;apply hK;clear hK K
 cases okJ
 ·obtain rfl:res=([],8):=by simpa using eR
  refine awp_seq_k fun K hK=>?_;refine awp_condT rfl (by simp) ?_;refine awp_sr fun K hK=>?_;simp;apply hK;clear hK K;simp
  exact ⟨Wk.tuple ⟨Wk.nilSlice,.refl _,trivial⟩,reset_all hcl⟩
 rw [if_neg (by simp)] at eR
 refine awp_seq_k fun K hK=>?_;refine awp_condF rfl (by simp) ?_;refine awp_skip ?_;apply hK;clear hK K
 generalize hst:heightsS (topOf up) S3.ar up S3.nm.length=st at *
 have hτl:=fun (i:Nat) (hi:i < S3.nm.length)=>wf.top_lt hi
 have htree:=fun names hnl f i t hi he G hH hD=>tree_c (nid H.next 5) (nid H.next 2) (nid H.next 3) (nid H.next 4) (nid H.next 9) { S3 with up:=up } S3.nm.length ⟨sok.nm,sok.ar,sok.sz,sok.one,sok.inn,sok.few⟩ wf names hnl f i t hi he G hH hD
 generalize topOf up=τ at *
 refine awp_sr fun K hK=>?_;refine aOps_call (hcH) (by first | rfl | simp) rfl rfl (by first | (simp;done) | rfl) ?_
 cases hok2:heightsOk up st S3.nm.length
 ·rw [hok2,if_pos rfl] at eR
  obtain rfl:res=([],10):=eR
  refine aOps_split 6 fun K hK=>?_;simp;apply hK;clear hK K;simp;apply hK
  clear hK
  repeat with_reducible refine awp_assoc ?_
  refine awp_sr fun K hK=>?_;simp;apply hK;clear hK K;refine awp_seq_k fun K hK=>?_;refine awp_condT rfl (by simp) ?_;refine awp_sr fun K hK=>?_;simp;apply hK;clear hK K;simp
  exact ⟨Wk.tuple ⟨Wk.nilSlice,.refl _,trivial⟩,reset_all hcl⟩
 rw [hok2,if_neg (by simp)] at eR
 refine aOps_split 6 fun K hK=>?_;simp;apply hK;clear hK K;simp;apply hK
 clear hK
 repeat with_reducible refine awp_assoc ?_
 refine awp_sr fun K hK=>?_;simp;apply hK;clear hK K;refine awp_seq_k fun K hK=>?_;refine awp_condF rfl (by simp) ?_;refine awp_skip ?_;apply hK;clear hK K
 obtain ⟨zx,hzx⟩:∃ z,st.sz[τ xn]?=some z:=⟨_,List.getElem?_eq_getElem (by rw [hok.sz];exact hτl xn xa)⟩
 obtain ⟨dx,hdx⟩:∃ z,st.dp[τ xn]?=some z:=⟨_,List.getElem?_eq_getElem (by rw [hok.dp];exact hτl xn xa)⟩
 have ezx:st.sz.getD (τ xn) 0=zx:=by rw [List.getD_eq_getElem?_getD,hzx];rfl
 have edx:st.dp.getD (τ xn) 0=dx:=by rw [List.getD_eq_getElem?_getD,hdx];rfl
 have hxn:=hτl xn xa
 rw [ezx,edx] at eR
 repeat with_reducible refine awp_assoc ?_
 refine awp_sr fun K hK=>?_;refine aOps_split 1 fun K hK=>?_;simp;apply hK;clear hK K;refine aOps_call (hcT xn xa _) (by first | rfl | simp) rfl rfl (by first | (simp;done) | rfl) ?_;simp;apply hK;clear hK K;repeat with_reducible refine awp_assoc ?_
 refine awp_sr fun K hK=>?_;refine aOps_split 4 fun K hK=>?_;simp [hxn,hzx];apply hK;clear hK K
 by_cases h1:200 < zx
 ·rw [if_pos (Or.inl h1)] at eR
  obtain rfl:res=([],3):=eR
  have h1i:(200:Int) < zx:=by omega
  refine aOps_split 3 fun K hK=>?_;simp [h1i];apply hK;clear hK K;refine aOps_split 4 fun K hK=>?_;simp [h1i];apply hK;clear hK K;simp;apply hK;clear hK K;refine awp_seq_k fun K hK=>?_;refine awp_condT rfl (by simp) ?_;refine awp_sr fun K hK=>?_;simp;apply hK;clear hK K;simp
  exact ⟨Wk.tuple ⟨Wk.nilSlice,.refl _,trivial⟩,reset_all hcl⟩
 have h1i:¬ (200:Int) < zx:=by omega
 refine aOps_split 3 fun K hK=>?_;simp [h1i];apply hK;clear hK K;refine aOps_split 4 fun K hK=>?_;simp [hxn,hdx];apply hK;clear hK K
 by_cases h2:40 < dx
 ·rw [if_pos (Or.inr h2)] at eR
  obtain rfl:res=([],3):=eR
  have h2i:(40:Int) < dx:=by omega
  simp [h2i];apply hK;clear hK K;refine awp_seq_k fun K hK=>?_;refine awp_condT rfl (by simp) ?_;refine awp_sr fun K hK=>?_;simp;apply hK;clear hK K;simp
  exact ⟨Wk.tuple ⟨Wk.nilSlice,.refl _,trivial⟩,reset_all hcl⟩
 rw [if_neg (by omega)] at eR
 have h2i:¬ (40:Int) < dx:=by omega
 subst eR
 simp [h2i];apply hK;clear hK K;refine awp_seq_k fun K hK=>?_;refine awp_condF rfl (by simp) ?_;refine awp_skip ?_;apply hK;clear hK K
 have hn3:=sok.nm
 have hsz:=sok.sz
 refine awp_sr fun K hK=>?_;simp [aMakeSlice,isMut,Nat.mod_one]
 refine ⟨by omega,by omega,hK _ _ ?_⟩
 clear hK K hcA hcB hcJ hcH hva hva' hinit pot
 rw [cellsS]
 repeat with_reducible refine awp_assoc ?_
 refine awp_sr fun K hK=>?_;simp;apply hK;clear hK K
 have hxs:∀ (k i:Nat),ids[k]?=some i→i < S3.nm.length:=fun k i h=>xs i (List.mem_of_getElem? h)
 refine awp_seq_k fun K0 hK0=>?_;refine awp_block ?_
 refine awp_up vs.length (fun k=>Env.ofL [(2,.ref (nid H.next 0) 0),(3,.ref (nid H.next 1) 0),(6,.ref (nid H.next 5) 0),(7,strs vs none),(8,.slice (ids.map fun i=>[nV i]) (some (nid H.next 6))),(17,.ms (nid H.next 9) 0 S3.nm.length),(18,intV (k:Int))])
  (fun k=>HL H (uBlk H.next an al bn bl { S3 with up:=up }++[.tok vs.length 1 none,.cells (st.dp.map nV),.cells (st.sz.map nV),.cells ((nameTab τ (vs.take k) (ids.take k) (List.replicate S3.nm.length ByteArray.empty)).map strV)])) (fun _=>True) (weak_HL hcl rfl ?_ ?_) trivial (fun k hk _=>?_) (fun _=>?_)
 ·simp [uBlk,low_nats,low_args,low_strs,low_nl,WkR.refl,nameTab,low_rep]
 ·simp [uBlk,low_nats,low_strs]
 ·obtain ⟨s,hs⟩:∃ s,vs[k]?=some s:=⟨_,List.getElem?_eq_getElem hk⟩
  obtain ⟨i,hi⟩:∃ s,ids[k]?=some s:=⟨_,List.getElem?_eq_getElem (by omega)⟩
  have hin:=hxs k i hi
  have e1:nameTab τ (vs.take (k+1)) (ids.take (k+1)) (List.replicate S3.nm.length ByteArray.empty)=nameTab τ [s] [i] (nameTab τ (vs.take k) (ids.take k) (List.replicate S3.nm.length ByteArray.empty)):=by
   rw [take_one hs,take_one hi,nameTab_append _ _ _ _ _ _ (by simp;omega)]
  have hlt:=nameTab_len τ (vs.take k) (ids.take k) (List.replicate S3.nm.length ByteArray.empty)
  rw [List.length_replicate] at hlt
  rw [e1]
  generalize nameTab τ (vs.take k) (ids.take k) (List.replicate S3.nm.length ByteArray.empty)=tab at hlt ⊢
  have hti:=hτl i hin
  obtain ⟨w,hw⟩:∃ s,tab[τ i]?=some s:=⟨_,List.getElem?_eq_getElem (by omega)⟩
  have ew:tab.getD (τ i) ByteArray.empty=w:=by rw [List.getD_eq_getElem?_getD,hw];rfl
  simp only [nameTab,ew];simp only [uBlk,List.cons_append,List.nil_append];repeat with_reducible refine awp_assoc ?_
  refine awp_sr fun K hK=>?_;simp [hk];apply hK;clear hK K;refine awp_seq_k fun K hK=>?_;refine awp_condT rfl (by simp [hk]) ?_;refine awp_skip ?_;apply hK;clear hK K;refine awp_seq_k fun KB hKB=>?_;refine awp_block ?_;refine awp_sr fun K hK=>?_;refine aOps_split 4 fun K hK=>?_;simp [hi];apply hK;clear hK K;refine aOps_call (hcT i hin _) (by first | rfl | simp) rfl rfl (by first | (simp;done) | rfl) ?_;simp;apply hK;clear hK K;refine awp_sr fun K hK=>?_;refine aOps_split 4 fun K hK=>?_;simp [hti,hw];apply hK;clear hK K;simp;apply hK;clear hK K
  by_cases hw0:w=ByteArray.empty
  ·subst hw0
   refine awp_condT rfl (by simp;rfl) ?_;refine awp_rk fun K hK=>?_;refine aOps_split 4 fun K hK=>?_;simp [hs];apply hK;clear hK K;refine aOps_split 3 fun K hK=>?_;simp [hti,hs];apply hK;clear hK K;simp [hti,hlt]
   rw [set_map strV _ _ _ (by omega)]
   refine ⟨by omega,hK _ _ ?_⟩
   refine hKB _ _ ?_
   clear hKB hK K
   refine awp_rk fun K2 hK2=>?_;simp [wrap_succ (show k < 4611686018427387904 by omega)]
   refine hK2 _ _ ⟨trivial,?_⟩
   refine weak_HL hcl rfl ?_ (by simp [uBlk,low_nats,low_strs])
   simp [uBlk,low_nats,low_args,low_strs,low_nl,low_sl,WkR.refl]
   rw [←List.map_set]
   exact low_sl _ _
  ·refine awp_condF rfl (by simp;exact hw0) ?_;refine awp_skip ?_
   refine hKB _ _ ?_
   clear hKB
   refine awp_rk fun K2 hK2=>?_;simp [wrap_succ (show k < 4611686018427387904 by omega)]
   refine hK2 _ _ ⟨trivial,?_⟩
   rw [if_neg hw0]
   refine weak_HL hcl rfl ?_ (by simp [uBlk,low_nats,low_strs])
   simp [uBlk,low_nats,low_args,low_strs,low_nl,low_sl,WkR.refl]
 rw [List.take_of_length_le (by omega),List.take_of_length_le (by omega),←eT]
 repeat with_reducible refine awp_assoc ?_
 refine awp_sr fun K hK=>?_;simp;apply hK;clear hK K;refine awp_seq_k fun K hK=>?_;refine awp_condF rfl (by simp) ?_;refine awp_exit ?_;simp
 refine hK0 _ _ ?_
 clear hK0
 have htl:tab0.length=S3.nm.length:=by rw [eT,nameTab_len,List.length_replicate]
 refine awp_sr fun K hK=>?_;simp;apply hK;clear hK K
 have hvl4:vs.length≤400:=hvl
 repeat with_reducible refine awp_assoc ?_
 refine awp_sr fun K hK=>?_;simp;apply hK;clear hK K;refine awp_seq_k fun K0 hK0=>?_;refine awp_block ?_
 refine awp_up vs.length (fun k=>Env.ofL [(2,.ref (nid H.next 0) 0),(3,.ref (nid H.next 1) 0),(6,.ref (nid H.next 5) 0),(7,strs vs none),(8,.slice (ids.map fun i=>[nV i]) (some (nid H.next 6))),(17,.ms (nid H.next 9) 0 S3.nm.length),(20,.slice ((outS (vs.take k) (ts.take k) []).map bindC) none),(21,intV (k:Int))])
  (fun k=>HL H (uBlk H.next an al bn bl { S3 with up:=up }++[.tok vs.length 1 none,.cells (st.dp.map nV),.cells (st.sz.map nV),.cells (tab0.map strV)])) (fun _=>True) (weak_HL hcl rfl ?_ ?_) trivial (fun k hk _=>?_) (fun _=>?_)
 ·simp [uBlk,low_nats,low_args,low_strs,low_nl,low_sl,WkR.refl,outS]
 ·simp [uBlk,low_nats,low_strs]
  exact Wk.nilSlice
 ·obtain ⟨s,hs⟩:∃ s,vs[k]?=some s:=⟨_,List.getElem?_eq_getElem hk⟩
  obtain ⟨i,hi⟩:∃ s,ids[k]?=some s:=⟨_,List.getElem?_eq_getElem (by omega)⟩
  have hin:=hxs k i hi
  obtain ⟨t,f,ht,htr⟩:=trees rfl hok2 (by rw [ezx,edx];omega) k i hi
  have htc:=tcnt t (List.mem_of_getElem? ht)
  have e1:outS (vs.take (k+1)) (ts.take (k+1)) []=outS [s] [t] (outS (vs.take k) (ts.take k) []):=by
   rw [take_one hs,take_one ht,outS_append _ _ _ _ _ (by simp;omega)]
  have hol:=outS_len (vs.take k) (ts.take k) []
  rw [e1]
  generalize outS (vs.take k) (ts.take k) []=out at hol ⊢
  simp at hol
  have hc1:=htree tab0 htl f i t hin htr (HL H (uBlk H.next an al bn bl { S3 with up:=up }++[.tok vs.length 1 none,.cells (st.dp.map nV),.cells (st.sz.map nV),.cells (tab0.map strV)])) (uBlk_holds H an al bn bl { S3 with up:=up } _) (by simp [uBlk])
  have hc2:=same_c t (varT s) (by omega)
  have hc3:=rput_c out (s,t) (by omega)
  have hout:outS [s] [t] out=if eqT t (varT s) then out else putS out (s,t):=rfl
  generalize outS [s] [t] out=out2 at hout ⊢
  obtain ⟨tn,tl⟩:=t
  simp only [uBlk,List.cons_append,List.nil_append,varT,enc_mk,bind_mk,Ty.cells,cellsL_eq] at hc1 hc2 hc3 ⊢;repeat with_reducible refine awp_assoc ?_
  refine awp_sr fun K hK=>?_;simp [hk];apply hK;clear hK K;refine awp_seq_k fun K hK=>?_;refine awp_condT rfl (by simp [hk]) ?_;refine awp_skip ?_;apply hK;clear hK K;refine awp_seq_k fun KB hKB=>?_;refine awp_block ?_;refine awp_sr fun K hK=>?_;refine aOps_split 5 fun K hK=>?_;simp [hi];apply hK;clear hK K;refine aOps_call (hc1) (by first | rfl | simp) rfl rfl (by first | (simp;done) | rfl) ?_;refine aOps_split 1 fun K hK=>?_;simp;apply hK;clear hK K;simp;apply hK;clear hK K;refine awp_sdc [] [[],[0],[0,1],[0],[0],[0],[1,2],[1,2,3]] (by kernel_rfl) (by rfl) fun K hK=>?_;refine aCalm_pre 3 (by rfl) fun K hK=>?_;simp [hs];apply hK;clear hK K;refine aCalm_pre 3 (by rfl) fun K hK=>?_;simp [hs];apply hK;clear hK K;refine aCalm_call0W (hc2 _) (by first | rfl | simp) rfl rfl rfl ⟨.refl _,Wk.agg ⟨.refl _,Wk.nilSlice,trivial⟩,trivial⟩ ?_;refine aCalm_pre 1 (by rfl) fun K hK=>?_;simp;apply hK;clear hK K;refine aCalm_end ?_;simp;apply hK;clear hK K
  by_cases hq:eqT (.mk tn tl) (.mk s [])=true
  ·obtain rfl:out2=out:=by rw [hout];exact if_pos hq
   refine awp_condF rfl (by simp [hq]) ?_;refine awp_skip ?_
   refine hKB _ _ ?_
   clear hKB
   refine awp_rk fun K2 hK2=>?_;simp [wrap_succ (show k < 4611686018427387904 by omega)]
   refine hK2 _ _ ⟨trivial,?_⟩
   refine weak_HL hcl rfl (by simp [uBlk,low_nats,low_args,low_strs,low_nl,low_sl,WkR.refl]) (by simp [uBlk,low_nats,low_strs,Wk.refl])
  ·obtain rfl:out2=putS out (s,.mk tn tl):=by rw [hout];exact if_neg hq
   refine awp_condT rfl (by simp [hq]) ?_
   refine awp_drawc [] [[],[0],[0,1],[0],[0],[0,1,2,3,4],[0],[1,2],[]] (by kernel_rfl) (by rfl) ?_
   refine aCalm_pre 3 (by rfl) fun K hK=>?_;simp [hs];apply hK;clear hK K;refine aCalm_pre 4 (by rfl) fun K hK=>?_;simp [hs];apply hK;clear hK K;refine aCalm_call0 (hc3 _) (by first | rfl | simp) rfl rfl rfl (by first | (simp;done) | rfl) ?_;refine aCalm_pre 1 (by rfl) fun K hK=>?_;simp;apply hK;clear hK K;refine aCalm_end ?_;simp
   refine hKB _ _ ?_
   clear hKB
   refine awp_rk fun K2 hK2=>?_;simp [wrap_succ (show k < 4611686018427387904 by omega)]
   refine hK2 _ _ ⟨trivial,?_⟩
   refine weak_HL hcl rfl (by simp [uBlk,low_nats,low_args,low_strs,low_nl,low_sl,WkR.refl]) (by simp [uBlk,low_nats,low_strs,Wk.refl])
 rw [List.take_of_length_le (by omega),List.take_of_length_le (by omega)]
 repeat with_reducible refine awp_assoc ?_
 refine awp_sr fun K hK=>?_;simp;apply hK;clear hK K;refine awp_seq_k fun K hK=>?_;refine awp_condF rfl (by simp) ?_;refine awp_exit ?_;simp
 refine hK0 _ _ ?_
 clear hK0
 refine awp_sr fun K hK=>?_;simp;apply hK;clear hK K;simp
 exact reset_all hcl
end Go.Proofs.YtgeehnbbhnpimaaGreat
