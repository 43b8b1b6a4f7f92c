/- Whether a class stands within its own type. -/
import Derived.Test.YtgeehnbbhnpimaaGreatMW4
set_option linter.unusedVariables false
set_option linter.unusedSimpArgs false
namespace Go.Proofs.YtgeehnbbhnpimaaGreat
open Go Go.Abs Go.Proofs
set_option maxRecDepth 20000
attribute [local simp] aOps wantedA aStep aop aLoad aStore aBin aUn aFieldAddr aField aIndexAddr aIndex aLen aBuild aFill aAlloc aAppend aBuildSlice litRows newRows isMut isOwn isNilS nilsW bytesR tokW tokAV tokL ret readC splice aeval isLit isLate AV.celled AV.one AV.ofValue Value.oneCell' Value.cells intOp strOp get_nid upd_nid awp aEnd aResults aResult Det unord isCall isNext
attribute [local simp] low_take low_strs low_comp low_tcomp wkEs_refl' WkBs WkEnv WkB WkL WkE WkO ABlock.low lowO lowL lowR AV.low cellsL_eq Ty.low low_map Ty.cells_length Ty.cells_one
attribute [local simp] low_bind GC_next
abbrev Sts:=List (ByteArray × Bool)
def bV (b:Bool):AV:=intV (if b then 2 else 1)
theorem low_bV (n:Nat) (x:Bool):(bV x).low n:=trivial
theorem low_gb (n:Nat) (l:Sts):lowEs n (gEs bV l):=low_g low_bV n l
theorem putG_len {α:Type} (m:List (ByteArray × α)) (s:ByteArray) (t:α):(putG m s t).length=if (lookG m s).isSome then m.length else m.length+1:=by
 induction m with
 | nil=>rfl
 | cons p m ih =>
  rw [lookG_cons]
  by_cases h:s=p.1
  ·simp [putG,h]
  ·simp only [putG,if_neg h,List.length_cons,ih]
   split <;> rfl
theorem aVer_put {α:Type} (f:α→AV) (m:List (ByteArray × α)) (s:ByteArray) (t:α):aVer (gEs f m) (.string s) m.length true=(putG m s t).length:=by
 rw [aVer_g,putG_len]
 cases (lookG m s).isSome <;> rfl
mutual
def inF (c:Cl):Nat→Sts→ByteArray→Option (Bool × Sts)
 | 0,_,_=>none
 | f+1,st,s=>(match topF c.up f s with
  | none=>none
  | some s=>(match lookG st s with
   | some b=>some (!b,st)
   | none=>(match lookT c.is s with
    | none=>some (false,putG (putG st s false) s true)
    | some t=>(match inL c f (putG st s false) (namesL [t]) with
     | none=>none
     | some (true,st')=>some (true,st')
     | some (false,st')=>some (false,putG st' s true)))))
def inL (c:Cl):Nat→Sts→List ByteArray→Option (Bool × Sts)
 | 0,_,_=>none
 | _+1,st,[]=>some (false,st)
 | f+1,st,v::vs=>(match inF c f st v with
  | none=>none
  | some (true,st')=>some (true,st')
  | some (false,st')=>inL c f st' vs)
end
theorem cells_eq (t:Ty):t.cells=[strV t.name,.slice (t.args.map Ty.cells) none]:=by cases t;simp [Ty.cells,cellsL_eq,Ty.name,Ty.args]
set_option maxRecDepth 10000 in
theorem in_c (I:Ids) (hI:I.L.Nodup) (xi yi zi mi:Nat) (hmi:mi ∉ I.L∧xi≠mi∧yi≠mi∧zi≠mi) (c:Cl) (hsl:∀ p∈c.is,p.2.cnt < 1099511627776):∀ (f:Nat) (st:Sts) (s:ByteArray) (r:Bool) (st':Sts) (H:AHeap),
  inF c f st s=some (r,st')→Holds H (clB I c)→H.get xi=some (.cells [.ref I.c 0])→H.get yi=some (.cells [.map mi])→H.get zi=some (.cells [.fn 103 [.ref xi 0,.ref yi 0,.ref zi 0]])→H.get mi=some (.amap (gEs bV st) st.length) →
  ACalls Tryz.prog 103 [strV s,.ref xi 0,.ref yi 0,.ref zi 0] H (boolV r) (H.upd mi (.amap (gEs bV st') st'.length)):=by
 intro f
 induction f using Nat.strongRecOn with
 | _ f ih =>
 intro st s r st' H he hH hx hy hz hm
 cases f with
 | zero=>simp [inF] at he
 | succ f =>
 have htop:=fun s r hf H hH=>top_c I hI c s r f hf H hH
 have e0:GC I H c=H:=GC_self hH
 refine acalls_walk (fun _=>.imm) [0,1,2,3,5,6,7,9,15,16,18,31,34,35,36,37,42] Tryz.mixed Tryz.func103 rfl rfl rfl (by decide) (fun hcl hlow=>?_)
 have hlt:∀ x∈I.L,x < H.next:=by
  have:=holds_lt hcl hH
  intro x hx
  rw [←clB_ids I c] at hx
  obtain ⟨p,hp,rfl⟩:=List.mem_map.1 hx
  exact this p hp
 have hml:mi < H.next:=(hcl _ _ hm).1
 have hxl:xi < H.next:=(hcl _ _ hx).1
 have hyl:yi < H.next:=(hcl _ _ hy).1
 have hzl:zi < H.next:=(hcl _ _ hz).1
 have hcni:I.c≠mi:=fun e=>hmi.1 (by rw [←e];simp [Ids.L])
 have hini:I.i≠mi:=fun e=>hmi.1 (by rw [←e];simp [Ids.L])
 have hg:=fun bs=>(GC_get (H:=H) (c:=c) hI hlt bs)
 rw [e0] at hg
 have hil:I.c < H.next:=hlt _ (by simp [Ids.L])
 have hiil:I.i < H.next:=hlt _ (by simp [Ids.L])
 have g1:∀ b bs,(HL (H.upd mi b) bs).get I.c=_:=fun b bs=>(upd_get hcni hil).trans (hg bs).1
 have g4:∀ b bs,(HL (H.upd mi b) bs).get I.i=_:=fun b bs=>(upd_get hini hiil).trans (hg bs).2.2.2.1
 have gm:∀ b bs,(HL (H.upd mi b) bs).get mi=some b:=fun b bs=>by rw [get_lt (by exact hml)];exact get_upd_self
 have gx:∀ b bs,(HL (H.upd mi b) bs).get xi=some (.cells [.ref I.c 0]):=fun b bs=>(upd_get hmi.2.1 hxl).trans (by rw [get_lt hxl];exact hx)
 have gy:∀ b bs,(HL (H.upd mi b) bs).get yi=some (.cells [.map mi]):=fun b bs=>(upd_get hmi.2.2.1 hyl).trans (by rw [get_lt hyl];exact hy)
 have gz:∀ b bs,(HL (H.upd mi b) bs).get zi=some (.cells [.fn 103 [.ref xi 0,.ref yi 0,.ref zi 0]]):=fun b bs=>(upd_get hmi.2.2.2 hzl).trans (by rw [get_lt hzl];exact hz)
 have hh:∀ b bs,Holds (HL (H.upd mi b) bs) (clB I c):=fun b bs=>(holds_HL (by intro p hp;exact (clB_low hlt c p hp).1)).2 (holds_upd_ne (by rw [clB_ids];exact hmi.1) hH)
 have hcu:∀ z v,(H.upd mi (.amap (gEs bV z) v)).Closed:=fun z v=>closed_upd hcl hml (low_gb _ _)
 have um:∀ b b' bs,(HL (H.upd mi b) bs).upd mi b'=HL (H.upd mi b') bs:=fun b b' bs=>by rw [upd_lt (by exact hml),upd_upd]
 have hself:HL H []=HL (H.upd mi (.amap (gEs bV st) st.length)) []:=by rw [upd_same hm]
 rw [hself]
 simp only [inF] at he
 cases ht:topF c.up f s with
 | none=>rw [ht] at he;cases he
 | some s' =>
 rw [ht] at he
 simp only at he
 have ht2:=fun b bs=>htop _ _ ht _ (hh b bs)
 refine awp_sr fun K hK=>?_;simp;apply hK;clear hK K;refine awp_sr fun K hK=>?_;refine aOps_split 2 fun K hK=>?_;simp [gx];apply hK;clear hK K;refine aOps_call (ht2 _ _) (by first | rfl | simp) rfl rfl (by first | (simp;done) | rfl) ?_;simp;apply hK;clear hK K
 clear ht ht2
 cases hl:lookG st s' with
 | some b =>
  rw [hl] at he
  simp only [Option.some.injEq,Prod.mk.injEq] at he
  obtain ⟨rfl,rfl⟩:=he
  have e1:aLook (gEs bV st) (.string s')=some (bV b):=by rw [aLook_g,hl];rfl
  cases b
  ·repeat with_reducible refine awp_assoc ?_
   refine awp_sr fun K hK=>?_;simp [aLookup,gy,gm,keys_g,keyOk,e1,bV];apply hK;clear hK K;refine awp_seq_k fun K hK=>?_;refine awp_block ?_;refine awp_sr fun K hK=>?_;simp;apply hK;clear hK K;refine awp_condT rfl (by simp) ?_;refine awp_sr fun K hK=>?_;simp;apply hK;clear hK K;simp [reset_all (hcu _ _)]
  ·repeat with_reducible refine awp_assoc ?_
   refine awp_sr fun K hK=>?_;simp [aLookup,gy,gm,keys_g,keyOk,e1,bV];apply hK;clear hK K;refine awp_seq_k fun K hK=>?_;refine awp_block ?_;refine awp_sr fun K hK=>?_;simp;apply hK;clear hK K;refine awp_condF rfl (by simp) ?_;refine awp_sr fun K hK=>?_;simp;apply hK;clear hK K;refine awp_condT rfl (by simp) ?_;refine awp_sr fun K hK=>?_;simp;apply hK;clear hK K;simp [reset_all (hcu _ _)]
 | none =>
 rw [hl] at he
 simp only at he
 have e1:aLook (gEs bV st) (.string s')=none:=by rw [aLook_g,hl];rfl
 have e2:aPut (gEs bV st) (.string s') (intV 1)=gEs bV (putG st s' false):=aPut_g bV _ _ false
 have e3:aVer (gEs bV st) (.string s') st.length true=(putG st s' false).length:=aVer_put _ _ _ _
 have e4:∀ st1,aPut (gEs bV st1) (.string s') (intV 2)=gEs bV (putG st1 s' true):=fun st1=>aPut_g bV _ _ true
 have e5:∀ st1,aVer (gEs bV st1) (.string s') st1.length true=(putG st1 s' true).length:=fun st1=>aVer_put _ _ _ _
 repeat with_reducible refine awp_assoc ?_
 refine awp_sr fun K hK=>?_;simp [aLookup,gy,gm,keys_g,keyOk,e1];apply hK;clear hK K;refine awp_seq_k fun K hK=>?_;refine awp_block ?_;refine awp_sr fun K hK=>?_;simp;apply hK;clear hK K;refine awp_condF rfl (by simp) ?_;refine awp_sr fun K hK=>?_;simp;apply hK;clear hK K;refine awp_condF rfl (by simp) ?_;refine awp_skip ?_;apply hK;clear hK K;refine awp_sr fun K hK=>?_;simp [aMapUpdate,gy,gm,keys_g,keyOk,e2,e3,um];apply hK;clear hK K
 generalize hst1:putG st s' false=st1 at *
 cases hk:lookT c.is s' with
 | none =>
  rw [hk] at he
  simp only [Option.some.injEq,Prod.mk.injEq] at he
  obtain ⟨rfl,rfl⟩:=he
  repeat with_reducible refine awp_assoc ?_
  refine awp_sr fun K hK=>?_;simp [gx,aLookup,g1,g4,keys_ty,keyOk,aLook_ty,hk];apply hK;clear hK K;repeat with_reducible refine awp_assoc ?_
  refine awp_sr fun K hK=>?_;simp;apply hK;clear hK K;refine awp_seq_k fun K hK=>?_;refine awp_condF rfl (by simp) ?_;refine awp_skip ?_;apply hK;clear hK K;refine awp_sr fun K hK=>?_;simp [aMapUpdate,gy,gm,keys_g,keyOk,e4,e5,um];apply hK;clear hK K;refine awp_sr fun K hK=>?_;simp;apply hK;clear hK K;simp [reset_all (hcu _ _)]
 | some t =>
  rw [hk] at he
  simp only at he
  have htc:=hsl _ (lookT_mem hk)
  simp only at htc
  cases hL:inL c f st1 (namesL [t]) with
  | none=>rw [hL] at he;cases he
  | some q =>
  obtain ⟨rb,st2⟩:=q
  rw [hL] at he
  have hnc:=names_c [t] (by simpa [nodesL,Ty.cnt] using htc)
  have hnl:=names_len [t]
  have hnl2:(nodesL [t]).length < 1099511627776:=by simpa [nodesL,Ty.cnt] using htc
  generalize namesL [t]=ns at *
  repeat with_reducible refine awp_assoc ?_
  refine awp_sr fun K hK=>?_;simp [gx,aLookup,g1,g4,keys_ty,keyOk,aLook_ty,hk,enc_eq];apply hK;clear hK K;repeat with_reducible refine awp_assoc ?_
  refine awp_sr fun K hK=>?_;simp;apply hK;clear hK K;refine awp_seq_k fun K hK=>?_;refine awp_condT rfl (by simp) ?_;simp only [List.map_cons,List.map_nil,cells_eq] at hnc;refine awp_sr fun K hK=>?_;refine aOps_split 2 fun K hK=>?_;simp;apply hK;clear hK K;refine aOps_callW (hnc _) (by first | rfl | simp) rfl rfl (by simp) ?_;simp;apply hK;clear hK K;refine awp_block ?_
  refine awp_loop (fun j env H'=>∃ (k g:Nat) (sk:Sts),k≤ns.length∧j=ns.length - k∧g≤f∧inL c g sk (ns.drop k)=some (rb,st2) ∧
    env=Env.ofL [(0,strV s'),(1,.ref xi 0),(2,.ref yi 0),(3,.ref zi 0),(34,.slice (ns.map fun s=>[strV s]) none),(35,intV ns.length),(36,intV k)]∧H'=HL (H.upd mi (.amap (gEs bV sk) sk.length)) [])
   ns.length (weak_HL (hcu _ _) rfl (by simp) (by simp [lt_nid hxl,lt_nid hyl,lt_nid hzl])) ⟨0,f,st1,Nat.zero_le _,by simp,Nat.le_refl _,hL,rfl,rfl⟩ ?_
  rintro j env H' ⟨k,g,sk,hk2,rfl,hgf,hL,rfl,rfl⟩
  cases g with
  | zero=>simp [inL] at hL
  | succ g =>
  by_cases hlt2:k < ns.length
  ·obtain ⟨x,hx2⟩:∃ x,ns[k]?=some x:=⟨_,List.getElem?_eq_getElem hlt2⟩
   have ex:ns.drop k=x::ns.drop (k+1):=by rw [List.drop_eq_getElem_cons hlt2];rw [List.getElem?_eq_getElem hlt2] at hx2;simp at hx2;rw [hx2]
   rw [ex] at hL
   simp only [inL] at hL
   cases hr:inF c g sk x with
   | none=>rw [hr] at hL;cases hL
   | some y =>
   obtain ⟨ry,sy⟩:=y
   rw [hr] at hL
   have hc:=fun bs=>ih g (by omega) sk x ry sy (HL (H.upd mi (.amap (gEs bV sk) sk.length)) bs) hr (hh _ bs) (gx _ bs) (gy _ bs) (gz _ bs) (gm _ bs)
   simp only [um] at hc;refine awp_sr fun K hK=>?_;simp [hlt2];apply hK;clear hK K;refine awp_seq_k fun K hK=>?_;refine awp_condT rfl (by simp) ?_;refine awp_skip ?_;apply hK;clear hK K;refine awp_seq_k fun K2 hK2=>?_;refine awp_block ?_;refine awp_sr fun K hK=>?_;simp [hx2];apply hK;clear hK K;refine awp_sr fun K hK=>?_;refine aOps_split 2 fun K hK=>?_;simp [gz];apply hK;clear hK K;refine aOps_call (hc _) (by first | rfl | simp) rfl rfl (by first | (simp;done) | rfl) ?_;simp;apply hK;clear hK K
   cases ry
   ·simp only at hL;refine awp_condF rfl (by simp) ?_;refine awp_skip ?_
    refine hK2 _ _ ?_
    refine awp_region ?_;simp [wrap_succ (show k < 4611686018427387904 by omega)]
    exact ⟨ns.length - (k+1),_,HL (H.upd mi (.amap (gEs bV sy) sy.length)) [],weak_HL (hcu _ _) rfl (by simp) (by simp [lt_nid hxl,lt_nid hyl,lt_nid hzl]),by omega,k+1,by omega,rfl,g,by omega,sy,hL,rfl,rfl⟩
   ·simp only [Option.some.injEq,Prod.mk.injEq] at hL
    obtain ⟨rfl,rfl⟩:=hL
    simp only [Option.some.injEq,Prod.mk.injEq] at he
    obtain ⟨rfl,rfl⟩:=he
    refine awp_condT rfl (by simp) ?_;refine awp_sr fun K hK=>?_;simp;apply hK;clear hK K;simp [reset_all (hcu _ _)]
  ·obtain rfl:k=ns.length:=by omega
   have hL2:some (false,sk)=some (rb,st2):=by
    rw [List.drop_length] at hL
    simpa [inL] using hL
   simp only [Option.some.injEq,Prod.mk.injEq] at hL2
   obtain ⟨rfl,rfl⟩:=hL2
   simp only [Option.some.injEq,Prod.mk.injEq] at he
   obtain ⟨rfl,rfl⟩:=he
   refine awp_sr fun K hK=>?_;simp;apply hK;clear hK K;refine awp_seq_k fun K hK=>?_;refine awp_condF rfl (by simp) ?_;refine awp_exit ?_;simp;clear hK K;apply hK;clear hK K;refine awp_sr fun K hK=>?_;simp [aMapUpdate,gy,gm,keys_g,keyOk,e4,e5,um];apply hK;clear hK K;refine awp_sr fun K hK=>?_;simp;apply hK;clear hK K;simp [reset_all (hcu _ _)]
def LoopsTo (c:Cl) (b:Bool):Prop:=∃ (P:Sts→Prop) (C:ByteArray→Prop),P [] ∧
 (∀ st s,P st→s∈c.up.map (·.1)→∃ f r st',inF c f st s=some (r,st')∧(r=true→b=true)∧(r=false→P st'∧C s)) ∧
 ((∀ s∈c.up.map (·.1),C s)→b=false)
set_option maxRecDepth 10000 in
theorem loops_c (I:Ids) (hI:I.L.Nodup) (c:Cl) (hsl:∀ p∈c.is,p.2.cnt < 1099511627776) (b:Bool) (hb:LoopsTo c b) (H:AHeap) (hH:Holds H (clB I c)):ACalls Tryz.prog 69 [.ref I.c 0] H (boolV b) H:=by
 obtain ⟨P,C,hP0,hIn,hEnd⟩:=hb
 have e0:GC I H c=H:=GC_self hH
 refine acalls_walk (fun _=>.imm) [0,1,2,3,4,5,12,14,19] Tryz.mixed Tryz.func69 rfl rfl rfl (by decide) (fun hcl hlow=>?_)
 have hlt:∀ x∈I.L,x < H.next:=by
  have:=holds_lt hcl hH
  intro x hx
  rw [←clB_ids I c] at hx
  obtain ⟨p,hp,rfl⟩:=List.mem_map.1 hx
  exact this p hp
 have hg:=fun bs=>(GC_get (H:=H) (c:=c) hI hlt bs)
 rw [e0] at hg
 have g1:=fun bs=>(hg bs).1
 have g3:=fun bs=>(hg bs).2.2.1
 have hil:I.c < H.next:=hlt _ (by simp [Ids.L])
 have hul:I.u < H.next:=hlt _ (by simp [Ids.L])
 have hh:∀ bs,Holds (HL H bs) (clB I c):=fun bs=>(holds_HL (by intro p hp;exact (clB_low hlt c p hp).1)).2 hH
 have hnI:∀ j,nid H.next j ∉ I.L:=fun j h=>nid_not_lt (hlt _ h)
 refine awp_sr fun K hK=>?_;simp;apply hK;clear hK K;refine awp_sr fun K hK=>?_;simp;apply hK;clear hK K;refine awp_sr fun K hK=>?_;simp;apply hK;clear hK K;refine awp_sr fun K hK=>?_;simp;apply hK;clear hK K;repeat with_reducible refine awp_assoc ?_
 refine awp_sr fun K hK=>?_;simp [g1,g3];apply hK;clear hK K
 have hlen:(gEs strV c.up).length=c.up.length:=by simp [gEs]
 refine awp_seq_k fun K hK=>?_;refine awp_block ?_
 refine awp_loop (fun n env H'=>∃ (st:Sts) (seen left:List Nat) (cur:Option Nat),P st∧(seen++left).Perm (List.range c.up.length)∧(∀ j∈seen,∀ p,c.up[j]?=some p→C p.1)∧n=left.length ∧
   env=Env.ofL [(4,.ref (nid H.next 3) 0),(12,.ref (nid H.next 4) 0)] ∧
   H'=HL H [.cells [.ref I.c 0],.amap (gEs bV st) st.length,.cells [.map (nid H.next 1)],.cells [.fn 103 [.ref (nid H.next 0) 0,.ref (nid H.next 2) 0,.ref (nid H.next 3) 0]],.iter I.u c.ns.length left cur])
  c.up.length (weak_HL hcl rfl ?_ ?_) ⟨[],[],List.range c.up.length,none,hP0,by simp,by simp,by simp,rfl,rfl⟩ ?_
 ·simp [hlen,lt_nid hil,lt_nid hul,gEs,WkEs,lowEs]
 ·simp
 rintro n env H' ⟨st,seen,left,cur,hP,hp,hC,rfl,rfl,rfl⟩
 refine awp_sr fun K hK=>?_;simp [aNext,g3]
 refine ⟨fun hl0=>?_,fun j hj s tv he=>?_⟩
 ·apply hK;clear hK K;refine awp_seq_k fun K hK=>?_;refine awp_condF rfl (by simp) ?_;refine awp_exit ?_;simp;clear hK K;apply hK;clear hK K
  subst hl0
  have hb:b=false:=hEnd (by
   intro s hs
   obtain ⟨p,hpm,rfl⟩:=List.mem_map.1 hs
   obtain ⟨j,hj⟩:=List.getElem?_of_mem hpm
   refine hC j (hp.symm.subset ?_ |> fun h=>by simpa using h) p hj
   have:j < c.up.length:=by
    rcases Nat.lt_or_ge j c.up.length with h | h
    ·exact h
    ·simp [List.getElem?_eq_none h] at hj
   simpa using this)
  subst hb
  refine awp_sr fun K hK=>?_;simp;apply hK;clear hK K;simp [reset_all hcl]
 ·obtain ⟨p,hp2,rfl,rfl⟩:∃ p,c.up[j]?=some p∧s=.string p.1∧tv=strV p.2:=by
   simp only [gEs,List.getElem?_map,Option.map_eq_some_iff] at he
   obtain ⟨p,h1,h2⟩:=he
   simp only [Prod.mk.injEq] at h2
   exact ⟨p,h1,h2.1.symm,h2.2.symm⟩
  apply hK;clear hK K
  obtain ⟨f,r,st',hin,hr1,hr2⟩:=hIn st p.1 hP (List.mem_map_of_mem (List.mem_of_getElem? hp2))
  have hget:(gEs strV c.up)[j]?=some (.string p.1,strV p.2):=he
  have hc:=in_c I hI (nid H.next 0) (nid H.next 2) (nid H.next 3) (nid H.next 1) ⟨hnI _,by simp,by simp,by simp⟩ c hsl f st p.1 r st'
   (HL H [.cells [.ref I.c 0],.amap (gEs bV st) st.length,.cells [.map (nid H.next 1)],.cells [.fn 103 [.ref (nid H.next 0) 0,.ref (nid H.next 2) 0,.ref (nid H.next 3) 0]],.iter I.u c.ns.length (left.filter (· != j)) (some j)])
   hin (hh _) (by rw [get_nid rfl];rfl) (by rw [get_nid rfl];rfl) (by rw [get_nid rfl];rfl) (by rw [get_nid rfl];rfl)
  rw [upd_nid rfl (by simp)] at hc
  simp only [List.set] at hc;refine awp_seq_k fun K hK=>?_;refine awp_condT rfl (by simp) ?_;refine awp_skip ?_;apply hK;clear hK K;refine awp_block ?_;refine awp_sr fun K hK=>?_;simp [aEntry,g3,hget];apply hK;clear hK K;refine awp_sr fun K hK=>?_;refine aOps_split 2 fun K hK=>?_;simp;apply hK;clear hK K;refine aOps_call (hc) (by first | rfl | simp) rfl rfl (by first | (simp;done) | rfl) ?_;simp;apply hK;clear hK K
  cases r
  ·obtain ⟨hP',hC'⟩:=hr2 rfl
   refine awp_condF rfl (by simp) ?_;refine awp_skip ?_
   have hnl:left.Nodup:=(List.nodup_append.1 (hp.symm.nodup List.nodup_range)).2.1
   have hlt3:(left.filter (· != j)).length < left.length:=by
    rw [←hnl.erase_eq_filter,List.length_erase_of_mem hj]
    have:=List.length_pos_of_mem hj;omega
   simp
   refine ⟨(left.filter (· != j)).length,_,HL H [.cells [.ref I.c 0],.amap (gEs bV st') st'.length,.cells [.map (nid H.next 1)],.cells [.fn 103 [.ref (nid H.next 0) 0,.ref (nid H.next 2) 0,.ref (nid H.next 3) 0]],.iter I.u c.ns.length (left.filter (· != j)) (some j)],
    weak_HL hcl rfl ?_ ?_,hlt3,st',hP',seen++[j],left.filter (· != j),?_,?_,rfl,rfl,some j,rfl⟩
   ·simp [lt_nid hil,lt_nid hul,low_gb]
   ·simp
   ·rw [←hnl.erase_eq_filter]
    refine List.Perm.trans ?_ hp
    rw [List.append_assoc]
    exact List.Perm.append_left seen (List.perm_cons_erase hj).symm
   ·intro i hi q1 q2 hq
    rcases List.mem_append.1 hi with hi | hi
    ·exact hC i hi (q1,q2) hq
    ·simp at hi
     subst hi
     rw [hp2] at hq
     simp only [Option.some.injEq] at hq
     rw [hq] at hC';exact hC'
  ·have hb:=hr1 rfl
   subst hb
   refine awp_condT rfl (by simp) ?_;refine awp_sr fun K hK=>?_;simp;apply hK;clear hK K;simp [reset_all hcl]
end Go.Proofs.YtgeehnbbhnpimaaGreat
namespace Go.Proofs.YtgeehnbbhnpimaaGreat
open Go Go.Abs Go.Proofs
set_option maxRecDepth 20000
attribute [local simp] aOps wantedA aStep aop aLoad aStore aBin aUn aFieldAddr aField aIndexAddr aIndex aLen aBuild aFill aAlloc aAppend aBuildSlice litRows newRows isMut isOwn isNilS nilsW bytesR tokW tokAV tokL ret readC splice aeval isLit isLate AV.celled AV.one AV.ofValue Value.oneCell' Value.cells intOp strOp get_nid upd_nid awp aEnd aResults aResult Det unord isCall isNext
attribute [local simp] low_take low_strs low_comp low_tcomp wkEs_refl' WkBs WkEnv WkB WkL WkE WkO ABlock.low lowO lowL lowR AV.low cellsL_eq Ty.low low_map Ty.cells_length Ty.cells_one
attribute [local simp] low_bind
def keepU (c:Cl) (s r:ByteArray):Bool:=!decide (s=r) || (match lookT c.is s with | some t=>decide (0 < t.name.size) | none=>false)
def OkRun (c:Cl) (l:TyM):Prop:=∃ (T:ByteArray→ByteArray) (W:ByteArray→Ty) (g:Nat) (N:ByteArray→Int),c.up.length≤1000000∧(c.up.map (·.1)).Nodup∧(∀ s∈c.up.map (·.1),topF c.up g s=some (T s)) ∧
 (∀ s∈c.up.map (·.1),wholeF c g (.mk s []) 0=some (W s,N s))∧l=sortM (((c.up.map (·.1)).filter fun s=>keepU c s (T s)).map fun s=>(s,W s))
def URun (a b:Ty) (l:TyM) (e:Int):Prop :=
 (allV [a,b]≠0∧l=[]∧e=allV [a,b])∨(allV [a,b]=0∧∃ f rb c,unF f (cl0 (namesL [a,b])) a b=some (rb,c)∧(rb=false→l=[]∧e=8) ∧
  (rb=true→∃ lb,LoopsTo c lb∧(lb=true→l=[]∧e=10)∧(lb=false→∃ g x n,wholeF c g a 0=some (x,n)∧((200 < n∨x.large=true)→l=[]∧e=3)∧(¬ (200 < n∨x.large=true)→OkRun c l∧e=0))))
theorem sortM_congr {l r:TyM} (h:l.Perm r) (hn:(l.map (·.1)).Nodup):sortM l=sortM r :=
 sortM_eq ((h.map _).nodup_iff.1 hn) ((sortM_perm l).trans h) (sortM_asc hn)
def unI (n:Nat):Ids:=⟨nid n 8,nid n 4,nid n 5,nid n 6,nid n 7⟩
theorem unI_nodup (n:Nat):(unI n).L.Nodup:=by simp [Ids.L,unI]
theorem GC_list (H:AHeap) (A0 A1 A2 A3 r u i m c0:ABlock) (rest:List ABlock) (c:Cl):GC (unI H.next) (HL H (A0::A1::A2::A3::r::u::i::m::c0::rest)) c =
  HL H (A0::A1::A2::A3::.amap (gEs natV (rankL c.ns)) c.ns.length::.amap (gEs strV c.up) c.ns.length::.amap (tyEs c.is) c.iv::.amap (metEs c.met) c.met.length::.cells [.map (nid H.next 4),.map (nid H.next 5),.map (nid H.next 6),.map (nid H.next 7)]::rest):=by
 simp only [GC,clB,puts,unI]
 rw [upd_nid rfl (by simp),upd_nid rfl (by simp),upd_nid rfl (by simp),upd_nid rfl (by simp),upd_nid rfl (by simp)]
 simp [List.set]
theorem cnt_wt (t:Ty):t.cnt≤t.wt:=by
 have key:∀ (n:Nat) (t:Ty),t.wt≤n→t.cnt≤t.wt:=by
  intro n
  induction n with
  | zero=>intro t h;obtain ⟨nm,l⟩:=t;simp [Ty.wt] at h
  | succ n ih =>
   intro t h
   obtain ⟨nm,l⟩:=t
   simp only [Ty.wt] at h
   have hl:∀ l:List Ty,wtL l≤n→(nodesL l).length≤wtL l:=by
    intro l
    induction l with
    | nil=>intro _;simp [nodesL]
    | cons x l ihl =>
     intro h
     simp only [wtL] at h
     have h1:=ih x (by omega)
     have h2:=ihl (by omega)
     simp only [nodesL,List.length_append,wtL,Ty.cnt] at h1 ⊢
     omega
   have:=hl l (by omega)
   simp only [Ty.cnt,Ty.nodes,List.length_cons,Ty.wt]
   omega
 exact key _ t (Nat.le_refl _)
def mOf (c:Cl) (T:ByteArray→ByteArray) (W:ByteArray→Ty) (seen:List Nat):TyM:=(((seen.filterMap fun j=>c.up[j]?).map (·.1)).filter fun s=>keepU c s (T s)).map fun s=>(s,W s)
theorem mOf_app {c:Cl} {T:ByteArray→ByteArray} {W:ByteArray→Ty} {seen:List Nat} {j:Nat} {p:ByteArray × ByteArray} (h:c.up[j]?=some p):mOf c T W (seen++[j])=mOf c T W seen++(if keepU c p.1 (T p.1) then [(p.1,W p.1)] else []):=by
 simp only [mOf,List.filterMap_append,List.map_append,List.filter_append]
 congr 1
 simp only [List.filterMap_cons,h,List.filterMap_nil,List.map_cons,List.map_nil,List.filter_cons,List.filter_nil]
 split <;> rfl
theorem mOf_range (c:Cl) (T:ByteArray→ByteArray) (W:ByteArray→Ty):mOf c T W (List.range c.up.length)=((c.up.map (·.1)).filter fun s=>keepU c s (T s)).map fun s=>(s,W s):=by
 unfold mOf
 have key:∀ (n:Nat),(List.range n).filterMap (fun j=>c.up[j]?)=c.up.take n:=by
  intro n
  induction n with
  | zero=>rfl
  | succ n ih =>
   rw [List.range_succ,List.take_add_one,←ih,List.filterMap_append]
   congr 1
 rw [key,List.take_length]
theorem mOf_none {c:Cl} {T:ByteArray→ByteArray} {W:ByteArray→Ty} {seen:List Nat} {j:Nat} {p:ByteArray × ByteArray} (hn:(c.up.map (·.1)).Nodup) (h:c.up[j]?=some p) (hj:j ∉ seen):lookT (mOf c T W seen) p.1=none:=by
 refine lookT_none fun hm=>hj ?_
 simp only [mOf,List.map_map,List.mem_map,List.mem_filter,Function.comp_apply,List.mem_filterMap] at hm
 obtain ⟨s,⟨⟨q,⟨i,hi,hq⟩,rfl⟩,_⟩,he⟩:=hm
 have h1:(c.up.map (·.1))[i]?=some q.1:=by simp [hq]
 have h2:(c.up.map (·.1))[j]?=some p.1:=by simp [h]
 rw [he] at h1
 have hil:i < (c.up.map (·.1)).length:=by
  rcases Nat.lt_or_ge i (c.up.map (·.1)).length with h' | h'
  ·exact h'
  ·simp [List.getElem?_eq_none h'] at h1
 rw [←(List.getElem?_inj hil hn).1 (h1.trans h2.symm)]
 exact hi
theorem mOf_nodup {c:Cl} {T:ByteArray→ByteArray} {W:ByteArray→Ty} (hn:(c.up.map (·.1)).Nodup):((mOf c T W (List.range c.up.length)).map (·.1)).Nodup:=by
 rw [mOf_range,List.map_map]
 have:((fun p:ByteArray × Ty=>p.1) ∘ fun s=>(s,W s))=id:=rfl
 rw [this,List.map_id]
 exact hn.filter _
set_option maxRecDepth 10000 in
theorem Unify_c (a b:Ty) (l:TyM) (e:Int) (hr:URun a b l e) (H:AHeap):ACalls Tryz.prog 29 [a.enc,b.enc] H (.tuple [.slice (l.map bindC) none,intV e]) H:=by
 have hal:=all_c [a,b] (by simp)
 simp only [List.map_cons,List.map_nil,cells_eq] at hal
 have hnw:=newCells_c [a,b]
 simp only [List.map_cons,List.map_nil,cells_eq] at hnw
 refine acalls_walk (fun _=>.imm) [0,1,2,3,4,5,6,7,8,9,10,11,17,27,29,38,44,46,64] Tryz.mixed Tryz.func29 rfl rfl rfl (by decide) (fun hcl hlow=>?_)
 simp only [enc_eq];refine awp_sr fun K hK=>?_;simp;apply hK;clear hK K;repeat with_reducible refine awp_assoc ?_
 refine awp_sr fun K hK=>?_;refine aOps_split 3 fun K hK=>?_;simp;apply hK;clear hK K;refine aOps_callW (hal _) (by first | rfl | simp) rfl rfl (by simp) ?_;simp;apply hK;clear hK K
 by_cases h0:allV [a,b]=0
 rotate_left
 ·obtain ⟨rfl,rfl⟩:l=[]∧e=allV [a,b]:=by
   rcases hr with h | h
   ·exact h.2
   ·exact absurd h.1 h0
  repeat with_reducible refine awp_assoc ?_
  refine awp_sr fun K hK=>?_;simp [h0];apply hK;clear hK K;refine awp_seq_k fun K hK=>?_;refine awp_condT rfl (by simp [h0]) ?_;refine awp_sr fun K hK=>?_;simp;apply hK;clear hK K;simp [reset_all hcl]
  exact Wk.tuple (by simp)
 have ha:=(allV_two h0).1
 have hb:=(allV_two h0).2
 have hac:=(valid_cnt ha).2.1
 have hbc:=(valid_cnt hb).2.1
 have haw:=valid_wt ha
 have hbw:=valid_wt hb
 simp only [h0]
 clear hal
 repeat with_reducible refine awp_assoc ?_
 refine awp_sr fun K hK=>?_;simp;apply hK;clear hK K;refine awp_seq_k fun K hK=>?_;refine awp_condF rfl (by simp) ?_;refine awp_skip ?_;apply hK;clear hK K
 have hnl:(nodesL [a,b]).length < 1099511627776:=by simp only [nodesL,List.length_append,List.append_nil,Ty.cnt] at hac hbc ⊢;omega
 refine awp_sr fun K hK=>?_;refine aOps_split 3 fun K hK=>?_;simp;apply hK;clear hK K;refine aOps_callW (hnw hnl _) (by first | rfl | simp) rfl rfl (by simp) ?_;simp [newB];apply hK;clear hK K
 clear hnw hnl
 obtain ⟨f,rb,c,hun,hfit,hok⟩:∃ f rb c,unF f (cl0 (namesL [a,b])) a b=some (rb,c)∧(rb=false→l=[]∧e=8) ∧
  (rb=true→∃ lb,LoopsTo c lb∧(lb=true→l=[]∧e=10)∧(lb=false→∃ g x n,wholeF c g a 0=some (x,n)∧((200 < n∨x.large=true)→l=[]∧e=3)∧(¬ (200 < n∨x.large=true)→OkRun c l∧e=0))):=by
  rcases hr with h | h
  ·exact absurd h0 h.1
  ·exact h.2
 clear hr
 have hsm:=unF_small f _ a b rb c hun (by intro p hp;simp [cl0] at hp) (by omega) (by omega)
 have hsl:∀ p∈c.is,p.2.cnt < 1099511627776:=fun p hp=>by have:=hsm p hp;have:=cnt_wt p.2;omega
 have hnI:=unI_nodup H.next
 have hlI:∀ (bs:List ABlock),9≤bs.length→∀ x∈(unI H.next).L,x < (HL H bs).next:=by
  intro bs h
  simp only [Ids.L,unI,List.mem_cons,List.not_mem_nil,or_false,next_HL]
  rintro x (rfl | rfl | rfl | rfl | rfl) <;> exact nid_lt_nid (by omega)
 have hue:=(un_all hnI f).1 (cl0 (namesL [a,b])) a b rb c (HL H [.cells [strV a.name,.slice (a.args.map Ty.cells) none],.cells [strV b.name,.slice (b.args.map Ty.cells) none],.tok 2 2 none,.tok 2 2 none,.amap (gEs natV (rankL (namesL [a,b]))) (namesL [a,b]).length,
  .amap (gEs strV (upL (namesL [a,b]))) (namesL [a,b]).length,.amap (tyEs []) 0,.amap (metEs []) 0,.cells [.map (nid H.next 4),.map (nid H.next 5),.map (nid H.next 6),.map (nid H.next 7)]])
  (by intro p hp;simp [cl0] at hp) (by omega) (by omega) hun (hlI _ (by simp))
 rw [GC_list,GC_list] at hue
 simp only [enc_eq] at hue;repeat with_reducible refine awp_assoc ?_
 refine awp_sr fun K hK=>?_;refine aOps_split 3 fun K hK=>?_;simp;apply hK;clear hK K;refine aOps_call (hue) (by first | rfl | simp) rfl rfl (by first | (simp;done) | rfl) ?_;simp;apply hK;clear hK K
 clear hue hun
 generalize hxs:([.cells [strV a.name,.slice (a.args.map Ty.cells) none],.cells [strV b.name,.slice (b.args.map Ty.cells) none],.tok 2 2 none,.tok 2 2 none,.amap (gEs natV (rankL c.ns)) c.ns.length,.amap (gEs strV c.up) c.ns.length,.amap (tyEs c.is) c.iv,.amap (metEs c.met) c.met.length,
  .cells [.map (nid H.next 4),.map (nid H.next 5),.map (nid H.next 6),.map (nid H.next 7)]]:List ABlock)=xs
 cases rb
 ·obtain ⟨rfl,rfl⟩:=hfit rfl
  refine awp_seq_k fun K hK=>?_;refine awp_condT rfl (by simp) ?_;refine awp_sr fun K hK=>?_;simp;apply hK;clear hK K;simp [reset_all hcl]
  exact Wk.tuple (by simp)
 clear hfit
 obtain ⟨lb,hlo,hl1,hl2⟩:=hok rfl
 have hHold:∀ rest,Holds (HL H (xs++rest)) (clB (unI H.next) c):=by
  intro rest
  rw [←hxs]
  simp only [List.cons_append,List.nil_append,clB,Holds,unI]
  refine ⟨by rw [get_nid rfl];rfl,by rw [get_nid rfl];rfl,by rw [get_nid rfl];rfl,by rw [get_nid rfl];rfl,by rw [get_nid rfl];rfl,trivial⟩
 have hlc:=loops_c (unI H.next) hnI c hsl lb hlo (HL H xs) (by have:=hHold [];rwa [List.append_nil] at this)
 refine awp_seq_k fun K hK=>?_;refine awp_condF rfl (by simp) ?_;refine awp_skip ?_;apply hK;clear hK K;repeat with_reducible refine awp_assoc ?_
 refine awp_sr fun K hK=>?_;refine aOps_split 1 fun K hK=>?_;simp;apply hK;clear hK K;refine aOps_call (hlc) (by first | rfl | simp) rfl rfl (by first | (simp;done) | rfl) ?_;simp;apply hK;clear hK K
 cases lb
 rotate_left
 ·obtain ⟨rfl,rfl⟩:=hl1 rfl
  refine awp_seq_k fun K hK=>?_;refine awp_condT rfl (by simp) ?_;refine awp_sr fun K hK=>?_;simp;apply hK;clear hK K;simp [reset_all hcl]
  exact Wk.tuple (by simp)
 clear hl1 hlc hlo
 obtain ⟨g,x,n,hwh,hlarge,hgood⟩:=hl2 rfl
 clear hl2
 have hxl:xs.length=9:=by rw [←hxs];rfl
 have hni:nid H.next 9 ∉ (unI H.next).L:=by simp [Ids.L,unI]
 have hw:=fun (f:Nat) (t:Ty) (n:Int) (r:Ty) (n':Int) (rest:List ABlock) (h1:t.cnt < 1099511627776) (h2:wholeF c f t n=some (r,n')) =>
  whole_c (unI H.next) hnI (nid H.next 9) hni c hsl f t n r n' (HL H (xs++.cells [intV n]::rest)) h1 h2 (hHold _) (by rw [get_nid rfl,List.getElem?_append_right (by omega),hxl];rfl)
 have hset:∀ b b' rest,(HL H (xs++b::rest)).upd (nid H.next 9) b'=HL H (xs++b'::rest):=by
  intro b b' rest
  rw [upd_nid rfl (by simp;omega),List.set_append_right _ _ (by omega),hxl];rfl
 simp only [hset] at hw
 have htop:=fun s r f hf (bs:List ABlock)=>top_c (unI H.next) hnI c s r f hf (HL H (xs++bs)) (hHold bs)
 simp only [←hxs,List.cons_append,List.nil_append] at hw htop
 rw [←hxs]
 clear hxs hxl hset hHold hlI
 have hw1:=fun rest=>hw g a 0 x n rest (by omega) hwh
 simp only [enc_eq] at hw1;refine awp_seq_k fun K hK=>?_;refine awp_condF rfl (by simp) ?_;refine awp_skip ?_;apply hK;clear hK K;refine awp_sr fun K hK=>?_;simp;apply hK;clear hK K;repeat with_reducible refine awp_assoc ?_
 refine awp_sr fun K hK=>?_;refine aOps_split 2 fun K hK=>?_;simp;apply hK;clear hK K;refine aOps_call (hw1 []) (by first | rfl | simp) rfl rfl (by first | (simp;done) | rfl) ?_;simp;apply hK;clear hK K
 clear hw1 hwh
 have hlg:=isLarge_c x
 simp only [enc_eq] at hlg
 by_cases hn2:200 < n
 ·obtain ⟨rfl,rfl⟩:=hlarge (.inl hn2)
  repeat with_reducible refine awp_assoc ?_
  refine awp_sr fun K hK=>?_;simp [hn2];apply hK;clear hK K;refine awp_seq_k fun K hK=>?_;refine awp_condT rfl (by simp [hn2]) ?_;refine awp_sr fun K hK=>?_;simp;apply hK;clear hK K;simp [reset_all hcl]
  exact Wk.tuple (by simp)
 cases hxg:x.large
 rotate_left
 ·obtain ⟨rfl,rfl⟩:=hlarge (.inr hxg)
  repeat with_reducible refine awp_assoc ?_
  refine awp_sr fun K hK=>?_;refine aOps_split 4 fun K hK=>?_;simp [hn2];apply hK;clear hK K;refine aOps_call (hlg _) (by first | rfl | simp) rfl rfl (by first | (simp;done) | rfl) ?_;simp [hxg];apply hK;clear hK K;refine awp_seq_k fun K hK=>?_;refine awp_condT rfl (by simp [hxg]) ?_;refine awp_sr fun K hK=>?_;simp;apply hK;clear hK K;simp [reset_all hcl]
  exact Wk.tuple (by simp)
 obtain ⟨hOk,rfl⟩:=hgood (by simp [hn2,hxg])
 clear hgood hlarge
 repeat with_reducible refine awp_assoc ?_
 refine awp_sr fun K hK=>?_;refine aOps_split 4 fun K hK=>?_;simp [hn2];apply hK;clear hK K;refine aOps_call (hlg _) (by first | rfl | simp) rfl rfl (by first | (simp;done) | rfl) ?_;simp [hxg];apply hK;clear hK K;refine awp_seq_k fun K hK=>?_;refine awp_condF rfl (by simp [hxg]) ?_;refine awp_skip ?_;apply hK;clear hK K;refine awp_sr fun K hK=>?_;simp;apply hK;clear hK K;repeat with_reducible refine awp_assoc ?_
 refine awp_sr fun K hK=>?_;simp [unI];apply hK;clear hK K
 obtain ⟨T,W,g2,N,hul,hnd,hT,hW,rfl⟩:=hOk
 have hlen:(gEs strV c.up).length=c.up.length:=by simp [gEs]
 rw [hlen]
 refine awp_seq_k fun K hK=>?_;refine awp_block ?_
 refine awp_loop (fun n env H'=>∃ (z:Int) (seen left:List Nat) (cur:Option Nat),(seen++left).Perm (List.range c.up.length)∧n=left.length ∧
   env=Env.ofL [(7,.ref (nid H.next 8) 0),(8,.ref (nid H.next 9) 0),(10,.map (nid H.next 11)),(44,.ref (nid H.next 12) 0)] ∧
   H'=HL H [.cells [strV a.name,.slice (a.args.map Ty.cells) none],.cells [strV b.name,.slice (b.args.map Ty.cells) none],.tok 2 2 none,.tok 2 2 none,.amap (gEs natV (rankL c.ns)) c.ns.length,.amap (gEs strV c.up) c.ns.length,.amap (tyEs c.is) c.iv,.amap (metEs c.met) c.met.length,
    .cells [.map (nid H.next 4),.map (nid H.next 5),.map (nid H.next 6),.map (nid H.next 7)],.cells [intV z],.cells [strV x.name,.slice (x.args.map Ty.cells) none],.amap (tyEs (mOf c T W seen)) (mOf c T W seen).length,.iter (nid H.next 5) c.ns.length left cur])
  c.up.length (weak_HL hcl rfl ?_ ?_) ⟨n,[],List.range c.up.length,none,by simp,by simp,rfl,rfl⟩ ?_
 ·simp [mOf,low_gn,low_gs,low_ty,low_met,wkEs_refl',lowEs,show tyEs []=[] from rfl]
 ·simp
 rintro n2 env H' ⟨z,seen,left,cur,hp,rfl,rfl,rfl⟩
 refine awp_sr fun K hK=>?_;simp [aNext]
 refine ⟨fun hl0=>?_,fun j hj s tv he=>?_⟩
 ·apply hK;clear hK K;refine awp_seq_k fun K hK=>?_;refine awp_condF rfl (by simp) ?_;refine awp_exit ?_;simp;clear hK K;apply hK;clear hK K
  subst hl0
  have hperm:(mOf c T W seen).Perm (mOf c T W (List.range c.up.length)):=by
   have h1:seen.Perm (List.range c.up.length):=by simpa using hp
   unfold mOf
   exact (((h1.filterMap _).map _).filter _).map _
  have hmn:=mOf_nodup (T:=T) (W:=W) hnd
  have hes:sortM (mOf c T W seen)=sortM (((c.up.map (·.1)).filter fun s=>keepU c s (T s)).map fun s=>(s,W s)):=by rw [←mOf_range];exact sortM_congr hperm ((hperm.map _).nodup_iff.2 hmn)
  have hml:(mOf c T W seen).length≤seen.length:=by
   unfold mOf
   rw [List.length_map]
   refine Nat.le_trans (List.length_filter_le _ _) ?_
   rw [List.length_map]
   exact List.length_filterMap_le _ _
  have hsl2:seen.length≤c.up.length:=by have:=hp.length_eq;simp at this;omega
  rw [←hes]
  have hbi:=fun bs hg=>binds_c (mOf c T W seen) (by omega) ((hperm.map _).nodup_iff.2 hmn) (nid H.next 11) (mOf c T W seen).length (HL H bs) hg
  generalize mOf c T W seen=mm at *
  refine awp_sr fun K hK=>?_;refine aOps_split 1 fun K hK=>?_;simp;apply hK;clear hK K;refine aOps_call (hbi _ (by simp)) (by first | rfl | simp) rfl rfl rfl ?_;simp;apply hK;clear hK K;simp [low_bind,reset_all hcl]
 ·obtain ⟨p,hp2,rfl,rfl⟩:∃ p,c.up[j]?=some p∧s=.string p.1∧tv=strV p.2:=by
   simp only [gEs,List.getElem?_map,Option.map_eq_some_iff] at he
   obtain ⟨p,h1,h2⟩:=he
   simp only [Prod.mk.injEq] at h2
   exact ⟨p,h1,h2.1.symm,h2.2.symm⟩
  apply hK;clear hK K
  have hget:(gEs strV c.up)[j]?=some (.string p.1,strV p.2):=he
  have hpm:p.1∈c.up.map (·.1):=List.mem_map_of_mem (List.mem_of_getElem? hp2)
  have ht:=hT p.1 hpm
  have hjs:j ∉ seen:=fun h=>(List.nodup_append.1 (hp.symm.nodup List.nodup_range)).2.2 j h j hj rfl
  have hno:=mOf_none (T:=T) (W:=W) hnd hp2 hjs
  have happ:=mOf_app (T:=T) (W:=W) (seen:=seen) hp2
  have hnl:left.Nodup:=(List.nodup_append.1 (hp.symm.nodup List.nodup_range)).2.1
  have hlt3:(left.filter (· != j)).length < left.length:=by
   rw [←hnl.erase_eq_filter,List.length_erase_of_mem hj]
   have:=List.length_pos_of_mem hj;omega
  have hp3:((seen++[j])++left.filter (· != j)).Perm (List.range c.up.length):=by
   rw [←hnl.erase_eq_filter]
   refine List.Perm.trans ?_ hp
   rw [List.append_assoc]
   exact List.Perm.append_left seen (List.perm_cons_erase hj).symm
  generalize hms:mOf c T W seen=ms at *
  refine awp_seq_k fun K hK=>?_;refine awp_condT rfl (by simp) ?_;refine awp_skip ?_;apply hK;clear hK K;refine awp_block ?_;refine awp_sr fun K hK=>?_;simp [aEntry,hget];apply hK;clear hK K;refine awp_sr fun K hK=>?_;refine aOps_split 3 fun K hK=>?_;simp;apply hK;clear hK K;refine aOps_call (htop _ _ _ ht _) (by first | rfl | simp) rfl rfl (by first | (simp;done) | rfl) ?_
  suffices hk:K (Env.ofL [(0,.undef),(1,.undef),(2,.undef),(3,.undef),(4,.undef),(5,.undef),(6,.undef),(7,.ref (nid H.next 8) 0),(8,.ref (nid H.next 9) 0),(9,.undef),(10,.map (nid H.next 11)),(11,strV p.1),(17,.undef),(27,.undef),(29,.undef),(38,.undef),(44,.ref (nid H.next 12) 0),(46,boolV true),(64,boolV (keepU c p.1 (T p.1)))])
    (HL H [.cells [strV a.name,.slice (a.args.map Ty.cells) none],.cells [strV b.name,.slice (b.args.map Ty.cells) none],.tok 2 2 none,.tok 2 2 none,.amap (gEs natV (rankL c.ns)) c.ns.length,.amap (gEs strV c.up) c.ns.length,.amap (tyEs c.is) c.iv,.amap (metEs c.met) c.met.length,
    .cells [.map (nid H.next 4),.map (nid H.next 5),.map (nid H.next 6),.map (nid H.next 7)],.cells [intV z],.cells [strV x.name,.slice (x.args.map Ty.cells) none],.amap (tyEs ms) ms.length,.iter (nid H.next 5) c.ns.length (left.filter (· != j)) (some j)]) by
   by_cases hst:p.1=T p.1
   ·cases hk2:lookT c.is p.1 with
    | none =>
     have ek:keepU c p.1 (T p.1)=false:=by unfold keepU;rw [←hst,hk2];simp
     rw [ek] at hk
     refine aOps_split 2 fun K hK=>?_;simp [←hst];apply hK;clear hK K;refine aOps_split 6 fun K hK=>?_;simp [aLookup,keys_ty,keyOk,aLook_ty,hk2];apply hK;clear hK K;simp
     exact hk
    | some t =>
     have ek:keepU c p.1 (T p.1)=decide (0 < t.name.size):=by unfold keepU;rw [←hst,hk2];simp
     rw [ek] at hk
     refine aOps_split 2 fun K hK=>?_;simp [←hst];apply hK;clear hK K;refine aOps_split 6 fun K hK=>?_;simp [aLookup,keys_ty,keyOk,aLook_ty,hk2,enc_eq];apply hK;clear hK K;simp
     exact hk
   ·have ek:keepU c p.1 (T p.1)=true:=by unfold keepU;simp [hst]
    rw [ek] at hk
    refine aOps_split 2 fun K hK=>?_;simp [hst];apply hK;clear hK K;refine aOps_split 6 fun K hK=>?_;simp;apply hK;clear hK K;simp
    exact hk
  apply hK;clear hK K
  have hwp:=hW p.1 hpm
  cases hke:keepU c p.1 (T p.1)
  ·rw [hke] at happ
   simp only [Bool.false_eq_true,if_false,List.append_nil] at happ;refine awp_condF rfl (by simp) ?_;refine awp_skip ?_
   refine ⟨(left.filter (· != j)).length,Env.ofL [(7,.ref (nid H.next 8) 0),(8,.ref (nid H.next 9) 0),(10,.map (nid H.next 11)),(44,.ref (nid H.next 12) 0)],HL H [.cells [strV a.name,.slice (a.args.map Ty.cells) none],.cells [strV b.name,.slice (b.args.map Ty.cells) none],.tok 2 2 none,.tok 2 2 none,.amap (gEs natV (rankL c.ns)) c.ns.length,.amap (gEs strV c.up) c.ns.length,.amap (tyEs c.is) c.iv,.amap (metEs c.met) c.met.length,.cells [.map (nid H.next 4),.map (nid H.next 5),.map (nid H.next 6),.map (nid H.next 7)],.cells [intV z],.cells [strV x.name,.slice (x.args.map Ty.cells) none],.amap (tyEs (mOf c T W (seen++[j]))) (mOf c T W (seen++[j])).length,.iter (nid H.next 5) c.ns.length (left.filter (· != j)) (some j)],weak_HL hcl rfl ?_ ?_,hlt3,z,seen++[j],left.filter (· != j),some j,hp3,rfl,rfl,rfl⟩
   ·rw [happ]
    simp [low_gn,low_gs,low_ty,low_met,wkEs_refl']
   ·simp
  ·rw [hke] at happ
   simp only [if_true] at happ;refine awp_condT rfl (by simp) ?_
   have e1:aPut (tyEs ms) (.string p.1) (.agg [strV (W p.1).name,.slice ((W p.1).args.map Ty.cells) none])=tyEs (ms++[(p.1,W p.1)]):=by rw [←enc_eq,aPut_ty,putM_new hno]
   have e2:aVer (tyEs ms) (.string p.1) ms.length true=ms.length+1:=by rw [aVer_ty,hno];rfl
   have hw1:=fun rest=>hw g2 (.mk p.1 []) 0 (W p.1) (N p.1) rest (by simp [Ty.cnt,Ty.nodes,nodesL]) hwp
   simp only [enc_eq] at hw1;simp only [show (Ty.mk p.1 []).name=p.1 from rfl,show (Ty.mk p.1 []).args=[] from rfl,List.map_nil] at hw1;refine awp_sr fun K hK=>?_;simp;apply hK;clear hK K;refine awp_region ?_;refine aOps_split 5 fun K hK=>?_;simp;apply hK;clear hK K;refine aOps_callW (hw1 [.cells [strV x.name,.slice (x.args.map Ty.cells) none],.amap (tyEs ms) ms.length,.iter (nid H.next 5) c.ns.length (left.filter (· != j)) (some j)]) (by first | rfl | simp) rfl rfl ⟨.refl _,Wk.agg (by simp),.refl _,trivial⟩ ?_;simp [aMapUpdate,keys_ty,keyOk,e1,e2]
   refine ⟨(left.filter (· != j)).length,Env.ofL [(7,.ref (nid H.next 8) 0),(8,.ref (nid H.next 9) 0),(10,.map (nid H.next 11)),(44,.ref (nid H.next 12) 0)],HL H [.cells [strV a.name,.slice (a.args.map Ty.cells) none],.cells [strV b.name,.slice (b.args.map Ty.cells) none],.tok 2 2 none,.tok 2 2 none,.amap (gEs natV (rankL c.ns)) c.ns.length,.amap (gEs strV c.up) c.ns.length,.amap (tyEs c.is) c.iv,.amap (metEs c.met) c.met.length,.cells [.map (nid H.next 4),.map (nid H.next 5),.map (nid H.next 6),.map (nid H.next 7)],.cells [intV (N p.1)],.cells [strV x.name,.slice (x.args.map Ty.cells) none],.amap (tyEs (mOf c T W (seen++[j]))) (mOf c T W (seen++[j])).length,.iter (nid H.next 5) c.ns.length (left.filter (· != j)) (some j)],weak_HL hcl rfl ?_ ?_,hlt3,N p.1,seen++[j],left.filter (· != j),hp3,rfl,rfl,some j,rfl⟩
   ·rw [happ]
    simp [low_gn,low_gs,low_ty,low_met,wkEs_refl']
   ·simp
set_option maxRecDepth 10000 in
theorem same_c:∀ (a b:Ty),a.cnt < 4611686018427387904→∀ H,ACalls Tryz.prog 20 [a.enc,b.enc] H (boolV (eqT a b)) H:=by
 intro a
 induction a using Ty.ind with
 | h n l ih =>
 intro b hsz H
 obtain ⟨m,l'⟩:=b
 have hcnt:(Ty.mk n l).cnt=(nodesL l).length+1:=by simp [Ty.cnt,Ty.nodes]
 have hll:=nodesL_len l
 refine acalls_walk (fun _=>.imm) [0,1,2,3,4,5,19,24,38] Tryz.mixed Tryz.func20 rfl rfl rfl (by decide) (fun hcl hlow=>?_)
 simp only [Ty.enc,Ty.cells];refine awp_sr fun K hK=>?_;simp;apply hK;clear hK K
 by_cases hn:n=m
 rotate_left
 ·repeat with_reducible refine awp_assoc ?_
  refine awp_sr fun K hK=>?_;refine aOps_split 6 fun K hK=>?_;simp [hn];apply hK;clear hK K;refine aOps_split 8 fun K hK=>?_;simp;apply hK;clear hK K;simp;apply hK;clear hK K;refine awp_seq_k fun K hK=>?_;refine awp_condT rfl (by simp) ?_;refine awp_sr fun K hK=>?_;simp;apply hK;clear hK K
  have e:eqT (.mk n l) (.mk m l')=false:=by rw [eqT_false];simp [hn]
  simp [e,reset_all hcl]
 subst hn
 by_cases hlen:l.length=l'.length
 rotate_left
 ·repeat with_reducible refine awp_assoc ?_
  refine awp_sr fun K hK=>?_;refine aOps_split 6 fun K hK=>?_;simp;apply hK;clear hK K;refine aOps_split 8 fun K hK=>?_;simp [show ¬ (l.length:Int)=l'.length by omega];apply hK;clear hK K;simp;apply hK;clear hK K;refine awp_seq_k fun K hK=>?_;refine awp_condT rfl (by simp) ?_;refine awp_sr fun K hK=>?_;simp;apply hK;clear hK K
  have e:eqT (.mk n l) (.mk n l')=false:=by rw [eqT_false];simp;rintro rfl;exact hlen rfl
  simp [e,reset_all hcl]
 repeat with_reducible refine awp_assoc ?_
 refine awp_sr fun K hK=>?_;refine aOps_split 6 fun K hK=>?_;simp;apply hK;clear hK K;refine aOps_split 8 fun K hK=>?_;simp [hlen];apply hK;clear hK K;simp;apply hK;clear hK K;refine awp_seq_k fun K hK=>?_;refine awp_condF rfl (by simp [hlen]) ?_;refine awp_skip ?_;apply hK;clear hK K;repeat with_reducible refine awp_assoc ?_
 refine awp_sr fun K hK=>?_;simp;apply hK;clear hK K;refine awp_seq_k fun K hK=>?_;refine awp_block ?_
 refine awp_up l.length (fun k=>Env.ofL [(2,.ref (nid H.next 0) 0),(3,.ref (nid H.next 1) 0),(4,boolV false),(5,intV k)]) (fun k=>HL (H) [.cells [strV n,.slice (l.map Ty.cells) none],.cells [strV n,.slice (l'.map Ty.cells) none]]) (fun k=>l.take k=l'.take k) (weak_HL (hcl) (by simp) ?_ ?_) ?_ (fun k hk hi=>?_) (fun hi=>?_)
 ·simp
 ·simp
 ·simp
 ·obtain ⟨x,hx⟩:∃ x,l[k]?=some x:=⟨_,List.getElem?_eq_getElem hk⟩
  obtain ⟨y,hy⟩:∃ y,l'[k]?=some y:=⟨_,List.getElem?_eq_getElem (by omega)⟩
  have hxc:=cnt_mem hx
  repeat with_reducible refine awp_assoc ?_
  refine awp_sr fun K hK=>?_;simp [hk];apply hK;clear hK K;refine awp_seq_k fun K hK=>?_;refine awp_condT rfl (by simp) ?_;refine awp_skip ?_;apply hK;clear hK K;refine awp_seq_k fun K hK=>?_;refine awp_block ?_
  have hc:=ih x (List.mem_of_getElem? hx) y (by omega)
  obtain ⟨nx,lx⟩:=x
  obtain ⟨ny,ly⟩:=y
  simp only [enc_mk] at hc;refine awp_sdc [] [[],[],[0,1],[],[],[0,1,2,3,4],[0,1,2,3,4],[0,1,2,3,4,5,6],[0,1,2,3,4],[0,1,2,3,4],[0,5],[0,1,2,5,6,7]] (by kernel_rfl) (by rfl) fun K hK=>?_;refine aCalm_pre 10 (by rfl) fun K hK=>?_;simp [hx,hy,Ty.cells];apply hK;clear hK K;refine aCalm_call0 (hc _) (by first | rfl | simp) rfl rfl rfl (by first | (simp;done) | rfl) ?_;refine aCalm_pre 1 (by rfl) fun K hK=>?_;simp;apply hK;clear hK K;refine aCalm_end ?_;simp;apply hK;clear hK K
  cases he:eqT (.mk nx lx) (.mk ny ly)
  ·refine awp_condT rfl (by simp [he]) ?_;refine awp_sr fun K hK=>?_;simp;apply hK;clear hK K
   have e:eqT (.mk n l) (.mk n l')=false:=by
    rw [eqT_false];rintro h;cases h
    rw [hx] at hy;simp at hy
    rw [eqT_false] at he;simp at he;exact he hy.1 hy.2
   simp [e,reset_all hcl]
  ·refine awp_condF rfl (by simp [he]) ?_;refine awp_skip ?_;apply hK;clear hK K;refine awp_region ?_;simp [wrap_succ (show k < 4611686018427387904 by omega)]
   refine ⟨?_,?_⟩
   ·rw [take_one hx,take_one hy,hi,(eqT_iff _ _).1 he]
   ·refine weak_HL (hcl) (by simp) (by simp) (by simp)
 ·repeat with_reducible refine awp_assoc ?_
  refine awp_sr fun K hK=>?_;simp;apply hK;clear hK K;refine awp_seq_k fun K hK=>?_;refine awp_condF rfl (by simp) ?_;refine awp_exit ?_;simp;clear hK K;apply hK;clear hK K;refine awp_sr fun K hK=>?_;simp;apply hK;clear hK K
  rw [List.take_length,hlen,List.take_length] at hi
  subst hi
  have e:eqT (.mk n l) (.mk n l)=true:=(eqT_iff _ _).2 rfl
  simp [e,reset_all hcl]
theorem small_c (s:ByteArray) (H:AHeap):ACalls Tryz.prog 50 [strV s] H (Ty.mk s []).enc H:=by
 refine acalls_walk (fun _=>.imm) [0,2] Tryz.mixed Tryz.func50 rfl rfl rfl (by decide) (fun hcl hlow=>?_)
 refine awp_sr fun K hK=>?_;simp;apply hK;clear hK K;refine awp_sr fun K hK=>?_;simp;apply hK;clear hK K;simp [enc_mk,reset_all hcl]
 exact Wk.agg (by simp)
theorem fun_c (a b:Ty) (H:AHeap):ACalls Tryz.prog 49 [a.enc,b.enc] H (Ty.mk arrowN [a,b]).enc H:=by
 refine acalls_walk (fun _=>.imm) [0,1,2,3,4] Tryz.mixed Tryz.func49 rfl rfl rfl (by decide) (fun hcl hlow=>?_)
 simp only [enc_eq];refine awp_sr fun K hK=>?_;simp;apply hK;clear hK K;refine awp_sr fun K hK=>?_;simp;apply hK;clear hK K;simp [enc_mk,cells_eq,arrowN,Ty.name,Ty.args,reset_all hcl]
 exact Wk.agg (by simp)
def listN:ByteArray:=⟨#[76,105,115,116]⟩
def intN:ByteArray:=⟨#[73,110,116]⟩
def bS:ByteArray:=⟨#[98]⟩
theorem list_c (a:Ty) (H:AHeap):ACalls Tryz.prog 48 [a.enc] H (Ty.mk listN [a]).enc H:=by
 refine acalls_walk (fun _=>.imm) [0,1,2] Tryz.mixed Tryz.func48 rfl rfl rfl (by decide) (fun hcl hlow=>?_)
 simp only [enc_eq];refine awp_sr fun K hK=>?_;simp;apply hK;clear hK K;refine awp_sr fun K hK=>?_;simp;apply hK;clear hK K;simp [enc_mk,cells_eq,listN,Ty.name,Ty.args,reset_all hcl]
 exact Wk.agg (by simp)
end Go.Proofs.YtgeehnbbhnpimaaGreat
