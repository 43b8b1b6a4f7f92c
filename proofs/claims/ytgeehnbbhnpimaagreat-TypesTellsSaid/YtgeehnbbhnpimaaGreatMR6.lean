/- The reference's reader of arguments and types. -/
import Derived.Test.YtgeehnbbhnpimaaGreatMR5
set_option linter.unusedVariables false
set_option linter.unusedSimpArgs false
namespace Go.Proofs.YtgeehnbbhnpimaaGreat
open Go Go.Abs Go.Proofs
set_option maxRecDepth 20000
attribute [local simp] aOps wantedA aStep aop aLoad aStore aBin aUn aFieldAddr aField aIndexAddr aIndex aLen aBuild aFill aAlloc aAppend aBuildSlice litRows newRows isMut isOwn isNilS nilsW bytesR tokW tokAV tokL ret readC splice aeval isLit isLate AV.celled AV.one AV.ofValue Value.oneCell' Value.cells intOp strOp get_nid upd_nid awp aEnd aResults aResult Det unord isCall isNext
attribute [local simp] low_take low_strs low_comp low_tcomp wkEs_refl' WkBs WkEnv WkB WkL WkE WkO ABlock.low lowO lowL lowR AV.low cellsL_eq Ty.low low_map Ty.cells_length Ty.cells_one
attribute [local simp] low_bind
def ArgC (ri:Nat) (s:ByteArray) (f:Nat):Prop:=∀ (k:Nat) (r:PR) (H:AHeap),k≤s.size→H.get ri=some (rdS s k false)→pAlone (hdR s) (nxR s) f k=some r →
 ACalls Tryz.prog 97 [.ref ri 0] H (resE r) (H.upd ri (resB s r))
def TypeC (ri:Nat) (s:ByteArray) (f:Nat):Prop:=∀ (k:Nat) (r:PR) (H:AHeap),k≤s.size→H.get ri=some (rdS s k false)→pWhole (hdR s) (nxR s) f k=some r →
 ACalls Tryz.prog 55 [.ref ri 0] H (resE r) (H.upd ri (resB s r))
theorem zero_enc:zeroTy.enc=.agg [strV ByteArray.empty,.slice [] none]:=by unfold zeroTy;simp [enc_mk]
theorem arg_walk (ri:Nat) (s:ByteArray) (hs:s.size < 1152921504606846976) (f:Nat) (hT:TypeC ri s f):ArgC ri s (f+1):=by
 intro k r H hk hH he
 rw [pAlone] at he
 have hto:=fun (k:Nat) (hk:k≤s.size) (bad:Bool) (H:AHeap) hH=>token_c (ri:=ri) (s:=s) (bad:=bad) (H:=H) hk hH
 have hst:=fun (k:Nat) (hk:k≤s.size) (bad:Bool) (H:AHeap) hH=>step_c (ri:=ri) (s:=s) (bad:=bad) (H:=H) hs hk hH
 have h1:=rSmallN_c (hdR s k)
 have h2:=rGreatN_c (hdR s k)
 have hty:=rd_le (hdR s) (nxR s) (B:=s.size) (fun k hk=>nxR_le hk) f
 refine acalls_walk (fun _=>.imm) [0,2,3,4,12,18,35] Tryz.mixed Tryz.func97 rfl rfl rfl (by decide) (fun hcl hlow=>?_)
 have hrl:ri < H.next:=(hcl _ _ hH).1
 have g0:∀ bs,(HL H bs).get ri=some (rdS s k false):=fun bs=>by rw [get_lt hrl];exact hH
 have hcu:∀ B:ABlock,(∀ n,B.low n)→(H.upd ri B).Closed:=fun B hB=>closed_upd hcl hrl (hB _)
 have hnu:∀ B,(H.upd ri B).next=H.next:=fun _=>rfl
 have gu:∀ B bs,(HL (H.upd ri B) bs).get ri=some B:=fun B bs=>by rw [get_lt (by exact hrl)];exact get_upd_self
 have u:∀ b bs,(HL H bs).upd ri b=HL (H.upd ri b) bs:=fun b bs=>upd_lt hrl
 have u2:∀ B b bs,(HL (H.upd ri B) bs).upd ri b=HL (H.upd ri b) bs:=fun B b bs=>by rw [upd_lt (by exact hrl),upd_upd]
 refine awp_sr fun K hK=>?_;simp;apply hK;clear hK K;refine awp_sr fun K hK=>?_;refine aOps_split 1 fun K hK=>?_;simp;apply hK;clear hK K;refine aOps_call (hto k hk false _ (g0 _)) (by first | rfl | simp) rfl rfl (by first | (simp;done) | rfl) ?_;simp;apply hK;clear hK K
 generalize hw:hdR s k=w at *
 have hk1:=nxR_le hk
 repeat with_reducible refine awp_assoc ?_
 refine awp_sr fun K hK=>?_
 suffices hkk:∀ c:Bool,c=(smallN w || greatN w)→K (Env.ofL [(0,.ref ri 0),(2,.ref (nid H.next 0) 0),(3,strV w),(4,.undef),(12,boolV c),(18,.undef),(35,.undef)]) (HL H [.cells [strV ByteArray.empty,.v (.slice none 0 0)]]) by
  refine aOps_split 1 fun K hK=>?_;simp;apply hK;clear hK K;refine aOps_call (h1 _) (by first | rfl | simp) rfl rfl (by first | (simp;done) | rfl) ?_
  cases e1:smallN w
  ·refine aOps_split 2 fun K hK=>?_;simp;apply hK;clear hK K;refine aOps_call (h2 _) (by first | rfl | simp) rfl rfl (by first | (simp;done) | rfl) ?_;refine aOps_split 1 fun K hK=>?_;simp;apply hK;clear hK K;simp
   exact hkk _ (by simp [e1])
  ·refine aOps_split 4 fun K hK=>?_;simp;apply hK;clear hK K;simp
   exact hkk _ (by simp [e1])
 intro c hcd
 apply hK;clear hK K
 rw [←hcd] at he
 cases c
 rotate_left
 ·simp only [if_true,Option.some.injEq] at he;refine awp_seq_k fun K hK=>?_;refine awp_condT rfl (by simp) ?_;refine awp_sr fun K hK=>?_;refine aOps_split 1 fun K hK=>?_;simp;apply hK;clear hK K;refine aOps_call (hst k hk false _ (g0 _)) (by first | rfl | simp) rfl rfl (by first | (simp;done) | rfl) ?_;simp [u];apply hK;clear hK K;refine awp_sr fun K hK=>?_;simp;apply hK;clear hK K
  rw [←he]
  simp [resE,resB,enc_mk]
  exact ⟨Wk.agg ⟨.refl _,Wk.nilSlice,trivial⟩,reset_all (hcu _ (rd_low _ _))⟩
 rw [if_neg (by simp)] at he
 refine awp_seq_k fun K hK=>?_;refine awp_condF rfl (by simp) ?_;refine awp_skip ?_;apply hK;clear hK K
 by_cases e3:w=opS
 rotate_left
 ·rw [if_neg e3] at he
  have e4:¬ w=⟨#[40]⟩:=e3
  simp only [Option.some.injEq] at he;repeat with_reducible refine awp_assoc ?_
  refine awp_sr fun K hK=>?_;simp [e4];apply hK;clear hK K;refine awp_seq_k fun K hK=>?_;refine awp_condT rfl (by simp) ?_
  have g1:∀ bs,(HL H bs).get ri=some (.cells [strV s,intV (spN s k:Int),intV (endN s (spN s k):Int),boolV false]):=g0
  refine awp_sr fun K hK=>?_;simp [g1,u];apply hK;clear hK K;refine awp_sr fun K hK=>?_;simp;apply hK;clear hK K
  rw [←he]
  simp [resE,resB,zero_enc]
  exact ⟨Wk.agg ⟨.refl _,Wk.nilSlice,trivial⟩,reset_all (hcu _ (rd_low k true))⟩
 rw [if_pos e3] at he
 have e4:w=⟨#[40]⟩:=e3
 cases hwh:pWhole (hdR s) (nxR s) f (nxR s k) with
 | none=>rw [hwh] at he;cases he
 | some q =>
 rw [hwh] at he
 have hcT:=hT (nxR s k) q
 have hqb:=hty.2.2 _ _ hk1 hwh
 repeat with_reducible refine awp_assoc ?_
 refine awp_sr fun K hK=>?_;simp [e4];apply hK;clear hK K;refine awp_seq_k fun K hK=>?_;refine awp_condF rfl (by simp) ?_;refine awp_skip ?_;apply hK;clear hK K;refine awp_sr fun K hK=>?_;refine aOps_split 1 fun K hK=>?_;simp;apply hK;clear hK K;refine aOps_call (hst k hk false _ (g0 _)) (by first | rfl | simp) rfl rfl (by first | (simp;done) | rfl) ?_;simp [u];apply hK;clear hK K;refine awp_sr fun K hK=>?_;refine aOps_split 1 fun K hK=>?_;simp;apply hK;clear hK K;refine aOps_call (hcT _ hk1 (gu _ _) hwh) (by first | rfl | simp) rfl rfl (by first | (simp;done) | rfl) ?_
 cases q with
 | bad k' =>
  simp only [Option.some.injEq] at he
  subst he
  have g1:∀ bs,(HL (H.upd ri (resB s (.bad k'))) bs).get ri=some (.cells [strV s,intV (spN s k':Int),intV (endN s (spN s k'):Int),boolV true]):=fun bs=>gu _ bs
  simp [u2,resE,zero_enc];apply hK;clear hK K;repeat with_reducible refine awp_assoc ?_
  refine awp_sr fun K hK=>?_;simp [g1];apply hK;clear hK K;refine awp_seq_k fun K hK=>?_;refine awp_condT rfl (by simp) ?_;refine awp_sr fun K hK=>?_;simp [g1,u2];apply hK;clear hK K;refine awp_sr fun K hK=>?_;simp;apply hK;clear hK K;simp [resE,resB,zero_enc]
  exact ⟨Wk.agg ⟨.refl _,Wk.nilSlice,trivial⟩,reset_all (hcu _ (rd_low k' true))⟩
 | ok t k' =>
  simp only at he
  obtain ⟨tn,tl⟩:=t
  have g1:∀ bs,(HL (H.upd ri (resB s (.ok (.mk tn tl) k'))) bs).get ri=some (.cells [strV s,intV (spN s k':Int),intV (endN s (spN s k'):Int),boolV false]):=fun bs=>gu _ bs
  have hk2:k'≤s.size:=hqb
  simp [u2,resE,enc_mk];apply hK;clear hK K;repeat with_reducible refine awp_assoc ?_
  refine awp_sr fun K hK=>?_;refine aOps_split 6 fun K hK=>?_;simp [g1];apply hK;clear hK K;refine aOps_call (hto k' hk2 false _ (gu _ _)) (by first | rfl | simp) rfl rfl (by first | (simp;done) | rfl) ?_
  by_cases e5:hdR s k'=clS
  ·rw [if_pos e5] at he
   simp only [Option.some.injEq] at he
   subst he
   have e6:hdR s k'=⟨#[41]⟩:=e5
   simp [e6];apply hK;clear hK K;refine awp_seq_k fun K hK=>?_;refine awp_condF rfl (by simp) ?_;refine awp_skip ?_;apply hK;clear hK K;refine awp_sr fun K hK=>?_;refine aOps_split 1 fun K hK=>?_;simp;apply hK;clear hK K;refine aOps_call (hst k' hk2 false _ (gu _ _)) (by first | rfl | simp) rfl rfl (by first | (simp;done) | rfl) ?_;simp [u2];apply hK;clear hK K;refine awp_sr fun K hK=>?_;simp;apply hK;clear hK K;simp [resE,resB,enc_mk]
   exact reset_all (hcu _ (rd_low (nxR s k') false))
  ·rw [if_neg e5] at he
   simp only [Option.some.injEq] at he
   subst he
   have e6:¬ hdR s k'=⟨#[41]⟩:=e5
   simp [e6];apply hK;clear hK K;refine awp_seq_k fun K hK=>?_;refine awp_condT rfl (by simp) ?_;refine awp_sr fun K hK=>?_;simp [g1,u2];apply hK;clear hK K;refine awp_sr fun K hK=>?_;simp;apply hK;clear hK K;simp [resE,resB,zero_enc]
   exact ⟨Wk.agg ⟨.refl _,Wk.nilSlice,trivial⟩,reset_all (hcu _ (rd_low k' true))⟩
section
variable (hd:Nat→ByteArray) (nx:Nat→Nat)
theorem name_size {w:ByteArray} (h:(smallN w || greatN w)=true):w.size≠0:=by
 intro h0
 have h1:runB w=true:=by
  rw [Bool.or_eq_true] at h
  rcases h with h | h
  ·unfold smallN at h;simp only [Bool.and_eq_true] at h;exact h.1.1
  ·unfold greatN at h;simp only [Bool.and_eq_true] at h;exact h.1
 have:=runB_size h1
 omega
theorem rd_lt (hN:∀ k,(hd k).size≠0→k < nx k):∀ (f:Nat),(∀ k t k',pAlone hd nx f k=some (.ok t k')→k < k')∧(∀ n acc k t k',pArgs hd nx f n acc k=some (.ok t k')→k≤k')∧(∀ k t k',pWhole hd nx f k=some (.ok t k')→k < k'):=by
 intro f
 induction f with
 | zero=>exact ⟨fun k t k' h=>by simp [pAlone] at h,fun n acc k t k' h=>by simp [pArgs] at h,fun k t k' h=>by simp [pWhole] at h⟩
 | succ f ih =>
  obtain ⟨h1,h2,h3⟩:=ih
  refine ⟨fun k t k' h=>?_,fun n acc k t k' h=>?_,fun k t k' h=>?_⟩
  ·rw [pAlone] at h
   split at h
   ·rename_i hn
    have:=hN k (name_size hn)
    simp only [Option.some.injEq,PR.ok.injEq] at h;omega
   ·split at h
    ·rename_i hop
     have hk:=hN k (by rw [hop];decide)
     split at h
     ·cases h
     ·cases h
     ·rename_i t2 k2 hw
      have:=h3 _ _ _ hw
      split at h
      ·rename_i hcl
       have hk2:=hN k2 (by rw [hcl];decide)
       simp only [Option.some.injEq,PR.ok.injEq] at h;omega
      ·cases h
    ·cases h
  ·rw [pArgs] at h
   split at h
   ·split at h
    ·cases h
    ·cases h
    ·rename_i t2 k2 hw
     have:=h1 _ _ _ hw
     have:=h2 _ _ _ _ _ h
     omega
   ·simp only [Option.some.injEq,PR.ok.injEq] at h;omega
  ·rw [pWhole] at h
   have hin:∀ a k',(if greatN (hd k)=true then pArgs hd nx f (hd k) [] (nx k) else pAlone hd nx f k)=some (.ok a k')→k < k':=by
    intro a k' hr
    split at hr
    ·rename_i hg
     have:=hN k (name_size (by rw [hg];simp))
     have:=h2 _ _ _ _ _ hr
     omega
    ·exact h1 _ _ _ hr
   split at h
   ·cases h
   ·cases h
   ·rename_i a k2 hw
    have hk':=hin _ _ hw
    split at h
    ·rename_i har
     have hk2:=hN k2 (by rw [har];decide)
     split at h
     ·cases h
     ·cases h
     ·rename_i b k3 hw2
      have:=h3 _ _ _ hw2
      simp only [Option.some.injEq,PR.ok.injEq] at h;omega
    ·simp only [Option.some.injEq,PR.ok.injEq] at h;omega
end
theorem hdR_lt {s:ByteArray} (k:Nat) (h:(hdR s k).size≠0):k < nxR s k:=by
 have h3:(hdR s k).size=min (endN s (spN s k)) s.size - spN s k:=by unfold hdR;exact ByteArray.size_extract
 have h4:k≤spN s k:=by unfold spN;omega
 have h2:=endN_le (s:=s) (j:=spN s k) (by omega)
 unfold nxR
 omega
theorem argN_c (ri:Nat) (s:ByteArray) (hs:s.size < 1152921504606846976) (k:Nat) (hk:k≤s.size) (hn:(smallN (hdR s k) || greatN (hdR s k))=true) (H:AHeap) (hH:H.get ri=some (rdS s k false)) :
  ACalls Tryz.prog 97 [.ref ri 0] H (.agg [strV (hdR s k),.v (.slice none 0 0)]) (H.upd ri (rdS s (nxR s k) false)):=by
 have hto:=fun (k:Nat) (hk:k≤s.size) (bad:Bool) (H:AHeap) hH=>token_c (ri:=ri) (s:=s) (bad:=bad) (H:=H) hk hH
 have hst:=fun (k:Nat) (hk:k≤s.size) (bad:Bool) (H:AHeap) hH=>step_c (ri:=ri) (s:=s) (bad:=bad) (H:=H) hs hk hH
 have h1:=rSmallN_c (hdR s k)
 have h2:=rGreatN_c (hdR s k)
 refine acalls_walk (fun _=>.imm) [0,2,3,4,12,18,35] Tryz.mixed Tryz.func97 rfl rfl rfl (by decide) (fun hcl hlow=>?_)
 have hrl:ri < H.next:=(hcl _ _ hH).1
 have g0:∀ bs,(HL H bs).get ri=some (rdS s k false):=fun bs=>by rw [get_lt hrl];exact hH
 have hcu:∀ B:ABlock,(∀ n,B.low n)→(H.upd ri B).Closed:=fun B hB=>closed_upd hcl hrl (hB _)
 have hnu:∀ B,(H.upd ri B).next=H.next:=fun _=>rfl
 have u:∀ b bs,(HL H bs).upd ri b=HL (H.upd ri b) bs:=fun b bs=>upd_lt hrl
 refine awp_sr fun K hK=>?_;simp;apply hK;clear hK K;refine awp_sr fun K hK=>?_;refine aOps_split 1 fun K hK=>?_;simp;apply hK;clear hK K;refine aOps_call (hto k hk false _ (g0 _)) (by first | rfl | simp) rfl rfl (by first | (simp;done) | rfl) ?_;simp;apply hK;clear hK K
 generalize hdR s k=w at *
 have hk1:=nxR_le hk
 repeat with_reducible refine awp_assoc ?_
 refine awp_sr fun K hK=>?_
 suffices hkk:K (Env.ofL [(0,.ref ri 0),(2,.ref (nid H.next 0) 0),(3,strV w),(4,.undef),(12,boolV true),(18,.undef),(35,.undef)]) (HL H [.cells [strV ByteArray.empty,.v (.slice none 0 0)]]) by
  refine aOps_split 1 fun K hK=>?_;simp;apply hK;clear hK K;refine aOps_call (h1 _) (by first | rfl | simp) rfl rfl (by first | (simp;done) | rfl) ?_
  cases e1:smallN w
  ·rw [e1] at hn
   have e2:greatN w=true:=by simpa using hn
   refine aOps_split 2 fun K hK=>?_;simp;apply hK;clear hK K;refine aOps_call (h2 _) (by first | rfl | simp) rfl rfl (by first | (simp;done) | rfl) ?_;refine aOps_split 1 fun K hK=>?_;simp [e2];apply hK;clear hK K;simp
   exact hkk
  ·refine aOps_split 4 fun K hK=>?_;simp;apply hK;clear hK K;simp
   exact hkk
 apply hK;clear hK K;refine awp_seq_k fun K hK=>?_;refine awp_condT rfl (by simp) ?_;refine awp_sr fun K hK=>?_;refine aOps_split 1 fun K hK=>?_;simp;apply hK;clear hK K;refine aOps_call (hst k hk false _ (g0 _)) (by first | rfl | simp) rfl rfl (by first | (simp;done) | rfl) ?_;simp [u];apply hK;clear hK K;refine awp_sr fun K hK=>?_;simp;apply hK;clear hK K;simp
 exact reset_all (hcu _ (rd_low _ _))
set_option maxHeartbeats 2000000 in
theorem type_walk (ri:Nat) (s:ByteArray) (hs:s.size < 1099511627776) (f:Nat) (hA:∀ g,g≤f→ArgC ri s g) (hT:TypeC ri s f):TypeC ri s (f+1):=by
 intro k r H hk hH he
 rw [pWhole] at he
 have hto:=fun (k:Nat) (hk:k≤s.size) (bad:Bool) (H:AHeap) hH=>token_c (ri:=ri) (s:=s) (bad:=bad) (H:=H) hk hH
 have hst:=fun (k:Nat) (hk:k≤s.size) (bad:Bool) (H:AHeap) hH=>step_c (ri:=ri) (s:=s) (bad:=bad) (H:=H) (by omega) hk hH
 have hia:=fun (k:Nat) (hk:k≤s.size) (bad:Bool) (H:AHeap) hH=>isArg_c (ri:=ri) (s:=s) (bad:=bad) (H:=H) hk hH
 have hle:=fun f=>rd_le (hdR s) (nxR s) (B:=s.size) (fun k hk=>nxR_le hk) f
 have h2:=rGreatN_c (hdR s k)
 refine acalls_walk (fun d=>if d=30 then .lit else .imm) [0,2,3,4,5,6,14,17,19,25,35,44] Tryz.mixed Tryz.func55 rfl rfl rfl (by decide) (fun hcl hlow=>?_)
 have hrl:ri < H.next:=(hcl _ _ hH).1
 have g0:∀ bs,(HL H bs).get ri=some (rdS s k false):=fun bs=>by rw [get_lt hrl];exact hH
 have hcu:∀ B:ABlock,(∀ n,B.low n)→(H.upd ri B).Closed:=fun B hB=>closed_upd hcl hrl (hB _)
 have hnu:∀ B,(H.upd ri B).next=H.next:=fun _=>rfl
 have gu:∀ B bs,(HL (H.upd ri B) bs).get ri=some B:=fun B bs=>by rw [get_lt (by exact hrl)];exact get_upd_self
 have gr:∀ k b bs,(HL (H.upd ri (rdS s k b)) bs).get ri=some (.cells [strV s,intV (spN s k:Int),intV (endN s (spN s k):Int),boolV b]):=fun k b bs=>gu _ bs
 have u:∀ b bs,(HL H bs).upd ri b=HL (H.upd ri b) bs:=fun b bs=>upd_lt hrl
 have u2:∀ B b bs,(HL (H.upd ri B) bs).upd ri b=HL (H.upd ri b) bs:=fun B b bs=>by rw [upd_lt (by exact hrl),upd_upd]
 have hk1:=nxR_le hk
 refine awp_sr fun K hK=>?_;simp;apply hK;clear hK K;refine awp_sr fun K hK=>?_;refine aOps_split 1 fun K hK=>?_;simp;apply hK;clear hK K;refine aOps_call (hto k hk false _ (g0 _)) (by first | rfl | simp) rfl rfl (by first | (simp;done) | rfl) ?_;simp;apply hK;clear hK K
 have hz:∀ k',r=.bad k'→Reset (HL (H.upd ri (rdS s k' true)) []) (H.upd ri (rdS s k' true)):=fun k' _=>reset_all (hcu _ (rd_low k' true))
 have hfirst:(greatN (hdR s k)=false∧∃ k',r=.bad k'∧pAlone (hdR s) (nxR s) f k=some (.bad k')) ∨
   ∃ an v k1,k1≤s.size∧(v=.v (.slice none 0 0)∨∃ l:List Ty,v=.slice (l.map Ty.cells) none)∧(∀ H,H.get ri=some (rdS s k false)→ACalls Tryz.prog 97 [.ref ri 0] H (.agg [strV an,v]) (H.upd ri (rdS s k1 false))) ∧
    ((greatN (hdR s k)=false∧∃ l,v=.slice (l.map Ty.cells) none∧(if hdR s k1=arwS then (match pWhole (hdR s) (nxR s) f (nxR s k1) with
      | none=>none
      | some (.bad k2)=>some (.bad k2)
      | some (.ok b k2)=>some (.ok (.mk arrowN [.mk an l,b]) k2)) else some (.ok (.mk an l) k1))=some r) ∨
    (greatN (hdR s k)=true∧v=.v (.slice none 0 0)∧an=hdR s k∧∃ q,pArgs (hdR s) (nxR s) f an [] k1=some q∧(match q with
      | .bad k'=>some (.bad k')
      | .ok a k'=>if hdR s k'=arwS then (match pWhole (hdR s) (nxR s) f (nxR s k') with
       | none=>none
       | some (.bad k2)=>some (.bad k2)
       | some (.ok b k2)=>some (.ok (.mk arrowN [a,b]) k2)) else some (.ok a k'))=some r)):=by
  cases hg:greatN (hdR s k)
  ·rw [hg,if_neg (by simp)] at he
   cases hal:pAlone (hdR s) (nxR s) f k with
   | none=>rw [hal] at he;cases he
   | some q =>
   rw [hal] at he
   cases q with
   | bad k' =>
    simp only [Option.some.injEq] at he
    exact .inl ⟨rfl,k',he.symm,rfl⟩
   | ok t k' =>
    obtain ⟨tn,tl⟩:=t
    refine .inr ⟨tn,.slice (tl.map Ty.cells) none,k',(hle f).1 _ _ hk hal,.inr ⟨tl,rfl⟩,fun H hH=>?_,.inl ⟨rfl,tl,rfl,he⟩⟩
    have:=hA f (Nat.le_refl _) k _ H hk hH hal
    simpa [resE,resB,enc_mk] using this
  ·rw [hg,if_pos rfl] at he
   refine .inr ⟨hdR s k,.v (.slice none 0 0),nxR s k,hk1,.inl rfl,fun H hH=>argN_c ri s (by omega) k hk (by rw [hg];simp) H hH,.inr ⟨rfl,rfl,rfl,?_⟩⟩
   cases hpa:pArgs (hdR s) (nxR s) f (hdR s k) [] (nxR s k) with
   | none=>rw [hpa] at he;cases he
   | some q=>rw [hpa] at he;exact ⟨q,rfl,by cases q <;> exact he⟩
 rcases hfirst with ⟨hg,k',rfl,hal⟩ | ⟨an,v,k1,hk1',hv1,hcA,hrest⟩
 ·have hcA:=hA f (Nat.le_refl _) k (.bad k') H
  have hcA:=fun H hH=>hA f (Nat.le_refl _) k (.bad k') H hk hH hal
  refine awp_sr fun K hK=>?_;refine aOps_split 1 fun K hK=>?_;simp;apply hK;clear hK K;refine aOps_call (hcA _ (g0 _)) (by first | rfl | simp) rfl rfl (by first | (simp;done) | rfl) ?_;simp [u,resE,zero_enc,resB];apply hK;clear hK K;repeat with_reducible refine awp_assoc ?_
  refine awp_sr fun K hK=>?_;simp [gr];apply hK;clear hK K;refine awp_seq_k fun K hK=>?_;refine awp_condT rfl (by simp) ?_;refine awp_sr fun K hK=>?_;simp;apply hK;clear hK K;simp [resE,resB,zero_enc]
  exact ⟨Wk.agg ⟨.refl _,Wk.nilSlice,trivial⟩,reset_all (hcu _ (rd_low k' true))⟩
 refine awp_sr fun K hK=>?_;refine aOps_split 1 fun K hK=>?_;simp;apply hK;clear hK K;refine aOps_call (hcA _ (g0 _)) (by first | rfl | simp) rfl rfl (by first | (simp;done) | rfl) ?_
 suffices hs:K (Env.ofL [(0,.ref ri 0),(2,.ref (nid H.next 0) 0),(3,strV (hdR s k)),(4,.ref (nid H.next 1) 0),(5,.undef),(6,.undef),(14,.undef),(17,.undef),(19,.undef),(25,.undef),(35,.undef),(44,.undef)])
   (HL (H.upd ri (rdS s k1 false)) [.cells [strV ByteArray.empty,.v (.slice none 0 0)],.cells [strV an,v]]) by
  rcases hv1 with rfl | ⟨l,rfl⟩
  ·simp [u]
   exact hs
  ·simp [u]
   exact hs
 apply hK;clear hK K;repeat with_reducible refine awp_assoc ?_
 refine awp_sr fun K hK=>?_;simp [gr];apply hK;clear hK K;refine awp_seq_k fun K hK=>?_;refine awp_condF rfl (by simp) ?_;refine awp_skip ?_;apply hK;clear hK K;repeat with_reducible refine awp_assoc ?_
 refine awp_sr fun K hK=>?_;refine aOps_split 1 fun K hK=>?_;simp;apply hK;clear hK K;refine aOps_call (h2 _) (by first | rfl | simp) rfl rfl (by first | (simp;done) | rfl) ?_;simp;apply hK;clear hK K;refine awp_seq_k fun K hK=>?_
 have hKK:∀ (an:ByteArray) (l:List Ty) (v:AV) (bs:List ABlock) (k1:Nat) (b5 b14 b17 b19 b25:AV),k1≤s.size→((l=[]∧v=.v (.slice none 0 0)∧bs=[])∨∃ t,v=.slice (l.map Ty.cells) t∧(bs=[]∨∃ B1 B2,bs=[B1,B2]))→(if hdR s k1=arwS then (match pWhole (hdR s) (nxR s) f (nxR s k1) with
      | none=>none
      | some (.bad k2)=>some (.bad k2)
      | some (.ok b k2)=>some (.ok (.mk arrowN [.mk an l,b]) k2)) else some (.ok (.mk an l) k1))=some r →
   K (Env.ofL [(0,.ref ri 0),(2,.ref (nid H.next 0) 0),(3,strV (hdR s k)),(4,.ref (nid H.next 1) 0),(5,b5),(6,.undef),(14,b14),(17,b17),(19,b19),(25,b25),(35,.undef),(44,.undef)])
    (HL (H.upd ri (rdS s k1 false)) ([.cells [strV ByteArray.empty,.v (.slice none 0 0)],.cells [strV an,v]]++bs)):=by
  intro an l v bs k1 b5 b14 b17 b19 b25 hk1 hv1 hsp
  apply hK;clear hK K hrest hcA;repeat with_reducible refine awp_assoc ?_
  refine awp_sr fun K hK=>?_;refine aOps_split 1 fun K hK=>?_;simp;apply hK;clear hK K;refine aOps_call (hto k1 hk1 false _ (gu _ _)) (by first | rfl | simp) rfl rfl (by first | (simp;done) | rfl) ?_
  by_cases e3:hdR s k1=arwS
  rotate_left
  ·have e4:¬ hdR s k1=⟨#[45,62]⟩:=e3
   rw [if_neg e3] at hsp
   simp only [Option.some.injEq] at hsp
   subst hsp
   simp [e4];apply hK;clear hK K;refine awp_seq_k fun K hK=>?_;refine awp_condT rfl (by simp) ?_
   rcases hv1 with ⟨rfl,rfl,rfl⟩ | ⟨t,rfl,rfl | ⟨B1,B2,rfl⟩⟩
   all_goals
    refine awp_sr fun K hK=>?_;simp;apply hK;clear hK K;simp [resE,resB,enc_mk]
    first
     | exact ⟨Wk.agg ⟨.refl _,Wk.nilSlice,trivial⟩,reset_all (hcu _ (rd_low k1 false))⟩
     | exact ⟨Wk.agg (by simp),reset_all (hcu _ (rd_low k1 false))⟩
     | exact reset_all (hcu _ (rd_low k1 false))
  ·have e4:hdR s k1=⟨#[45,62]⟩:=e3
   rw [if_pos e3] at hsp
   cases hw2:pWhole (hdR s) (nxR s) f (nxR s k1) with
   | none=>rw [hw2] at hsp;cases hsp
   | some q =>
   rw [hw2] at hsp
   have hcT:=fun H hH=>hT (nxR s k1) q H (nxR_le hk1) hH hw2
   simp [e4];apply hK;clear hK K;refine awp_seq_k fun K hK=>?_;refine awp_condF rfl (by simp) ?_;refine awp_skip ?_;apply hK;clear hK K;refine awp_sr fun K hK=>?_;refine aOps_split 1 fun K hK=>?_;simp;apply hK;clear hK K;refine aOps_call (hst k1 hk1 false _ (gu _ _)) (by first | rfl | simp) rfl rfl (by first | (simp;done) | rfl) ?_;simp [u2];apply hK;clear hK K;refine awp_sr fun K hK=>?_;refine aOps_split 1 fun K hK=>?_;simp;apply hK;clear hK K;refine aOps_call (hcT _ (gu _ _)) (by first | rfl | simp) rfl rfl (by first | (simp;done) | rfl) ?_
   cases q with
   | bad k2 =>
    simp only [Option.some.injEq] at hsp
    subst hsp
    rcases hv1 with ⟨rfl,rfl,rfl⟩ | ⟨t,rfl,rfl | ⟨B1,B2,rfl⟩⟩
    all_goals
     simp [u2,resE,zero_enc,resB];apply hK;clear hK K;repeat with_reducible refine awp_assoc ?_
     refine awp_sr fun K hK=>?_;simp [gr];apply hK;clear hK K;refine awp_seq_k fun K hK=>?_;refine awp_condT rfl (by simp) ?_;refine awp_sr fun K hK=>?_;simp;apply hK;clear hK K;simp [resE,resB,zero_enc]
     exact ⟨Wk.agg ⟨.refl _,Wk.nilSlice,trivial⟩,reset_all (hcu _ (rd_low k2 true))⟩
   | ok tb k2 =>
    simp only [Option.some.injEq] at hsp
    subst hsp
    obtain ⟨bn,bl⟩:=tb
    rcases hv1 with ⟨rfl,rfl,rfl⟩ | ⟨t,rfl,rfl | ⟨B1,B2,rfl⟩⟩
    all_goals
     simp [u2,resE,enc_mk,resB];apply hK;clear hK K;repeat with_reducible refine awp_assoc ?_
     refine awp_sr fun K hK=>?_;simp [gr];apply hK;clear hK K;refine awp_seq_k fun K hK=>?_;refine awp_condF rfl (by simp) ?_;refine awp_skip ?_;apply hK;clear hK K;refine awp_sr fun K hK=>?_;simp;apply hK;clear hK K;simp [resE,resB,enc_mk,arrowN,Ty.cells]
     first
      | exact ⟨Wk.agg ⟨.refl _,Wk.slice ⟨⟨.refl _,Wk.nilSlice,trivial⟩,⟨.refl _,.refl _,trivial⟩,trivial⟩,trivial⟩,reset_all (hcu _ (rd_low k2 false))⟩
      | exact ⟨Wk.agg ⟨.refl _,Wk.slice ⟨⟨.refl _,Wk.tok _ _,trivial⟩,⟨.refl _,.refl _,trivial⟩,trivial⟩,trivial⟩,reset_all (hcu _ (rd_low k2 false))⟩
 rcases hrest with ⟨hg,l,rfl,hsp⟩ | ⟨hg,rfl,rfl,q,hpa,hsp⟩
 ·refine awp_condF rfl (by simp [hg]) ?_;refine awp_skip ?_
  exact hKK an l _ [] k1 _ _ _ _ _ hk1' (.inr ⟨none,rfl,.inl rfl⟩) hsp
 ·refine awp_condT rfl (by simp [hg]) ?_;refine awp_block ?_
  refine awp_loop (fun m env H'=>∃ (acc:List Ty) (k2:Nat),m≤f∧k2≤s.size∧acc.length≤k2∧pArgs (hdR s) (nxR s) m (hdR s k) acc k2=some q∧env=Env.ofL [(0,.ref ri 0),(2,.ref (nid H.next 0) 0),(3,strV (hdR s k)),(4,.ref (nid H.next 1) 0)] ∧
   (
    (acc=[]∧H'=HL (H.upd ri (rdS s k2 false)) [.cells [strV ByteArray.empty,.v (.slice none 0 0)],.cells [strV (hdR s k),.v (.slice none 0 0)]]) ∨
    H'=HL (H.upd ri (rdS s k2 false)) [.cells [strV ByteArray.empty,.v (.slice none 0 0)],.cells [strV (hdR s k),.slice (acc.map Ty.cells) (some (nid H.next 3))],.cells [],.tok acc.length 2 none]))
   f (weak_HL (hcu _ (rd_low k1 false)) rfl (by simp) (by simp [lt_nid hrl])) ⟨[],k1,Nat.le_refl _,hk1',Nat.zero_le _,hpa,rfl,.inl ⟨rfl,rfl⟩⟩ ?_
  rintro m env H' ⟨acc,k2,hmf,hk2,hal,hpm,rfl,hH'⟩
  cases m with
  | zero=>simp [pArgs] at hpm
  | succ m =>
  rw [pArgs] at hpm
  have hgH:H'.get ri=some (rdS s k2 false):=by
   rcases hH' with ⟨_,rfl⟩ | rfl
   ·exact gu _ _
   ·exact gu _ _
  repeat with_reducible refine awp_assoc ?_
  refine awp_sr fun K hK=>?_;refine aOps_split 1 fun K hK=>?_;simp;apply hK;clear hK K;refine aOps_call (hia k2 hk2 false _ hgH) (by first | rfl | simp) rfl rfl (by first | (simp;done) | rfl) ?_;simp;apply hK;clear hK K
  cases hb:(smallN (hdR s k2) || greatN (hdR s k2) || decide (hdR s k2=opS))
  ·rw [hb,if_neg (by simp)] at hpm
   simp only [Option.some.injEq] at hpm
   subst hpm
   refine awp_seq_k fun K hK=>?_;refine awp_condF rfl (by simp) ?_;refine awp_exit ?_;simp
   rcases hH' with ⟨rfl,rfl⟩ | rfl
   ·exact hKK _ [] _ [] k2 _ _ _ _ _ hk2 (.inl ⟨rfl,rfl,rfl⟩) hsp
   ·exact hKK _ acc _ [_,_] k2 _ _ _ _ _ hk2 (.inr ⟨_,rfl,.inr ⟨_,_,rfl⟩⟩) hsp
  ·rw [hb,if_pos rfl] at hpm
   cases hpal:pAlone (hdR s) (nxR s) m k2 with
   | none=>rw [hpal] at hpm;cases hpm
   | some q2 =>
   rw [hpal] at hpm
   have hcA2:=fun H hH=>hA m (by omega) k2 q2 H hk2 hH hpal
   refine awp_seq_k fun K hK=>?_;refine awp_condT rfl (by simp) ?_;refine awp_skip ?_;apply hK;clear hK K;refine awp_block ?_;refine awp_sr fun K hK=>?_;refine aOps_split 1 fun K hK=>?_;simp;apply hK;clear hK K;refine aOps_call (hcA2 _ hgH) (by first | rfl | simp) rfl rfl (by first | (simp;done) | rfl) ?_
   cases q2 with
   | bad k3 =>
    simp only [Option.some.injEq] at hpm
    subst hpm
    simp only [Option.some.injEq] at hsp
    subst hsp
    rcases hH' with ⟨rfl,rfl⟩ | rfl
    all_goals
     simp [u2,resE,zero_enc,resB];apply hK;clear hK K;repeat with_reducible refine awp_assoc ?_
     refine awp_sr fun K hK=>?_;simp [gr];apply hK;clear hK K;refine awp_seq_k fun K hK=>?_;refine awp_condT rfl (by simp) ?_;refine awp_sr fun K hK=>?_;simp;apply hK;clear hK K;simp [resE,resB,zero_enc]
     exact ⟨Wk.agg ⟨.refl _,Wk.nilSlice,trivial⟩,reset_all (hcu _ (rd_low k3 true))⟩
   | ok t k3 =>
    simp only at hpm
    obtain ⟨tn,tl⟩:=t
    have hk3:k3≤s.size:=(hle m).1 _ _ hk2 hpal
    have hlt3:=(rd_lt (hdR s) (nxR s) (fun k h=>hdR_lt k h) m).1 _ _ _ hpal
    rcases hH' with ⟨rfl,rfl⟩ | rfl
    ·simp [u2,resE,enc_mk,resB];apply hK;clear hK K;repeat with_reducible refine awp_assoc ?_
     refine awp_sr fun K hK=>?_;simp [gr];apply hK;clear hK K;refine awp_seq_k fun K hK=>?_;refine awp_condF rfl (by simp) ?_;refine awp_skip ?_;apply hK;clear hK K;refine awp_region ?_;simp
     refine ⟨m,_,_,weak_HL (hcu _ (rd_low k3 false)) rfl (bs':=[.cells [strV ByteArray.empty,.v (.slice none 0 0)],.cells [strV (hdR s k),.slice ([Ty.mk tn tl].map Ty.cells) (some (nid H.next 3))],.cells [],.tok 1 2 none])
      (l':=[(0,.ref ri 0),(2,.ref (nid H.next 0) 0),(3,strV (hdR s k)),(4,.ref (nid H.next 1) 0)]) (by simp [Ty.cells,cellsL_eq]) (by simp [lt_nid hrl]),by omega,by omega,[Ty.mk tn tl],k3,hk3,by simp;omega,hpm,rfl,.inr rfl⟩
    ·simp [u2,resE,enc_mk,resB];apply hK;clear hK K;repeat with_reducible refine awp_assoc ?_
     refine awp_sr fun K hK=>?_;simp [gr];apply hK;clear hK K;refine awp_seq_k fun K hK=>?_;refine awp_condF rfl (by simp) ?_;refine awp_skip ?_;apply hK;clear hK K;refine awp_region ?_;simp
     refine ⟨by omega,m,_,_,weak_HL (hcu _ (rd_low k3 false)) rfl (bs':=[.cells [strV ByteArray.empty,.v (.slice none 0 0)],.cells [strV (hdR s k),.slice ((acc++[Ty.mk tn tl]).map Ty.cells) (some (nid H.next 3))],.cells [],.tok (acc++[Ty.mk tn tl]).length 2 none])
      (l':=[(0,.ref ri 0),(2,.ref (nid H.next 0) 0),(3,strV (hdR s k)),(4,.ref (nid H.next 1) 0)]) (by simp [Ty.cells,cellsL_eq]) (by simp [lt_nid hrl]),by omega,by omega,acc++[Ty.mk tn tl],k3,hk3,by simp;omega,hpm,rfl,.inr rfl⟩
theorem reader_c (ri:Nat) (s:ByteArray) (hs:s.size < 1099511627776):∀ f,ArgC ri s f∧TypeC ri s f:=by
 intro f
 induction f using Nat.strongRecOn with
 | _ f ih =>
 cases f with
 | zero=>exact ⟨fun k r H _ _ h=>by simp [pAlone] at h,fun k r H _ _ h=>by simp [pWhole] at h⟩
 | succ f=>exact ⟨arg_walk ri s (by omega) f (ih f (by omega)).2,type_walk ri s hs f (fun g hg=>(ih g (by omega)).1) (ih f (by omega)).2⟩
end Go.Proofs.YtgeehnbbhnpimaaGreat
namespace Go.Proofs.YtgeehnbbhnpimaaGreat
open Go Go.Abs Go.Proofs
set_option maxRecDepth 20000
attribute [local simp] aOps wantedA aStep aop aLoad aStore aBin aUn aFieldAddr aField aIndexAddr aIndex aLen aBuild aFill aAlloc aAppend aBuildSlice litRows newRows isMut isOwn isNilS nilsW bytesR tokW tokAV tokL ret readC splice aeval isLit isLate AV.celled AV.one AV.ofValue Value.oneCell' Value.cells intOp strOp get_nid upd_nid awp aEnd aResults aResult Det unord isCall isNext
attribute [local simp] low_take low_strs low_comp low_tcomp wkEs_refl' WkBs WkEnv WkB WkL WkE WkO ABlock.low lowO lowL lowR AV.low cellsL_eq Ty.low low_map Ty.cells_length Ty.cells_one
attribute [local simp] low_bind
section
variable (hd:Nat→ByteArray) (nx:Nat→Nat)
theorem rd_fuel {B:Nat} (hN:∀ k,(hd k).size≠0→k < nx k∧k < B):∀ d,(∀ f k,B - k≤d→2 * d+1≤f→∃ r,pAlone hd nx f k=some r)∧(∀ f n acc k,B - k≤d→2 * d+2≤f→∃ r,pArgs hd nx f n acc k=some r)∧(∀ f k,B - k≤d→2 * d+2≤f→∃ r,pWhole hd nx f k=some r):=by
 intro d
 induction d using Nat.strongRecOn with
 | _ d ih =>
 have hal:∀ f k,B - k≤d→2 * d+1≤f→∃ r,pAlone hd nx f k=some r:=by
  intro f k hk hf
  obtain ⟨g,rfl⟩:∃ g,f=g+1:=⟨f - 1,by omega⟩
  rw [pAlone]
  split
  ·exact ⟨_,rfl⟩
  ·split
   ·rename_i hop
    obtain ⟨h1,h2⟩:=hN k (by rw [hop];decide)
    obtain ⟨r,hr⟩:=(ih (d - 1) (by omega)).2.2 g (nx k) (by omega) (by omega)
    rw [hr]
    cases r with
    | ok t k'=>by_cases hc:hd k'=clS <;> simp [hc]
    | bad k'=>exact ⟨_,rfl⟩
   ·exact ⟨_,rfl⟩
 have hin:∀ f k t k',pAlone hd nx f k=some (.ok t k')→k < k':=fun f=>(rd_lt hd nx (fun k h=>(hN k h).1) f).1
 have hnz:∀ f k t k',pAlone hd nx f k=some (.ok t k')→k < B:=by
  intro f k t k' h
  cases f with
  | zero=>simp [pAlone] at h
  | succ f =>
  rw [pAlone] at h
  split at h
  ·rename_i hn;exact (hN k (name_size hn)).2
  ·split at h
   ·rename_i hop;exact (hN k (by rw [hop];decide)).2
   ·cases h
 have har:∀ f n acc k,B - k≤d→2 * d+2≤f→∃ r,pArgs hd nx f n acc k=some r:=by
  intro f n acc k hk hf
  obtain ⟨g,rfl⟩:∃ g,f=g+1:=⟨f - 1,by omega⟩
  rw [pArgs]
  split
  ·obtain ⟨r,hr⟩:=hal g k hk (by omega)
   rw [hr]
   cases r with
   | ok t k' =>
    have h1:=hin _ _ _ _ hr
    have h2:=hnz _ _ _ _ hr
    exact (ih (d - 1) (by omega)).2.1 g n (acc++[t]) k' (by omega) (by omega)
   | bad k'=>exact ⟨_,rfl⟩
  ·exact ⟨_,rfl⟩
 refine ⟨hal,har,fun f k hk hf=>?_⟩
 obtain ⟨g,rfl⟩:∃ g,f=g+1:=⟨f - 1,by omega⟩
 rw [pWhole]
 have hfirst:∃ r,(if greatN (hd k)=true then pArgs hd nx g (hd k) [] (nx k) else pAlone hd nx g k)=some r∧∀ t k',r=.ok t k'→k < k'∧k < B:=by
  split
  ·rename_i hg
   obtain ⟨h1,h2⟩:=hN k (name_size (by rw [hg];simp))
   obtain ⟨r,hr⟩:=(ih (d - 1) (by omega)).2.1 g (hd k) [] (nx k) (by omega) (by omega)
   refine ⟨r,hr,fun t k' he=>?_⟩
   subst he
   have:=(rd_lt hd nx (fun k h=>(hN k h).1) g).2.1 _ _ _ _ _ hr
   omega
  ·obtain ⟨r,hr⟩:=hal g k hk (by omega)
   refine ⟨r,hr,fun t k' he=>?_⟩
   subst he
   exact ⟨hin _ _ _ _ hr,hnz _ _ _ _ hr⟩
 obtain ⟨r,hr,hr2⟩:=hfirst
 rw [hr]
 cases r with
 | bad k'=>exact ⟨_,rfl⟩
 | ok a k' =>
  obtain ⟨h1,h2⟩:=hr2 a k' rfl
  by_cases hc:hd k'=arwS
  ·simp only [hc,if_true]
   obtain ⟨h3,h4⟩:=hN k' (by rw [hc];decide)
   obtain ⟨r,hr⟩:=(ih (d - 1) (by omega)).2.2 g (nx k') (by omega) (by omega)
   rw [hr]
   cases r <;> exact ⟨_,rfl⟩
  ·simp [hc]
end
theorem hdR_in {s:ByteArray} (k:Nat) (h:(hdR s k).size≠0):k < nxR s k∧k < s.size:=by
 refine ⟨hdR_lt k h,?_⟩
 have h3:(hdR s k).size=min (endN s (spN s k)) s.size - spN s k:=by unfold hdR;exact ByteArray.size_extract
 have h4:k≤spN s k:=by unfold spN;omega
 omega
def readR (s:ByteArray):PR:=(pWhole (hdR s) (nxR s) (2 * s.size+2) 0).getD (.bad 0)
theorem readR_eq (s:ByteArray):pWhole (hdR s) (nxR s) (2 * s.size+2) 0=some (readR s):=by
 obtain ⟨r,hr⟩:=(rd_fuel (hdR s) (nxR s) (B:=s.size) (fun k h=>hdR_in k h) s.size).2.2 (2 * s.size+2) 0 (by omega) (by omega)
 unfold readR;rw [hr];rfl
def parseR (s:ByteArray):Ty × Nat × Int:=if s.size > 20000 then (zeroTy,0,3) else match readR s with
 | .bad k=>(zeroTy,spN s k,2)
 | .ok t k=>if spN s k < s.size then (zeroTy,spN s k,2) else if t.valid=0 then (t,0,0) else (zeroTy,0,t.valid)
theorem rParse_c (s:ByteArray) (hs:s.size < 1152921504606846976) (H:AHeap):ACalls Tryz.prog 23 [strV s] H (.tuple [(parseR s).1.enc,nV (parseR s).2.1,intV (parseR s).2.2]) H:=by
 have he:parseR s=if s.size > 20000 then (zeroTy,0,3) else match readR s with
  | .bad k=>(zeroTy,spN s k,2)
  | .ok t k=>if spN s k < s.size then (zeroTy,spN s k,2) else if t.valid=0 then (t,0,0) else (zeroTy,0,t.valid):=rfl
 have hrd:=readR_eq s
 generalize parseR s=res at he ⊢
 generalize readR s=q at he hrd
 have hle:=(rd_le (hdR s) (nxR s) (B:=s.size) (fun k hk=>nxR_le hk) _).2.2 _ _ (Nat.zero_le _) hrd
 refine acalls_walk (fun _=>.imm) [0,2,3,4,5,6,7,10,24,31] Tryz.mixed Tryz.func23 rfl rfl rfl (by decide) (fun hcl hlow=>?_)
 refine awp_sr fun K hK=>?_;simp;apply hK;clear hK K
 by_cases hl:s.size > 20000
 ·rw [if_pos hl] at he
  have hl':(20000:Int) < s.size:=by omega
  repeat with_reducible refine awp_assoc ?_
  refine awp_sr fun K hK=>?_;simp [hl'];apply hK;clear hK K;refine awp_seq_k fun K hK=>?_;refine awp_condT rfl (by simp) ?_;refine awp_sr fun K hK=>?_;simp;apply hK;clear hK K
  rw [he]
  simp [zero_enc]
  exact ⟨Wk.tuple ⟨Wk.agg ⟨.refl _,Wk.nilSlice,trivial⟩,.refl _,.refl _,trivial⟩,reset_all hcl⟩
 rw [if_neg hl] at he
 have hl':¬ (20000:Int) < s.size:=by omega
 repeat with_reducible refine awp_assoc ?_
 refine awp_sr fun K hK=>?_;simp [hl'];apply hK;clear hK K;refine awp_seq_k fun K hK=>?_;refine awp_condF rfl (by simp) ?_;refine awp_skip ?_;apply hK;clear hK K;refine awp_sr fun K hK=>?_;simp;apply hK;clear hK K
 have hnx:=next_c (nid H.next 1) 0 0 0 s false (Nat.zero_le _) hs (HL H [.cells [strV ByteArray.empty,.v (.slice none 0 0)],rdC s 0 0 false]) (by simp)
 have e1:rdC s (spN s 0) (endN s (spN s 0)) false=rdS s 0 false:=rfl
 rw [e1] at hnx
 simp [rdC] at hnx;refine awp_sr fun K hK=>?_;refine aOps_call (hnx) (by first | rfl | simp) rfl rfl (by first | (simp;done) | rfl) ?_;simp;apply hK;clear hK K
 have hct:=(reader_c (nid H.next 1) s (by omega) (2 * s.size+2)).2 0 q (HL H [.cells [strV ByteArray.empty,.v (.slice none 0 0)],rdS s 0 false]) (Nat.zero_le _) (by simp) hrd
 simp at hct;refine awp_sr fun K hK=>?_;refine aOps_call (hct) (by first | rfl | simp) rfl rfl (by first | (simp;done) | rfl) ?_
 cases q with
 | bad k =>
  simp only at he;simp [resE,zero_enc,resB];apply hK;clear hK K
  have e2:rdS s k true=.cells [strV s,intV (spN s k:Int),intV (endN s (spN s k):Int),boolV true]:=rfl
  rw [e2]
  repeat with_reducible refine awp_assoc ?_
  refine awp_sr fun K hK=>?_;simp;apply hK;clear hK K;refine awp_seq_k fun K hK=>?_;refine awp_condT rfl (by simp) ?_
  refine awp_sd [3] [[],[0],[0],[1,2],[],[]] (by kernel_rfl) fun K hK=>?_
  refine aLex_read rfl rfl rfl rfl fun K hK=>?_;simp
  refine hK _ _ _ ?_
  clear hK K;refine aLex_read rfl rfl rfl rfl fun K hK=>?_;simp
  refine hK _ _ _ ?_
  clear hK K;refine aLex_read rfl rfl rfl rfl fun K hK=>?_;simp
  refine hK _ _ _ ?_
  clear hK K;refine aLex_eff rfl rfl rfl rfl fun K hK=>?_;simp;apply hK;clear hK K;refine aLex_read rfl rfl rfl rfl fun K hK=>?_;simp
  refine hK _ _ _ ?_
  clear hK K;refine aLex_read rfl rfl rfl rfl fun K hK=>?_;simp
  refine hK _ _ _ ?_
  clear hK K;refine aLex_end ?_;simp;apply hK;clear hK K
  rw [he]
  simp [zero_enc]
  exact ⟨Wk.tuple ⟨Wk.agg ⟨.refl _,Wk.nilSlice,trivial⟩,.refl _,.refl _,trivial⟩,reset_all hcl⟩
 | ok t k =>
  simp only at he
  have hva:=rValidate_c t
  obtain ⟨tn,tl⟩:=t
  simp only [enc_mk] at hva;simp [resE,enc_mk,resB];apply hK;clear hK K
  have e2:rdS s k false=.cells [strV s,intV (spN s k:Int),intV (endN s (spN s k):Int),boolV false]:=rfl
  rw [e2]
  by_cases hsp:spN s k < s.size
  ·rw [if_pos hsp] at he
   repeat with_reducible refine awp_assoc ?_
   refine awp_sr fun K hK=>?_;refine aOps_split 5 fun K hK=>?_;simp;apply hK;clear hK K;refine aOps_split 4 fun K hK=>?_;simp [hsp];apply hK;clear hK K;simp;apply hK;clear hK K;refine awp_seq_k fun K hK=>?_;refine awp_condT rfl (by simp) ?_
   refine awp_sd [3] [[],[0],[0],[1,2],[],[]] (by kernel_rfl) fun K hK=>?_
   refine aLex_read rfl rfl rfl rfl fun K hK=>?_;simp
   refine hK _ _ _ ?_
   clear hK K;refine aLex_read rfl rfl rfl rfl fun K hK=>?_;simp
   refine hK _ _ _ ?_
   clear hK K;refine aLex_read rfl rfl rfl rfl fun K hK=>?_;simp
   refine hK _ _ _ ?_
   clear hK K;refine aLex_eff rfl rfl rfl rfl fun K hK=>?_;simp;apply hK;clear hK K;refine aLex_read rfl rfl rfl rfl fun K hK=>?_;simp
   refine hK _ _ _ ?_
   clear hK K;refine aLex_read rfl rfl rfl rfl fun K hK=>?_;simp
   refine hK _ _ _ ?_
   clear hK K;refine aLex_end ?_;simp;apply hK;clear hK K
   rw [he]
   simp [zero_enc]
   exact ⟨Wk.tuple ⟨Wk.agg ⟨.refl _,Wk.nilSlice,trivial⟩,.refl _,.refl _,trivial⟩,reset_all hcl⟩
  ·rw [if_neg hsp] at he
   repeat with_reducible refine awp_assoc ?_
   refine awp_sr fun K hK=>?_;refine aOps_split 5 fun K hK=>?_;simp;apply hK;clear hK K;refine aOps_split 4 fun K hK=>?_;simp [hsp];apply hK;clear hK K;simp;apply hK;clear hK K;refine awp_seq_k fun K hK=>?_;refine awp_condF rfl (by simp) ?_;refine awp_skip ?_;apply hK;clear hK K;repeat with_reducible refine awp_assoc ?_
   refine awp_sr fun K hK=>?_;refine aOps_split 1 fun K hK=>?_;simp;apply hK;clear hK K;refine aOps_call (hva _) (by first | rfl | simp) rfl rfl (by first | (simp;done) | rfl) ?_;simp;apply hK;clear hK K
   by_cases hv:(Ty.mk tn tl).valid=0
   ·rw [if_pos hv] at he
    repeat with_reducible refine awp_assoc ?_
    refine awp_sr fun K hK=>?_;simp [hv];apply hK;clear hK K;refine awp_seq_k fun K hK=>?_;refine awp_condF rfl (by simp) ?_;refine awp_skip ?_;apply hK;clear hK K;refine awp_sr fun K hK=>?_;simp;apply hK;clear hK K
    rw [he]
    simp [enc_mk]
    exact ⟨Wk.tuple ⟨.refl _,.refl _,.refl _,trivial⟩,reset_all hcl⟩
   ·rw [if_neg hv] at he
    repeat with_reducible refine awp_assoc ?_
    refine awp_sr fun K hK=>?_;simp [hv];apply hK;clear hK K;refine awp_seq_k fun K hK=>?_;refine awp_condT rfl (by simp [hv]) ?_;refine awp_sr fun K hK=>?_;simp;apply hK;clear hK K
    rw [he]
    simp [zero_enc]
    exact ⟨Wk.tuple ⟨Wk.agg ⟨.refl _,Wk.nilSlice,trivial⟩,.refl _,.refl _,trivial⟩,reset_all hcl⟩
end Go.Proofs.YtgeehnbbhnpimaaGreat
namespace Go.Proofs.YtgeehnbbhnpimaaGreat
open Go Go.Abs Go.Proofs
set_option maxRecDepth 20000
attribute [local simp] aOps wantedA aStep aop aLoad aStore aBin aUn aFieldAddr aField aIndexAddr aIndex aLen aBuild aFill aAlloc aAppend aBuildSlice litRows newRows isMut isOwn isNilS nilsW bytesR tokW tokAV tokL ret readC splice aeval isLit isLate AV.celled AV.one AV.ofValue Value.oneCell' Value.cells intOp strOp get_nid upd_nid awp aEnd aResults aResult Det unord isCall isNext
attribute [local simp] low_take low_strs low_comp low_tcomp wkEs_refl' WkBs WkEnv WkB WkL WkE WkO ABlock.low lowO lowL lowR AV.low cellsL_eq Ty.low low_map Ty.cells_length Ty.cells_one
attribute [local simp] low_bind
abbrev Tks:=List (ByteArray × Nat)
def tokC (p:ByteArray × Nat):List AV:=[strV p.1,nV p.2]
def hdP (l:Tks) (i:Nat):ByteArray:=match l[i]? with | some p=>p.1 | none=>ByteArray.empty
def posP' (l:Tks) (e:Nat) (i:Nat):Nat:=match l[i]? with | some p=>p.2 | none=>e
def badV (l:Tks) (e:Nat):Option Nat→Int
 | none=>-1
 | some j=>posP' l e j
def rdP (l:Tks) (e:Nat) (i:Nat) (b:Option Nat):ABlock:=.cells [.slice (l.map tokC) none,nV i,nV e,intV (badV l e b)]
theorem low_toks (n:Nat) (l:Tks):lowR n (l.map tokC):=lowR_map fun p _=>⟨trivial,trivial,trivial⟩
theorem rdP_low (l:Tks) (e i:Nat) (b:Option Nat) (n:Nat):(rdP l e i b).low n:=⟨⟨by simp,low_toks n l⟩,trivial,trivial,trivial,trivial⟩
section
variable {ri:Nat} {l:Tks} {e:Nat}
theorem here_c {i:Nat} {b:Option Nat} {H:AHeap} (hH:H.get ri=some (rdP l e i b)):ACalls Tryz.prog 93 [.ref ri 0] H (strV (hdP l i)) H:=by
 refine acalls_walk (fun _=>.imm) [0,2,12] Tryz.mixed Tryz.func93 rfl rfl rfl (by decide) (fun hcl hlow=>?_)
 have hrl:ri < H.next:=(hcl _ _ hH).1
 have g:∀ bs,(HL H bs).get ri=some (.cells [.slice (l.map tokC) none,nV i,nV e,intV (badV l e b)]):=fun bs=>by rw [get_lt hrl];exact hH
 refine awp_sr fun K hK=>?_;simp;apply hK;clear hK K
 by_cases hi:i < l.length
 ·obtain ⟨p,hp⟩:∃ p,l[i]?=some p:=⟨_,List.getElem?_eq_getElem hi⟩
  have hi':(i:Int) < l.length:=by omega
  have e1:hdP l i=p.1:=by unfold hdP;rw [hp]
  repeat with_reducible refine awp_assoc ?_
  refine awp_sdc [] [[],[],[],[],[0,1,2,3],[0,1,2,3],[0,1,2,3],[0,1,2,3],[0,1,2,3,4],[0,4,5]] (by kernel_rfl) (by rfl) fun K hK=>?_;refine aCalm_pre 4 (by rfl) fun K hK=>?_;simp [g];apply hK;clear hK K;refine aCalm_pre 4 (by rfl) fun K hK=>?_;simp [g];apply hK;clear hK K;refine aCalm_pre 2 (by rfl) fun K hK=>?_;simp [hi'];apply hK;clear hK K;refine aCalm_end ?_;simp;apply hK;clear hK K;refine awp_seq_k fun K hK=>?_;refine awp_condT rfl (by simp) ?_;refine awp_sdc [] [[],[],[],[],[0,1,2,3],[0,1,2,3],[0,1,2,3],[0,1,2,3],[0,4],[0,1,4,5],[0,1,2,4,5,6],[]] (by kernel_rfl) (by rfl) fun K hK=>?_;refine aCalm_pre 4 (by rfl) fun K hK=>?_;simp [g];apply hK;clear hK K;refine aCalm_pre 4 (by rfl) fun K hK=>?_;simp [g];apply hK;clear hK K;refine aCalm_pre 4 (by rfl) fun K hK=>?_;simp [hp,tokC];apply hK;clear hK K;refine aCalm_end ?_;simp;apply hK;clear hK K
  rw [e1]
  simp [reset_all hcl]
 ·have hi':¬ (i:Int) < l.length:=by omega
  have e1:hdP l i=ByteArray.empty:=by unfold hdP;rw [List.getElem?_eq_none (by omega)]
  repeat with_reducible refine awp_assoc ?_
  refine awp_sdc [] [[],[],[],[],[0,1,2,3],[0,1,2,3],[0,1,2,3],[0,1,2,3],[0,1,2,3,4],[0,4,5]] (by kernel_rfl) (by rfl) fun K hK=>?_;refine aCalm_pre 4 (by rfl) fun K hK=>?_;simp [g];apply hK;clear hK K;refine aCalm_pre 4 (by rfl) fun K hK=>?_;simp [g];apply hK;clear hK K;refine aCalm_pre 2 (by rfl) fun K hK=>?_;simp [hi'];apply hK;clear hK K;refine aCalm_end ?_;simp;apply hK;clear hK K;refine awp_seq_k fun K hK=>?_;refine awp_condF rfl (by simp) ?_;refine awp_skip ?_;apply hK;clear hK K;refine awp_sr fun K hK=>?_;simp;apply hK;clear hK K
  rw [e1]
  simp [reset_all hcl]
  exact Wk.refl _
theorem fails_c {i:Nat} {b:Option Nat} {H:AHeap} (hH:H.get ri=some (rdP l e i b)) :
  ACalls Tryz.prog 53 [.ref ri 0] H zeroTy.enc (H.upd ri (rdP l e i (some (b.getD i)))):=by
 refine acalls_walk (fun _=>.imm) [0,2,7,24] Tryz.mixed Tryz.func53 rfl rfl rfl (by decide) (fun hcl hlow=>?_)
 have hrl:ri < H.next:=(hcl _ _ hH).1
 have g:∀ bs,(HL H bs).get ri=some (.cells [.slice (l.map tokC) none,nV i,nV e,intV (badV l e b)]):=fun bs=>by rw [get_lt hrl];exact hH
 have u:∀ b bs,(HL H bs).upd ri b=HL (H.upd ri b) bs:=fun b bs=>upd_lt hrl
 have hcu:∀ B:ABlock,(∀ n,B.low n)→(H.upd ri B).Closed:=fun B hB=>closed_upd hcl hrl (hB _)
 have hnu:∀ B,(H.upd ri B).next=H.next:=fun _=>rfl
 have gu:∀ B bs,(HL (H.upd ri B) bs).get ri=some B:=fun B bs=>by rw [get_lt (by exact hrl)];exact get_upd_self
 have u2:∀ B b bs,(HL (H.upd ri B) bs).upd ri b=HL (H.upd ri b) bs:=fun B b bs=>by rw [upd_lt (by exact hrl),upd_upd]
 refine awp_sr fun K hK=>?_;simp;apply hK;clear hK K
 cases b with
 | some j =>
  have e0:H.upd ri (rdP l e i (some j))=H:=by
   refine AHeap.ext (fun x=>?_) rfl
   simp only [AHeap.upd]
   split
   ·rename_i hx;rw [hx];exact hH.symm
   ·rfl
  have hb:¬ (badV l e (some j) < 0):=by show ¬ ((posP' l e j:Int) < 0);omega
  repeat with_reducible refine awp_assoc ?_
  refine awp_sr fun K hK=>?_;simp [g,hb];apply hK;clear hK K;refine awp_seq_k fun K hK=>?_;refine awp_condF rfl (by simp) ?_;refine awp_skip ?_;apply hK;clear hK K;refine awp_sr fun K hK=>?_;simp;apply hK;clear hK K;simp [zero_enc,e0]
  exact ⟨Wk.agg ⟨.refl _,Wk.nilSlice,trivial⟩,reset_all hcl⟩
 | none =>
  simp only [badV] at g;repeat with_reducible refine awp_assoc ?_
  refine awp_sr fun K hK=>?_;simp [g];apply hK;clear hK K;refine awp_seq_k fun K hK=>?_;refine awp_condT rfl (by simp) ?_
  have hgo:∀ z bs,(HL (H.upd ri (.cells [.slice (l.map tokC) none,nV i,nV e,intV z])) bs).get ri=some (.cells [.slice (l.map tokC) none,nV i,nV e,intV z]):=fun z bs=>gu _ bs
  refine awp_sr fun K hK=>?_;simp [g,u];apply hK;clear hK K
  by_cases hi:i < l.length
  ·obtain ⟨p,hp⟩:∃ p,l[i]?=some p:=⟨_,List.getElem?_eq_getElem hi⟩
   have hi':(i:Int) < l.length:=by omega
   have e1:posP' l e i=p.2:=by unfold posP';rw [hp]
   refine awp_sdc [] [[],[],[],[],[0,1,2,3],[0,1,2,3],[0,1,2,3],[0,1,2,3],[0,1,2,3,4],[0,4,5]] (by kernel_rfl) (by rfl) fun K hK=>?_;refine aCalm_pre 4 (by rfl) fun K hK=>?_;simp [hgo];apply hK;clear hK K;refine aCalm_pre 4 (by rfl) fun K hK=>?_;simp [hgo];apply hK;clear hK K;refine aCalm_pre 2 (by rfl) fun K hK=>?_;simp [hi'];apply hK;clear hK K;refine aCalm_end ?_;simp;apply hK;clear hK K;refine awp_condT rfl (by simp) ?_
   refine awp_drawc [14] [[],[0],[0],[0],[0],[0,1,2,3,4],[0,1,2,3,4],[0,1,2,3,4],[0,1,2,3,4],[0,1,5],[0,1,2,5,6],[0,1,2,3,5,6,7],[],[],[]] (by kernel_rfl) (by rfl) ?_
   refine aCalm_pre 5 (by rfl) fun K hK=>?_;simp [hgo];apply hK;clear hK K;refine aCalm_pre 4 (by rfl) fun K hK=>?_;simp [hgo];apply hK;clear hK K;refine aCalm_pre 5 (by rfl) fun K hK=>?_;simp [hp,tokC];apply hK;clear hK K;refine aCalm_pre 1 (by rfl) fun K hK=>?_;simp [hgo,u2];apply hK;clear hK K;refine aCalm_end ?_;simp;apply hK;clear hK K;refine awp_sr fun K hK=>?_;simp;apply hK;clear hK K;simp [zero_enc,rdP,badV,e1]
   exact ⟨Wk.agg ⟨.refl _,Wk.nilSlice,trivial⟩,reset_all (hcu _ (fun n=>by simp [low_toks]))⟩
  ·have hi':¬ (i:Int) < l.length:=by omega
   have e1:posP' l e i=e:=by unfold posP';rw [List.getElem?_eq_none (by omega)]
   refine awp_sdc [] [[],[],[],[],[0,1,2,3],[0,1,2,3],[0,1,2,3],[0,1,2,3],[0,1,2,3,4],[0,4,5]] (by kernel_rfl) (by rfl) fun K hK=>?_;refine aCalm_pre 4 (by rfl) fun K hK=>?_;simp [hgo];apply hK;clear hK K;refine aCalm_pre 4 (by rfl) fun K hK=>?_;simp [hgo];apply hK;clear hK K;refine aCalm_pre 2 (by rfl) fun K hK=>?_;simp [hi'];apply hK;clear hK K;refine aCalm_end ?_;simp;apply hK;clear hK K;refine awp_condF rfl (by simp) ?_;refine awp_skip ?_;apply hK;clear hK K;refine awp_sr fun K hK=>?_;simp;apply hK;clear hK K;simp [zero_enc,rdP,badV,e1]
   exact ⟨Wk.agg ⟨.refl _,Wk.nilSlice,trivial⟩,reset_all (hcu _ (fun n=>by simp [low_toks]))⟩
end
theorem Fun_c (a b:Ty) (H:AHeap):ACalls Tryz.prog 94 [a.enc,b.enc] H (Ty.mk arrowN [a,b]).enc H:=by
 obtain ⟨an,al⟩:=a
 obtain ⟨bn,bl⟩:=b
 refine acalls_walk (fun _=>.imm) [0,1,2,3,4] Tryz.mixed Tryz.func94 rfl rfl rfl (by decide) (fun hcl hlow=>?_)
 simp only [enc_mk];refine awp_sr fun K hK=>?_;simp;apply hK;clear hK K;refine awp_sr fun K hK=>?_;simp;apply hK;clear hK K;simp [enc_mk,arrowN,Ty.cells]
 exact ⟨Wk.agg ⟨.refl _,Wk.tok _ _,trivial⟩,reset_all hcl⟩
end Go.Proofs.YtgeehnbbhnpimaaGreat
