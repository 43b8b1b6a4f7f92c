/- The program's reader of types. -/
import Derived.Test.YtgeehnbbhnpimaaGreatMR6
set_option linter.unusedVariables false
set_option linter.unusedSimpArgs false
namespace Go.Proofs.YtgeehnbbhnpimaaGreat
open Go Go.Abs Go.Proofs
set_option maxRecDepth 20000
attribute [local simp] aOps wantedA aStep aop aLoad aStore aBin aUn aFieldAddr aField aIndexAddr aIndex aLen aBuild aFill aAlloc aAppend aBuildSlice litRows newRows isMut isOwn isNilS nilsW bytesR tokW tokAV tokL ret readC splice aeval isLit isLate AV.celled AV.one AV.ofValue Value.oneCell' Value.cells intOp strOp get_nid upd_nid awp aEnd aResults aResult Det unord isCall isNext
attribute [local simp] low_take low_strs low_comp low_tcomp wkEs_refl' WkBs WkEnv WkB WkL WkE WkO ABlock.low lowO lowL lowR AV.low cellsL_eq Ty.low low_map Ty.cells_length Ty.cells_one
attribute [local simp] low_bind
abbrev QR:=Ty × Nat × Option Nat
section
variable (hd:Nat→ByteArray)
def isA (w:ByteArray):Bool:=greatN w || smallN w || decide (w=opS)
mutual
def qAlone:Nat→Nat→Option QR
 | 0,_=>none
 | f+1,i=>if (greatN (hd i) || smallN (hd i))=true then some (.mk (hd i) [],i+1,none)
  else if hd i=opS then (match qWhole f (i+1) with
   | none=>none
   | some (t,i',b)=>if b=none∧¬ hd i'=clS then some (zeroTy,i',some i') else some (t,i'+1,b))
  else some (zeroTy,i,some i)
def qArgs:Nat→ByteArray→List Ty→Nat→Option Nat→Option QR
 | 0,_,_,_,_=>none
 | f+1,n,acc,i,b=>if b=none∧isA (hd i)=true then (match qAlone f i with
   | none=>none
   | some (t,i',b')=>qArgs f n (acc++[t]) i' b')
  else some (.mk n acc,i,b)
def qWhole:Nat→Nat→Option QR
 | 0,_=>none
 | f+1,i=>match (if greatN (hd i)=true then qArgs f (hd i) [] (i+1) none else qAlone f i) with
  | none=>none
  | some (a,i',b)=>if b=none∧hd i'=arwS then (match qWhole f (i'+1) with
    | none=>none
    | some (t,i2,b2)=>some (.mk arrowN [a,t],i2,b2))
   else some (a,i',b)
end
def QOk (r:PR) (q:QR):Prop:=match r with
 | .ok t k=>q=(t,k,none)
 | .bad k=>q.2.2=some k
theorem q_of_p:∀ (f:Nat),(∀ i r,pAlone hd (·+1) f i=some r→∃ q,qAlone hd f i=some q∧QOk r q)∧(∀ n acc i r,pArgs hd (·+1) f n acc i=some r→∃ q,qArgs hd f n acc i none=some q∧QOk r q)∧(∀ i r,pWhole hd (·+1) f i=some r→∃ q,qWhole hd f i=some q∧QOk r q):=by
 intro f
 induction f with
 | zero=>exact ⟨fun i r h=>by simp [pAlone] at h,fun n acc i r h=>by simp [pArgs] at h,fun i r h=>by simp [pWhole] at h⟩
 | succ f ih =>
  obtain ⟨h1,h2,h3⟩:=ih
  refine ⟨fun i r h=>?_,fun n acc i r h=>?_,fun i r h=>?_⟩
  ·rw [pAlone] at h
   rw [qAlone]
   rw [Bool.or_comm] at h
   split at h
   ·rename_i hn
    rw [if_pos hn]
    simp only [Option.some.injEq] at h;subst h
    exact ⟨_,rfl,rfl⟩
   ·rename_i hn
    rw [if_neg hn]
    split at h
    ·rename_i hop
     rw [if_pos hop]
     split at h
     ·cases h
     ·rename_i k' hw
      obtain ⟨⟨t,i',b⟩,hq,hk⟩:=h3 _ _ hw
      rw [hq]
      obtain rfl:b=some k':=hk
      simp only [Option.some.injEq] at h;subst h
      exact ⟨_,by simp;rfl,by exact rfl⟩
     ·rename_i t k' hw
      obtain ⟨⟨t',i',b⟩,hq,hk⟩:=h3 _ _ hw
      rw [hq]
      simp only [QOk,Prod.mk.injEq] at hk
      obtain ⟨rfl,rfl,rfl⟩:=hk
      split at h
      ·rename_i hcl
       simp only [Option.some.injEq] at h;subst h
       exact ⟨_,by first | (simp [hcl];done) | (simp [hcl];rfl),by exact rfl⟩
      ·rename_i hcl
       simp only [Option.some.injEq] at h;subst h
       exact ⟨_,by first | (simp [hcl];done) | (simp [hcl];rfl),by exact rfl⟩
    ·rename_i hop
     rw [if_neg hop]
     simp only [Option.some.injEq] at h;subst h
     exact ⟨_,rfl,rfl⟩
  ·rw [pArgs] at h
   rw [qArgs]
   have e:isA (hd i)=(smallN (hd i) || greatN (hd i) || decide (hd i=opS)):=by unfold isA;rw [Bool.or_comm (greatN (hd i))]
   rw [e]
   split at h
   ·rename_i hn
    rw [if_pos ⟨rfl,hn⟩]
    split at h
    ·cases h
    ·rename_i k' hw
     obtain ⟨⟨t,i',b⟩,hq,hk⟩:=h1 _ _ hw
     rw [hq]
     obtain rfl:b=some k':=hk
     simp only [Option.some.injEq] at h;subst h
     cases f with
     | zero=>simp [pAlone] at hw
     | succ f=>exact ⟨_,by simp only;rw [qArgs,if_neg (by simp)],by exact rfl⟩
    ·rename_i t k' hw
     obtain ⟨⟨t',i',b⟩,hq,hk⟩:=h1 _ _ hw
     rw [hq]
     simp only [QOk,Prod.mk.injEq] at hk
     obtain ⟨rfl,rfl,rfl⟩:=hk
     exact h2 _ _ _ _ h
   ·rename_i hn
    rw [if_neg (by simp only [true_and];exact hn)]
    simp only [Option.some.injEq] at h;subst h
    exact ⟨_,rfl,rfl⟩
  ·rw [pWhole] at h
   rw [qWhole]
   have hin:∀ r,(if greatN (hd i)=true then pArgs hd (·+1) f (hd i) [] (i+1) else pAlone hd (·+1) f i)=some r→∃ q,(if greatN (hd i)=true then qArgs hd f (hd i) [] (i+1) none else qAlone hd f i)=some q∧QOk r q:=by
    intro r hr
    split at hr
    ·rename_i hg
     rw [if_pos hg];exact h2 _ _ _ _ hr
    ·rename_i hg
     rw [if_neg hg];exact h1 _ _ hr
   split at h
   ·cases h
   ·rename_i k' hw
    obtain ⟨⟨t,i',b⟩,hq,hk⟩:=hin _ hw
    rw [hq]
    obtain rfl:b=some k':=hk
    simp only [Option.some.injEq] at h;subst h
    exact ⟨_,by simp;rfl,by exact rfl⟩
   ·rename_i a k' hw
    obtain ⟨⟨t',i',b⟩,hq,hk⟩:=hin _ hw
    rw [hq]
    simp only [QOk,Prod.mk.injEq] at hk
    obtain ⟨rfl,rfl,rfl⟩:=hk
    split at h
    ·rename_i har
     simp only [har,and_self,if_true]
     split at h
     ·cases h
     ·rename_i k2 hw2
      obtain ⟨⟨t2,i2,b2⟩,hq2,hk2⟩:=h3 _ _ hw2
      rw [hq2]
      obtain rfl:b2=some k2:=hk2
      simp only [Option.some.injEq] at h;subst h
      exact ⟨_,rfl,rfl⟩
     ·rename_i t2 k2 hw2
      obtain ⟨⟨t3,i2,b2⟩,hq2,hk2⟩:=h3 _ _ hw2
      rw [hq2]
      simp only [QOk,Prod.mk.injEq] at hk2
      obtain ⟨rfl,rfl,rfl⟩:=hk2
      simp only [Option.some.injEq] at h;subst h
      exact ⟨_,rfl,rfl⟩
    ·rename_i har
     simp only [har,and_false,if_false];simp only [Option.some.injEq] at h;subst h
     exact ⟨_,rfl,rfl⟩
theorem q_le {B:Nat} (hB:∀ i,(hd i).size≠0→i < B):∀ (f:Nat),(∀ i q,i≤B→qAlone hd f i=some q→(q.2.2=none→q.2.1≤B)∧q.2.1≤B+f)∧(∀ n acc i b q,(b=none→i≤B)→i≤B+f→qArgs hd f n acc i b=some q→(q.2.2=none→q.2.1≤B)∧q.2.1≤B+f)∧(∀ i q,i≤B→qWhole hd f i=some q→(q.2.2=none→q.2.1≤B)∧q.2.1≤B+f):=by
 intro f
 induction f with
 | zero=>exact ⟨fun i r _ h=>by simp [qAlone] at h,fun n acc i b r _ _ h=>by simp [qArgs] at h,fun i r _ h=>by simp [qWhole] at h⟩
 | succ f ih =>
  obtain ⟨h1,h2,h3⟩:=ih
  refine ⟨fun i q hi h=>?_,fun n acc i b q hi hi2 h=>?_,fun i q hi h=>?_⟩
  ·rw [qAlone] at h
   split at h
   ·rename_i hn
    have:=hB i (name_size (by rw [Bool.or_comm];exact hn))
    simp only [Option.some.injEq] at h;subst h
    exact ⟨fun _=>by simp only;omega,by simp only;omega⟩
   ·split at h
    ·rename_i hop
     have hlt:=hB i (by rw [hop];decide)
     split at h
     ·cases h
     ·rename_i t i' b hw
      have hq:=h3 _ _ (by omega) hw
      simp only at hq
      split at h
      ·rename_i hc
       simp only [Option.some.injEq] at h;subst h
       exact ⟨fun hh=>(by cases hh),by simp only;omega⟩
      ·rename_i hc
       simp only [Option.some.injEq] at h;subst h
       refine ⟨fun hb=>?_,by simp only;omega⟩
       simp only at hb ⊢
       have hcl:hd i'=clS:=Decidable.byContradiction fun hh=>hc ⟨hb,hh⟩
       have:=hB i' (by rw [hcl];decide)
       omega
    ·simp only [Option.some.injEq] at h;subst h
     exact ⟨fun hh=>(by cases hh),by simp only;omega⟩
  ·rw [qArgs] at h
   split at h
   ·rename_i hc
    split at h
    ·cases h
    ·rename_i t i' b' hw
     have hq:=h1 _ _ (hi hc.1) hw
     have:=h2 _ _ _ _ _ hq.1 hq.2 h
     exact ⟨this.1,by omega⟩
   ·simp only [Option.some.injEq] at h;subst h
    exact ⟨hi,by simp only;omega⟩
  ·rw [qWhole] at h
   have hin:∀ q,(if greatN (hd i)=true then qArgs hd f (hd i) [] (i+1) none else qAlone hd f i)=some q→(q.2.2=none→q.2.1≤B)∧q.2.1≤B+f:=by
    intro q hq
    split at hq
    ·rename_i hg
     have:=hB i (name_size (by rw [hg];simp))
     exact h2 _ _ _ _ _ (fun _=>by omega) (by omega) hq
    ·exact h1 _ _ hi hq
   split at h
   ·cases h
   ·rename_i a i' b hw
    have hq:=hin _ hw
    simp only at hq
    split at h
    ·rename_i hc
     have:=hB i' (by rw [hc.2];decide)
     split at h
     ·cases h
     ·rename_i t i2 b2 hw2
      have hq2:=h3 _ _ (by omega) hw2
      simp only [Option.some.injEq] at h;subst h
      exact ⟨hq2.1,by simp only at hq2 ⊢;omega⟩
    ·simp only [Option.some.injEq] at h;subst h
     exact ⟨hq.1,by simp only;omega⟩
end
end Go.Proofs.YtgeehnbbhnpimaaGreat
namespace Go.Proofs.YtgeehnbbhnpimaaGreat
open Go Go.Abs Go.Proofs
set_option maxRecDepth 20000
attribute [local simp] aOps wantedA aStep aop aLoad aStore aBin aUn aFieldAddr aField aIndexAddr aIndex aLen aBuild aFill aAlloc aAppend aBuildSlice litRows newRows isMut isOwn isNilS nilsW bytesR tokW tokAV tokL ret readC splice aeval isLit isLate AV.celled AV.one AV.ofValue Value.oneCell' Value.cells intOp strOp get_nid upd_nid awp aEnd aResults aResult Det unord isCall isNext
attribute [local simp] low_take low_strs low_comp low_tcomp wkEs_refl' WkBs WkEnv WkB WkL WkE WkO ABlock.low lowO lowL lowR AV.low cellsL_eq Ty.low low_map Ty.cells_length Ty.cells_one
attribute [local simp] low_bind
def CAlone (ri:Nat) (l:Tks) (e:Nat) (f:Nat):Prop:=∀ (i:Nat) (q:QR) (H:AHeap),i≤l.length→H.get ri=some (rdP l e i none)→qAlone (hdP l) f i=some q →
 ACalls Tryz.prog 116 [.ref ri 0] H q.1.enc (H.upd ri (rdP l e q.2.1 q.2.2))
def CApp (ri:Nat) (l:Tks) (e:Nat) (f:Nat):Prop:=∀ (i:Nat) (q:QR) (H:AHeap),i≤l.length→H.get ri=some (rdP l e i none)→(if greatN (hdP l i)=true then qArgs (hdP l) f (hdP l i) [] (i+1) none else qAlone (hdP l) f i)=some q →
 ACalls Tryz.prog 92 [.ref ri 0] H q.1.enc (H.upd ri (rdP l e q.2.1 q.2.2))
def CWhole (ri:Nat) (l:Tks) (e:Nat) (f:Nat):Prop:=∀ (i:Nat) (q:QR) (H:AHeap),i≤l.length→H.get ri=some (rdP l e i none)→qWhole (hdP l) f i=some q →
 ACalls Tryz.prog 52 [.ref ri 0] H q.1.enc (H.upd ri (rdP l e q.2.1 q.2.2))
theorem hdP_in {l:Tks} (i:Nat) (h:(hdP l i).size≠0):i < l.length:=by
 rcases Nat.lt_or_ge i l.length with h1 | h1
 ·exact h1
 ·exfalso;apply h;unfold hdP;rw [List.getElem?_eq_none h1];rfl
theorem whole_walk (ri:Nat) (l:Tks) (e:Nat) (f:Nat) (hsz:l.length+f < 1099511627776) (hA:CApp ri l e f) (hW:CWhole ri l e f):CWhole ri l e (f+1):=by
 intro i q H hi hH he
 rw [qWhole] at he
 have hle:=q_le (hdP l) (B:=l.length) (fun i h=>hdP_in i h) f
 have hin:∀ q,(if greatN (hdP l i)=true then qArgs (hdP l) f (hdP l i) [] (i+1) none else qAlone (hdP l) f i)=some q→(q.2.2=none→q.2.1≤l.length)∧q.2.1≤l.length+f:=by
  intro q hq
  split at hq
  ·rename_i hg
   have:=hdP_in i (name_size (by rw [hg];simp))
   exact hle.2.1 _ _ _ _ _ (fun _=>by omega) (by omega) hq
  ·exact hle.1 _ _ hi hq
 cases hap:(if greatN (hdP l i)=true then qArgs (hdP l) f (hdP l i) [] (i+1) none else qAlone (hdP l) f i) with
 | none=>rw [hap] at he;cases he
 | some qa =>
 rw [hap] at he
 have hqa:=hin _ hap
 have hca:=fun H hH=>hA i qa H hi hH hap
 obtain ⟨⟨an,al⟩,i',b⟩:=qa
 simp only [enc_mk] at hca he hqa
 have hhe:=fun (i:Nat) (b:Option Nat) (H:AHeap) hH=>here_c (ri:=ri) (l:=l) (e:=e) (i:=i) (b:=b) (H:=H) hH
 refine acalls_walk (fun _=>.imm) [0,2,3,15] Tryz.mixed Tryz.func52 rfl rfl rfl (by decide) (fun hcl hlow=>?_)
 have hrl:ri < H.next:=(hcl _ _ hH).1
 have g0:∀ bs,(HL H bs).get ri=some (rdP l e i none):=fun bs=>by rw [get_lt hrl];exact hH
 have hcu:∀ B:ABlock,(∀ n,B.low n)→(H.upd ri B).Closed:=fun B hB=>closed_upd hcl hrl (hB _)
 have hnu:∀ B,(H.upd ri B).next=H.next:=fun _=>rfl
 have gu:∀ B bs,(HL (H.upd ri B) bs).get ri=some B:=fun B bs=>by rw [get_lt (by exact hrl)];exact get_upd_self
 have gr:∀ i b bs,(HL (H.upd ri (rdP l e i b)) bs).get ri=some (.cells [.slice (l.map tokC) none,nV i,nV e,intV (badV l e b)]):=fun i b bs=>gu _ bs
 have ge:∀ i b,ABlock.cells [.slice (l.map tokC) none,nV i,nV e,intV (badV l e b)]=rdP l e i b:=fun _ _=>rfl
 have u:∀ b bs,(HL H bs).upd ri b=HL (H.upd ri b) bs:=fun b bs=>upd_lt hrl
 have u2:∀ B b bs,(HL (H.upd ri B) bs).upd ri b=HL (H.upd ri b) bs:=fun B b bs=>by rw [upd_lt (by exact hrl),upd_upd]
 refine awp_sr fun K hK=>?_;simp;apply hK;clear hK K;refine awp_sr fun K hK=>?_;refine aOps_split 1 fun K hK=>?_;simp;apply hK;clear hK K;refine aOps_call (hca _ (g0 _)) (by first | rfl | simp) rfl rfl (by first | (simp;done) | rfl) ?_;simp [u];apply hK;clear hK K
 cases b with
 | some j =>
  simp only [reduceCtorEq,false_and,if_false,Option.some.injEq] at he
  subst he
  have hb:¬ (badV l e (some j) < 0):=by show ¬ ((posP' l e j:Int) < 0);omega
  repeat with_reducible refine awp_assoc ?_
  refine awp_sr fun K hK=>?_;refine aOps_split 5 fun K hK=>?_;simp [gr,hb];apply hK;clear hK K;refine aOps_split 5 fun K hK=>?_;simp;apply hK;clear hK K;simp;apply hK;clear hK K;refine awp_seq_k fun K hK=>?_;refine awp_condF rfl (by simp) ?_;refine awp_skip ?_;apply hK;clear hK K;refine awp_sr fun K hK=>?_;simp;apply hK;clear hK K;simp [enc_mk]
  exact reset_all (hcu _ (rdP_low _ _ _ _))
 | none =>
  have hil:=hqa.1 rfl
  have hb:badV l e none < 0:=by show (-1:Int) < 0;omega
  by_cases har:hdP l i'=arwS
  rotate_left
  ·rw [if_neg (by simp [har])] at he
   simp only [Option.some.injEq] at he
   subst he
   have har2:¬ hdP l i'=⟨#[45,62]⟩:=har
   repeat with_reducible refine awp_assoc ?_
   refine awp_sr fun K hK=>?_;refine aOps_split 5 fun K hK=>?_;simp [gr,hb];apply hK;clear hK K;refine aOps_split 2 fun K hK=>?_;simp;apply hK;clear hK K;refine aOps_call (hhe i' none _ (gu _ _)) (by first | rfl | simp) rfl rfl (by first | (simp;done) | rfl) ?_;simp [har2];apply hK;clear hK K;refine awp_seq_k fun K hK=>?_;refine awp_condF rfl (by simp) ?_;refine awp_skip ?_;apply hK;clear hK K;refine awp_sr fun K hK=>?_;simp;apply hK;clear hK K;simp [enc_mk]
   exact reset_all (hcu _ (rdP_low _ _ _ _))
  ·rw [if_pos ⟨rfl,har⟩] at he
   have har2:hdP l i'=⟨#[45,62]⟩:=har
   have hlt:=hdP_in i' (by rw [har];decide)
   cases hw2:qWhole (hdP l) f (i'+1) with
   | none=>rw [hw2] at he;cases he
   | some q2 =>
   rw [hw2] at he
   have hcw:=fun H hH=>hW (i'+1) q2 H (by omega) hH hw2
   obtain ⟨⟨tn,tl⟩,i2,b2⟩:=q2
   simp only [Option.some.injEq] at he
   subst he
   simp only [enc_mk] at hcw
   have hcf:=fun H=>Fun_c (.mk an al) (.mk tn tl) H
   simp only [enc_mk] at hcf
   have w1:IntKind.i64.wrap ((i':Int)+1)=((i'+1:Nat):Int):=wrap_succ (by omega)
   repeat with_reducible refine awp_assoc ?_
   refine awp_sr fun K hK=>?_;refine aOps_split 5 fun K hK=>?_;simp [gr,hb];apply hK;clear hK K;refine aOps_split 2 fun K hK=>?_;simp;apply hK;clear hK K;refine aOps_call (hhe i' none _ (gu _ _)) (by first | rfl | simp) rfl rfl (by first | (simp;done) | rfl) ?_;simp [har2];apply hK;clear hK K;refine awp_seq_k fun K hK=>?_;refine awp_condT rfl (by simp) ?_;refine awp_sr fun K hK=>?_;refine aOps_split 4 fun K hK=>?_;simp [gr];apply hK;clear hK K;refine aOps_split 4 fun K hK=>?_;simp [gr,w1,u2];apply hK;clear hK K;simp;apply hK;clear hK K
   rw [show ABlock.cells [AV.slice (List.map tokC l) none,AV.v (Value.int IntKind.i64 ((i':Int)+1)),nV e,intV (badV l e none)]=rdP l e (i'+1) none from by simp [rdP]]
   refine awp_sd [2,4] [[],[0],[0],[],[]] (by kernel_rfl) fun K hK=>?_
   refine aLex_read rfl rfl rfl rfl fun K hK=>?_;simp
   refine hK _ _ _ ?_
   clear hK K;refine aLex_read rfl rfl rfl rfl fun K hK=>?_;simp
   refine hK _ _ _ ?_
   clear hK K
   refine aLex_calleA (hcw _ (gu _ _)) rfl rfl rfl rfl rfl ?_ ?_
   ·intro c hc hu
    simp only [List.mem_cons,List.not_mem_nil,or_false] at hc
    rcases hc with rfl | rfl
    ·simp [Det,u2]
    ·simp [Det,u2]
   refine aLex_call (v:=(Ty.mk arrowN [Ty.mk an al,Ty.mk tn tl]).enc) rfl rfl ?_ (by simp [unord]) ?_
   ·simp [enc_mk]
    exact hcf _
   refine aLex_eff rfl rfl rfl rfl fun K hK=>?_;simp [enc_mk,u2];apply hK;clear hK K;refine aLex_end ?_;simp;apply hK;clear hK K;simp [enc_mk]
   exact reset_all (hcu _ (rdP_low _ _ _ _))
theorem alone_walk (ri:Nat) (l:Tks) (e:Nat) (f:Nat) (hsz:l.length+f < 1099511627776) (hW:CWhole ri l e f):CAlone ri l e (f+1):=by
 intro i q H hi hH he
 rw [qAlone] at he
 have hle:=q_le (hdP l) (B:=l.length) (fun i h=>hdP_in i h) f
 have hhe:=fun (i:Nat) (b:Option Nat) (H:AHeap) hH=>here_c (ri:=ri) (l:=l) (e:=e) (i:=i) (b:=b) (H:=H) hH
 have hfa:=fun (i:Nat) (b:Option Nat) (H:AHeap) hH=>fails_c (ri:=ri) (l:=l) (e:=e) (i:=i) (b:=b) (H:=H) hH
 have h1:=isGreatN_c (hdP l i)
 have h2:=isSmallN_c (hdP l i)
 refine acalls_walk (fun _=>.imm) [0,2,3,4,7,23,44] Tryz.mixed Tryz.func116 rfl rfl rfl (by decide) (fun hcl hlow=>?_)
 have hrl:ri < H.next:=(hcl _ _ hH).1
 have g0:∀ bs,(HL H bs).get ri=some (rdP l e i none):=fun bs=>by rw [get_lt hrl];exact hH
 have hcu:∀ B:ABlock,(∀ n,B.low n)→(H.upd ri B).Closed:=fun B hB=>closed_upd hcl hrl (hB _)
 have hnu:∀ B,(H.upd ri B).next=H.next:=fun _=>rfl
 have gu:∀ B bs,(HL (H.upd ri B) bs).get ri=some B:=fun B bs=>by rw [get_lt (by exact hrl)];exact get_upd_self
 have gr:∀ i b bs,(HL (H.upd ri (rdP l e i b)) bs).get ri=some (.cells [.slice (l.map tokC) none,nV i,nV e,intV (badV l e b)]):=fun i b bs=>gu _ bs
 have g1:∀ bs,(HL H bs).get ri=some (.cells [.slice (l.map tokC) none,nV i,nV e,intV (badV l e none)]):=g0
 have u:∀ b bs,(HL H bs).upd ri b=HL (H.upd ri b) bs:=fun b bs=>upd_lt hrl
 have u2:∀ B b bs,(HL (H.upd ri B) bs).upd ri b=HL (H.upd ri b) bs:=fun B b bs=>by rw [upd_lt (by exact hrl),upd_upd]
 have ei:∀ (i:Nat) (b:Option Nat),ABlock.cells [AV.slice (List.map tokC l) none,AV.v (Value.int IntKind.i64 ((i:Int)+1)),nV e,intV (badV l e b)]=rdP l e (i+1) b:=fun i b=>by simp [rdP]
 refine awp_sr fun K hK=>?_;simp;apply hK;clear hK K;refine awp_sr fun K hK=>?_;refine aOps_split 1 fun K hK=>?_;simp;apply hK;clear hK K;refine aOps_call (hhe i none _ (g0 _)) (by first | rfl | simp) rfl rfl (by first | (simp;done) | rfl) ?_;simp;apply hK;clear hK K
 generalize hw:hdP l i=w at *
 refine awp_seq_k fun KO hKO=>?_;refine awp_block ?_;refine awp_sr fun K hK=>?_
 suffices hkk:∀ c:Bool,c=(greatN w || smallN w)→K (Env.ofL [(0,.ref ri 0),(2,.ref (nid H.next 0) 0),(3,strV w),(4,.undef),(7,boolV c),(23,.undef),(44,.undef)]) (HL H [.cells [strV ByteArray.empty,.v (.slice none 0 0)]]) by
  refine aOps_split 1 fun K hK=>?_;simp;apply hK;clear hK K;refine aOps_call (h1 _) (by first | rfl | simp) rfl rfl (by first | (simp;done) | rfl) ?_
  cases e1:greatN w
  ·refine aOps_split 2 fun K hK=>?_;simp;apply hK;clear hK K;refine aOps_call (h2 _) (by first | rfl | simp) rfl rfl (by first | (simp;done) | rfl) ?_;refine aOps_split 2 fun K hK=>?_;simp;apply hK;clear hK K;simp
   exact hkk _ (by simp [e1])
  ·refine aOps_split 5 fun K hK=>?_;simp;apply hK;clear hK K;simp
   exact hkk _ (by simp [e1])
 intro c hcd
 apply hK;clear hK K
 rw [←hcd] at he
 have w1:IntKind.i64.wrap ((i:Int)+1)=((i+1:Nat):Int):=wrap_succ (by omega)
 cases c
 rotate_left
 ·simp only [if_true,Option.some.injEq] at he
  subst he
  refine awp_condT rfl (by simp) ?_;refine awp_sr fun K hK=>?_;refine aOps_split 4 fun K hK=>?_;simp [g1];apply hK;clear hK K;refine aOps_split 4 fun K hK=>?_;simp [g1,w1,u];apply hK;clear hK K;simp;apply hK;clear hK K
  rw [ei]
  refine awp_sr fun K hK=>?_;simp;apply hK;clear hK K;simp [enc_mk]
  exact ⟨Wk.agg ⟨.refl _,Wk.nilSlice,trivial⟩,reset_all (hcu _ (rdP_low _ _ _ _))⟩
 rw [if_neg (by simp)] at he
 refine awp_condF rfl (by simp) ?_
 by_cases hop:w=opS
 rotate_left
 ·rw [if_neg hop] at he
  simp only [Option.some.injEq] at he
  subst he
  have hop2:¬ w=⟨#[40]⟩:=hop
  refine awp_sr fun K hK=>?_;simp [hop2];apply hK;clear hK K;refine awp_condF rfl (by simp) ?_;refine awp_skip ?_
  refine hKO _ _ ?_
  clear hKO KO
  refine awp_sr fun K hK=>?_;refine aOps_split 1 fun K hK=>?_;simp;apply hK;clear hK K;refine aOps_call (hfa i none _ (g0 _)) (by first | rfl | simp) rfl rfl (by first | (simp;done) | rfl) ?_;simp [u,zero_enc];apply hK;clear hK K;simp [enc_mk,zero_enc]
  exact reset_all (hcu _ (rdP_low _ _ _ _))
 ·rw [if_pos hop] at he
  have hop2:w=⟨#[40]⟩:=hop
  have hlt:=hdP_in i (by rw [hw,hop];decide)
  cases hwh:qWhole (hdP l) f (i+1) with
  | none=>rw [hwh] at he;cases he
  | some q2 =>
  rw [hwh] at he
  have hqb:=hle.2.2 _ _ (by omega) hwh
  have hcw:=fun H hH=>hW (i+1) q2 H (by omega) hH hwh
  obtain ⟨⟨tn,tl⟩,i',b⟩:=q2
  simp only [enc_mk] at hcw he hqb
  have w2:IntKind.i64.wrap ((i':Int)+1)=((i'+1:Nat):Int):=wrap_succ (by omega)
  refine awp_sr fun K hK=>?_;simp [hop2];apply hK;clear hK K;refine awp_condT rfl (by simp) ?_;refine awp_sr fun K hK=>?_;refine aOps_split 4 fun K hK=>?_;simp [g1];apply hK;clear hK K;refine aOps_split 4 fun K hK=>?_;simp [g1,w1,u];apply hK;clear hK K;simp;apply hK;clear hK K
  rw [ei]
  refine awp_sr fun K hK=>?_;refine aOps_split 1 fun K hK=>?_;simp;apply hK;clear hK K;refine aOps_call (hcw _ (gu _ _)) (by first | rfl | simp) rfl rfl (by first | (simp;done) | rfl) ?_;simp [u2];apply hK;clear hK K
  cases b with
  | some j =>
   simp only [reduceCtorEq,false_and,if_false,Option.some.injEq] at he
   subst he
   have hb:¬ (badV l e (some j) < 0):=by show ¬ ((posP' l e j:Int) < 0);omega
   repeat with_reducible refine awp_assoc ?_
   refine awp_sr fun K hK=>?_;refine aOps_split 5 fun K hK=>?_;simp [gr,hb];apply hK;clear hK K;refine aOps_split 5 fun K hK=>?_;simp;apply hK;clear hK K;simp;apply hK;clear hK K;refine awp_seq_k fun K hK=>?_;refine awp_condF rfl (by simp) ?_;refine awp_skip ?_;apply hK;clear hK K;refine awp_sr fun K hK=>?_;refine aOps_split 4 fun K hK=>?_;simp [gr];apply hK;clear hK K;refine aOps_split 4 fun K hK=>?_;simp [gr,w2,u2];apply hK;clear hK K;simp;apply hK;clear hK K
   rw [ei]
   refine awp_sr fun K hK=>?_;simp;apply hK;clear hK K;simp [enc_mk]
   exact reset_all (hcu _ (rdP_low _ _ _ _))
  | none =>
   have hb:badV l e none < 0:=by show (-1:Int) < 0;omega
   by_cases hcl2:hdP l i'=clS
   ·rw [if_neg (by simp [hcl2])] at he
    simp only [Option.some.injEq] at he
    subst he
    have hc3:hdP l i'=⟨#[41]⟩:=hcl2
    repeat with_reducible refine awp_assoc ?_
    refine awp_sr fun K hK=>?_;refine aOps_split 5 fun K hK=>?_;simp [gr,hb];apply hK;clear hK K;refine aOps_split 2 fun K hK=>?_;simp;apply hK;clear hK K;refine aOps_call (hhe i' none _ (gu _ _)) (by first | rfl | simp) rfl rfl (by first | (simp;done) | rfl) ?_;simp [hc3];apply hK;clear hK K;refine awp_seq_k fun K hK=>?_;refine awp_condF rfl (by simp) ?_;refine awp_skip ?_;apply hK;clear hK K;refine awp_sr fun K hK=>?_;refine aOps_split 4 fun K hK=>?_;simp [gr];apply hK;clear hK K;refine aOps_split 4 fun K hK=>?_;simp [gr,w2,u2];apply hK;clear hK K;simp;apply hK;clear hK K
    rw [ei]
    refine awp_sr fun K hK=>?_;simp;apply hK;clear hK K;simp [enc_mk]
    exact reset_all (hcu _ (rdP_low _ _ _ _))
   ·rw [if_pos ⟨rfl,hcl2⟩] at he
    simp only [Option.some.injEq] at he
    subst he
    have hc3:¬ hdP l i'=⟨#[41]⟩:=hcl2
    repeat with_reducible refine awp_assoc ?_
    refine awp_sr fun K hK=>?_;refine aOps_split 5 fun K hK=>?_;simp [gr,hb];apply hK;clear hK K;refine aOps_split 2 fun K hK=>?_;simp;apply hK;clear hK K;refine aOps_call (hhe i' none _ (gu _ _)) (by first | rfl | simp) rfl rfl (by first | (simp;done) | rfl) ?_;simp [hc3];apply hK;clear hK K;refine awp_seq_k fun K hK=>?_;refine awp_condT rfl (by simp) ?_;refine awp_sr fun K hK=>?_;refine aOps_split 1 fun K hK=>?_;simp;apply hK;clear hK K;refine aOps_call (hfa i' none _ (gu _ _)) (by first | rfl | simp) rfl rfl (by first | (simp;done) | rfl) ?_;simp [u2,zero_enc];apply hK;clear hK K;simp [enc_mk,zero_enc]
    exact reset_all (hcu _ (rdP_low _ _ _ _))
theorem q_lt (hd:Nat→ByteArray):∀ (f:Nat),(∀ i t i',qAlone hd f i=some (t,i',none)→i < i')∧(∀ n acc i b t i',qArgs hd f n acc i b=some (t,i',none)→b=none∧i≤i')∧(∀ i t i',qWhole hd f i=some (t,i',none)→i < i'):=by
 intro f
 induction f with
 | zero=>exact ⟨fun i t i' h=>by simp [qAlone] at h,fun n acc i b t i' h=>by simp [qArgs] at h,fun i t i' h=>by simp [qWhole] at h⟩
 | succ f ih =>
  obtain ⟨h1,h2,h3⟩:=ih
  refine ⟨fun i t i' h=>?_,fun n acc i b t i' h=>?_,fun i t i' h=>?_⟩
  ·rw [qAlone] at h
   split at h
   ·simp only [Option.some.injEq,Prod.mk.injEq] at h;omega
   ·split at h
    ·split at h
     ·cases h
     ·rename_i t2 i2 b2 hw
      split at h
      ·simp at h
      ·simp only [Option.some.injEq,Prod.mk.injEq] at h
       obtain ⟨_,h4,rfl⟩:=h
       have:=h3 _ _ _ hw
       omega
    ·simp at h
  ·rw [qArgs] at h
   split at h
   ·rename_i hc
    split at h
    ·cases h
    ·rename_i t2 i2 b2 hw
     obtain ⟨rfl,h4⟩:=h2 _ _ _ _ _ _ h
     have:=h1 _ _ _ hw
     exact ⟨hc.1,by omega⟩
   ·simp only [Option.some.injEq,Prod.mk.injEq] at h
    exact ⟨h.2.2,by omega⟩
  ·rw [qWhole] at h
   have hin:∀ a i',(if greatN (hd i)=true then qArgs hd f (hd i) [] (i+1) none else qAlone hd f i)=some (a,i',none)→i < i':=by
    intro a i' hr
    split at hr
    ·have:=(h2 _ _ _ _ _ _ hr).2;omega
    ·exact h1 _ _ _ hr
   split at h
   ·cases h
   ·rename_i a i2 b2 hw
    split at h
    ·rename_i hc
     obtain ⟨rfl,_⟩:=hc
     have h4:=hin _ _ hw
     split at h
     ·cases h
     ·rename_i t2 i3 b3 hw2
      simp only [Option.some.injEq,Prod.mk.injEq] at h
      obtain ⟨_,rfl,rfl⟩:=h
      have:=h3 _ _ _ hw2
      omega
    ·simp only [Option.some.injEq,Prod.mk.injEq] at h
     obtain ⟨_,rfl,rfl⟩:=h
     exact hin _ _ hw
set_option maxHeartbeats 2000000 in
theorem app_walk (ri:Nat) (l:Tks) (e:Nat) (f:Nat) (hsz:l.length+f < 1099511627776) (hA:∀ g,g≤f→CAlone ri l e g):CApp ri l e f:=by
 intro i q H hi hH he
 have hle:=fun g=>q_le (hdP l) (B:=l.length) (fun i h=>hdP_in i h) g
 have hhe:=fun (i:Nat) (b:Option Nat) (H:AHeap) hH=>here_c (ri:=ri) (l:=l) (e:=e) (i:=i) (b:=b) (H:=H) hH
 have h1:=fun i=>isGreatN_c (hdP l i)
 have h2:=fun i=>isSmallN_c (hdP l i)
 refine acalls_walk (fun d=>if d=20 then .nilv 2 else .imm) [0,2,3,4,9,40] Tryz.mixed Tryz.func92 rfl rfl rfl (by decide) (fun hcl hlow=>?_)
 have hrl:ri < H.next:=(hcl _ _ hH).1
 have g0:∀ bs,(HL H bs).get ri=some (rdP l e i none):=fun bs=>by rw [get_lt hrl];exact hH
 have hcu:∀ B:ABlock,(∀ n,B.low n)→(H.upd ri B).Closed:=fun B hB=>closed_upd hcl hrl (hB _)
 have hnu:∀ B,(H.upd ri B).next=H.next:=fun _=>rfl
 have gu:∀ B bs,(HL (H.upd ri B) bs).get ri=some B:=fun B bs=>by rw [get_lt (by exact hrl)];exact get_upd_self
 have gr:∀ i b bs,(HL (H.upd ri (rdP l e i b)) bs).get ri=some (.cells [.slice (l.map tokC) none,nV i,nV e,intV (badV l e b)]):=fun i b bs=>gu _ bs
 have g1:∀ bs,(HL H bs).get ri=some (.cells [.slice (l.map tokC) none,nV i,nV e,intV (badV l e none)]):=g0
 have u:∀ b bs,(HL H bs).upd ri b=HL (H.upd ri b) bs:=fun b bs=>upd_lt hrl
 have u2:∀ B b bs,(HL (H.upd ri B) bs).upd ri b=HL (H.upd ri b) bs:=fun B b bs=>by rw [upd_lt (by exact hrl),upd_upd]
 have ei:∀ (i:Nat) (b:Option Nat),ABlock.cells [AV.slice (List.map tokC l) none,AV.v (Value.int IntKind.i64 ((i:Int)+1)),nV e,intV (badV l e b)]=rdP l e (i+1) b:=fun i b=>by simp [rdP]
 refine awp_sr fun K hK=>?_;simp;apply hK;clear hK K;refine awp_sr fun K hK=>?_;refine aOps_split 1 fun K hK=>?_;simp;apply hK;clear hK K;refine aOps_call (hhe i none _ (g0 _)) (by first | rfl | simp) rfl rfl (by first | (simp;done) | rfl) ?_;simp;apply hK;clear hK K
 have w1:IntKind.i64.wrap ((i:Int)+1)=((i+1:Nat):Int):=wrap_succ (by omega)
 cases hg:greatN (hdP l i)
 ·rw [hg,if_neg (by simp)] at he
  have hca:=fun H hH=>hA f (Nat.le_refl _) i q H hi hH he
  obtain ⟨⟨tn,tl⟩,i',b⟩:=q
  simp only [enc_mk] at hca;repeat with_reducible refine awp_assoc ?_
  refine awp_sr fun K hK=>?_;refine aOps_split 1 fun K hK=>?_;simp;apply hK;clear hK K;refine aOps_call (h1 i _) (by first | rfl | simp) rfl rfl (by first | (simp;done) | rfl) ?_;simp [hg];apply hK;clear hK K;refine awp_seq_k fun K hK=>?_;refine awp_condT rfl (by simp) ?_;refine awp_sr fun K hK=>?_;refine aOps_split 1 fun K hK=>?_;simp;apply hK;clear hK K;refine aOps_call (hca _ (g0 _)) (by first | rfl | simp) rfl rfl (by first | (simp;done) | rfl) ?_;simp [u];apply hK;clear hK K;simp [enc_mk]
  exact reset_all (hcu _ (rdP_low _ _ _ _))
 rw [hg,if_pos rfl] at he
 have hin:=hdP_in i (name_size (by rw [hg];simp))
 repeat with_reducible refine awp_assoc ?_
 refine awp_sr fun K hK=>?_;refine aOps_split 1 fun K hK=>?_;simp;apply hK;clear hK K;refine aOps_call (h1 i _) (by first | rfl | simp) rfl rfl (by first | (simp;done) | rfl) ?_;simp [hg];apply hK;clear hK K;refine awp_seq_k fun K hK=>?_;refine awp_condF rfl (by simp) ?_;refine awp_skip ?_;apply hK;clear hK K;refine awp_sr fun K hK=>?_;refine aOps_split 4 fun K hK=>?_;simp [g1];apply hK;clear hK K;refine aOps_split 4 fun K hK=>?_;simp [g1,w1,u];apply hK;clear hK K;simp;apply hK;clear hK K
 rw [ei]
 refine awp_sr fun K hK=>?_;simp;apply hK;clear hK K
 generalize hdP l i=n at *
 refine awp_seq_k fun K0 hK0=>?_;refine awp_block ?_
 refine awp_loop (fun m env H'=>∃ (acc:List Ty) (j:Nat) (b:Option Nat),m≤f∧(b=none→j≤l.length∧acc.length≤j)∧qArgs (hdP l) m n acc j b=some q∧env=Env.ofL [(0,.ref ri 0),(2,.ref (nid H.next 0) 0),(4,.ref (nid H.next 2) 0)] ∧
   H'=HL (H.upd ri (rdP l e j b)) [.cells [strV ByteArray.empty,.v (.slice none 0 0)],.tok acc.length 2 none,.cells [strV n,.slice (acc.map Ty.cells) (some (nid H.next 1))]])
  f (weak_HL (hcu _ (rdP_low _ _ _ _)) rfl (by simp) (by simp [lt_nid hrl])) ⟨[],i+1,none,Nat.le_refl _,fun _=>⟨by omega,by simp⟩,he,rfl,rfl⟩ ?_
 clear he
 rintro m env H' ⟨acc,j,b,hmf,hjl,he,rfl,rfl⟩
 cases m with
 | zero=>simp [qArgs] at he
 | succ m =>
 rw [qArgs] at he
 repeat with_reducible refine awp_assoc ?_
 refine awp_sr fun K hK=>?_
 suffices hk:∀ c:Bool,c=decide (b=none∧isA (hdP l j)=true) →
   K (Env.ofL [(0,.ref ri 0),(2,.ref (nid H.next 0) 0),(3,.undef),(4,.ref (nid H.next 2) 0),(9,.undef),(40,boolV c)])
    (HL (H.upd ri (rdP l e j b)) [.cells [strV ByteArray.empty,.v (.slice none 0 0)],.tok acc.length 2 none,.cells [strV n,.slice (acc.map Ty.cells) (some (nid H.next 1))]]) by
  cases b with
  | some j2 =>
   have hb:¬ (badV l e (some j2) < 0):=by show ¬ ((posP' l e j2:Int) < 0);omega
   refine aOps_split 5 fun K hK=>?_;simp [gr,hb];apply hK;clear hK K;refine aOps_split 8 fun K hK=>?_;simp;apply hK;clear hK K;refine aOps_split 7 fun K hK=>?_;simp;apply hK;clear hK K;simp
   exact hk _ (by simp)
  | none =>
   have hb:badV l e none < 0:=by show (-1:Int) < 0;omega
   refine aOps_split 5 fun K hK=>?_;simp [gr,hb];apply hK;clear hK K;refine aOps_split 2 fun K hK=>?_;simp;apply hK;clear hK K;refine aOps_call (hhe j none _ (gu _ _)) (by first | rfl | simp) rfl rfl (by first | (simp;done) | rfl) ?_;refine aOps_call (h1 j _) (by first | rfl | simp) rfl rfl (by first | (simp;done) | rfl) ?_
   cases e1:greatN (hdP l j)
   ·refine aOps_split 2 fun K hK=>?_;simp;apply hK;clear hK K;refine aOps_call (hhe j none _ (gu _ _)) (by first | rfl | simp) rfl rfl (by first | (simp;done) | rfl) ?_;refine aOps_call (h2 j _) (by first | rfl | simp) rfl rfl (by first | (simp;done) | rfl) ?_
    cases e2:smallN (hdP l j)
    ·refine aOps_split 3 fun K hK=>?_;simp;apply hK;clear hK K;refine aOps_call (hhe j none _ (gu _ _)) (by first | rfl | simp) rfl rfl (by first | (simp;done) | rfl) ?_
     by_cases e3:hdP l j=opS
     ·have e4:hdP l j=⟨#[40]⟩:=e3
      refine aOps_split 3 fun K hK=>?_;simp [e4];apply hK;clear hK K;simp
      exact hk _ (by simp [isA,e3])
     ·have e4:¬ hdP l j=⟨#[40]⟩:=e3
      refine aOps_split 3 fun K hK=>?_;simp [e4];apply hK;clear hK K;simp
      exact hk _ (by simp [isA,e1,e2,e3])
    ·refine aOps_split 4 fun K hK=>?_;simp;apply hK;clear hK K;refine aOps_split 3 fun K hK=>?_;simp;apply hK;clear hK K;simp
     exact hk _ (by simp [isA,e2])
   ·refine aOps_split 4 fun K hK=>?_;simp;apply hK;clear hK K;refine aOps_split 7 fun K hK=>?_;simp;apply hK;clear hK K;simp
    exact hk _ (by simp [isA,e1])
 intro c hcd
 apply hK
 clear hK
 cases c
 ·have hcn:=of_decide_eq_false hcd.symm
  rw [if_neg hcn] at he
  simp only [Option.some.injEq] at he
  subst he
  refine awp_seq_k fun K hK=>?_;refine awp_condF rfl (by simp) ?_;refine awp_exit ?_;simp
  refine hK0 _ _ ?_
  clear hK0
  refine awp_sr fun K hK=>?_;simp;apply hK;clear hK K;simp [enc_mk]
  exact ⟨Wk.agg ⟨.refl _,Wk.tok _ _,trivial⟩,reset_all (hcu _ (rdP_low _ _ _ _))⟩
 ·have hcn:=of_decide_eq_true hcd.symm
  rw [if_pos hcn] at he
  obtain ⟨rfl,hia⟩:=hcn
  obtain ⟨hjl1,hjl2⟩:=hjl rfl
  cases hal:qAlone (hdP l) m j with
  | none=>rw [hal] at he;cases he
  | some q2 =>
  rw [hal] at he
  have hca:=fun H hH=>hA m (by omega) j q2 H hjl1 hH hal
  have hql:=(hle m).1 _ _ hjl1 hal
  have hqt:=(q_lt (hdP l) m).1 j
  obtain ⟨⟨tn,tl⟩,j',b'⟩:=q2
  simp only [enc_mk] at hca hql he;refine awp_seq_k fun K hK=>?_;refine awp_condT rfl (by simp) ?_;refine awp_skip ?_;apply hK;clear hK K;refine awp_block ?_
  refine awp_draw [3,4,5,7] [[],[],[0,1],[0,1],[0,1],[],[],[]] (by kernel_rfl) ?_
  refine aLex_read rfl rfl rfl rfl fun K hK=>?_;simp
  refine hK _ _ _ ?_
  clear hK K;refine aLex_read rfl rfl rfl rfl fun K hK=>?_;simp
  refine hK _ _ _ ?_
  clear hK K;refine aLex_read rfl rfl rfl rfl fun K hK=>?_;simp
  refine hK _ _ _ ?_
  clear hK K
  refine aLex_calleA (hca _ (gu _ _)) rfl rfl rfl rfl rfl ?_ ?_
  ·intro c hc hu
   simp only [List.mem_cons,List.not_mem_nil,or_false] at hc
   rcases hc with rfl | rfl | rfl
   ·simp [Det,u2]
   ·simp [Det,u2]
   ·simp [Det,u2]
  refine aLex_eff rfl rfl rfl rfl fun K hK=>?_;simp [u2];apply hK;clear hK K;refine aLex_eff rfl rfl rfl rfl fun K hK=>?_;simp
  refine ⟨by omega,hK _ _ ?_⟩
  clear hK
  refine aLex_read rfl rfl rfl rfl fun K hK=>?_;simp
  refine hK _ _ _ ?_
  clear hK K;refine aLex_eff rfl rfl rfl rfl fun K hK=>?_;simp;apply hK;clear hK K;refine aLex_end ?_;simp
  refine ⟨m,_,_,weak_HL (hcu _ (rdP_low _ _ _ _)) rfl (bs':=[.cells [strV ByteArray.empty,.v (.slice none 0 0)],.tok (acc++[Ty.mk tn tl]).length 2 none,.cells [strV n,.slice ((acc++[Ty.mk tn tl]).map Ty.cells) (some (nid H.next 1))]])
   (l':=[(0,.ref ri 0),(2,.ref (nid H.next 0) 0),(4,.ref (nid H.next 2) 0)]) (by simp [Ty.cells,cellsL_eq]) (by simp [lt_nid hrl]),by omega,by omega,acc++[Ty.mk tn tl],j',b',fun hb=>?_,he,rfl,rfl⟩
  have h5:=hqt (.mk tn tl) j' (by rw [hal,hb])
  have h6:=hql.1 hb
  exact ⟨h6,by simp;omega⟩
theorem prog_reader_c (ri:Nat) (l:Tks) (e:Nat):∀ f,l.length+f < 1099511627776→CAlone ri l e f∧CWhole ri l e f:=by
 intro f
 induction f using Nat.strongRecOn with
 | _ f ih =>
 intro hsz
 cases f with
 | zero=>exact ⟨fun k r H _ _ h=>by simp [qAlone] at h,fun k r H _ _ h=>by simp [qWhole] at h⟩
 | succ f =>
  have h1:=ih f (by omega) (by omega)
  exact ⟨alone_walk ri l e f (by omega) h1.2,whole_walk ri l e f (by omega) (app_walk ri l e f (by omega) fun g hg=>(ih g (by omega) (by omega)).1) h1.2⟩
def startsAr (s:ByteArray):Bool:=decide (2≤s.size) && decide (s.extract 0 2=arwS)
theorem sign_c (s:ByteArray) (H:AHeap):ACalls Tryz.prog 91 [strV s,.slice [[strV arwS]] none] H (nV (if startsAr s then 2 else 1)) H:=by
 refine acalls_walk (fun _=>.imm) [0,1,4,6,7,8,9,10,25] Tryz.mixed Tryz.func91 rfl rfl rfl (by decide) (fun hcl hlow=>?_)
 refine awp_sr fun K hK=>?_;simp;apply hK;clear hK K;repeat with_reducible refine awp_assoc ?_
 refine awp_sr fun K hK=>?_;simp;apply hK;clear hK K;refine awp_seq_k fun K hK=>?_;refine awp_block ?_
 refine awp_up 1 (fun k=>Env.ofL [(0,strV s),(1,.slice [[strV arwS]] none),(7,.slice [[strV arwS]] none),(8,intV 1),(9,intV k)]) (fun k=>HL H []) (fun k=>k=1→startsAr s=false) (weak_HL hcl rfl ?_ ?_) ?_ (fun k hk hi=>?_) (fun hi=>?_)
 ·simp
 ·simp
 ·simp
 ·obtain rfl:k=0:=by omega
  refine awp_sr fun K hK=>?_;simp;apply hK;clear hK K;refine awp_seq_k fun K hK=>?_;refine awp_condT rfl (by simp) ?_;refine awp_skip ?_;apply hK;clear hK K;refine awp_seq_k fun K2 hK2=>?_;refine awp_block ?_;refine awp_sr fun K hK=>?_;simp;apply hK;clear hK K
  have ez:(arwS.size:Int)=2:=rfl
  refine awp_sr fun K hK=>?_
  suffices hk:∀ c:Bool,c=startsAr s→K (Env.ofL [(0,strV s),(1,.slice [[strV arwS]] none),(4,.undef),(6,strV arwS),(7,.slice [[strV arwS]] none),(8,intV 1),(9,intV 0),(10,boolV true),(25,boolV c)]) (HL H []) by
   by_cases hl:2≤s.size
   ·have hl':(2:Int)≤s.size:=by omega
    by_cases he:s.extract 0 2=arwS
    ·refine aOps_split 5 fun K hK=>?_;simp [ez,hl'];apply hK;clear hK K;refine aOps_split 5 fun K hK=>?_;simp [ez,hl',aSlice,bnd];apply hK;clear hK K;refine aOps_split 3 fun K hK=>?_;simp [he];apply hK;clear hK K;simp
     exact hk true (by simp [startsAr,hl,he])
    ·refine aOps_split 5 fun K hK=>?_;simp [ez,hl'];apply hK;clear hK K;refine aOps_split 5 fun K hK=>?_;simp [ez,hl',aSlice,bnd];apply hK;clear hK K;refine aOps_split 3 fun K hK=>?_;simp [he];apply hK;clear hK K;simp
     exact hk false (by simp [startsAr,he])
   ·have hl':¬ (2:Int)≤s.size:=by omega
    refine aOps_split 5 fun K hK=>?_;simp [ez,hl'];apply hK;clear hK K;refine aOps_split 8 fun K hK=>?_;simp;apply hK;clear hK K;simp
    exact hk false (by simp [startsAr,hl])
  intro c hcd
  apply hK
  clear hK
  rw [←hcd]
  cases c
  ·refine awp_condF rfl (by simp) ?_;refine awp_skip ?_
   refine hK2 _ _ ?_
   clear hK2
   refine awp_region ?_;simp
   refine ⟨hcd.symm,?_⟩
   rw [show IntKind.i64.wrap 1=1 from rfl]
   refine weak_HL (hcl) (by simp) (by simp) (by simp)
  ·refine awp_condT rfl (by simp) ?_;refine awp_sr fun K hK=>?_;simp;apply hK;clear hK K;simp [reset_all hcl,ez]
   exact Wk.refl _
 ·have hf:=hi rfl
  refine awp_sr fun K hK=>?_;simp;apply hK;clear hK K;refine awp_seq_k fun K hK=>?_;refine awp_condF rfl (by simp) ?_;refine awp_exit ?_;simp;clear hK K;apply hK;clear hK K
  rw [hf]
  refine awp_sr fun K hK=>?_;simp;apply hK;clear hK K;simp [reset_all hcl]
  exact Wk.refl _
def scanG (s:ByteArray):Nat→Nat→Tks
 | 0,_=>[]
 | f+1,i=>match (byt s)[i]? with
  | none=>[]
  | some c=>if isSp c then scanG s f (i+1) else (s.extract i (endN s i),i)::scanG s f (endN s i)
def scanL (s:ByteArray):Tks:=scanG s (s.size+1) 0
theorem scanG_fuel (s:ByteArray):∀ (f g i:Nat),s.size < f+i→s.size < g+i→scanG s f i=scanG s g i:=by
 intro f
 induction f with
 | zero =>
  intro g i hf hg
  cases g with
  | zero=>rfl
  | succ g=>rw [scanG,scanG,List.getElem?_eq_none (by rw [byt_len];omega)]
 | succ f ih =>
  intro g i hf hg
  cases g with
  | zero=>rw [scanG,scanG,List.getElem?_eq_none (by rw [byt_len];omega)]
  | succ g =>
   rw [scanG,scanG]
   cases hc:(byt s)[i]? with
   | none=>rfl
   | some c =>
    have hlt:i < s.size:=by rw [←byt_len];exact (List.getElem?_eq_some_iff.1 hc).1
    have hE:=(endN_le (s:=s) (j:=i) (by omega)).2.2 hlt
    simp only
    split
    ·exact ih g (i+1) (by omega) (by omega)
    ·rw [ih g (endN s i) (by omega) (by omega)]
theorem ext_list (s:ByteArray) (a b:Nat):(s.extract a b).data.toList=(s.data.toList.drop a).take (b - a):=by
 rw [ByteArray.data_extract,Array.toList_extract]
theorem ba_list {a b:ByteArray} (h:a.data.toList=b.data.toList):a=b:=ByteArray.ext (Array.toList_inj.1 h)
theorem startsAr_iff (s:ByteArray) (i:Nat) (c:UInt8) (hc:(byt s)[i]?=some c):startsAr (s.extract i s.size)=true↔((c.toNat:Int)=45∧∃ d,(byt s)[i+1]?=some d∧(d.toNat:Int)=62):=by
 have hsz:(s.extract i s.size).size=s.size - i:=by rw [ByteArray.size_extract];omega
 have hlt:i < s.size:=by rw [←byt_len];exact (List.getElem?_eq_some_iff.1 hc).1
 have hl:((s.extract i s.size).extract 0 2).data.toList=((byt s).drop i).take 2:=by
  rw [ext_list,ext_list,List.drop_zero]
  show List.take (2 - 0) (List.take (s.size - i) ((byt s).drop i))=_
  have hL:((byt s).drop i).length=s.size - i:=by rw [List.length_drop,byt_len]
  rw [List.take_take]
  generalize (byt s).drop i=L at hL
  rcases Nat.le_total 2 (s.size - i) with h | h
  ·rw [Nat.min_eq_left h]
  ·rw [Nat.min_eq_right h,List.take_of_length_le (by omega),List.take_of_length_le (by omega)]
 have hd:(byt s).drop i=c::(byt s).drop (i+1):=by
  obtain ⟨h1,h2⟩:=List.getElem?_eq_some_iff.1 hc
  rw [List.drop_eq_getElem_cons h1,h2]
 have hun:∀ (u:UInt8) (n:Nat),n < 256→((u.toNat:Int)=n↔u=UInt8.ofNat n):=by
  intro u n hn
  constructor
  ·intro h
   have h':u.toNat=n:=by omega
   rw [←h',UInt8.ofNat_toNat]
  ·rintro rfl
   rw [UInt8.toNat_ofNat'];omega
 unfold startsAr
 rw [hsz,Bool.and_eq_true,decide_eq_true_iff,decide_eq_true_iff]
 have e2:((s.extract i s.size).extract 0 2=arwS)↔((byt s).drop i).take 2=[45,62]:=by
  constructor
  ·intro h;rw [←hl,h];rfl
  ·intro h;exact ba_list (by rw [hl,h];rfl)
 rw [e2,hd,List.take_succ_cons]
 cases hn:(byt s)[i+1]? with
 | none =>
  have:s.size≤i+1:=by rw [←byt_len];exact List.getElem?_eq_none_iff.1 hn
  constructor
  ·intro h;omega
  ·rintro ⟨_,d,hd,_⟩;cases hd
 | some d =>
  have hlt2:i+1 < s.size:=by rw [←byt_len];exact (List.getElem?_eq_some_iff.1 hn).1
  have hd2:(byt s).drop (i+1)=d::(byt s).drop (i+2):=by
   obtain ⟨h1,h2⟩:=List.getElem?_eq_some_iff.1 hn
   rw [List.drop_eq_getElem_cons h1,h2]
  rw [hd2,List.take_succ_cons]
  have h45:=hun c 45 (by omega)
  have h62:=hun d 62 (by omega)
  constructor
  ·rintro ⟨_,h⟩
   simp only [List.cons.injEq] at h
   exact ⟨h45.2 h.1,d,rfl,h62.2 h.2.1⟩
  ·rintro ⟨h1,d',hd',h2⟩
   simp only [Option.some.injEq] at hd'
   subst hd'
   refine ⟨by omega,?_⟩
   rw [h45.1 h1,h62.1 h2];rfl
set_option maxHeartbeats 2000000 in
theorem scan_c (s:ByteArray) (hs:s.size < 1099511627776) (H:AHeap):ACalls Tryz.prog 51 [strV s,.slice [[strV arwS]] none,boolV false] H (.slice ((scanL s).map tokC) none) H:=by
 have hsg:=fun (i:Nat)=>sign_c (s.extract i s.size)
 refine acalls_walk (fun d=>if d=7 then .nilv 2 else .imm) [0,1,2,6,7,8,9,13,19,26,67] Tryz.mixed Tryz.func51 rfl rfl rfl (by decide) (fun hcl hlow=>?_)
 refine awp_sr fun K hK=>?_;simp;apply hK;clear hK K;refine awp_sr fun K hK=>?_;simp;apply hK;clear hK K;repeat with_reducible refine awp_assoc ?_
 refine awp_sr fun K hK=>?_;simp;apply hK;clear hK K;refine awp_seq_k fun K0 hK0=>?_;refine awp_block ?_
 refine awp_loop (fun m env H'=>∃ (acc:Tks) (i:Nat),acc.length≤i∧i≤s.size∧s.size < m+i∧acc++scanG s m i=scanL s ∧
   env=Env.ofL [(0,strV s),(1,.slice [[strV arwS]] none),(2,boolV false),(7,.slice (acc.map tokC) (some (nid H.next 0))),(8,intV (i:Int))]∧H'=HL H [.tok acc.length 2 none])
  (s.size+1) (weak_HL hcl rfl (by simp) (by simp)) ⟨[],0,by simp,Nat.zero_le _,by omega,by simp [scanL],rfl,rfl⟩ ?_
 rintro m env H' ⟨acc,i,hal,hi,hm,hsc,rfl,rfl⟩
 by_cases hlt:i < s.size
 ·obtain ⟨c,hc⟩:∃ c,s.data.toList[i]?=some c:=⟨_,List.getElem?_eq_getElem (by rw [←ba_size];exact hlt)⟩
  cases m with
  | zero=>omega
  | succ m =>
  have hE:=(endN_le (s:=s) (j:=i) hi).2
  have hE2:=hE.2 hlt
  rw [scanG,show (byt s)[i]?=some c from hc] at hsc
  simp only at hsc
  have hlt':(i:Int) < s.size:=by omega
  repeat with_reducible refine awp_assoc ?_
  refine awp_sr fun K hK=>?_;simp [hlt'];apply hK;clear hK K;refine awp_seq_k fun K hK=>?_;refine awp_condT rfl (by simp) ?_;refine awp_skip ?_;apply hK;clear hK K;refine awp_block ?_;refine awp_sr fun K hK=>?_;simp;apply hK;clear hK K;refine awp_seq_k fun K1 hK1=>?_;refine awp_block ?_
  by_cases h32:(c.toNat:Int)=32
  ·have hsp:isSp c=true:=decide_eq_true h32
   rw [hsp,if_pos rfl] at hsc
   refine awp_sr fun K hK=>?_;simp [hc,h32];apply hK;clear hK K;refine awp_condT rfl (by simp) ?_;refine awp_sr fun K hK=>?_;simp;apply hK;clear hK K;refine awp_exit ?_;simp [wrap_succ (show i < 4611686018427387904 by omega)]
   exact ⟨m,_,_,weak_HL hcl rfl (by simp) (by simp [low_toks]),by omega,acc,i+1,by omega,by omega,by omega,hsc,rfl,rfl⟩
  ·have hsp:isSp c=false:=decide_eq_false h32
   rw [hsp,if_neg (by simp)] at hsc
   have hKK:∀ (n:Nat) (b26 b67:AV),i+n=endN s i→K1 (Env.ofL [(0,strV s),(1,.slice [[strV arwS]] none),(2,boolV false),(6,.undef),(7,.slice (acc.map tokC) (some (nid H.next 0))),(8,intV (i:Int)),(9,intV (n:Int)),(13,boolV true),(19,boolV false),(26,b26),(67,b67)]) (HL H [.tok acc.length 2 none]):=by
    intro n b26 b67 hn
    refine hK1 _ _ ?_
    clear hK1
    have wn:IntKind.i64.wrap ((i:Int)+n)=((endN s i:Nat):Int):=by rw [wrap64 (by omega) (by omega)];omega
    have t1:(i:Int)≤(endN s i:Nat):=by omega
    have t2:((endN s i:Nat):Int)≤s.size:=by omega
    refine awp_sr fun K hK=>?_;refine aOps_split 6 fun K hK=>?_;simp [wn];apply hK;clear hK K;refine aOps_split 2 fun K hK=>?_;simp [t1,t2,aSlice,bnd];apply hK;clear hK K;refine aOps_split 2 fun K hK=>?_;simp;apply hK;clear hK K;simp
    refine ⟨by omega,fun r x y _ h=>by rw [←h];rfl,hK _ _ ?_⟩
    clear hK
    refine awp_region ?_;simp [wn]
    exact ⟨m,_,_,weak_HL hcl rfl (bs':=[.tok (acc++[(s.extract i (endN s i),i)]).length 2 none]) (l':=[(0,strV s),(1,.slice [[strV arwS]] none),(2,boolV false),(7,.slice ((acc++[(s.extract i (endN s i),i)]).map tokC) (some (nid H.next 0))),(8,intV ((endN s i:Nat):Int))])
     (by simp) (by simp [low_toks,tokC]),by omega,acc++[(s.extract i (endN s i),i)],endN s i,by simp;omega,by omega,by omega,by rw [←hsc];simp,rfl,rfl⟩
   refine awp_sr fun K hK=>?_;simp [hc,h32];apply hK;clear hK K;refine awp_condF rfl (by simp) ?_;refine awp_sr fun K hK=>?_;refine aOps_split 3 fun K hK=>?_;simp [hc];apply hK;clear hK K;refine aOps_call (isTail_c c _) (by first | rfl | simp) rfl rfl (by first | (simp;done) | rfl) ?_
   have he:endN s i=if tailB c then i+1+tw tailB ((byt s).drop (i+1)) else if (c.toNat:Int)=45∧∃ d,(byt s)[i+1]?=some d∧(d.toNat:Int)=62 then i+2 else i+1:=by
    unfold endN;rw [show (byt s)[i]?=some c from hc]
   cases ht:tailB c
   ·rw [ht,if_neg (by simp)] at he
    refine aOps_split 8 fun K hK=>?_;simp;apply hK;clear hK K;refine aOps_split 8 fun K hK=>?_;simp;apply hK;clear hK K;simp;apply hK;clear hK K;refine awp_condF rfl (by simp) ?_
    have hst:=startsAr_iff s i c hc
    have t2:(i:Int)≤s.size:=by omega
    refine awp_region ?_;refine aOps_split 3 fun K hK=>?_;simp [t2,aSlice,bnd];apply hK;clear hK K;refine aOps_split 1 fun K hK=>?_;simp;apply hK;clear hK K;refine aOps_call (hsg i _) (by first | rfl | simp) rfl rfl (by first | (simp;done) | rfl) ?_;simp
    cases hsa:startsAr (s.extract i s.size)
    ·have hno:¬ ((c.toNat:Int)=45∧∃ d,(byt s)[i+1]?=some d∧(d.toNat:Int)=62):=fun h=>by rw [hst.2 h] at hsa;cases hsa
     rw [if_neg hno] at he
     exact hKK 1 _ _ (by omega)
    ·rw [if_pos (hst.1 hsa)] at he
     exact hKK 2 _ _ (by omega)
   ·rw [ht,if_pos rfl] at he
    refine aOps_split 8 fun K hK=>?_;simp;apply hK;clear hK K;refine aOps_split 8 fun K hK=>?_;simp;apply hK;clear hK K;simp;apply hK;clear hK K;refine awp_condT rfl (by simp) ?_;refine awp_sr fun K hK=>?_;simp;apply hK;clear hK K
    obtain ⟨htl,hta⟩:=tw_at (p:=tailB) (l:=(byt s).drop (i+1))
    have hltw:=fun j=>tw_lt (p:=tailB) (l:=(byt s).drop (i+1)) (k:=j)
    have hlen:((byt s).drop (i+1)).length=s.size - (i+1):=by simp [byt_len]
    generalize tw tailB ((byt s).drop (i+1))=mm at htl hta hltw he
    refine awp_block ?_
    refine awp_up mm (fun k=>Env.ofL [(0,strV s),(1,.slice [[strV arwS]] none),(2,boolV false),(6,.undef),(7,.slice (acc.map tokC) (some (nid H.next 0))),(8,intV (i:Int)),(9,intV (1+(k:Int))),(13,boolV true),(19,boolV false),(26,boolV true)]) (fun k=>HL H [.tok acc.length 2 none]) (fun _=>True) (weak_HL hcl rfl (by simp) (by simp [low_toks])) trivial (fun k hk _=>?_) (fun _=>?_)
    ·obtain ⟨d,hd,hdt⟩:=hltw k hk
     rw [List.getElem?_drop] at hd
     have hd':s.data.toList[i+1+k]?=some d:=hd
     have hlk:(i:Int)+(1+k) < s.size:=by omega
     have wk1:IntKind.i64.wrap ((i:Int)+(1+k))=(i:Int)+(1+k):=wrap64 (by omega) (by omega)
     have t1:((i:Int)+(1+k)).toNat=i+1+k:=by omega
     have t2:(0:Int)≤(i:Int)+(1+k):=by omega
     have w3:IntKind.i64.wrap (1+(k:Int)+1)=1+((k+1:Nat):Int):=by rw [wrap64 (by omega) (by omega)];omega
     repeat with_reducible refine awp_assoc ?_
     refine awp_sr fun K hK=>?_;refine aOps_split 6 fun K hK=>?_;simp [wk1,hlk];apply hK;clear hK K;refine aOps_split 6 fun K hK=>?_;simp [wk1,t1,t2,hd'];apply hK;clear hK K;refine aOps_call (isTail_c d _) (by first | rfl | simp) rfl rfl (by first | (simp;done) | rfl) ?_;simp;apply hK;clear hK K;refine awp_seq_k fun K hK=>?_;refine awp_condT rfl (by simp [hdt]) ?_;refine awp_skip ?_;apply hK;clear hK K;refine awp_block ?_;refine awp_region ?_;simp [w3]
     refine weak_HL (hcl) (by simp) (by simp [low_toks]) (by simp [low_toks])
    ·have hno:∀ d,s.data.toList[i+1+mm]?=some d→tailB d=false:=fun d hd=>hta d (by rw [List.getElem?_drop];exact hd)
     have wk1:IntKind.i64.wrap ((i:Int)+(1+mm))=(i:Int)+(1+mm):=wrap64 (by omega) (by omega)
     have t1:((i:Int)+(1+mm)).toNat=i+1+mm:=by omega
     have t2:(0:Int)≤(i:Int)+(1+mm):=by omega
     repeat with_reducible refine awp_assoc ?_
     refine awp_sr fun K hK=>?_
     suffices hk:K (Env.ofL [(0,strV s),(1,.slice [[strV arwS]] none),(2,boolV false),(6,.undef),(7,.slice (acc.map tokC) (some (nid H.next 0))),(8,intV (i:Int)),(9,intV (1+(mm:Int))),(13,boolV true),(19,boolV false),(26,boolV true),(67,boolV false)]) (HL H [.tok acc.length 2 none]) by
      by_cases hend:i+1+mm < s.size
      ·obtain ⟨d,hd⟩:∃ d,s.data.toList[i+1+mm]?=some d:=⟨_,List.getElem?_eq_getElem (by rw [←ba_size];exact hend)⟩
       have hdt:=hno d hd
       have hlk:(i:Int)+(1+mm) < s.size:=by omega
       refine aOps_split 6 fun K hK=>?_;simp [wk1,hlk];apply hK;clear hK K;refine aOps_split 6 fun K hK=>?_;simp [wk1,t1,t2,hd];apply hK;clear hK K;refine aOps_call (isTail_c d _) (by first | rfl | simp) rfl rfl (by first | (simp;done) | rfl) ?_;simp [hdt]
       exact hk
      ·have hlk:¬ (i:Int)+(1+mm) < s.size:=by omega
       refine aOps_split 6 fun K hK=>?_;simp [wk1,hlk];apply hK;clear hK K;refine aOps_split 6 fun K hK=>?_;simp;apply hK;clear hK K;simp
       exact hk
     apply hK
     clear hK
     refine awp_seq_k fun K hK=>?_;refine awp_condF rfl (by simp) ?_;refine awp_exit ?_;simp
     have h9:=hKK (1+mm) (boolV true) (boolV false) (by omega)
     simpa using h9
 ·have hlt':¬ (i:Int) < s.size:=by omega
  have e0:scanG s m i=[]:=by
   cases m with
   | zero=>rfl
   | succ m=>rw [scanG,List.getElem?_eq_none (by rw [byt_len];omega)]
  rw [e0,List.append_nil] at hsc
  subst hsc
  repeat with_reducible refine awp_assoc ?_
  refine awp_sr fun K hK=>?_;simp [hlt'];apply hK;clear hK K;refine awp_seq_k fun K hK=>?_;refine awp_condF rfl (by simp) ?_;refine awp_exit ?_;simp
  refine hK0 _ _ ?_
  refine awp_sr fun K hK=>?_;simp;apply hK;clear hK K;simp [reset_all hcl,low_toks]
end Go.Proofs.YtgeehnbbhnpimaaGreat
namespace Go.Proofs.YtgeehnbbhnpimaaGreat
open Go Go.Abs Go.Proofs
set_option maxRecDepth 20000
attribute [local simp] aOps wantedA aStep aop aLoad aStore aBin aUn aFieldAddr aField aIndexAddr aIndex aLen aBuild aFill aAlloc aAppend aBuildSlice litRows newRows isMut isOwn isNilS nilsW bytesR tokW tokAV tokL ret readC splice aeval isLit isLate AV.celled AV.one AV.ofValue Value.oneCell' Value.cells intOp strOp get_nid upd_nid awp aEnd aResults aResult Det unord isCall isNext
attribute [local simp] low_take low_strs low_comp low_tcomp wkEs_refl' WkBs WkEnv WkB WkL WkE WkO ABlock.low lowO lowL lowR AV.low cellsL_eq Ty.low low_map Ty.cells_length Ty.cells_one
section
variable (hd1:Nat→ByteArray) (nx1:Nat→Nat) (hd2:Nat→ByteArray) (nx2:Nat→Nat) (R:Nat→Nat→Prop)
def PRel:Option PR→Option PR→Prop
 | none,none=>True
 | some (.ok t k),some (.ok t' k')=>t=t'∧R k k'
 | some (.bad k),some (.bad k')=>R k k'
 | _,_=>False
theorem p_sim (h1:∀ k i,R k i→hd1 k=hd2 i) (h2:∀ k i,R k i→(hd1 k).size≠0→R (nx1 k) (nx2 i)):∀ (f:Nat),(∀ k i,R k i→PRel R (pAlone hd1 nx1 f k) (pAlone hd2 nx2 f i))∧(∀ n acc k i,R k i→PRel R (pArgs hd1 nx1 f n acc k) (pArgs hd2 nx2 f n acc i))∧(∀ k i,R k i→PRel R (pWhole hd1 nx1 f k) (pWhole hd2 nx2 f i)):=by
 intro f
 induction f with
 | zero=>exact ⟨fun k i h=>by simp [pAlone,PRel],fun n acc k i h=>by simp [pArgs,PRel],fun k i h=>by simp [pWhole,PRel]⟩
 | succ f ih =>
  obtain ⟨g1,g2,g3⟩:=ih
  refine ⟨fun k i h=>?_,fun n acc k i h=>?_,fun k i h=>?_⟩
  ·rw [pAlone,pAlone,←h1 k i h]
   split
   ·rename_i hn
    exact ⟨rfl,h2 k i h (name_size hn)⟩
   ·split
    ·rename_i hop
     have hr:=h2 k i h (by rw [hop];decide)
     have hw:=g3 _ _ hr
     cases ha:pWhole hd1 nx1 f (nx1 k) with
     | none =>
      rw [ha] at hw
      cases hb:pWhole hd2 nx2 f (nx2 i) with
      | none=>trivial
      | some q=>rw [hb] at hw;exact hw.elim
     | some p =>
      rw [ha] at hw
      cases hb:pWhole hd2 nx2 f (nx2 i) with
      | none=>rw [hb] at hw;cases p <;> exact hw.elim
      | some q =>
       rw [hb] at hw
       cases p with
       | bad k1 =>
        cases q with
        | bad k2=>exact hw
        | ok t2 k2=>exact hw.elim
       | ok t1 k1 =>
        cases q with
        | bad k2=>exact hw.elim
        | ok t2 k2 =>
         obtain ⟨rfl,hw⟩:=hw
         simp only [←h1 k1 k2 hw]
         split
         ·rename_i hc
          exact ⟨rfl,h2 _ _ hw (by rw [hc];decide)⟩
         ·exact hw
    ·exact h
  ·rw [pArgs,pArgs,←h1 k i h]
   split
   ·have hw:=g1 _ _ h
    cases ha:pAlone hd1 nx1 f k with
    | none =>
     rw [ha] at hw
     cases hb:pAlone hd2 nx2 f i with
     | none=>trivial
     | some q=>rw [hb] at hw;exact hw.elim
    | some p =>
     rw [ha] at hw
     cases hb:pAlone hd2 nx2 f i with
     | none=>rw [hb] at hw;cases p <;> exact hw.elim
     | some q =>
      rw [hb] at hw
      cases p with
      | bad k1 =>
       cases q with
       | bad k2=>exact hw
       | ok t2 k2=>exact hw.elim
      | ok t1 k1 =>
       cases q with
       | bad k2=>exact hw.elim
       | ok t2 k2 =>
        obtain ⟨rfl,hw⟩:=hw
        exact g2 _ _ _ _ hw
   ·exact ⟨rfl,h⟩
  ·rw [pWhole,pWhole,←h1 k i h]
   have hin:PRel R (if greatN (hd1 k)=true then pArgs hd1 nx1 f (hd1 k) [] (nx1 k) else pAlone hd1 nx1 f k) (if greatN (hd1 k)=true then pArgs hd2 nx2 f (hd1 k) [] (nx2 i) else pAlone hd2 nx2 f i):=by
    split
    ·rename_i hg
     exact g2 _ _ _ _ (h2 k i h (name_size (by rw [hg];simp)))
    ·exact g1 _ _ h
   generalize (if greatN (hd1 k)=true then pArgs hd1 nx1 f (hd1 k) [] (nx1 k) else pAlone hd1 nx1 f k)=a at hin ⊢
   generalize (if greatN (hd1 k)=true then pArgs hd2 nx2 f (hd1 k) [] (nx2 i) else pAlone hd2 nx2 f i)=b at hin ⊢
   cases a with
   | none =>
    cases b with
    | none=>trivial
    | some q=>exact hin.elim
   | some p =>
    cases b with
    | none=>cases p <;> exact hin.elim
    | some q =>
     cases p with
     | bad k1 =>
      cases q with
      | bad k2=>exact hin
      | ok t2 k2=>exact hin.elim
     | ok t1 k1 =>
      cases q with
      | bad k2=>exact hin.elim
      | ok t2 k2 =>
       obtain ⟨rfl,hw⟩:=hin
       simp only [←h1 k1 k2 hw]
       split
       ·rename_i har
        have hr:=h2 _ _ hw (by rw [har];decide)
        have hw2:=g3 _ _ hr
        generalize pWhole hd1 nx1 f (nx1 k1)=a at hw2 ⊢
        generalize pWhole hd2 nx2 f (nx2 k2)=b at hw2 ⊢
        cases a with
        | none =>
         cases b with
         | none=>trivial
         | some q=>exact hw2.elim
        | some p =>
         cases b with
         | none=>cases p <;> exact hw2.elim
         | some q =>
          cases p with
          | bad k1 =>
           cases q with
           | bad k2=>exact hw2
           | ok t2 k2=>exact hw2.elim
          | ok t1 k1 =>
           cases q with
           | bad k2=>exact hw2.elim
           | ok t2 k2 =>
            obtain ⟨rfl,hw3⟩:=hw2
            exact ⟨rfl,hw3⟩
       ·exact ⟨rfl,hw⟩
end
def StR (s:ByteArray) (k i:Nat):Prop:=k≤s.size∧(scanL s).drop i=scanG s (s.size+1 - k) k
theorem scanG_sp (s:ByteArray):∀ (n k:Nat),k≤s.size→tw isSp ((byt s).drop k)=n→scanG s (s.size+1 - k) k=scanG s (s.size+1 - (k+n)) (k+n):=by
 intro n
 induction n with
 | zero=>intro k _ _;rfl
 | succ n ih =>
  intro k hk hn
  obtain ⟨c,hc,hcs⟩:=tw_lt (p:=isSp) (l:=(byt s).drop k) (k:=0) (by omega)
  rw [List.getElem?_drop,Nat.add_zero] at hc
  obtain ⟨h1,h2⟩:=List.getElem?_eq_some_iff.1 hc
  have hlt:k < s.size:=by rw [←byt_len];exact h1
  have e:(byt s).drop k=c::(byt s).drop (k+1):=by rw [List.drop_eq_getElem_cons h1,h2]
  have hn2:tw isSp ((byt s).drop (k+1))=n:=by
   unfold tw at hn ⊢
   rw [e,List.takeWhile_cons,if_pos hcs] at hn
   simpa using hn
  have e2:s.size+1 - k=(s.size - k)+1:=by omega
  rw [e2,scanG,hc]
  simp only [hcs,if_true]
  rw [scanG_fuel s (s.size - k) (s.size+1 - (k+1)) (k+1) (by omega) (by omega),ih (k+1) (by omega) hn2]
  congr 1 <;> omega
theorem scanG_at (s:ByteArray) (k:Nat) (hk:k≤s.size):scanG s (s.size+1 - k) k=if spN s k < s.size then (hdR s k,spN s k)::scanG s (s.size+1 - nxR s k) (nxR s k) else []:=by
 have h1:=spN_le hk
 rw [scanG_sp s _ k hk rfl]
 show scanG s (s.size+1 - spN s k) (spN s k)=_
 obtain ⟨_,hta⟩:=tw_at (p:=isSp) (l:=(byt s).drop k)
 have hta':∀ c,(byt s)[spN s k]?=some c→isSp c=false:=fun c hc=>hta c (by rw [List.getElem?_drop];exact hc)
 split
 ·rename_i hlt
  obtain ⟨c,hc⟩:∃ c,(byt s)[spN s k]?=some c:=⟨_,List.getElem?_eq_getElem (by rw [byt_len];exact hlt)⟩
  have e2:s.size+1 - spN s k=(s.size - spN s k)+1:=by omega
  rw [e2,scanG,hc]
  simp only [hta' c hc,Bool.false_eq_true,if_false]
  have h2:=(endN_le (s:=s) (j:=spN s k) (by omega)).2.2 hlt
  rw [scanG_fuel s (s.size - spN s k) (s.size+1 - nxR s k) (endN s (spN s k)) (by omega) (by unfold nxR;omega)]
  rfl
 ·rename_i hlt
  have e2:s.size+1 - spN s k=(s.size - spN s k)+1:=by omega
  rw [e2,scanG,List.getElem?_eq_none (by rw [byt_len];omega)]
theorem str_hd {s:ByteArray} {k i:Nat} (h:StR s k i):hdR s k=hdP (scanL s) i∧posP' (scanL s) s.size i=spN s k∧(i < (scanL s).length↔spN s k < s.size):=by
 obtain ⟨hk,he⟩:=h
 rw [scanG_at s k hk] at he
 have h1:=spN_le hk
 split at he
 ·rename_i hlt
  have hi:(scanL s)[i]?=some (hdR s k,spN s k):=by
   have:=congrArg (fun l=>l[0]?) he
   simpa using this
  have hil:i < (scanL s).length:=(List.getElem?_eq_some_iff.1 hi).1
  exact ⟨by unfold hdP;rw [hi],by unfold posP';rw [hi],by simp [hil,hlt]⟩
 ·rename_i hlt
  have hl:(scanL s).length≤i:=by simpa using he
  have e1:spN s k=s.size:=by omega
  refine ⟨?_,by unfold posP';rw [List.getElem?_eq_none hl];exact e1.symm,by constructor <;> intro h <;> omega⟩
  unfold hdP
  rw [List.getElem?_eq_none hl]
  unfold hdR
  apply ba_list
  rw [ext_list,e1,List.drop_of_length_le (by rw [←ba_size];exact Nat.le_refl _)]
  simp
theorem str_nx {s:ByteArray} {k i:Nat} (h:StR s k i) (hz:(hdR s k).size≠0):StR s (nxR s k) (i+1):=by
 have h0:=hdR_in k hz
 obtain ⟨hk,he⟩:=h
 refine ⟨nxR_le hk,?_⟩
 rw [scanG_at s k hk] at he
 have hlt:spN s k < s.size:=by
  have h3:(hdR s k).size=min (endN s (spN s k)) s.size - spN s k:=by unfold hdR;exact ByteArray.size_extract
  omega
 rw [if_pos hlt] at he
 have:=congrArg List.tail he
 simpa using this
theorem str_0 (s:ByteArray):StR s 0 0:=⟨Nat.zero_le _,rfl⟩
theorem read_both (s:ByteArray):∃ q,qWhole (hdP (scanL s)) (2 * s.size+2) 0=some q∧(match readR s with
  | .ok t k=>∃ i,q=(t,i,none)∧StR s k i
  | .bad k=>∃ j,q.2.2=some j∧StR s k j):=by
 have h:=(p_sim (hdR s) (nxR s) (hdP (scanL s)) (·+1) (StR s) (fun k i h=>(str_hd h).1) (fun k i h hz=>str_nx h hz) (2 * s.size+2)).2.2 0 0 (str_0 s)
 rw [readR_eq] at h
 cases hp:pWhole (hdP (scanL s)) (·+1) (2 * s.size+2) 0 with
 | none=>rw [hp] at h;revert h;cases readR s <;> exact fun h=>h.elim
 | some p =>
  rw [hp] at h
  obtain ⟨q,hq,hk⟩:=(q_of_p (hdP (scanL s)) (2 * s.size+2)).2.2 _ _ hp
  refine ⟨q,hq,?_⟩
  cases hr:readR s with
  | ok t k =>
   rw [hr] at h
   cases p with
   | bad k'=>exact h.elim
   | ok t' k' =>
    obtain ⟨rfl,h⟩:=h
    exact ⟨k',hk,h⟩
  | bad k =>
   rw [hr] at h
   cases p with
   | ok t' k'=>exact h.elim
   | bad k'=>exact ⟨k',hk,h⟩
end Go.Proofs.YtgeehnbbhnpimaaGreat
namespace Go.Proofs.YtgeehnbbhnpimaaGreat
open Go Go.Abs Go.Proofs
set_option maxRecDepth 20000
attribute [local simp] aOps wantedA aStep aop aLoad aStore aBin aUn aFieldAddr aField aIndexAddr aIndex aLen aBuild aFill aAlloc aAppend aBuildSlice litRows newRows isMut isOwn isNilS nilsW bytesR tokW tokAV tokL ret readC splice aeval isLit isLate AV.celled AV.one AV.ofValue Value.oneCell' Value.cells intOp strOp get_nid upd_nid awp aEnd aResults aResult Det unord isCall isNext
attribute [local simp] low_take low_strs low_comp low_tcomp wkEs_refl' WkBs WkEnv WkB WkL WkE WkO ABlock.low lowO lowL lowR AV.low cellsL_eq Ty.low low_map Ty.cells_length Ty.cells_one
attribute [local simp] low_bind
theorem scanL_len (s:ByteArray):(scanL s).length≤s.size:=by
 have key:∀ (f i:Nat),i≤s.size→(scanG s f i).length+i≤s.size:=by
  intro f
  induction f with
  | zero=>intro i hi;simpa [scanG] using hi
  | succ f ih =>
   intro i hi
   rw [scanG]
   cases hc:(byt s)[i]? with
   | none=>simpa using hi
   | some c =>
    have hlt:i < s.size:=by rw [←byt_len];exact (List.getElem?_eq_some_iff.1 hc).1
    have hE:=(endN_le (s:=s) (j:=i) (by omega))
    have hE2:=hE.2.2 hlt
    simp only
    split
    ·have:=ih (i+1) (by omega);omega
    ·have:=ih (endN s i) (by omega)
     simp only [List.length_cons];omega
 have:=key (s.size+1) 0 (Nat.zero_le _)
 unfold scanL;omega
theorem Parse_c (s:ByteArray) (H:AHeap):ACalls Tryz.prog 22 [strV s] H (.tuple [(parseR s).1.enc,nV (parseR s).2.1,intV (parseR s).2.2]) H:=by
 have he:parseR s=if s.size > 20000 then (zeroTy,0,3) else match readR s with
  | .bad k=>(zeroTy,spN s k,2)
  | .ok t k=>if spN s k < s.size then (zeroTy,spN s k,2) else if t.valid=0 then (t,0,0) else (zeroTy,0,t.valid):=rfl
 obtain ⟨q,hq,hrel⟩:=read_both s
 have hll:=scanL_len s
 generalize parseR s=res at he ⊢
 generalize readR s=r at he hrel
 refine acalls_walk (fun _=>.imm) [0,2,3,4,5,6,7,10,37,44,53] Tryz.mixed Tryz.func22 rfl rfl rfl (by decide) (fun hcl hlow=>?_)
 refine awp_sr fun K hK=>?_;simp;apply hK;clear hK K
 by_cases hl:s.size > 20000
 ·rw [if_pos hl] at he
  have hl':(20000:Int) < s.size:=by omega
  repeat with_reducible refine awp_assoc ?_
  refine awp_sr fun K hK=>?_;simp [hl'];apply hK;clear hK K;refine awp_seq_k fun K hK=>?_;refine awp_condT rfl (by simp) ?_;refine awp_sr fun K hK=>?_;simp;apply hK;clear hK K
  rw [he]
  simp [zero_enc]
  exact ⟨Wk.tuple ⟨Wk.agg ⟨.refl _,Wk.nilSlice,trivial⟩,.refl _,.refl _,trivial⟩,reset_all hcl⟩
 rw [if_neg hl] at he
 have hl':¬ (20000:Int) < s.size:=by omega
 have hsc:=scan_c s (by omega)
 have hrc:=fun ri=>(prog_reader_c ri (scanL s) s.size (2 * s.size+2) (by omega)).2 0 q
 have hqt:=(q_lt (hdP (scanL s)) (2 * s.size+2)).2.2 0
 have hqb:=(q_le (hdP (scanL s)) (B:=(scanL s).length) (fun i h=>hdP_in i h) (2 * s.size+2)).2.2 0 q (Nat.zero_le _) hq
 have hstr:∀ k i,StR s k i→posP' (scanL s) s.size i=spN s k∧(i < (scanL s).length↔spN s k < s.size):=fun k i h=>(str_hd h).2
 have hfa:=fun (ri:Nat) (i:Nat) (b:Option Nat) (H:AHeap) hH=>fails_c (ri:=ri) (l:=scanL s) (e:=s.size) (i:=i) (b:=b) (H:=H) hH
 generalize scanL s=l at *
 repeat with_reducible refine awp_assoc ?_
 refine awp_sr fun K hK=>?_;simp [hl'];apply hK;clear hK K;refine awp_seq_k fun K hK=>?_;refine awp_condF rfl (by simp) ?_;refine awp_skip ?_;apply hK;clear hK K;refine awp_sr fun K hK=>?_;refine aOps_split 2 fun K hK=>?_;simp;apply hK;clear hK K;refine aOps_callW (hsc _) (by first | rfl | simp) rfl rfl ⟨.refl _,Wk.tok _ _,.refl _,trivial⟩ ?_;simp;apply hK;clear hK K
 rw [show ABlock.cells [AV.slice (List.map tokC l) none,AV.v (Value.int IntKind.i64 0),AV.v (Value.int IntKind.i64 (s.size:Int)),AV.v (Value.int IntKind.i64 (-1))]=rdP l s.size 0 none from rfl]
 have hcw:=hrc (nid H.next 2) (HL H [.cells [strV ByteArray.empty,.v (.slice none 0 0)],.tok 1 1 none,rdP l s.size 0 none]) (Nat.zero_le _) (by simp) hq
 simp at hcw
 have er:∀ i b,rdP l s.size i b=.cells [.slice (l.map tokC) none,nV i,nV s.size,intV (badV l s.size b)]:=fun _ _=>rfl
 cases r with
 | bad k =>
  obtain ⟨j,hj,hst⟩:=hrel
  obtain ⟨hp1,_⟩:=hstr k j hst
  obtain ⟨⟨tn,tl⟩,i,b⟩:=q
  simp only at hj
  subst hj
  simp only at he;simp only [enc_mk] at hcw
  have hb:¬ (badV l s.size (some j) < 0):=by show ¬ ((posP' l s.size j:Int) < 0);omega
  have hb2:badV l s.size (some j)=(spN s k:Int):=by show ((posP' l s.size j:Nat):Int)=_;rw [hp1]
  refine awp_sr fun K hK=>?_;refine aOps_split 1 fun K hK=>?_;simp;apply hK;clear hK K;refine aOps_call (hcw) (by first | rfl | simp) rfl rfl (by first | (simp;done) | rfl) ?_;simp;apply hK;clear hK K
  rw [er]
  repeat with_reducible refine awp_assoc ?_
  refine awp_sdc [] [[],[],[],[],[0],[0,1],[0,1,2],[0,1,2],[0,1,2],[0,1,2],[0,1,2,6,7,8,9],[0,1,2,6,7,8,9],[0,1,2,6,7,8,9],[0,1,2,6,7,8,9],[0,1,2,6,7,8,9,10],[0,1,2,6,10,11],[0,1,2,6,7,10,11,12]] (by kernel_rfl) (by rfl) fun K hK=>?_;refine aCalm_pre 5 (by rfl) fun K hK=>?_;simp [hb];apply hK;clear hK K;refine aCalm_pre 8 (by rfl) fun K hK=>?_;simp;apply hK;clear hK K;refine aCalm_pre 8 (by rfl) fun K hK=>?_;simp;apply hK;clear hK K;refine aCalm_end ?_;simp;apply hK;clear hK K;refine awp_seq_k fun K hK=>?_;refine awp_condF rfl (by simp) ?_;refine awp_skip ?_;apply hK;clear hK K
  have hb3:(0:Int)≤badV l s.size (some j):=by omega
  repeat with_reducible refine awp_assoc ?_
  refine awp_sr fun K hK=>?_;simp [hb3];apply hK;clear hK K;refine awp_seq_k fun K hK=>?_;refine awp_condT rfl (by simp) ?_
  refine awp_sd [5] [[],[0],[0],[0],[0],[1,2,3,4],[],[]] (by kernel_rfl) fun K hK=>?_
  refine aLex_read rfl rfl rfl rfl fun K hK=>?_;simp
  refine hK _ _ _ ?_
  clear hK K;refine aLex_read rfl rfl rfl rfl fun K hK=>?_;simp
  refine hK _ _ _ ?_
  clear hK K;refine aLex_read rfl rfl rfl rfl fun K hK=>?_;simp
  refine hK _ _ _ ?_
  clear hK K;refine aLex_read rfl rfl rfl rfl fun K hK=>?_;simp
  refine hK _ _ _ ?_
  clear hK K;refine aLex_read rfl rfl rfl rfl fun K hK=>?_;simp
  refine hK _ _ _ ?_
  clear hK K;refine aLex_eff rfl rfl rfl rfl fun K hK=>?_;simp;apply hK;clear hK K;refine aLex_read rfl rfl rfl rfl fun K hK=>?_;simp
  refine hK _ _ _ ?_
  clear hK K;refine aLex_read rfl rfl rfl rfl fun K hK=>?_;simp
  refine hK _ _ _ ?_
  clear hK K;refine aLex_end ?_;simp;apply hK;clear hK K
  rw [he]
  simp [zero_enc,hb2]
  exact ⟨Wk.tuple ⟨Wk.agg ⟨.refl _,Wk.nilSlice,trivial⟩,.refl _,.refl _,trivial⟩,reset_all hcl⟩
 | ok t k =>
  obtain ⟨i,rfl,hst⟩:=hrel
  obtain ⟨hp1,hp2⟩:=hstr k i hst
  obtain ⟨tn,tl⟩:=t
  have hva:=validate_c (.mk tn tl)
  simp only [enc_mk] at hcw hva;simp only at he
  have hb:badV l s.size none < 0:=by show (-1:Int) < 0;omega
  refine awp_sr fun K hK=>?_;refine aOps_split 1 fun K hK=>?_;simp;apply hK;clear hK K;refine aOps_call (hcw) (by first | rfl | simp) rfl rfl (by first | (simp;done) | rfl) ?_;simp;apply hK;clear hK K
  by_cases hsp:spN s k < s.size
  ·rw [if_pos hsp] at he
   have hil:(i:Int) < l.length:=by have:=hp2.2 hsp;omega
   have hcf:=hfa (nid H.next 2) i none (HL H [.cells [strV ByteArray.empty,.v (.slice none 0 0)],.tok 1 1 none,rdP l s.size i none,.cells [strV tn,.slice (tl.map Ty.cells) none]]) (by simp)
   simp at hcf
   have hb2:badV l s.size (some i)=(spN s k:Int):=by show ((posP' l s.size i:Nat):Int)=_;rw [hp1]
   repeat with_reducible refine awp_assoc ?_
   refine awp_sdc [] [[],[],[],[],[0],[0,1],[0,1,2],[0,1,2],[0,1,2],[0,1,2],[0,1,2,6,7,8,9],[0,1,2,6,7,8,9],[0,1,2,6,7,8,9],[0,1,2,6,7,8,9],[0,1,2,6,7,8,9,10],[0,1,2,6,10,11],[0,1,2,6,7,10,11,12]] (by kernel_rfl) (by rfl) fun K hK=>?_;refine aCalm_pre 5 (by rfl) fun K hK=>?_;simp [er,hb];apply hK;clear hK K;refine aCalm_pre 6 (by rfl) fun K hK=>?_;simp [er];apply hK;clear hK K;refine aCalm_pre 6 (by rfl) fun K hK=>?_;simp [er,hil];apply hK;clear hK K;refine aCalm_end ?_;simp;apply hK;clear hK K;refine awp_seq_k fun K hK=>?_;refine awp_condT rfl (by simp) ?_
   rw [←er]
   refine awp_region ?_;refine aOps_split 1 fun K hK=>?_;simp;apply hK;clear hK K;refine aOps_call (hcf) (by first | rfl | simp) rfl rfl (by first | (simp;done) | rfl) ?_;simp;apply hK
   clear hK
   rw [er]
   have hb3:(0:Int)≤badV l s.size (some i):=by omega
   repeat with_reducible refine awp_assoc ?_
   refine awp_sr fun K hK=>?_;simp [hb3];apply hK;clear hK K;refine awp_seq_k fun K hK=>?_;refine awp_condT rfl (by simp) ?_
   refine awp_sd [5] [[],[0],[0],[0],[0],[1,2,3,4],[],[]] (by kernel_rfl) fun K hK=>?_
   refine aLex_read rfl rfl rfl rfl fun K hK=>?_;simp
   refine hK _ _ _ ?_
   clear hK K;refine aLex_read rfl rfl rfl rfl fun K hK=>?_;simp
   refine hK _ _ _ ?_
   clear hK K;refine aLex_read rfl rfl rfl rfl fun K hK=>?_;simp
   refine hK _ _ _ ?_
   clear hK K;refine aLex_read rfl rfl rfl rfl fun K hK=>?_;simp
   refine hK _ _ _ ?_
   clear hK K;refine aLex_read rfl rfl rfl rfl fun K hK=>?_;simp
   refine hK _ _ _ ?_
   clear hK K;refine aLex_eff rfl rfl rfl rfl fun K hK=>?_;simp;apply hK;clear hK K;refine aLex_read rfl rfl rfl rfl fun K hK=>?_;simp
   refine hK _ _ _ ?_
   clear hK K;refine aLex_read rfl rfl rfl rfl fun K hK=>?_;simp
   refine hK _ _ _ ?_
   clear hK K;refine aLex_end ?_;simp;apply hK;clear hK K
   rw [he]
   simp [zero_enc,hb2]
   exact ⟨Wk.tuple ⟨Wk.agg ⟨.refl _,Wk.nilSlice,trivial⟩,.refl _,.refl _,trivial⟩,reset_all hcl⟩
  ·rw [if_neg hsp] at he
   have hil:¬ (i:Int) < l.length:=fun h=>hsp (hp2.1 (by omega))
   have hb3:¬ (0:Int)≤badV l s.size none:=by omega
   repeat with_reducible refine awp_assoc ?_
   refine awp_sdc [] [[],[],[],[],[0],[0,1],[0,1,2],[0,1,2],[0,1,2],[0,1,2],[0,1,2,6,7,8,9],[0,1,2,6,7,8,9],[0,1,2,6,7,8,9],[0,1,2,6,7,8,9],[0,1,2,6,7,8,9,10],[0,1,2,6,10,11],[0,1,2,6,7,10,11,12]] (by kernel_rfl) (by rfl) fun K hK=>?_;refine aCalm_pre 5 (by rfl) fun K hK=>?_;simp [er,hb];apply hK;clear hK K;refine aCalm_pre 6 (by rfl) fun K hK=>?_;simp [er];apply hK;clear hK K;refine aCalm_pre 6 (by rfl) fun K hK=>?_;simp [er,hil];apply hK;clear hK K;refine aCalm_end ?_;simp;apply hK;clear hK K;refine awp_seq_k fun K hK=>?_;refine awp_condF rfl (by simp) ?_;refine awp_skip ?_;apply hK;clear hK K;repeat with_reducible refine awp_assoc ?_
   refine awp_sr fun K hK=>?_;simp [hb3];apply hK;clear hK K;refine awp_seq_k fun K hK=>?_;refine awp_condF rfl (by simp) ?_;refine awp_skip ?_;apply hK;clear hK K;repeat with_reducible refine awp_assoc ?_
   refine awp_sr fun K hK=>?_;refine aOps_split 1 fun K hK=>?_;simp;apply hK;clear hK K;refine aOps_call (hva _) (by first | rfl | simp) rfl rfl (by first | (simp;done) | rfl) ?_;simp;apply hK;clear hK K
   by_cases hv:(Ty.mk tn tl).valid=0
   ·rw [if_pos hv] at he
    repeat with_reducible refine awp_assoc ?_
    refine awp_sr fun K hK=>?_;simp [hv];apply hK;clear hK K;refine awp_seq_k fun K hK=>?_;refine awp_condF rfl (by simp) ?_;refine awp_skip ?_;apply hK;clear hK K;refine awp_sr fun K hK=>?_;simp;apply hK;clear hK K
    rw [he]
    simp [enc_mk]
    exact ⟨Wk.tuple ⟨.refl _,.refl _,.refl _,trivial⟩,reset_all hcl⟩
   ·rw [if_neg hv] at he
    repeat with_reducible refine awp_assoc ?_
    refine awp_sr fun K hK=>?_;simp [hv];apply hK;clear hK K;refine awp_seq_k fun K hK=>?_;refine awp_condT rfl (by simp [hv]) ?_;refine awp_sr fun K hK=>?_;simp;apply hK;clear hK K
    rw [he]
    simp [zero_enc]
    exact ⟨Wk.tuple ⟨Wk.agg ⟨.refl _,Wk.nilSlice,trivial⟩,.refl _,.refl _,trivial⟩,reset_all hcl⟩
end Go.Proofs.YtgeehnbbhnpimaaGreat
