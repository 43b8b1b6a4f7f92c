/- The program: Take, Alone. -/
import Derived.Test.YtdppfcbeiplckaaGreatMM2
set_option linter.unusedVariables false
set_option linter.unusedSimpArgs false
namespace Go.Proofs.YtdppfcbeiplckaaGreat
open Go Go.Abs Go.Proofs
set_option maxRecDepth 20000
attribute [local simp] aOps wantedA aStep aop aLoad aStore aBin aUn aFieldAddr aField aIndexAddr aIndex aLen aBuild aFill aAlloc aAppend aAppendOwn aMin aMax aBuildSlice litRows newRows isMut isOwn isNilS nilsW bytesR tokW tokAV tokL ret readC splice aeval isLit isLate isCut aCut AV.celled AV.one AV.ofValue Value.oneCell' Value.cells intOp strOp get_nid upd_nid awp aEnd aResults aResult Det unord isCall isNext
attribute [local simp] low_take low_strs low_comp low_tcomp wkEs_refl' WkBs WkEnv WkB WkL WkE WkO ABlock.low lowO lowL lowR AV.low cellsL_eq Ty.low low_map Ty.cells_length Ty.cells_one
attribute [local simp] cellsNd_eq low_nds Nd.cells_length Nd.cells_one cellsDT_eq low_dts DT.kcells_length DT.kcells_one low_ints low_rows low_pls
theorem treeB_wf {t:DT} (h:treeB t=true):t.wfB=true∧t.sz≤400:=by
 unfold treeB at h
 simp only [Bool.and_eq_true,decide_eq_true_eq] at h
 refine ⟨h.2,?_⟩
 have:=cntR_sz t 0
 rcases Nat.lt_or_ge 400 t.sz with h1 | h1
 ·have:=this.2 (by omega);omega
 ·exact h1
def SortIOk (sortI:List Int→List Int):Prop:=(∀ l,(sortI l).length=l.length)∧∀ (l:List Int),l.length < 1099511627776→∀ (H:AHeap) (i:Nat),H.get i=some (.tok l.length 1 (some (l.map intR))) →
 ACalls Tryz.prog 25 [.vec i l.length] H (.tuple []) (H.upd i (.tok l.length 1 (some ((sortI l).map intR))))
def CompIOk (compI:List Int→List Int):Prop:=∀ (l:List Int),l.length < 1099511627776→∀ (H:AHeap) (i:Nat),H.get i=some (.tok l.length 1 (some (l.map intR))) →
 ACalls Tryz.prog 26 [.vec i l.length] H (.slice ((compI l).map intR) none) (H.upd i (.tok l.length 1 none))
def takeV (sortI compI:List Int→List Int) (t:DT) (args:List Nd):List Int × Int :=
 if treeB t=false then ([],1) else if args.all Nd.gnd=false then ([],1) else if (t.tk args).1=false then ([],8) else (compI (sortI (t.tk args).2),0)
set_option maxHeartbeats 1000000 in
theorem Take_c {sortI compI:List Int→List Int} (hS:SortIOk sortI) (hC:CompIOk compI) {b:Nat} (hb:b≤1073741824) (t:DT) (hs:t.Sh b) (args:List Nd) (ha:VOk b (args,zeroNd)) (H:AHeap) :
  ACalls Tryz.prog 6 [t.enc,.slice (args.map Nd.cells) none] H (.tuple [.slice ((takeV sortI compI t args).1.map intR) none,intV (takeV sortI compI t args).2]) H:=by
 have hv:=fun H=>valid_c (by omega) t hs H
 have hg:=fun H=>ground_c (by omega) args ha.1 ha.2 H
 have hlen:=tk_len args t hs
 have htk:=fun (hw:treeB t=true) H i j hij=>take_c (b:=b) (by omega) args ha t hs (treeB_wf hw).1 [] (by
  have:=(treeB_wf hw).2
  have h2:t.sz * b≤400 * 1073741824:=Nat.mul_le_mul this hb
  simp only [List.length_nil];omega) H i j hij
 have hlen2:treeB t=true→(t.tk args).2.length < 1099511627776:=fun hw=>by
  have:=(treeB_wf hw).2
  have h2:t.sz * b≤400 * 1073741824:=Nat.mul_le_mul this hb
  omega
 unfold takeV
 generalize args.all Nd.gnd=g at *
 generalize treeB t=w at *
 generalize t.tk args=R at *
 obtain ⟨ok,r⟩:=R
 obtain ⟨s,n,k,p,q,l⟩:=t
 simp only [DT.enc_mk] at *
 refine acalls_walk (fun t=>if t=8 then .nilb 1 else .imm) [0,1,2,4,5,6,7,8,12,17,22] Tryz.mixed Tryz.func6 rfl rfl rfl (by decide) (fun hcl hlow=>?_)
 repeat with_reducible refine awp_assoc ?_
 refine awp_sr fun K hK=>?_
 simp
 refine hK _ _ ?_
 clear hK K
 repeat with_reducible refine awp_assoc ?_
 refine awp_sr fun K hK=>?_
 refine aOps_split 1 fun K hK=>?_
 simp
 refine hK _ _ ?_
 clear hK K
 refine aOps_call (hv _) (by first | rfl | simp) rfl rfl (by first | (simp;done) | rfl) ?_
 simp
 refine hK _ _ ?_
 clear hK K
 cases w with
 | false =>
  repeat with_reducible refine awp_assoc ?_
  refine awp_sr fun K hK=>?_
  simp
  refine hK _ _ ?_
  clear hK K
  repeat with_reducible refine awp_assoc ?_
  refine awp_seq_k fun K hK=>?_
  refine awp_condT rfl (by simp) ?_
  repeat with_reducible refine awp_assoc ?_
  refine awp_sr fun K hK=>?_
  simp
  refine hK _ _ ?_
  clear hK K
  simp [reset_all hcl]
  exact Wk.tuple ⟨Wk.nilSlice,.refl _,trivial⟩
 | true =>
 repeat with_reducible refine awp_assoc ?_
 refine awp_sr fun K hK=>?_
 simp
 refine hK _ _ ?_
 clear hK K
 repeat with_reducible refine awp_assoc ?_
 refine awp_seq_k fun K hK=>?_
 refine awp_condF rfl (by simp) ?_
 refine awp_skip ?_
 refine hK _ _ ?_
 clear hK K
 repeat with_reducible refine awp_assoc ?_
 refine awp_sr fun K hK=>?_
 refine aOps_split 1 fun K hK=>?_
 simp
 refine hK _ _ ?_
 clear hK K
 refine aOps_call (hg _) (by first | rfl | simp) rfl rfl (by first | (simp;done) | rfl) ?_
 simp
 refine hK _ _ ?_
 clear hK K
 cases g with
 | false =>
  repeat with_reducible refine awp_assoc ?_
  refine awp_sr fun K hK=>?_
  simp
  refine hK _ _ ?_
  clear hK K
  repeat with_reducible refine awp_assoc ?_
  refine awp_seq_k fun K hK=>?_
  refine awp_condT rfl (by simp) ?_
  repeat with_reducible refine awp_assoc ?_
  refine awp_sr fun K hK=>?_
  simp
  refine hK _ _ ?_
  clear hK K
  simp [reset_all hcl]
  exact Wk.tuple ⟨Wk.nilSlice,.refl _,trivial⟩
 | true =>
 repeat with_reducible refine awp_assoc ?_
 refine awp_sr fun K hK=>?_
 simp
 refine hK _ _ ?_
 clear hK K
 repeat with_reducible refine awp_assoc ?_
 refine awp_seq_k fun K hK=>?_
 refine awp_condF rfl (by simp) ?_
 refine awp_skip ?_
 refine hK _ _ ?_
 clear hK K
 repeat with_reducible refine awp_assoc ?_
 refine awp_sr fun K hK=>?_
 simp
 refine hK _ _ ?_
 clear hK K
 have h8:ACalls Tryz.prog 24 [.agg [intV k,.slice (p.map intR) none,.slice (q.map intR) none,.slice (l.map DT.kcells) none],.slice (args.map Nd.cells) none,.ref (nid H.next 2) 0]
   (HL H [.cells [intV k,.slice (p.map intR) none,.slice (q.map intR) none,.slice (l.map DT.kcells) none],.tok 0 1 (some []),.cells [.vec (nid H.next 1) 0]]) (boolV ok)
   (HL H [.cells [intV k,.slice (p.map intR) none,.slice (q.map intR) none,.slice (l.map DT.kcells) none],.tok r.length 1 (some (r.map intR)),.cells [.vec (nid H.next 1) r.length]]):=by
  have:=htk rfl (HL H [.cells [intV k,.slice (p.map intR) none,.slice (q.map intR) none,.slice (l.map DT.kcells) none],.tok 0 1 (some []),.cells [.vec (nid H.next 1) 0]]) (nid H.next 2) (nid H.next 1) (by simp)
  simpa [cR] using this
 have hl3:=hlen2 rfl
 replace hl3:r.length < 1099511627776:=hl3
 repeat with_reducible refine awp_assoc ?_
 refine awp_sr fun K hK=>?_
 refine aOps_split 2 fun K hK=>?_
 simp
 refine hK _ _ ?_
 clear hK K
 refine aOps_call (h8) (by first | rfl | simp) rfl rfl (by first | (simp;done) | rfl) ?_
 simp
 refine hK _ _ ?_
 clear hK K
 cases ok with
 | false =>
  repeat with_reducible refine awp_assoc ?_
  refine awp_seq_k fun K hK=>?_
  refine awp_condT rfl (by simp) ?_
  repeat with_reducible refine awp_assoc ?_
  refine awp_sr fun K hK=>?_
  simp
  refine hK _ _ ?_
  clear hK K
  simp [reset_all hcl]
  exact Wk.tuple ⟨Wk.nilSlice,.refl _,trivial⟩
 | true =>
 repeat with_reducible refine awp_assoc ?_
 refine awp_seq_k fun K hK=>?_
 refine awp_condF rfl (by simp) ?_
 refine awp_skip ?_
 refine hK _ _ ?_
 clear hK K
 have h9:=hS.2 r hl3 (HL H [.cells [intV k,.slice (p.map intR) none,.slice (q.map intR) none,.slice (l.map DT.kcells) none],.tok r.length 1 (some (r.map intR)),.cells [.vec (nid H.next 1) r.length]]) (nid H.next 1) (by simp)
 simp at h9
 have h10:=hC (sortI r) (by rw [hS.1];exact hl3) (HL H [.cells [intV k,.slice (p.map intR) none,.slice (q.map intR) none,.slice (l.map DT.kcells) none],.tok r.length 1 (some ((sortI r).map intR)),.cells [.vec (nid H.next 1) r.length]]) (nid H.next 1) (by simp [hS.1])
 rw [hS.1] at h10
 simp at h10
 repeat with_reducible refine awp_assoc ?_
 refine awp_sr fun K hK=>?_
 refine aOps_split 1 fun K hK=>?_
 simp
 refine hK _ _ ?_
 clear hK K
 refine aOps_call (h9) (by first | rfl | simp) rfl rfl (by first | (simp;done) | rfl) ?_
 simp
 refine hK _ _ ?_
 clear hK K
 repeat with_reducible refine awp_assoc ?_
 refine awp_sr fun K hK=>?_
 refine aOps_split 1 fun K hK=>?_
 simp
 refine hK _ _ ?_
 clear hK K
 refine aOps_call (h10) (by first | rfl | simp) rfl rfl (by first | (simp;done) | rfl) ?_
 simp
 refine hK _ _ ?_
 clear hK K
 simp [reset_all hcl]
theorem alone1_c (x:DT) (h:∀ H,ACalls Tryz.prog 30 [x.enc] H (boolV x.aloneB) H) (H:AHeap):ACalls Tryz.prog 65 [x.kenc] H (boolV (!x.aloneB)) H:=by
 generalize x.aloneB=b at *
 obtain ⟨xs,xm,xk,xp,xr,xl⟩:=x
 simp only [DT.enc_mk,DT.kenc_mk] at h ⊢
 refine acalls_walk (fun _=>.imm) [0,1,2] Tryz.mixed Tryz.func65 rfl rfl rfl (by decide) (fun hcl hlow=>?_)
 repeat with_reducible refine awp_assoc ?_
 refine awp_sr fun K hK=>?_
 simp
 refine hK _ _ ?_
 clear hK K
 repeat with_reducible refine awp_assoc ?_
 refine awp_sr fun K hK=>?_
 refine aOps_split 2 fun K hK=>?_
 simp
 refine hK _ _ ?_
 clear hK K
 refine aOps_call (h _) (by first | rfl | simp) rfl rfl (by first | (simp;done) | rfl) ?_
 simp
 refine hK _ _ ?_
 clear hK K
 simp [reset_all hcl]
theorem alone_c {b:Nat} (hb:b≤4611686018427387904):∀ t:DT,t.Sh b→∀ H,ACalls Tryz.prog 30 [t.enc] H (boolV t.aloneB) H:=by
 refine DT.ind fun s m kd p q l ih hs H=>?_
 have hi:=hs.inv
 have hh:=fun H=>hasK_c l (by omega) 65 [] (fun x=>!x.aloneB) H (fun x hx=>alone1_c x (ih x hx (hi.2.2.2 x hx)) H)
 have hall:(l.any fun x=>!x.aloneB)=!l.all DT.aloneB:=by simp [List.all_eq_not_any_not]
 simp only [hall] at hh
 have hg:(DT.mk s m kd p q l).aloneB=((!decide (kd=3)) && ((!decide (kd=1)) || decide (q.length < 2)) && l.all DT.aloneB):=by simp [DT.aloneB,aloneL_all]
 rw [hg]
 generalize l.all DT.aloneB=g at *
 simp only [DT.enc_mk]
 refine acalls_walk (fun _=>.imm) [0,1,2] Tryz.mixed Tryz.func30 rfl rfl rfl (by decide) (fun hcl hlow=>?_)
 repeat with_reducible refine awp_assoc ?_
 refine awp_sr fun K hK=>?_
 simp
 refine hK _ _ ?_
 clear hK K
 by_cases k3:kd=3
 ·have b3:=eq_true k3
  repeat with_reducible refine awp_assoc ?_
  refine awp_sr fun K hK=>?_
  refine aOps_split 8 fun K hK=>?_
  simp [b3]
  refine hK _ _ ?_
  clear hK K
  refine aOps_split 8 fun K hK=>?_
  simp [b3]
  refine hK _ _ ?_
  clear hK K
  simp [b3]
  refine hK _ _ ?_
  clear hK K
  simp [b3,reset_all hcl]
 by_cases k1:kd=1
 ·have b1:=eq_true k1
  by_cases hq:q.length < 2
  ·have hq':(q.length:Int) < 2:=by omega
   repeat with_reducible refine awp_assoc ?_
   refine awp_sr fun K hK=>?_
   refine aOps_split 8 fun K hK=>?_
   simp [k3,b1]
   refine hK _ _ ?_
   clear hK K
   refine aOps_split 9 fun K hK=>?_
   simp [k3,b1,hq,hq']
   refine hK _ _ ?_
   clear hK K
   refine aOps_call (hh _) (by first | rfl | simp) rfl rfl (by first | (simp;done) | rfl) ?_
   simp
   refine hK _ _ ?_
   clear hK K
   simp [k3,b1,hq,reset_all hcl]
  ·have hq':¬ (q.length:Int) < 2:=by omega
   repeat with_reducible refine awp_assoc ?_
   refine awp_sr fun K hK=>?_
   refine aOps_split 8 fun K hK=>?_
   simp [k3,b1]
   refine hK _ _ ?_
   clear hK K
   refine aOps_split 8 fun K hK=>?_
   simp [k3,b1,hq,hq']
   refine hK _ _ ?_
   clear hK K
   simp [k3,b1,hq,hq']
   refine hK _ _ ?_
   clear hK K
   simp [k3,b1,hq,reset_all hcl]
 ·repeat with_reducible refine awp_assoc ?_
  refine awp_sr fun K hK=>?_
  refine aOps_split 8 fun K hK=>?_
  simp [k3,k1]
  refine hK _ _ ?_
  clear hK K
  refine aOps_split 9 fun K hK=>?_
  simp [k3,k1]
  refine hK _ _ ?_
  clear hK K
  refine aOps_call (hh _) (by first | rfl | simp) rfl rfl (by first | (simp;done) | rfl) ?_
  simp
  refine hK _ _ ?_
  clear hK K
  simp [k3,k1,reset_all hcl]
theorem Alone_c {b:Nat} (hb:b≤4611686018427387904) (t:DT) (hs:t.Sh b) (H:AHeap) :
  ACalls Tryz.prog 8 [t.enc] H (.tuple [boolV (if treeB t=true then t.aloneB else false),intV (if treeB t=true then 0 else 1)]) H:=by
 have hv:=fun H=>valid_c hb t hs H
 have ha:=fun H=>alone_c hb t hs H
 generalize treeB t=w at *
 generalize t.aloneB=a at *
 obtain ⟨s,n,k,p,q,l⟩:=t
 simp only [DT.enc_mk] at *
 refine acalls_walk (fun _=>.imm) [0,1,2,3,4,8] Tryz.mixed Tryz.func8 rfl rfl rfl (by decide) (fun hcl hlow=>?_)
 repeat with_reducible refine awp_assoc ?_
 refine awp_sr fun K hK=>?_
 simp
 refine hK _ _ ?_
 clear hK K
 repeat with_reducible refine awp_assoc ?_
 refine awp_sr fun K hK=>?_
 refine aOps_split 1 fun K hK=>?_
 simp
 refine hK _ _ ?_
 clear hK K
 refine aOps_call (hv _) (by first | rfl | simp) rfl rfl (by first | (simp;done) | rfl) ?_
 simp
 refine hK _ _ ?_
 clear hK K
 cases w with
 | false =>
  repeat with_reducible refine awp_assoc ?_
  refine awp_sr fun K hK=>?_
  simp
  refine hK _ _ ?_
  clear hK K
  repeat with_reducible refine awp_assoc ?_
  refine awp_seq_k fun K hK=>?_
  refine awp_condT rfl (by simp) ?_
  repeat with_reducible refine awp_assoc ?_
  refine awp_sr fun K hK=>?_
  simp
  refine hK _ _ ?_
  clear hK K
  simp [reset_all hcl]
 | true =>
  repeat with_reducible refine awp_assoc ?_
  refine awp_sr fun K hK=>?_
  simp
  refine hK _ _ ?_
  clear hK K
  repeat with_reducible refine awp_assoc ?_
  refine awp_seq_k fun K hK=>?_
  refine awp_condF rfl (by simp) ?_
  refine awp_skip ?_
  refine hK _ _ ?_
  clear hK K
  repeat with_reducible refine awp_assoc ?_
  refine awp_sr fun K hK=>?_
  refine aOps_split 1 fun K hK=>?_
  simp
  refine hK _ _ ?_
  clear hK K
  refine aOps_call (ha _) (by first | rfl | simp) rfl rfl (by first | (simp;done) | rfl) ?_
  simp
  refine hK _ _ ?_
  clear hK K
  simp [reset_all hcl]
end Go.Proofs.YtdppfcbeiplckaaGreat
