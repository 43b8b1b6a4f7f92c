/- The program: the errors of rows that need no declarations: the walk. -/
import Derived.Test.YtdppfcbeiplckaaGreatMM7
set_option linter.unusedVariables false
set_option linter.unusedSimpArgs false
namespace Go.Proofs.YtdppfcbeiplckaaGreat
open Go Go.Abs Go.Proofs
set_option maxRecDepth 20000
attribute [local simp] aOps wantedA aStep aop aLoad aStore aBin aUn aFieldAddr aField aIndexAddr aIndex aLen aBuild aFill aAlloc aAppend aAppendOwn aMin aMax aBuildSlice litRows newRows isMut isOwn isNilS nilsW bytesR tokW tokAV tokL ret readC splice aeval isLit isLate isCut aCut AV.celled AV.one AV.ofValue Value.oneCell' Value.cells intOp strOp get_nid upd_nid awp aEnd aResults aResult Det unord isCall isNext
attribute [local simp] low_take low_strs low_comp low_tcomp wkEs_refl' WkBs WkEnv WkB WkL WkE WkO ABlock.low lowO lowL lowR AV.low cellsL_eq Ty.low low_map Ty.cells_length Ty.cells_one
attribute [local simp] cellsNd_eq low_nds Nd.cells_length Nd.cells_one cellsDT_eq low_dts DT.kcells_length DT.kcells_one low_ints low_rows low_pls low_strs low_strR low_rowR
abbrev wr (n:Int):Int:=IntKind.i64.wrap n
def stepN (n:Int) (p:Nd):Int:=if wr (n+1)≤300 then wr (wr (n+1)+wr (p.cntW - 1)) else wr (n+1)
def rowN (r:List Nd):Int:=r.foldl stepN 0
def badRr (r:List Nd):Bool:=r.any (fun p=>p.deepB 40) || decide (300 < rowN r)
def badB (rows:List (List Nd)):Bool:=decide (200 < rows.length) || rows.any badRr
def shapeV (srt cmp:List ByteArray→List ByteArray) (rows:List (List Nd)):Int :=
 if badB rows=true then 3 else if (match rows[0]? with | none=>true | some r=>decide (r.length < 1) || decide (8 < r.length))=true then 1
 else if (rows.any fun r=>!decide (r.length=((rows[0]?).getD []).length) || r.any fun p=>!p.patB)=true then 1
 else if (rows.any fun r=>!decide ((cmp (srt (nmsL r))).length=(nmsL r).length))=true then 5 else 0
theorem mPat2_c (x:Nd) (h:∀ H,ACalls Tryz.prog 85 [x.enc] H (boolV x.patB) H) (H:AHeap):ACalls Tryz.prog 84 [x.enc] H (boolV (!x.patB)) H:=by
 generalize x.patB=b at *
 obtain ⟨xo,xs,xn,xl⟩:=x
 simp only [Nd.enc_mk] at h ⊢
 refine acalls_walk (fun _=>.imm) [0,1,2] Tryz.mixed Tryz.func84 rfl rfl rfl (by decide) (fun hcl hlow=>?_)
 repeat with_reducible refine awp_assoc ?_
 refine awp_sr fun K hK=>?_
 simp
 refine hK _ _ ?_
 clear hK K
 repeat with_reducible refine awp_assoc ?_
 refine awp_sr fun K hK=>?_
 refine aOps_split 1 fun K hK=>?_
 simp
 refine hK _ _ ?_
 clear hK K
 refine aOps_call (h _) (by first | rfl | simp) rfl rfl (by first | (simp;done) | rfl) ?_
 simp
 refine hK _ _ ?_
 clear hK K
 simp [reset_all hcl]
theorem any_take18 {α:Type} {p:α→Bool} {l:List α} {k:Nat} {x:α} (h:l[k]?=some x):(l.take (k+1)).any p=((l.take k).any p || p x):=by
 rw [take_one h,List.any_append];simp
theorem fold_at {l:List Nd} {k:Nat} {x:Nd} (h:l[k]?=some x) (n:Int):(l.take (k+1)).foldl stepN n=stepN ((l.take k).foldl stepN n) x:=by
 rw [take_one h,List.foldl_append];rfl
set_option maxHeartbeats 4000000 in
theorem mShape_c {srt cmp:List ByteArray→List ByteArray} (hsl:∀ l,(srt l).length=l.length)
  (hS:∀ (l:List ByteArray),l.length < 1099511627776→∀ (H:AHeap) (i:Nat),H.get i=some (.tok l.length 1 (some (l.map strR)))→ACalls Tryz.prog 87 [.vec i l.length] H (.tuple []) (H.upd i (.tok l.length 1 (some ((srt l).map strR)))))
  (hC:∀ (l:List ByteArray),l.length < 1099511627776→∀ (H:AHeap) (i:Nat),H.get i=some (.tok l.length 1 (some (l.map strR)))→ACalls Tryz.prog 88 [.vec i l.length] H (.slice ((cmp l).map strR) none) (H.upd i (.tok l.length 1 none)))
  {b:Nat} (hb:b≤4611686018427387904) (rows:List (List Nd)) (hl:rows.length < b) (hs:∀ r∈rows,r.length < b∧∀ p∈r,p.Sh b) (hnm:badB rows=false→∀ r∈rows,(nmsL r).length < 1099511627776) (H:AHeap) :
  ACalls Tryz.prog 39 [.slice (rows.map rowR) none] H (intV (shapeV srt cmp rows)) H:=by
 obtain ⟨V,hV⟩:∃ V,shapeV srt cmp rows=V:=⟨_,rfl⟩
 rw [hV]
 unfold shapeV at hV
 have hlen:rows.length < 4611686018427387904:=by omega
 refine acalls_walk (fun t=>if t=13 then .nilm 1 else if t=107 then .frz else .imm) [0,2,3,5,6,8,10,12,13,15,19,20,21,22,25,26,27,28,39,52,69,70,71,72,73,86,88,89,90,91,94,95,96,97,113] Tryz.mixed Tryz.func39 rfl rfl rfl (by decide) (fun hcl hlow=>?_)
 repeat with_reducible refine awp_assoc ?_
 refine awp_sr fun K hK=>?_
 simp
 refine hK _ _ ?_
 clear hK K
 repeat with_reducible refine awp_assoc ?_
 refine awp_sr fun K hK=>?_
 simp
 refine hK _ _ ?_
 clear hK K
 repeat with_reducible refine awp_assoc ?_
 refine awp_sr fun K hK=>?_
 simp
 refine hK _ _ ?_
 clear hK K
 refine awp_seq_k fun KA hKA=>?_
 refine awp_block ?_
 have hA:∀ env,env 0=.slice (rows.map rowR) none→env 3=boolV (badB rows)→KA env (HL H []):=by
  intro env e0 e3
  refine hKA _ _ ?_
  clear hKA KA
  repeat with_reducible refine awp_assoc ?_
  refine awp_sr fun K hK=>?_
  simp [e3]
  refine hK _ _ ?_
  clear hK K
  cases hbad:badB rows with
  | true =>
   rw [hbad] at e3 hV
   simp only [if_true] at hV
   subst hV
   refine awp_seq_k fun K hK=>?_
   refine awp_condT rfl (by simp) ?_
   repeat with_reducible refine awp_assoc ?_
   refine awp_sr fun K hK=>?_
   simp
   refine hK _ _ ?_
   clear hK K
   simp [reset_all hcl]
  | false =>
  rw [hbad] at e3 hV
  simp only [Bool.false_eq_true,if_false] at hV
  have hnm2:=hnm hbad
  refine awp_seq_k fun K hK=>?_
  refine awp_condF rfl (by simp) ?_
  refine awp_skip ?_
  refine hK _ _ ?_
  clear hK K
  cases h0:rows[0]? with
  | none =>
   rw [h0] at hV
   simp only [if_true] at hV
   subst hV
   have hr0:rows=[]:=by
    cases rows with
    | nil=>rfl
    | cons x l=>simp at h0
   have hl0:rows.length=0:=by rw [hr0];rfl
   have hl0':=eq_true hr0
   repeat with_reducible refine awp_assoc ?_
   refine awp_sr fun K hK=>?_
   refine aOps_split 6 fun K hK=>?_
   simp [e0,hl0,hl0']
   refine hK _ _ ?_
   clear hK K
   refine aOps_split 6 fun K hK=>?_
   simp [e0,hl0,hl0']
   refine hK _ _ ?_
   clear hK K
   simp [e0,hl0,hl0']
   refine hK _ _ ?_
   clear hK K
   refine awp_seq_k fun K hK=>?_
   refine awp_condT rfl (by simp) ?_
   repeat with_reducible refine awp_assoc ?_
   refine awp_sr fun K hK=>?_
   simp
   refine hK _ _ ?_
   clear hK K
   simp [reset_all hcl]
  | some r0 =>
  rw [h0] at hV
  have hr0:¬ rows=[]:=fun h=>by rw [h] at h0;cases h0
  have hsr0:=hs r0 (List.mem_of_getElem? h0)
  have hrl0:r0.length < 4611686018427387904:=by omega
  simp only [Option.getD_some] at hV
  by_cases c1:r0.length < 1
  ·have c1':(r0.length:Int) < 1:=by omega
   rw [if_pos (by simp [c1])] at hV
   subst hV
   have c1'':=eq_true (List.length_eq_zero_iff.1 (show r0.length=0 by omega))
   repeat with_reducible refine awp_assoc ?_
   refine awp_sr fun K hK=>?_
   refine aOps_split 6 fun K hK=>?_
   simp [e0,hr0,h0,rowR]
   refine hK _ _ ?_
   clear hK K
   refine aOps_split 6 fun K hK=>?_
   simp [e0,hr0,h0,rowR,c1,c1',c1'']
   refine hK _ _ ?_
   clear hK K
   simp [e0,hr0,h0,rowR,c1,c1',c1'']
   refine hK _ _ ?_
   clear hK K
   refine awp_seq_k fun K hK=>?_
   refine awp_condT rfl (by simp) ?_
   repeat with_reducible refine awp_assoc ?_
   refine awp_sr fun K hK=>?_
   simp
   refine hK _ _ ?_
   clear hK K
   simp [reset_all hcl]
  have c1':¬ (r0.length:Int) < 1:=by omega
  have c1'':¬ r0=[]:=fun h=>by rw [h] at c1;simp at c1
  by_cases c2:8 < r0.length
  ·have c2':(8:Int) < r0.length:=by omega
   rw [if_pos (by simp [c2])] at hV
   subst hV
   repeat with_reducible refine awp_assoc ?_
   refine awp_sr fun K hK=>?_
   refine aOps_split 6 fun K hK=>?_
   simp [e0,hr0,h0,rowR]
   refine hK _ _ ?_
   clear hK K
   refine aOps_split 6 fun K hK=>?_
   simp [e0,hr0,h0,rowR,c1',c1'']
   refine hK _ _ ?_
   clear hK K
   simp [e0,hr0,h0,rowR,c2']
   refine hK _ _ ?_
   clear hK K
   refine awp_seq_k fun K hK=>?_
   refine awp_condT rfl (by simp) ?_
   repeat with_reducible refine awp_assoc ?_
   refine awp_sr fun K hK=>?_
   simp
   refine hK _ _ ?_
   clear hK K
   simp [reset_all hcl]
  have c2':¬ (8:Int) < r0.length:=by omega
  rw [if_neg (by simp [c1,c2])] at hV
  repeat with_reducible refine awp_assoc ?_
  refine awp_sr fun K hK=>?_
  refine aOps_split 6 fun K hK=>?_
  simp [e0,hr0,h0,rowR]
  refine hK _ _ ?_
  clear hK K
  refine aOps_split 6 fun K hK=>?_
  simp [e0,hr0,h0,rowR,c1',c1'']
  refine hK _ _ ?_
  clear hK K
  simp [e0,hr0,h0,rowR,c2']
  refine hK _ _ ?_
  clear hK K
  refine awp_seq_k fun K hK=>?_
  refine awp_condF rfl (by simp) ?_
  refine awp_skip ?_
  refine hK _ _ ?_
  clear hK K
  repeat with_reducible refine awp_assoc ?_
  refine awp_sr fun K hK=>?_
  simp [e0]
  refine hK _ _ ?_
  clear hK K
  refine awp_seq_k fun KB hKB=>?_
  refine awp_block ?_
  refine awp_up rows.length (fun k=>Env.ofL [(0,.slice (rows.map rowR) none),(70,.slice (rows.map rowR) none),(71,intV (rows.length:Int)),(72,intV k)]) (fun k=>HL H []) (fun k=>∀ y∈rows.take k,(!decide (y.length=r0.length) || y.any fun p=>!p.patB)=false) (weak_HL hcl rfl (by simp) (by simp [e0])) (by simp) (fun k hk hv=>?_) (fun hv=>?_)
  ·obtain ⟨r,hr⟩:∃ r,rows[k]?=some r:=⟨_,List.getElem?_eq_getElem hk⟩
   have hrm:=List.mem_of_getElem? hr
   have hsr:=hs r hrm
   have hrl:r.length < 4611686018427387904:=by omega
   have hh:=fun H=>hasP_c r hrl 84 [] (fun p=>!p.patB) H (fun p hp=>mPat2_c p (fun H=>mPat_c hb p (hsr.2 p hp) H) H)
   have htk:=take_all (p:=fun y:List Nd=>(!decide (y.length=r0.length) || y.any fun p=>!p.patB)=false) hr
   have hyes:(!decide (r.length=r0.length) || r.any fun p=>!p.patB)=true→V=1:=fun h=>by
    rw [if_pos (List.any_eq_true.2 ⟨r,hrm,h⟩)] at hV;exact hV.symm
   generalize (r.any fun p=>!p.patB)=q at *
   repeat with_reducible refine awp_assoc ?_
   refine awp_sr fun K hK=>?_
   simp [hk]
   refine hK _ _ ?_
   clear hK K
   repeat with_reducible refine awp_assoc ?_
   refine awp_seq_k fun K hK=>?_
   refine awp_condT rfl (by simp) ?_
   refine awp_skip ?_
   refine hK _ _ ?_
   clear hK K
   refine awp_seq_k fun KC hKC=>?_
   refine awp_block ?_
   repeat with_reducible refine awp_assoc ?_
   refine awp_sr fun K hK=>?_
   simp [hr,rowR]
   refine hK _ _ ?_
   clear hK K
   by_cases d1:r.length=r0.length
   ·have d1':((r.length:Int)=(r0.length:Int))=True:=eq_true (by omega)
    repeat with_reducible refine awp_assoc ?_
    refine awp_sr fun K hK=>?_
    refine aOps_split 5 fun K hK=>?_
    simp [h0,rowR]
    refine hK _ _ ?_
    clear hK K
    refine aOps_split 4 fun K hK=>?_
    simp [d1']
    refine hK _ _ ?_
    clear hK K
    refine aOps_call (hh _) (by first | rfl | simp) rfl rfl (by first | (simp;done) | rfl) ?_
    simp
    refine hK _ _ ?_
    clear hK K
    cases q with
    | true =>
     rw [hyes (by simp)]
     refine awp_condT rfl (by simp) ?_
     repeat with_reducible refine awp_assoc ?_
     refine awp_sr fun K hK=>?_
     simp
     refine hK _ _ ?_
     clear hK K
     simp [reset_all hcl]
    | false =>
     refine awp_condF rfl (by simp) ?_
     refine awp_skip ?_
     refine hKC _ _ ?_
     clear hKC KC
     refine awp_region ?_
     simp [wrap_succ (show k < 4611686018427387904 by omega)]
     refine ⟨by simpa using htk (by simp [d1]) (by simpa using hv),weak_HL hcl rfl (by simp) (by simp)⟩
   ·have d1':¬ ((r.length:Int)=(r0.length:Int)):=by omega
    rw [hyes (by simp [d1])]
    repeat with_reducible refine awp_assoc ?_
    refine awp_sr fun K hK=>?_
    refine aOps_split 5 fun K hK=>?_
    simp [h0,rowR]
    refine hK _ _ ?_
    clear hK K
    refine aOps_split 4 fun K hK=>?_
    simp [d1']
    refine hK _ _ ?_
    clear hK K
    simp [d1']
    refine hK _ _ ?_
    clear hK K
    refine awp_condT rfl (by simp) ?_
    repeat with_reducible refine awp_assoc ?_
    refine awp_sr fun K hK=>?_
    simp
    refine hK _ _ ?_
    clear hK K
    simp [reset_all hcl]
  rw [List.take_length] at hv
  have hno:(rows.any fun r=>!decide (r.length=r0.length) || r.any fun p=>!p.patB)=false:=by
   rw [List.any_eq_false];intro y hy;rw [hv y hy];simp
  simp only [hno,Bool.false_eq_true,if_false] at hV
  clear hno hv
  repeat with_reducible refine awp_assoc ?_
  refine awp_sr fun K hK=>?_
  simp
  refine hK _ _ ?_
  clear hK K
  refine awp_seq_k fun K hK=>?_
  refine awp_condF rfl (by simp) ?_
  refine awp_exit ?_
  simp only [↓reduceIte]
  refine hKB _ _ ?_
  clear hK K hKB KB
  repeat with_reducible refine awp_assoc ?_
  refine awp_sr fun K hK=>?_
  simp
  refine hK _ _ ?_
  clear hK K
  refine awp_seq_k fun KB hKB=>?_
  refine awp_block ?_
  refine awp_up rows.length (fun k=>Env.ofL [(88,.slice (rows.map rowR) none),(89,intV (rows.length:Int)),(90,intV k)]) (fun k=>HL H []) (fun k=>∀ y∈rows.take k,(!decide ((cmp (srt (nmsL y))).length=(nmsL y).length))=false) (weak_HL hcl rfl (by simp) (by simp)) (by simp) (fun k hk hv=>?_) (fun hv=>?_)
  ·obtain ⟨r,hr⟩:∃ r,rows[k]?=some r:=⟨_,List.getElem?_eq_getElem hk⟩
   have hrm:=List.mem_of_getElem? hr
   have hsr:=hs r hrm
   have hrl:r.length < 4611686018427387904:=by omega
   have hnr:=hnm2 r hrm
   have htk:=take_all (p:=fun y:List Nd=>(!decide ((cmp (srt (nmsL y))).length=(nmsL y).length))=false) hr
   have hyes:(!decide ((cmp (srt (nmsL r))).length=(nmsL r).length))=true→V=5:=fun h=>by
    rw [if_pos (List.any_eq_true.2 ⟨r,hrm,h⟩)] at hV;exact hV.symm
   repeat with_reducible refine awp_assoc ?_
   refine awp_sr fun K hK=>?_
   simp [hk]
   refine hK _ _ ?_
   clear hK K
   repeat with_reducible refine awp_assoc ?_
   refine awp_seq_k fun K hK=>?_
   refine awp_condT rfl (by simp) ?_
   refine awp_skip ?_
   refine hK _ _ ?_
   clear hK K
   refine awp_seq_k fun KC hKC=>?_
   refine awp_block ?_
   repeat with_reducible refine awp_assoc ?_
   refine awp_sr fun K hK=>?_
   simp [hr,rowR]
   refine hK _ _ ?_
   clear hK K
   repeat with_reducible refine awp_assoc ?_
   refine awp_sr fun K hK=>?_
   simp
   refine hK _ _ ?_
   clear hK K
   repeat with_reducible refine awp_assoc ?_
   refine awp_sr fun K hK=>?_
   simp
   refine hK _ _ ?_
   clear hK K
   refine awp_seq_k fun KD hKD=>?_
   refine awp_block ?_
   refine awp_up r.length (fun j=>Env.ofL [(13,.vec (nid H.next 0) (nmsL (r.take j)).length),(88,.slice (rows.map rowR) none),(89,intV (rows.length:Int)),(90,intV k),(94,.slice (r.map Nd.cells) none),(95,intV (r.length:Int)),(96,intV j)]) (fun j=>HL H [.tok (nmsL (r.take j)).length 1 (some ((nmsL (r.take j)).map strR))]) (fun _=>True) (weak_HL hcl rfl (by simp [nmsL,WkR]) (by simp [nmsL])) trivial (fun j hj _=>?_) (fun _=>?_)
   ·obtain ⟨p,hp⟩:∃ p,r[j]?=some p:=⟨_,List.getElem?_eq_getElem hj⟩
    have hle:=nmsL_le r (j+1)
    have htk2:=nmsL_take hp
    rw [htk2] at hle ⊢
    simp only [List.length_append] at hle
    have hc:=fun H=>mNames_c hb p (hsr.2 p (List.mem_of_getElem? hp)) (by omega) H
    generalize nmsL (r.take j)=Lj at *
    generalize p.nms=T at *
    obtain ⟨po,ps,pn,pl⟩:=p
    simp only [Nd.enc_mk] at hc
    have hsz:(Lj.length+T.length) * 16≤70368744177664:=by omega
    have hst:∀ a:ByteArray,(strR a).length=1∧(strR a).all (·.one)=true:=fun a=>⟨rfl,rfl⟩
    repeat with_reducible refine awp_assoc ?_
    refine awp_sr fun K hK=>?_
    simp [hj]
    refine hK _ _ ?_
    clear hK K
    repeat with_reducible refine awp_assoc ?_
    refine awp_seq_k fun K hK=>?_
    refine awp_condT rfl (by simp) ?_
    refine awp_skip ?_
    refine hK _ _ ?_
    clear hK K
    refine awp_seq_k fun KE hKE=>?_
    refine awp_block ?_
    repeat with_reducible refine awp_assoc ?_
    refine awp_sr fun K hK=>?_
    simp [hp,Nd.cells]
    refine hK _ _ ?_
    clear hK K
    refine awp_region ?_
    refine aOps_split 2 fun K hK=>?_
    simp
    refine hK _ _ ?_
    clear hK K
    refine aOps_call (hc _) (by first | rfl | simp) rfl rfl (by first | (simp;done) | rfl) ?_
    by_cases hT:T=[]
    ·subst hT
     simp
     refine ⟨by simpa using hsz,fun a _=>by simp [strR],?_⟩
     refine hKE _ _ ?_
     clear hKE KE
     refine awp_region ?_
     simp [wrap_succ (show j < 4611686018427387904 by omega)]
     exact weak_HL hcl rfl (by simp [WkR];exact WkR.refl _) (by simp)
    ·simp [hT]
     refine ⟨fun a _=>by simp [strR],hsz,fun r hr=>?_,?_⟩
     ·rcases hr with ⟨_,_,rfl⟩ | ⟨_,_,rfl⟩ <;> simp [strR]
     refine hKE _ _ ?_
     clear hKE KE
     refine awp_region ?_
     simp [wrap_succ (show j < 4611686018427387904 by omega)]
     exact weak_HL hcl rfl (by simp [WkR];exact WkR.refl _) (by simp)
   ·rw [List.take_length]
    generalize nmsL r=N at *
    repeat with_reducible refine awp_assoc ?_
    refine awp_sr fun K hK=>?_
    simp
    refine hK _ _ ?_
    clear hK K
    refine awp_seq_k fun K hK=>?_
    refine awp_condF rfl (by simp) ?_
    refine awp_exit ?_
    simp only [↓reduceIte]
    refine hKD _ _ ?_
    clear hK K hKD KD
    have hn3:=hsl N
    have h9:=hS N hnr (HL H [.tok N.length 1 (some (N.map strR))]) (nid H.next 0) (by simp)
    simp at h9
    have h10:=mClone_c (srt N) (by omega) (HL H [.tok N.length 1 none])
    simp at h10
    rw [hn3] at h10
    have h11:=hC (srt N) (by omega) (HL H [.tok N.length 1 none,.tok 0 1 (some []),.tok N.length 1 (some ((srt N).map strR))]) (nid H.next 2) (by simp [hn3])
    rw [hn3] at h11
    simp at h11
    repeat with_reducible refine awp_assoc ?_
    refine awp_sr fun K hK=>?_
    refine aOps_split 1 fun K hK=>?_
    simp
    refine hK _ _ ?_
    clear hK K
    refine aOps_call (h9) (by first | rfl | simp) rfl rfl (by first | (simp;done) | rfl) ?_
    simp
    refine hK _ _ ?_
    clear hK K
    repeat with_reducible refine awp_assoc ?_
    refine awp_sr fun K hK=>?_
    refine aOps_split 1 fun K hK=>?_
    simp [hn3]
    refine ⟨fun a _=>by simp [strR],hK _ _ ?_⟩
    clear hK K
    refine aOps_callW (h10) (by first | rfl | simp) rfl rfl (by simp) ?_
    refine aOps_call (h11) (by first | rfl | simp) rfl rfl (by first | (simp;done) | rfl) ?_
    simp
    refine hK _ _ ?_
    clear hK K
    by_cases hd:(cmp (srt N)).length=N.length
    ·have hd':=eq_true (show ((cmp (srt N)).length:Int)=(N.length:Int) by omega)
     refine awp_condF rfl (by simp [hd']) ?_
     refine awp_skip ?_
     refine hKC _ _ ?_
     clear hKC KC
     refine awp_region ?_
     simp [wrap_succ (show k < 4611686018427387904 by omega)]
     exact ⟨by simpa using htk (by simp [hd]) (by simpa using hv),weak_HL hcl rfl (by simp) (by simp)⟩
    ·have hd':¬ ((cmp (srt N)).length:Int)=(N.length:Int):=by omega
     rw [hyes (by simp [hd])]
     refine awp_condT rfl (by simp [hd']) ?_
     repeat with_reducible refine awp_assoc ?_
     refine awp_sr fun K hK=>?_
     simp
     refine hK _ _ ?_
     clear hK K
     simp [reset_all hcl]
  ·rw [List.take_length] at hv
   have hno:(rows.any fun r=>!decide ((cmp (srt (nmsL r))).length=(nmsL r).length))=false:=by
    rw [List.any_eq_false];intro y hy;rw [hv y hy];simp
   simp only [hno,Bool.false_eq_true,if_false] at hV
   subst hV
   repeat with_reducible refine awp_assoc ?_
   refine awp_sr fun K hK=>?_
   simp
   refine hK _ _ ?_
   clear hK K
   refine awp_seq_k fun K hK=>?_
   refine awp_condF rfl (by simp) ?_
   refine awp_exit ?_
   simp only [↓reduceIte]
   refine hKB _ _ ?_
   clear hK K hKB KB
   repeat with_reducible refine awp_assoc ?_
   refine awp_sr fun K hK=>?_
   simp
   refine hK _ _ ?_
   clear hK K
   simp [reset_all hcl]
 clear hKA
 refine awp_up rows.length (fun k=>Env.ofL [(0,.slice (rows.map rowR) none),(3,boolV (decide (200 < rows.length) || (rows.take k).any badRr)),(19,.slice (rows.map rowR) none),(20,intV (rows.length:Int)),(21,intV k)]) (fun k=>HL H []) (fun _=>True) ?_ trivial (fun k hk _=>?_) (fun _=>?_)
 ·have h1:decide ((200:Int) < (rows.length:Int))=decide (200 < rows.length):=by
   rw [decide_eq_decide];omega
  rw [h1]
  exact weak_HL hcl rfl (by simp) (by simp)
 ·obtain ⟨r,hr⟩:∃ r,rows[k]?=some r:=⟨_,List.getElem?_eq_getElem hk⟩
  have hsr:=hs r (List.mem_of_getElem? hr)
  have hrl:r.length < 4611686018427387904:=by omega
  have hat:(rows.take (k+1)).any badRr=((rows.take k).any badRr || badRr r):=any_take18 hr
  generalize hB:(decide (200 < rows.length) || (rows.take k).any badRr)=B at *
  repeat with_reducible refine awp_assoc ?_
  refine awp_sr fun K hK=>?_
  simp [hk]
  refine hK _ _ ?_
  clear hK K
  repeat with_reducible refine awp_assoc ?_
  refine awp_seq_k fun K hK=>?_
  refine awp_condT rfl (by simp) ?_
  refine awp_skip ?_
  refine hK _ _ ?_
  clear hK K
  refine awp_seq_k fun KB hKB=>?_
  refine awp_block ?_
  repeat with_reducible refine awp_assoc ?_
  refine awp_sr fun K hK=>?_
  simp [hr,rowR]
  refine hK _ _ ?_
  clear hK K
  repeat with_reducible refine awp_assoc ?_
  refine awp_sr fun K hK=>?_
  simp
  refine hK _ _ ?_
  clear hK K
  repeat with_reducible refine awp_assoc ?_
  refine awp_sr fun K hK=>?_
  simp
  refine hK _ _ ?_
  clear hK K
  refine awp_seq_k fun KC hKC=>?_
  refine awp_block ?_
  have hC2:∀ env,env 0=.slice (rows.map rowR) none→env 3=boolV (B || r.any fun p=>p.deepB 40)→env 6=intV (rowN r)→env 19=.slice (rows.map rowR) none→env 20=intV (rows.length:Int)→env 21=intV k→KC env (HL H []):=by
   intro env e0 e3 e6 e19 e20 e21
   refine hKC _ _ ?_
   clear hKC KC
   refine awp_region ?_
   cases hb3:(B || r.any fun p=>p.deepB 40) with
   | true =>
    rw [hb3] at e3
    refine aOps_split 6 fun K hK=>?_
    simp [e3]
    refine hK _ _ ?_
    clear hK K
    simp
    refine hKB _ _ ?_
    clear hKB KB
    refine awp_region ?_
    simp [wrap_succ (show k < 4611686018427387904 by omega),e21]
    have e:(decide (200 < rows.length) || (rows.take (k+1)).any badRr)=true:=by
     rw [hat,←Bool.or_assoc,hB]
     unfold badRr
     rw [←Bool.or_assoc,hb3,Bool.true_or]
    rw [e]
    exact weak_HL hcl rfl (by simp) (by simp [e0,e19,e20])
   | false =>
    rw [hb3] at e3
    refine aOps_split 6 fun K hK=>?_
    simp [e3,e6]
    refine hK _ _ ?_
    clear hK K
    simp
    refine hKB _ _ ?_
    clear hKB KB
    refine awp_region ?_
    simp [wrap_succ (show k < 4611686018427387904 by omega),e21]
    have e:(decide (200 < rows.length) || (rows.take (k+1)).any badRr)=decide (300 < rowN r):=by
     rw [hat,←Bool.or_assoc,hB]
     unfold badRr
     rw [←Bool.or_assoc,hb3,Bool.false_or]
    rw [e]
    exact weak_HL hcl rfl (by simp) (by simp [e0,e19,e20])
  clear hKC hKB
  refine awp_up r.length (fun j=>Env.ofL [(0,.slice (rows.map rowR) none),(3,boolV (B || (r.take j).any fun p=>p.deepB 40)),(6,intV ((r.take j).foldl stepN 0)),(19,.slice (rows.map rowR) none),(20,intV (rows.length:Int)),(21,intV k),(25,.slice (r.map Nd.cells) none),(26,intV (r.length:Int)),(27,intV j)]) (fun j=>HL H []) (fun _=>True) ?_ trivial (fun j hj _=>?_) (fun _=>?_)
  ·exact weak_HL hcl rfl (by simp) (by simp)
  ·obtain ⟨p,hp⟩:∃ p,r[j]?=some p:=⟨_,List.getElem?_eq_getElem hj⟩
   have hps:=hsr.2 p (List.mem_of_getElem? hp)
   have hd:=fun H=>mDeep_c hb p hps 40 (by omega) (by omega) H
   have hcn:=fun H=>mCount_c hb p hps H
   have hat2:((r.take (j+1)).any fun p=>p.deepB 40)=(((r.take j).any fun p=>p.deepB 40) || p.deepB 40):=any_take18 (p:=fun p=>Nd.deepB p 40) hp
   have hfo:=fold_at hp 0
   rw [hat2,hfo,←Bool.or_assoc]
   generalize (B || (r.take j).any fun p=>p.deepB 40)=B2 at *
   generalize (r.take j).foldl stepN 0=N at *
   unfold stepN
   generalize p.deepB 40=d at *
   generalize p.cntW=c at *
   clear hat2 hfo hA hC2
   obtain ⟨po,ps,pn,pl⟩:=p
   simp only [Nd.enc_mk] at hd hcn
   repeat with_reducible refine awp_assoc ?_
   refine awp_sr fun K hK=>?_
   simp [hj]
   refine hK _ _ ?_
   clear hK K
   repeat with_reducible refine awp_assoc ?_
   refine awp_seq_k fun K hK=>?_
   refine awp_condT rfl (by simp) ?_
   refine awp_skip ?_
   refine hK _ _ ?_
   clear hK K
   refine awp_seq_k fun KD hKD=>?_
   refine awp_block ?_
   repeat with_reducible refine awp_assoc ?_
   refine awp_sr fun K hK=>?_
   simp [hp,Nd.cells]
   refine hK _ _ ?_
   clear hK K
   repeat with_reducible refine awp_assoc ?_
   refine awp_sr fun K hK=>?_
   have hE:∀ env,env 0=.slice (rows.map rowR) none→env 3=boolV (B2 || d)→env 6=intV N→env 8=.ref (nid H.next 0) 0→env 19=.slice (rows.map rowR) none→env 20=intV (rows.length:Int)→env 21=intV k→env 25=.slice (r.map Nd.cells) none→env 26=intV (r.length:Int)→env 27=intV j→K env (HL H [.cells [intV po,strV ps,intV pn,.slice (pl.map Nd.cells) none]]):=by
    intro env e0 e3 e6 e8 e19 e20 e21 e25 e26 e27
    refine hK _ _ ?_
    clear hK K
    repeat with_reducible refine awp_assoc ?_
    refine awp_sr fun K hK=>?_
    simp [e6]
    refine hK _ _ ?_
    clear hK K
    repeat with_reducible refine awp_assoc ?_
    refine awp_sr fun K hK=>?_
    simp
    refine hK _ _ ?_
    clear hK K
    by_cases h300:wr (N+1)≤300
    ·rw [if_pos h300]
     refine awp_condT rfl (by simp [h300]) ?_
     refine awp_region ?_
     refine aOps_split 2 fun K hK=>?_
     simp [e8]
     refine hK _ _ ?_
     clear hK K
     refine aOps_call (hcn _) (by first | rfl | simp) rfl rfl (by first | (simp;done) | rfl) ?_
     simp
     refine hKD _ _ ?_
     clear hKD KD
     refine awp_region ?_
     simp [wrap_succ (show j < 4611686018427387904 by omega),e27]
     exact weak_HL hcl rfl (by simp) (by simp [e0,e3,e19,e20,e21,e25,e26,h300])
    ·rw [if_neg h300]
     refine awp_condF rfl (by simp [h300]) ?_
     refine awp_skip ?_
     refine hKD _ _ ?_
     clear hKD KD
     refine awp_region ?_
     simp [wrap_succ (show j < 4611686018427387904 by omega),e27]
     exact weak_HL hcl rfl (by simp) (by simp [e0,e3,e19,e20,e21,e25,e26,h300])
   clear hK
   cases B2 with
   | true =>
    refine aOps_split 5 fun K hK=>?_
    simp
    refine hK _ _ ?_
    clear hK K
    simp
    refine hE _ ?_ ?_ ?_ ?_ ?_ ?_ ?_ ?_ ?_ ?_
    all_goals rfl
   | false =>
    refine aOps_split 3 fun K hK=>?_
    simp
    refine hK _ _ ?_
    clear hK K
    refine aOps_call (hd _) (by first | rfl | simp) rfl rfl (by first | (simp;done) | rfl) ?_
    refine aOps_split 1 fun K hK=>?_
    simp
    refine hK _ _ ?_
    clear hK K
    simp
    refine hE _ ?_ ?_ ?_ ?_ ?_ ?_ ?_ ?_ ?_ ?_
    all_goals first | rfl | simp
  ·rw [List.take_length]
   repeat with_reducible refine awp_assoc ?_
   refine awp_sr fun K hK=>?_
   simp
   refine hK _ _ ?_
   clear hK K
   refine awp_seq_k fun K hK=>?_
   refine awp_condF rfl (by simp) ?_
   refine awp_exit ?_
   simp only [↓reduceIte]
   refine hC2 _ ?_ ?_ ?_ ?_ ?_ ?_
   all_goals rfl
 ·rw [List.take_length]
  repeat with_reducible refine awp_assoc ?_
  refine awp_sr fun K hK=>?_
  simp
  refine hK _ _ ?_
  clear hK K
  refine awp_seq_k fun K hK=>?_
  refine awp_condF rfl (by simp) ?_
  refine awp_exit ?_
  simp only [↓reduceIte]
  refine hA _ ?_ ?_
  all_goals rfl
end Go.Proofs.YtdppfcbeiplckaaGreat
namespace Go.Proofs.YtdppfcbeiplckaaGreat
open Go Go.Abs Go.Proofs
theorem wr_id {z:Int} (h:0≤z) (h2:z < 4611686018427387904):wr z=z:=wrap64 (by omega) (by omega)
mutual
theorem cntW_bound:∀ (t:Nd) (r:Int),r≤40→t.deepB r=false→1≤r∧1≤t.cntW∧t.cntW≤301 * r∧(t.cntW≤300→(t.nms.length:Int)≤t.cntW)
 | .mk o s n l,r,hr,h=>by
  simp only [Nd.deepB,Bool.or_eq_false_iff,decide_eq_false_iff_not] at h
  obtain ⟨h1,h2⟩:=h
  have h3:=cntWL_bound l 1 r (by omega) hr h2 (by omega) (by omega)
  simp only [Nd.cntW,Nd.nms,List.length_append]
  refine ⟨by omega,by omega,by omega,fun h4=>?_⟩
  have:=h3.2.2 h4
  split <;> simp <;> omega
theorem cntWL_bound:∀ (l:List Nd) (n r:Int),1≤r→r≤40→deepL l (r - 1)=false→1≤n→n≤300+301 * (r - 1)→n≤cntWL l n∧cntWL l n≤300+301 * (r - 1)∧(cntWL l n≤300→n+((nmsL l).length:Int)≤cntWL l n)
 | [],n,r,h1,hr,h,hn,hn2=>by simp only [cntWL,nmsL,List.length_nil];omega
 | t::l,n,r,h1,hr,h,hn,hn2=>by
  simp only [deepL,Bool.or_eq_false_iff] at h
  obtain ⟨ha,hb⟩:=h
  have h3:=cntW_bound t (r - 1) (by omega) ha
  simp only [cntWL]
  by_cases hc:n≤300
  ·rw [if_pos hc]
   have hw:IntKind.i64.wrap (n+t.cntW)=n+t.cntW:=wrap64 (by omega) (by omega)
   rw [hw]
   have h4:=cntWL_bound l (n+t.cntW) r h1 hr hb (by omega) (by omega)
   refine ⟨by omega,h4.2.1,fun h5=>?_⟩
   have h6:=h4.2.2 h5
   have h7:=h3.2.2.2 (by omega)
   simp only [nmsL,List.length_append]
   omega
  ·rw [if_neg hc]
   exact ⟨Int.le_refl _,hn2,fun h5=>absurd h5 hc⟩
end
theorem fold_bound (M:Int) (hM:M+20000 < 4611686018427387904) (r:List Nd):∀ n:Int,0≤n→n+(r.length:Int)≤M+13000→(r.length:Int)≤M→(∀ p∈r,p.deepB 40=false)→n≤r.foldl stepN n∧(r.foldl stepN n≤300→n+((nmsL r).length:Int)≤r.foldl stepN n):=by
 induction r with
 | nil=>exact fun n h0 h1 _ _=>⟨Int.le_refl _,fun _=>by show n+((0:Nat):Int)≤n;omega⟩
 | cons p r ih =>
  intro n h0 h1 h1' hd
  simp only [List.length_cons] at h1 h1'
  have h2:=cntW_bound p 40 (by omega) (hd p (by simp))
  have hw1:wr (n+1)=n+1:=wr_id (by omega) (by omega)
  have hw2:wr (p.cntW - 1)=p.cntW - 1:=wr_id (by omega) (by omega)
  simp only [List.foldl_cons]
  have hst:stepN n p=if n+1≤300 then n+p.cntW else n+1:=by
   unfold stepN
   rw [hw1,hw2]
   split
   ·rw [wr_id (by omega) (by omega)];omega
   ·rfl
  rw [hst]
  by_cases hc:n+1≤300
  ·rw [if_pos hc]
   have h3:=ih (n+p.cntW) (by omega) (by omega) (by omega) (fun q hq=>hd q (by simp [hq]))
   refine ⟨by omega,fun h5=>?_⟩
   have h6:=h3.2 h5
   have h7:=h2.2.2.2 (by omega)
   simp only [nmsL,List.length_append]
   omega
  ·rw [if_neg hc]
   have h3:=ih (n+1) (by omega) (by omega) (by omega) (fun q hq=>hd q (by simp [hq]))
   exact ⟨by omega,fun h5=>by omega⟩
theorem few_names {rows:List (List Nd)} (h:badB rows=false) (hl:∀ r∈rows,r.length < 4611686018426900000):∀ r∈rows,(nmsL r).length≤300:=by
 intro r hr
 unfold badB at h
 simp only [Bool.or_eq_false_iff] at h
 have h1:=(List.any_eq_false.1 h.2) r hr
 simp only [badRr,Bool.or_eq_true,decide_eq_true_eq,not_or] at h1
 have hd:∀ p∈r,p.deepB 40=false:=fun p hp=>by
  have:=h1.1
  cases hh:p.deepB 40 with
  | false=>rfl
  | true=>exact absurd (List.any_eq_true.2 ⟨p,hp,hh⟩) this
 have hll:=hl r hr
 have h2:=fold_bound (r.length:Int) (by omega) r 0 (by omega) (by omega) (by omega) hd
 have h3:=h2.2 (by have:=h1.2;unfold rowN at this;omega)
 have h4:rowN r≤300:=by have:=h1.2;omega
 unfold rowN at h4
 omega
end Go.Proofs.YtdppfcbeiplckaaGreat
