/- The reference's lists of variables. -/
import Derived.Test.YtgeehnbbhnpimaaGreatMR2
import Derived.Test.YtgeehnbbhnpimaaGreatMW3
set_option linter.unusedVariables false
set_option linter.unusedSimpArgs false
namespace Go.Proofs.YtgeehnbbhnpimaaGreat
open Go Go.Abs Go.Proofs
set_option maxRecDepth 20000
attribute [local simp] aOps wantedA aStep aop aLoad aStore aBin aUn aFieldAddr aField aIndexAddr aIndex aLen aBuild aFill aAlloc aAppend aBuildSlice litRows newRows isMut isOwn isNilS nilsW bytesR tokW tokAV tokL ret readC splice aeval isLit isLate AV.celled AV.one AV.ofValue Value.oneCell' Value.cells intOp strOp get_nid upd_nid awp aEnd aResults aResult Det unord isCall isNext
attribute [local simp] low_take low_strs low_comp low_tcomp wkEs_refl' WkBs WkEnv WkB WkL WkE WkO ABlock.low lowO lowL lowR AV.low cellsL_eq Ty.low low_map Ty.cells_length Ty.cells_one
abbrev strs (l:List ByteArray) (t:Option Nat):AV:=.slice (l.map fun s=>[strV s]) t
theorem good_fold {n:ByteArray} {l:List Ty} (h:(Ty.mk n l).isVar=false) (out:List ByteArray):(Ty.mk n l).nodes.foldl nameStep out=(nodesL l).foldl nameStep out:=by
 rw [Ty.nodes,List.foldl_cons]
 have:nameStep out (.mk n l)=out:=by simp [nameStep,h]
 rw [this]
theorem rnames_c:∀ (t:Ty),t.good=true→∀ (out:List ByteArray) (i:Nat) (H:AHeap),out.length+t.cnt < 1099511627776→H.get i=some (.tok out.length 1 none) →
  ACalls Tryz.prog 84 [t.enc,strs out (some i)] H (strs (t.nodes.foldl nameStep out) (some i)) (H.upd i (.tok (t.nodes.foldl nameStep out).length 1 none)):=by
 intro t
 induction t using Ty.ind with
 | h nm l ih =>
 intro hgood out i H hsz hH
 have hcnt:(Ty.mk nm l).cnt=(nodesL l).length+1:=by simp [Ty.cnt,Ty.nodes]
 have hll:=nodesL_len l
 have hvc:=rIsVar_c (.mk nm l)
 simp only [enc_mk] at hvc
 refine acalls_walk (fun _=>.imm) [0,1,2,4,5,6,14,18,27,38] Tryz.mixed Tryz.func84 rfl rfl rfl (by decide) (fun hcl hlow=>?_)
 simp only [Ty.enc,Ty.cells]
 have hil:i < H.next:=(hcl _ _ hH).1
 have hg:∀ bs,(HL H bs).get i=some (.tok out.length 1 none):=fun bs=>by rw [get_lt hil];exact hH
 refine awp_sr fun K hK=>?_;simp;apply hK;clear hK K;repeat with_reducible refine awp_assoc ?_
 refine awp_sr fun K hK=>?_;refine aOps_split 1 fun K hK=>?_;simp;apply hK;clear hK K;refine aOps_call (hvc _) (by first | rfl | simp) rfl rfl (by first | (simp;done) | rfl) ?_
 cases hv:(Ty.mk nm l).isVar
 rotate_left
 ·obtain rfl:=good_var hgood hv
  simp;apply hK;clear hK K;refine awp_seq_k fun K hK=>?_;refine awp_condT rfl (by simp) ?_;repeat with_reducible refine awp_assoc ?_
  refine awp_sr fun K hK=>?_;simp;apply hK;clear hK K
  have e0:(Ty.mk nm []).nodes.foldl nameStep out=nameStep out (.mk nm []):=rfl
  refine awp_seq_k fun K hK=>?_;refine awp_block ?_
  refine awp_up out.length (fun k=>Env.ofL [(1,strs out (some i)),(2,.ref (nid H.next 0) 0),(4,.v (.slice none 0 0)),(5,intV k)]) (fun k=>HL (H) [.cells [strV nm,.slice [] none]]) (fun k=>∀ s∈out.take k,¬ s=nm) (weak_HL (hcl) (by simp) ?_ ?_) ?_ (fun k hk hi=>?_) (fun hi=>?_)
  ·simp [lt_nid hil]
  ·simp [lt_nid hil]
  ·simp
  ·obtain ⟨x,hx⟩:∃ x,out[k]?=some x:=⟨_,List.getElem?_eq_getElem hk⟩
   repeat with_reducible refine awp_assoc ?_
   refine awp_sr fun K hK=>?_;simp [hk];apply hK;clear hK K;refine awp_seq_k fun K hK=>?_;refine awp_condT rfl (by simp) ?_;refine awp_skip ?_;apply hK;clear hK K;refine awp_seq_k fun K hK=>?_;refine awp_block ?_
   refine awp_sd [] [[],[0],[],[],[0,1,2,3],[0,1,2,3],[]] (by kernel_rfl) fun K hK=>?_
   refine aLex_pre 7 rfl fun K hK=>?_;simp [hx]
   refine hK _ ?_
   clear hK K;refine aLex_end ?_;simp;apply hK;clear hK K
   by_cases hs:x=nm
   ·refine awp_condT rfl (by simp [hs]) ?_;refine awp_sr fun K hK=>?_;simp;apply hK;clear hK K
    have e:nameStep out (.mk nm [])=out:=by
     have:memS nm out=true:=memS_iff.2 (by rw [←hs];exact List.mem_of_getElem? hx)
     simp [nameStep,hv,Ty.name,this]
    rw [e0,e,upd_same hH]
    simp [reset_all hcl,hil]
   ·refine awp_condF rfl (by simp [hs]) ?_;refine awp_skip ?_;apply hK;clear hK K;refine awp_region ?_;simp [wrap_succ (show k < 4611686018427387904 by omega)]
    refine ⟨fun s hm=>?_,?_⟩
    ·rw [take_one hx] at hm
     simp only [List.mem_append,List.mem_singleton] at hm
     rcases hm with hm | rfl
     ·exact hi s hm
     ·exact hs
    ·refine weak_HL (hcl) (by simp) (by simp [lt_nid hil]) (by simp [lt_nid hil])
  ·repeat with_reducible refine awp_assoc ?_
   refine awp_sr fun K hK=>?_;simp;apply hK;clear hK K;refine awp_seq_k fun K hK=>?_;refine awp_condF rfl (by simp) ?_;refine awp_exit ?_;simp;clear hK K;apply hK;clear hK K
   rw [List.take_length] at hi
   have e:nameStep out (.mk nm [])=out++[nm]:=by
    have:memS nm out=false:=by
     rw [←Bool.not_eq_true,memS_iff]
     exact fun hm=>hi nm hm rfl
    simp [nameStep,hv,Ty.name,this]
   have u1:∀ b bs,(HL H bs).upd i b=HL (H.upd i b) bs:=fun b bs=>upd_lt hil
   refine awp_sr fun K hK=>?_;simp [hg,u1]
   refine ⟨by omega,hK _ _ ?_⟩
   clear hK K
   rw [e0,e]
   simp [hil]
   exact ⟨by show Wk _ (.slice _ _);rw [List.map_append];exact .refl _,reset_all (closed_upd (b:=.tok _ 1 none) hcl hil trivial)⟩
 simp;apply hK;clear hK K;refine awp_seq_k fun K hK=>?_;refine awp_condF rfl (by simp) ?_;refine awp_skip ?_;apply hK;clear hK K;repeat with_reducible refine awp_assoc ?_
 refine awp_sr fun K hK=>?_;simp;apply hK;clear hK K
 rw [good_fold hv]
 refine awp_seq_k fun K hK=>?_;refine awp_block ?_
 refine awp_up l.length (fun k=>Env.ofL [(1,strs ((nodesL (l.take k)).foldl nameStep out) (some i)),(2,.ref (nid H.next 0) 0),(4,.v (.slice none 0 0)),(6,intV k)])
  (fun k=>HL (H.upd i (.tok ((nodesL (l.take k)).foldl nameStep out).length 1 none)) [.cells [strV nm,.slice (l.map Ty.cells) none]]) (fun k=>True)
  (by simp only [List.take_zero,nodesL,List.foldl_nil,upd_same hH];exact weak_HL hcl rfl (by simp) (by simp [lt_nid hil])) trivial (fun k hk _=>?_) (fun _=>?_)
 ·obtain ⟨x,hx⟩:∃ x,l[k]?=some x:=⟨_,List.getElem?_eq_getElem hk⟩
  have hlen:(nodesL (l.take k)).length+x.cnt≤(nodesL l).length:=by
   have h1:=congrArg List.length (nodesL_take hx)
   have h2:nodesL l=nodesL (l.take (k+1))++nodesL (l.drop (k+1)):=by rw [←nodesL_append,List.take_append_drop]
   have h3:=congrArg List.length h2
   rw [List.length_append] at h1 h3;simp only [Ty.cnt];omega
  have e1:(nodesL (l.take (k+1))).foldl nameStep out=x.nodes.foldl nameStep ((nodesL (l.take k)).foldl nameStep out):=by
   rw [nodesL_take hx,List.foldl_append]
  have hfl:=fold_len (nodesL (l.take k)) out
  generalize hsk:(nodesL (l.take k)).foldl nameStep out=sk at e1 hfl ⊢
  have hclk:∀ n,(H.upd i (.tok n 1 none)).Closed:=fun n=>closed_upd (b:=.tok _ 1 none) hcl hil trivial
  have hgk:∀ n bs,(HL (H.upd i (.tok n 1 none)) bs).get i=some (.tok n 1 none):=fun n bs=>by rw [get_lt (by exact hil)];exact get_upd_self
  have hc:=ih x (List.mem_of_getElem? hx) (good_arg hgood (List.mem_of_getElem? hx)) sk i (HL (H.upd i (.tok sk.length 1 none)) [.cells [strV nm,.slice (l.map Ty.cells) none]]) (by omega) (hgk _ _)
  rw [upd_lt (by exact hil),upd_upd,←e1] at hc
  obtain ⟨n',l'⟩:=x
  simp only [enc_mk] at hc;repeat with_reducible refine awp_assoc ?_
  refine awp_sr fun K hK=>?_;simp [hk];apply hK;clear hK K;refine awp_seq_k fun K hK=>?_;refine awp_condT rfl (by simp) ?_;refine awp_skip ?_;apply hK;clear hK K;refine awp_seq_k fun K hK=>?_;refine awp_block ?_;refine awp_region ?_;refine aOps_split 6 fun K hK=>?_;simp [hx,Ty.cells];apply hK;clear hK K;refine aOps_call hc (by first | rfl | simp) rfl rfl rfl ?_;simp;apply hK;clear hK K;refine awp_region ?_;simp [wrap_succ (show k < 4611686018427387904 by omega)]
  exact weak_HL (hclk _) rfl (by simp) (by simp [lt_nid hil])
 ·rw [List.take_length]
  repeat with_reducible refine awp_assoc ?_
  refine awp_sr fun K hK=>?_;simp;apply hK;clear hK K;refine awp_seq_k fun K hK=>?_;refine awp_condF rfl (by simp) ?_;refine awp_exit ?_;simp;clear hK K;apply hK;clear hK K;refine awp_sr fun K hK=>?_;simp;apply hK;clear hK K;simp [hil]
  exact reset_all (closed_upd (b:=.tok _ 1 none) hcl hil trivial)
theorem Names_c (t:Ty) (hg:t.good=true) (hsz:t.cnt < 1099511627776) (H:AHeap):ACalls Tryz.prog 44 [t.enc] H (strs (t.nodes.foldl nameStep []) none) H:=by
 have hn:=rnames_c t hg []
 obtain ⟨nm,l⟩:=t
 simp only [enc_mk] at hn
 generalize hr:(Ty.mk nm l).nodes.foldl nameStep []=r at hn ⊢
 refine acalls_walk (fun _=>.imm) [0,1,2] Tryz.mixed Tryz.func44 rfl rfl rfl (by decide) (fun hcl hlow=>?_)
 simp only [Ty.enc,Ty.cells];refine awp_sr fun K hK=>?_;simp;apply hK;clear hK K
 have h1:=hn (nid H.next 1) (HL H [.cells [strV nm,.slice (l.map Ty.cells) none],.tok 0 1 none]) (by simpa using hsz) (by rw [get_nid rfl];rfl)
 rw [upd_nid rfl (by simp)] at h1
 have hc:=acalls_nil (H:=HL H [.cells [strV nm,.slice (l.map Ty.cells) none]]) (z:=1) (pre:=[.agg [strV nm,.slice (l.map Ty.cells) none]]) (post:=[]) (by rw [alloc_HL];exact h1)
 refine awp_sr fun K hK=>?_;refine aOps_split 1 fun K hK=>?_;simp;apply hK;clear hK K;refine aOps_call hc (by first | rfl | simp) rfl rfl rfl ?_;simp;apply hK;clear hK K;simp
 exact reset_all hcl
attribute [local simp] low_bind
theorem namesL_one (t:Ty):namesL [t]=t.nodes.foldl nameStep []:=by simp [namesL,nodesL]
def varsR (t:Ty):List ByteArray:=if t.valid=0 then namesL [t] else []
theorem nodesL_one (t:Ty):nodesL [t]=t.nodes:=by simp [nodesL]
theorem Vars_c (t:Ty) (H:AHeap):ACalls Tryz.prog 15 [t.enc] H (.tuple [strs (varsR t) none,intV t.valid]) H:=by
 have hv:=validate_c t
 have hs:=fun (h:t.valid=0)=>names_c [t] (by have:=large_cnt (Ty.not_large h);unfold Ty.cnt at this;rw [nodesL_one];omega)
 obtain ⟨n,l⟩:=t
 simp only [Ty.enc,Ty.cells,cellsL_eq,List.map_cons,List.map_nil] at hv hs
 refine acalls_walk (fun _=>.imm) [0,1,2,3,4,8] Tryz.mixed Tryz.func15 rfl rfl rfl (by decide) (fun hcl hlow=>?_)
 simp only [Ty.enc,Ty.cells];refine awp_sr fun K hK=>?_;simp;apply hK;clear hK K;repeat with_reducible refine awp_assoc ?_
 refine awp_sr fun K hK=>?_;refine aOps_split 1 fun K hK=>?_;simp;apply hK;clear hK K;refine aOps_call (hv _) (by first | rfl | simp) rfl rfl rfl ?_;simp;apply hK;clear hK K
 by_cases h0:(Ty.mk n l).valid=0
 ·repeat with_reducible refine awp_assoc ?_
  refine awp_sr fun K hK=>?_;simp [h0];apply hK;clear hK K;refine awp_seq_k fun K hK=>?_;refine awp_condF rfl (by simp) ?_;refine awp_skip ?_;apply hK;clear hK K;refine awp_sr fun K hK=>?_;refine aOps_split 2 fun K hK=>?_;simp;apply hK;clear hK K;refine aOps_callW (hs h0 _) (by first | rfl | simp) rfl rfl ⟨Wk.tok _ _,trivial⟩ ?_;simp;apply hK;clear hK K;simp [varsR,h0,reset_all hcl]
 ·repeat with_reducible refine awp_assoc ?_
  refine awp_sr fun K hK=>?_;simp [h0];apply hK;clear hK K;refine awp_seq_k fun K hK=>?_;refine awp_condT rfl (by simp [h0]) ?_;refine awp_sr fun K hK=>?_;simp;apply hK;clear hK K;simp [varsR,h0,reset_all hcl]
  exact Wk.tuple ⟨Wk.nilSlice,.refl _,trivial⟩
theorem rVars_c (t:Ty) (H:AHeap):ACalls Tryz.prog 16 [t.enc] H (.tuple [strs (varsR t) none,intV t.valid]) H:=by
 have hv:=rValidate_c t
 have hs:=fun (h:t.valid=0)=>Names_c t (Ty.good_of h) (by have:=large_cnt (Ty.not_large h);omega)
 rw [←namesL_one] at hs
 obtain ⟨n,l⟩:=t
 simp only [Ty.enc,Ty.cells,cellsL_eq] at hv hs
 refine acalls_walk (fun _=>.imm) [0,1,2,3,4,8] Tryz.mixed Tryz.func16 rfl rfl rfl (by decide) (fun hcl hlow=>?_)
 simp only [Ty.enc,Ty.cells];refine awp_sr fun K hK=>?_;simp;apply hK;clear hK K;repeat with_reducible refine awp_assoc ?_
 refine awp_sr fun K hK=>?_;refine aOps_split 1 fun K hK=>?_;simp;apply hK;clear hK K;refine aOps_call (hv _) (by first | rfl | simp) rfl rfl rfl ?_;simp;apply hK;clear hK K
 by_cases h0:(Ty.mk n l).valid=0
 ·repeat with_reducible refine awp_assoc ?_
  refine awp_sr fun K hK=>?_;simp [h0];apply hK;clear hK K;refine awp_seq_k fun K hK=>?_;refine awp_condF rfl (by simp) ?_;refine awp_skip ?_;apply hK;clear hK K;refine awp_sr fun K hK=>?_;refine aOps_split 1 fun K hK=>?_;simp;apply hK;clear hK K;refine aOps_call (hs h0 _) (by first | rfl | simp) rfl rfl rfl ?_;simp;apply hK;clear hK K;simp [varsR,h0,reset_all hcl]
 ·repeat with_reducible refine awp_assoc ?_
  refine awp_sr fun K hK=>?_;simp [h0];apply hK;clear hK K;refine awp_seq_k fun K hK=>?_;refine awp_condT rfl (by simp [h0]) ?_;refine awp_sr fun K hK=>?_;simp;apply hK;clear hK K;simp [varsR,h0,reset_all hcl]
  exact Wk.tuple ⟨Wk.nilSlice,.refl _,trivial⟩
theorem sameTexts_c (a b:List ByteArray) (hl:a.length < 4611686018427387904) (H:AHeap):ACalls Tryz.prog 19 [strs a none,strs b none] H (boolV (decide (a=b))) H:=by
 refine acalls_walk (fun _=>.imm) [0,1,4,5,10,14,25] Tryz.mixed Tryz.func19 rfl rfl rfl (by decide) (fun hcl hlow=>?_)
 refine awp_sr fun K hK=>?_;simp;apply hK;clear hK K
 by_cases hlen:a.length=b.length
 rotate_left
 ·repeat with_reducible refine awp_assoc ?_
  refine awp_sr fun K hK=>?_;simp [show ¬ (a.length:Int)=b.length by omega];apply hK;clear hK K;refine awp_seq_k fun K hK=>?_;refine awp_condT rfl (by simp [show ¬ (a.length:Int)=b.length by omega]) ?_;refine awp_sr fun K hK=>?_;simp;apply hK;clear hK K
  have e:¬ a=b:=by rintro rfl;exact hlen rfl
  simp [e,reset_all hcl]
 repeat with_reducible refine awp_assoc ?_
 refine awp_sr fun K hK=>?_;simp [hlen];apply hK;clear hK K;refine awp_seq_k fun K hK=>?_;refine awp_condF rfl (by simp [hlen]) ?_;refine awp_skip ?_;apply hK;clear hK K;repeat with_reducible refine awp_assoc ?_
 refine awp_sr fun K hK=>?_;simp;apply hK;clear hK K;refine awp_seq_k fun K hK=>?_;refine awp_block ?_
 refine awp_up a.length (fun k=>Env.ofL [(0,strs a none),(1,strs b none),(4,boolV false),(5,intV k)]) (fun k=>HL H []) (fun k=>a.take k=b.take k) (weak_HL hcl rfl ?_ ?_) ?_ (fun k hk hi=>?_) (fun hi=>?_)
 ·simp
 ·simp
 ·simp
 ·obtain ⟨x,hx⟩:∃ x,a[k]?=some x:=⟨_,List.getElem?_eq_getElem hk⟩
  obtain ⟨y,hy⟩:∃ y,b[k]?=some y:=⟨_,List.getElem?_eq_getElem (by omega)⟩
  repeat with_reducible refine awp_assoc ?_
  refine awp_sr fun K hK=>?_;simp [hk];apply hK;clear hK K;refine awp_seq_k fun K hK=>?_;refine awp_condT rfl (by simp) ?_;refine awp_skip ?_;apply hK;clear hK K;refine awp_seq_k fun K hK=>?_;refine awp_block ?_
  refine awp_sd [] [[],[0],[],[],[0,1,2,3],[0,1,2,3,4],[0,1,2,3],[0,1,2,3],[]] (by kernel_rfl) fun K hK=>?_
  refine aLex_pre 9 rfl fun K hK=>?_;simp [hx,hy]
  refine hK _ ?_
  clear hK K;refine aLex_end ?_;simp;apply hK;clear hK K
  by_cases hs:x=y
  ·refine awp_condF rfl (by simp [hs]) ?_;refine awp_skip ?_;apply hK;clear hK K;refine awp_region ?_;simp [wrap_succ (show k < 4611686018427387904 by omega)]
   refine ⟨?_,?_⟩
   ·rw [take_one hx,take_one hy,hi,hs]
   ·refine weak_HL hcl rfl (by simp) (by simp)
  ·refine awp_condT rfl (by simp [hs]) ?_;refine awp_sr fun K hK=>?_;simp;apply hK;clear hK K
   have e:¬ a=b:=by
    rintro rfl;rw [hx] at hy;simp at hy;exact hs hy
   simp [e,reset_all hcl]
 ·repeat with_reducible refine awp_assoc ?_
  refine awp_sr fun K hK=>?_;simp;apply hK;clear hK K;refine awp_seq_k fun K hK=>?_;refine awp_condF rfl (by simp) ?_;refine awp_exit ?_;simp;clear hK K;apply hK;clear hK K;refine awp_sr fun K hK=>?_;simp;apply hK;clear hK K
  rw [List.take_length,hlen,List.take_length] at hi
  subst hi
  simp [reset_all hcl]
theorem byte_str {d:Nat} (h:d < 128):strOfNums [((d:Nat):Int)]=byteS d:=by
 unfold strOfNums byteS
 simp
theorem digits_c (n:Nat):n < 4294967296→∀ H,ACalls Tryz.prog 114 [intV n] H (strV (decS n)) H:=by
 induction n using Nat.strongRecOn with
 | _ n ih =>
 intro hn H
 refine acalls_walk (fun _=>.imm) [0,2,4,10] Tryz.mixed Tryz.func114 rfl rfl rfl (by decide) (fun hcl hlow=>?_)
 have h0:¬ (n:Int) < 0:=by omega
 refine awp_sr fun K hK=>?_;simp;apply hK;clear hK K;repeat with_reducible refine awp_assoc ?_
 refine awp_sr fun K hK=>?_;simp [h0];apply hK;clear hK K;refine awp_seq_k fun K hK=>?_;refine awp_condF rfl (by simp [h0]) ?_;refine awp_skip ?_;apply hK;clear hK K
 by_cases h:n < 10
 ·have h':(n:Int) < 10:=by omega
  have w1:IntKind.i64.wrap ((48:Int)+n)=48+n:=wrap64 (by omega) (by omega)
  have w2:IntKind.u8.wrap ((48:Int)+n)=48+n:=by simp [IntKind.wrap,IntKind.bits,IntKind.signed];omega
  have w3:strOfNums [(48:Int)+n]=byteS (48+n):=by rw [show (48:Int)+n=((48+n:Nat):Int) by omega];exact byte_str (by omega)
  have e:decS n=byteS (48+n):=by rw [decS,if_pos h]
  repeat with_reducible refine awp_assoc ?_
  refine awp_sr fun K hK=>?_;simp [h'];apply hK;clear hK K;refine awp_seq_k fun K hK=>?_;refine awp_condT rfl (by simp [h']) ?_;refine awp_sr fun K hK=>?_;simp [w1,w2,aConv,w3];apply hK;clear hK K;simp [e,reset_all hcl]
 ·have h':¬ (n:Int) < 10:=by omega
  have hc:∀ H,ACalls Tryz.prog 114 [intV ((n:Int) / 10)] H (strV (decS (n / 10))) H:=ih (n / 10) (by omega) (by omega)
  have hc2:∀ H,ACalls Tryz.prog 114 [intV ((n:Int) % 10)] H (strV (decS (n % 10))) H:=ih (n % 10) (by omega) (by omega)
  have w0:IntKind.i64.wrap ((n:Int) / 10)=(n:Int) / 10:=wrap64 (by omega) (by omega)
  have hs:=decS_size (n / 10)
  have hs2:=decS_size (n % 10)
  have m0:(n:Int).tmod 10=(n:Int) % 10:=rfl
  have e2:decS (n % 10)=byteS (48+n % 10):=by rw [decS,if_pos (by omega)]
  have e:decS n=decS (n / 10)++decS (n % 10):=by rw [e2,decS,if_neg h]
  repeat with_reducible refine awp_assoc ?_
  refine awp_sr fun K hK=>?_;simp [h'];apply hK;clear hK K;refine awp_seq_k fun K hK=>?_;refine awp_condF rfl (by simp [h']) ?_;refine awp_skip ?_;apply hK;clear hK K;refine awp_sr fun K hK=>?_;refine aOps_split 2 fun K hK=>?_;simp [w0];apply hK;clear hK K;refine aOps_call (hc _) (by first | rfl | simp) rfl rfl (by first | (simp;done) | rfl) ?_;refine aOps_split 2 fun K hK=>?_;simp [m0];apply hK;clear hK K;refine aOps_call (hc2 _) (by first | rfl | simp) rfl rfl (by first | (simp;done) | rfl) ?_;simp
  refine ⟨by omega,hK _ _ ?_⟩
  clear hK K;simp [e,reset_all hcl]
theorem normalName_c (n:Nat) (hn:n < 4294967296) (H:AHeap):ACalls Tryz.prog 88 [intV n] H (strV (letS n)) H:=by
 refine acalls_walk (fun _=>.imm) [0,2,3,11] Tryz.mixed Tryz.func88 rfl rfl rfl (by decide) (fun hcl hlow=>?_)
 have w1:IntKind.i64.wrap ((97:Int)+(n:Int) % 26)=97+(n:Int) % 26:=wrap64 (by omega) (by omega)
 have w2:IntKind.u8.wrap ((97:Int)+(n:Int) % 26)=97+(n:Int) % 26:=by simp [IntKind.wrap,IntKind.bits,IntKind.signed];omega
 have w3:strOfNums [(97:Int)+(n:Int) % 26]=byteS (97+n % 26):=by rw [show (97:Int)+(n:Int) % 26=((97+n % 26:Nat):Int) by omega];exact byte_str (by omega)
 have m0:(n:Int).tmod 26=(n:Int) % 26:=rfl
 refine awp_sr fun K hK=>?_;simp;apply hK;clear hK K;refine awp_sr fun K hK=>?_;simp [m0,w1,w2,aConv,w3];apply hK;clear hK K
 by_cases h:n < 26
 ·have h':¬ (26:Int)≤n:=by omega
  have e:letS n=byteS (97+n % 26):=by rw [letS,if_pos h,Nat.mod_eq_of_lt h]
  repeat with_reducible refine awp_assoc ?_
  refine awp_sr fun K hK=>?_;simp [h'];apply hK;clear hK K;refine awp_seq_k fun K hK=>?_;refine awp_condF rfl (by simp [h']) ?_;refine awp_skip ?_;apply hK;clear hK K;refine awp_sr fun K hK=>?_;simp;apply hK;clear hK K;simp [e,reset_all hcl]
 ·have h':(26:Int)≤n:=by omega
  have hc:∀ H,ACalls Tryz.prog 114 [intV ((n:Int) / 26)] H (strV (decS (n / 26))) H:=digits_c (n / 26) (by omega)
  have w0:IntKind.i64.wrap ((n:Int) / 26)=(n:Int) / 26:=wrap64 (by omega) (by omega)
  have hs:=decS_size (n / 26)
  have e:letS n=byteS (97+n % 26)++decS (n / 26):=by rw [letS,if_neg h]
  have es:(byteS (97+n % 26)).size=1:=rfl
  repeat with_reducible refine awp_assoc ?_
  refine awp_sr fun K hK=>?_;simp [h'];apply hK;clear hK K;refine awp_seq_k fun K hK=>?_;refine awp_condT rfl (by simp [h']) ?_;refine awp_region ?_;refine aOps_split 3 fun K hK=>?_;simp [w0];apply hK;clear hK K;refine aOps_call (hc _) (by first | rfl | simp) rfl rfl (by first | (simp;done) | rfl) ?_;simp [es]
  refine ⟨by omega,hK _ _ ?_⟩
  clear hK K;refine awp_sr fun K hK=>?_;simp;apply hK;clear hK K;simp [e,reset_all hcl]
def ltB (a b:ByteArray):Bool:=Op.bytesLess a.toList b.toList
def posS:TyM→ByteArray→Nat
 | [],_=>0
 | p::m,s=>if ltB p.1 s then posS m s+1 else 0
def putS (m:TyM) (b:ByteArray × Ty):TyM:=m.take (posS m b.1)++b::m.drop (posS m b.1)
theorem posS_lt:∀ {m:TyM} {s:ByteArray} {k:Nat},k < posS m s→∃ x,m[k]?=some x∧ltB x.1 s=true
 | [],s,k,h=>by simp [posS] at h
 | p::m,s,k,h=>by
  unfold posS at h
  split at h
  ·rename_i hp
   cases k with
   | zero=>exact ⟨p,rfl,hp⟩
   | succ k=>exact posS_lt (m:=m) (by omega)
  ·omega
theorem posS_at:∀ {m:TyM} {s:ByteArray},posS m s≤m.length∧∀ x,m[posS m s]?=some x→ltB x.1 s=false
 | [],s=>by simp [posS]
 | p::m,s=>by
  unfold posS
  split
  ·have h:=posS_at (m:=m) (s:=s)
   exact ⟨by simp only [List.length_cons];omega,fun x hx=>h.2 x (by simpa using hx)⟩
  ·rename_i hp
   refine ⟨by simp,fun x hx=>?_⟩
   simp only [List.getElem?_cons_zero,Option.some.injEq] at hx
   subst hx;simpa using hp
theorem bind_mk (s n:ByteArray) (l:List Ty):bindC (s,.mk n l)=[strV s,strV n,.slice (l.map Ty.cells) none]:=by simp [bindC,Ty.cells,cellsL_eq]
theorem low_btake (n k:Nat) (l:TyM):lowR n ((l.map bindC).take k):=lowR_take k (low_bind n l)
attribute [local simp] low_btake
theorem low_bmid (n k:Nat) (m:TyM) (b:ByteArray × Ty) (j:Nat):lowR n ((m.map bindC).take k++[bindC b]++((m.map bindC).drop k).take j):=by
 rw [←List.map_take,←List.map_drop,←List.map_take,show [bindC b]=[b].map bindC from rfl,←List.map_append,←List.map_append]
 exact low_bind _ _
theorem rput_c (m:TyM) (b:ByteArray × Ty) (hl:m.length < 1099511627776) (H:AHeap):ACalls Tryz.prog 87 [.slice (m.map bindC) none,.agg (bindC b)] H (.slice ((putS m b).map bindC) none) H:=by
 obtain ⟨hn1,hn2⟩:=posS_at (m:=m) (s:=b.1)
 have hn0:=fun k=>posS_lt (m:=m) (s:=b.1) (k:=k)
 have eput:(putS m b).map bindC=(m.map bindC).take (posS m b.1)++[bindC b]++(m.map bindC).drop (posS m b.1):=by simp [putS]
 generalize posS m b.1=n at hn1 hn2 hn0 eput
 have hlm:=low_bmid (k:=n) (m:=m) (b:=b)
 obtain ⟨s,⟨bn,bl⟩⟩:=b
 rw [bind_mk] at eput hlm
 rw [bind_mk,eput]
 simp only at hn2 hn0
 have hall:∀ r∈m.map bindC,r.length=3:=by
  intro r hr
  obtain ⟨⟨s',⟨n',l'⟩⟩,_,rfl⟩:=List.mem_map.1 hr
  rfl
 refine acalls_walk (fun d=>if d=5 then .nilv 3 else .imm) [0,1,3,4,5,6,20,37] Tryz.mixed Tryz.func87 rfl rfl rfl (by decide) (fun hcl hlow=>?_)
 refine awp_sr fun K hK=>?_;simp;apply hK;clear hK K;refine awp_sr fun K hK=>?_;simp;apply hK;clear hK K;refine awp_sr fun K hK=>?_;simp;apply hK;clear hK K;refine awp_seq_k fun K hK=>?_;refine awp_block ?_
 refine awp_up n (fun k=>Env.ofL [(0,.slice (m.map bindC) none),(3,.ref (nid H.next 0) 0),(4,.v (.slice none 0 0)),(5,.slice ((m.map bindC).take k) (some (nid H.next 1))),(6,intV k)]) (fun k=>HL H [.cells [strV s,strV bn,.slice (bl.map Ty.cells) none],.tok k 3 none]) (fun k=>True) (weak_HL hcl rfl ?_ ?_) ?_ (fun k hk hi=>?_) (fun hi=>?_)
 ·simp
 ·simp
 ·trivial
 ·obtain ⟨x,hx,hlt⟩:=hn0 k hk
  have hkm:k < m.length:=by omega
  have hlt':Op.bytesLess x.1.toList s.toList=true:=hlt
  obtain ⟨xs,⟨xn,xl⟩⟩:=x
  simp only at hlt'
  have e1:(m.map bindC).take (k+1)=(m.map bindC).take k++[[strV xs,strV xn,.slice (xl.map Ty.cells) none]]:=by
   rw [take_one (x:=bindC (xs,.mk xn xl)) (by simp [hx]),bind_mk]
  repeat with_reducible refine awp_assoc ?_
  refine awp_sd [] [[],[0],[0],[],[],[1],[1,5],[1],[1],[1],[1,5,6,7,8,9],[1,5,6,7,8,9],[1,5,6],[1,5,6,7]] (by kernel_rfl) fun K hK=>?_
  refine aLex_pre 6 rfl fun K hK=>?_;simp [hkm]
  refine hK _ ?_
  clear hK K;refine aLex_pre 8 rfl fun K hK=>?_;simp [hx,bind_mk,hlt']
  refine hK _ ?_
  clear hK K;refine aLex_end ?_;simp;apply hK;clear hK K;refine awp_seq_k fun K hK=>?_;refine awp_condT rfl (by simp) ?_;refine awp_skip ?_;apply hK;clear hK K;refine awp_block ?_;refine awp_sr fun K hK=>?_;refine aOps_split 5 fun K hK=>?_;simp [hx,bind_mk];apply hK;clear hK K;refine aOps_split 1 fun K hK=>?_;simp;apply hK;clear hK K;simp [Nat.min_eq_left (Nat.le_of_lt hkm)]
  refine ⟨by omega,fun r hr=>hall r (List.mem_of_mem_take hr),hK _ _ ?_⟩
  clear hK K;refine awp_region ?_;simp [wrap_succ (show k < 4611686018427387904 by omega)]
  rw [e1]
  refine weak_HL hcl rfl (by simp) (by simp)
 ·repeat with_reducible refine awp_assoc ?_
  refine awp_sd [] [[],[0],[0],[],[],[1],[1,5],[1],[1],[1],[1,5,6,7,8,9],[1,5,6,7,8,9],[1,5,6],[1,5,6,7]] (by kernel_rfl) fun K hK=>?_
  suffices hk:K (Env.ofL [(0,.slice (m.map bindC) none),(1,.undef),(3,.ref (nid H.next 0) 0),(4,.v (.slice none 0 0)),(5,.slice ((m.map bindC).take n) (some (nid H.next 1))),(6,intV n),(20,boolV false),(37,.undef)])
    (HL H [.cells [strV s,strV bn,.slice (bl.map Ty.cells) none],.tok n 3 none]) by
   by_cases hmn:n < m.length
   ·obtain ⟨x,hx⟩:∃ x,m[n]?=some x:=⟨_,List.getElem?_eq_getElem hmn⟩
    have hlt:=hn2 x hx
    have hlt':Op.bytesLess x.1.toList s.toList=false:=hlt
    obtain ⟨xs,⟨xn,xl⟩⟩:=x
    simp only at hlt';refine aLex_pre 6 rfl fun K hK=>?_;simp [hmn]
    refine hK _ ?_
    clear hK K;refine aLex_pre 8 rfl fun K hK=>?_;simp [hx,bind_mk,hlt']
    refine hK _ ?_
    clear hK K;refine aLex_end ?_;simp
    exact hk
   ·refine aLex_pre 6 rfl fun K hK=>?_;simp [hmn]
    refine hK _ ?_
    clear hK K;refine aLex_pre 8 rfl fun K hK=>?_;simp
    refine hK _ ?_
    clear hK K;refine aLex_end ?_;simp
    exact hk
  apply hK;clear hK K;refine awp_seq_k fun K hK=>?_;refine awp_condF rfl (by simp) ?_;refine awp_exit ?_;simp;clear hK K;apply hK;clear hK K;refine awp_sr fun K hK=>?_;refine aOps_split 2 fun K hK=>?_;simp;apply hK;clear hK K;refine aOps_split 1 fun K hK=>?_;simp;apply hK;clear hK K;simp [Nat.min_eq_left hn1]
  refine ⟨by omega,fun r hr=>hall r (List.mem_of_mem_take hr),hK _ _ ?_⟩
  clear hK K;refine awp_seq_k fun K hK=>?_;refine awp_block ?_
  refine awp_up (m.length - n) (fun k=>Env.ofL [(0,.slice (m.map bindC) none),(4,.v (.slice none 0 0)),(5,.slice ((m.map bindC).take n++[[strV s,strV bn,.slice (bl.map Ty.cells) none]]++((m.map bindC).drop n).take k) (some (nid H.next 1))),(6,intV ((n:Int)+k))]) (fun k=>HL H [.cells [strV s,strV bn,.slice (bl.map Ty.cells) none],.tok (n+1+k) 3 none]) (fun k=>True) (weak_HL hcl rfl ?_ ?_) ?_ (fun k hk hi2=>?_) (fun hi2=>?_)
  ·simp
  ·simp
  ·trivial
  ·have hnk:n+k < m.length:=by omega
   have hnk':(n:Int)+k < m.length:=by omega
   obtain ⟨x,hx⟩:∃ x,m[n+k]?=some x:=⟨_,List.getElem?_eq_getElem hnk⟩
   obtain ⟨xs,⟨xn,xl⟩⟩:=x
   have t1:((n:Int)+k).toNat=n+k:=by omega
   have t2:(0:Int)≤(n:Int)+k:=by omega
   have w2:IntKind.i64.wrap ((n:Int)+k+1)=(n:Int)+k+1:=wrap64 (by omega) (by omega)
   have e1:((m.map bindC).drop n).take (k+1)=((m.map bindC).drop n).take k++[[strV xs,strV xn,.slice (xl.map Ty.cells) none]]:=by
    rw [take_one (x:=bindC (xs,.mk xn xl)) (by simp [List.getElem?_drop,hx]),bind_mk]
   have hkd:k≤m.length - n:=by omega
   repeat with_reducible refine awp_assoc ?_
   refine awp_sr fun K hK=>?_;simp [hnk'];apply hK;clear hK K;refine awp_seq_k fun K hK=>?_;refine awp_condT rfl (by simp) ?_;refine awp_skip ?_;apply hK;clear hK K;refine awp_block ?_;refine awp_sr fun K hK=>?_;refine aOps_split 5 fun K hK=>?_;simp [hx,t1,t2,bind_mk];apply hK;clear hK K;refine aOps_split 1 fun K hK=>?_;simp;apply hK;clear hK K;simp [Nat.min_eq_left hn1,Nat.min_eq_left hkd]
   refine ⟨by omega,by omega,fun r hr=>?_,hK _ _ ?_⟩
   ·rcases hr with hr | rfl | hr
    ·exact hall r (List.mem_of_mem_take hr)
    ·rfl
    ·exact hall r (List.mem_of_mem_drop (List.mem_of_mem_take hr))
   clear hK K;refine awp_region ?_;simp [w2]
   rw [e1]
   have e3:n+(k+1)+1=n+1+(k+1):=by omega
   have e4:(n:Int)+k+1=(n:Int)+(k+1):=by omega
   rw [e3,e4]
   have hlk:=hlm (nid H.next 2) (k+1)
   rw [e1] at hlk
   refine weak_HL hcl rfl (by simp) ?_
   simp at hlk ⊢
   exact hlk
  ·have hend:¬ (n:Int)+((m.length - n:Nat):Int) < m.length:=by omega
   repeat with_reducible refine awp_assoc ?_
   refine awp_sr fun K hK=>?_;simp [hend];apply hK;clear hK K;refine awp_seq_k fun K hK=>?_;refine awp_condF rfl (by simp) ?_;refine awp_exit ?_;simp;clear hK K;apply hK;clear hK K;refine awp_sr fun K hK=>?_;simp;apply hK;clear hK K
   have hlk:=hlm H.next (m.length - n)
   rw [List.take_of_length_le (l:=(m.map bindC).drop n) (by simp)] at hlk
   simp at hlk;simp [List.take_of_length_le (l:=(m.map bindC).drop n) (i:=m.length - n) (by simp),hlk]
   exact reset_all hcl
end Go.Proofs.YtgeehnbbhnpimaaGreat
namespace Go.Proofs.YtgeehnbbhnpimaaGreat
open Go Go.Abs Go.Proofs
set_option maxRecDepth 20000
attribute [local simp] aOps wantedA aStep aop aLoad aStore aBin aUn aFieldAddr aField aIndexAddr aIndex aLen aBuild aFill aAlloc aAppend aBuildSlice litRows newRows isMut isOwn isNilS nilsW bytesR tokW tokAV tokL ret readC splice aeval isLit isLate AV.celled AV.one AV.ofValue Value.oneCell' Value.cells intOp strOp get_nid upd_nid awp aEnd aResults aResult Det unord isCall isNext
attribute [local simp] low_take low_strs low_comp low_tcomp wkEs_refl' WkBs WkEnv WkB WkL WkE WkO ABlock.low lowO lowL lowR AV.low cellsL_eq Ty.low low_map Ty.cells_length Ty.cells_one
attribute [local simp] low_bind
def renS (l:List ByteArray):TyM:=(renM l).foldl putS []
theorem posS_le (m:TyM) (s:ByteArray):posS m s≤m.length:=posS_at.1
theorem putS_len (m:TyM) (b:ByteArray × Ty):(putS m b).length=m.length+1:=by
 have:=posS_le m b.1
 simp [putS];omega
theorem foldS_len (L m:TyM):(L.foldl putS m).length=m.length+L.length:=by
 induction L generalizing m with
 | nil=>rfl
 | cons b L ih=>rw [List.foldl_cons,ih,putS_len,List.length_cons];omega
theorem renM_len (l:List ByteArray):(renM l).length=l.length:=by
 have:=congrArg List.length (renM_keys l)
 simpa using this
theorem rRenaming_c (ns:List ByteArray) (hl:ns.length < 4294967296) (H:AHeap):ACalls Tryz.prog 47 [strs ns none] H (.slice ((renS ns).map bindC) none) H:=by
 refine acalls_walk (fun _=>.imm) [0,2,3,4,8] Tryz.mixed Tryz.func47 rfl rfl rfl (by decide) (fun hcl hlow=>?_)
 refine awp_sr fun K hK=>?_;simp;apply hK;clear hK K;refine awp_sr fun K hK=>?_;simp;apply hK;clear hK K;repeat with_reducible refine awp_assoc ?_
 refine awp_sr fun K hK=>?_;simp;apply hK;clear hK K;refine awp_seq_k fun K hK=>?_;refine awp_block ?_
 refine awp_up ns.length (fun k=>Env.ofL [(0,strs ns none),(2,.v (.slice none 0 0)),(3,.slice ((renS (ns.take k)).map bindC) none),(4,intV k)]) (fun k=>HL (H) []) (fun k=>True) (weak_HL (hcl) (by simp) ?_ ?_) ?_ (fun k hk hi=>?_) (fun hi=>?_)
 ·simp [show renS []=[] from rfl,Wk.nilSlice]
 ·simp [show renS []=[] from rfl,Wk.nilSlice]
 ·trivial
 ·obtain ⟨x,hx⟩:∃ x,ns[k]?=some x:=⟨_,List.getElem?_eq_getElem hk⟩
  have hlen:(renS (ns.take k)).length < 1099511627776:=by
   rw [renS,foldS_len,renM_len];simp;omega
  have e1:renS (ns.take (k+1))=putS (renS (ns.take k)) (x,.mk (letS k) []):=by
   rw [renS,renM_take hx,List.foldl_append];rfl
  have hc:=rput_c (renS (ns.take k)) (x,.mk (letS k) []) hlen
  rw [←e1,bind_mk] at hc
  generalize renS (ns.take k)=m at hc ⊢
  generalize renS (ns.take (k+1))=m' at hc ⊢
  repeat with_reducible refine awp_assoc ?_
  refine awp_sr fun K hK=>?_;simp [hk];apply hK;clear hK K;refine awp_seq_k fun K hK=>?_;refine awp_condT rfl (by simp) ?_;refine awp_skip ?_;apply hK;clear hK K;refine awp_seq_k fun K hK=>?_;refine awp_block ?_
  refine awp_draw [] [[],[0],[0,1],[0],[0],[0,1,2,3,4],[0,1,2,3,4],[0,1,2,3,4],[0],[1,2],[]] (by kernel_rfl) ?_
  refine aLex_pre 6 rfl fun K hK=>?_;simp [hx]
  refine hK _ ?_
  clear hK K;refine aLex_call0 (normalName_c k (by omega) _) (by first | rfl | simp) rfl rfl rfl ?_;refine aLex_pre 2 rfl fun K hK=>?_;simp
  refine hK _ ?_
  clear hK K;refine aLex_callW (hc _) (by first | rfl | simp) rfl rfl rfl ⟨.refl _,Wk.agg ⟨.refl _,.refl _,Wk.nilSlice,trivial⟩,trivial⟩ (by simp) ?_;refine aLex_pre 1 rfl fun K hK=>?_;simp
  refine hK _ ?_
  clear hK K;refine aLex_end ?_;simp;apply hK;clear hK K;refine awp_region ?_;simp [wrap_succ (show k < 4611686018427387904 by omega)]
  refine weak_HL hcl rfl (by simp) (by simp)
 ·repeat with_reducible refine awp_assoc ?_
  refine awp_sr fun K hK=>?_;simp;apply hK;clear hK K;refine awp_seq_k fun K hK=>?_;refine awp_condF rfl (by simp) ?_;refine awp_exit ?_;simp;clear hK K;apply hK;clear hK K;refine awp_sr fun K hK=>?_;simp;apply hK;clear hK K;simp
  exact reset_all hcl
theorem varsR_len (t:Ty) (h:t.valid=0):(t.nodes.foldl nameStep []).length≤200:=by
 have h1:=fold_len t.nodes []
 have h2:=large_cnt (Ty.not_large h)
 unfold Ty.cnt at h2
 simp only [List.length_nil] at h1;omega
theorem putS_mem {m:TyM} {b p:ByteArray × Ty} (h:p∈putS m b):p∈m∨p=b:=by
 unfold putS at h
 simp only [List.mem_append,List.mem_cons] at h
 rcases h with h | h | h
 ·exact .inl (List.mem_of_mem_take h)
 ·exact .inr h
 ·exact .inl (List.mem_of_mem_drop h)
theorem foldS_mem {p:ByteArray × Ty}:∀ {L m:TyM},p∈L.foldl putS m→p∈m∨p∈L
 | [],m,h=>.inl h
 | b::L,m,h=>by
  rw [List.foldl_cons] at h
  rcases foldS_mem h with h | h
  ·rcases putS_mem h with h | h
   ·exact .inl h
   ·exact .inr (by simp [h])
  ·exact .inr (by simp [h])
theorem renS_cnt (ns:List ByteArray):∀ p∈renS ns,p.2.cnt < 1099511627776:=by
 intro p hp
 rcases foldS_mem hp with h | h
 ·cases h
 ·unfold renM at h
  obtain ⟨q,_,rfl⟩:=List.mem_map.1 h
  simp [Ty.cnt,Ty.nodes,nodesL]
def normS (t:Ty):Ty:=if t.valid=0 then putT (renS (t.nodes.foldl nameStep [])) t else zeroTy
theorem rNormal_c (t:Ty) (H:AHeap):ACalls Tryz.prog 18 [t.enc] H (.tuple [(normS t).enc,intV t.valid]) H:=by
 have hv:=rValidate_c t
 have hs:=fun (h:t.valid=0)=>Names_c t (Ty.good_of h) (by have:=large_cnt (Ty.not_large h);omega)
 have hr:=fun (h:t.valid=0)=>rRenaming_c (t.nodes.foldl nameStep []) (by have:=varsR_len t h;omega)
 have hp:=fun (h:t.valid=0)=>rPut_c (renS (t.nodes.foldl nameStep [])) (renS_cnt _) (by rw [renS,foldS_len,renM_len];have:=varsR_len t h;simp;omega) t (Ty.good_of h) (by have:=large_cnt (Ty.not_large h);omega)
 have he:t.valid=0→normS t=putT (renS (t.nodes.foldl nameStep [])) t:=fun h=>by unfold normS;rw [if_pos h]
 have he2:¬ t.valid=0→normS t=zeroTy:=fun h=>by unfold normS;rw [if_neg h]
 generalize t.nodes.foldl nameStep []=ns at *
 obtain ⟨n,l⟩:=t
 simp only [enc_mk] at hv hs hp
 refine acalls_walk (fun _=>.imm) [0,1,2,3,4,8] Tryz.mixed Tryz.func18 rfl rfl rfl (by decide) (fun hcl hlow=>?_)
 simp only [enc_mk];refine awp_sr fun K hK=>?_;simp;apply hK;clear hK K;repeat with_reducible refine awp_assoc ?_
 refine awp_sr fun K hK=>?_;refine aOps_split 1 fun K hK=>?_;simp;apply hK;clear hK K;refine aOps_call (hv _) (by first | rfl | simp) rfl rfl rfl ?_;simp;apply hK;clear hK K
 by_cases h0:(Ty.mk n l).valid=0
 ·repeat with_reducible refine awp_assoc ?_
  refine awp_sr fun K hK=>?_;simp [h0];apply hK;clear hK K;refine awp_seq_k fun K hK=>?_;refine awp_condF rfl (by simp) ?_;refine awp_skip ?_;apply hK;clear hK K
  have hp:=hp h0
  have he:=he h0
  generalize putT (renS ns) (.mk n l)=r at hp he
  rw [he]
  obtain ⟨rn,rl⟩:=r
  simp only [enc_mk] at hp ⊢;refine awp_sdc [5] [[],[],[],[0,1,2],[],[],[]] (by kernel_rfl) (by rfl) fun K hK=>?_;refine aCalm_pre 1 (by rfl) fun K hK=>?_;simp;apply hK;clear hK K;refine aCalm_call0 (hs h0 _) (by first | rfl | simp) rfl rfl rfl (by first | (simp;done) | rfl) ?_;refine aCalm_call0 (hr h0 _) (by first | rfl | simp) rfl rfl rfl (by first | (simp;done) | rfl) ?_;refine aCalm_pre 1 (by rfl) fun K hK=>?_;simp;apply hK;clear hK K;refine aCalm_call0 (hp _) (by first | rfl | simp) rfl rfl rfl (by first | (simp;done) | rfl) ?_;refine aCalm_pre 2 (by rfl) fun K hK=>?_;simp;apply hK;clear hK K;refine aCalm_end ?_;simp;apply hK;clear hK K;simp [h0,reset_all hcl]
 ·repeat with_reducible refine awp_assoc ?_
  refine awp_sr fun K hK=>?_;simp [h0];apply hK;clear hK K;refine awp_seq_k fun K hK=>?_;refine awp_condT rfl (by simp [h0]) ?_;refine awp_sr fun K hK=>?_;simp;apply hK;clear hK K
  rw [he2 h0]
  simp [zeroTy,enc_mk,reset_all hcl]
  exact Wk.tuple ⟨Wk.agg ⟨.refl _,Wk.nilSlice,trivial⟩,.refl _,trivial⟩
def normM (t:Ty):Ty:=if t.valid=0 then putT (renM (namesL [t])) t else zeroTy
theorem Normal_c (t:Ty) (H:AHeap):ACalls Tryz.prog 17 [t.enc] H (.tuple [(normM t).enc,intV t.valid]) H:=by
 have hv:=validate_c t
 have hnl:=names_len [t]
 rw [nodesL_one] at hnl
 have hrn:=fun (h:t.valid=0)=>renaming_c [t] (by have:=large_cnt (Ty.not_large h);unfold Ty.cnt at this;rw [nodesL_one];omega)
 have hp:=fun (h:t.valid=0) i H hg=>put_c (renM (namesL [t])) (fun p hp=>by rw [renM_cnt hp];decide) i (namesL [t]).length t (by have:=large_cnt (Ty.not_large h);omega) H hg
 have he:t.valid=0→normM t=putT (renM (namesL [t])) t:=fun h=>by unfold normM;rw [if_pos h]
 have he2:¬ t.valid=0→normM t=zeroTy:=fun h=>by unfold normM;rw [if_neg h]
 generalize namesL [t]=ns at *
 obtain ⟨n,l⟩:=t
 simp only [enc_mk] at hv hp;simp only [List.map_cons,List.map_nil,Ty.cells,cellsL_eq] at hrn
 refine acalls_walk (fun _=>.imm) [0,1,2,3,4,8] Tryz.mixed Tryz.func17 rfl rfl rfl (by decide) (fun hcl hlow=>?_)
 simp only [enc_mk];refine awp_sr fun K hK=>?_;simp;apply hK;clear hK K;repeat with_reducible refine awp_assoc ?_
 refine awp_sr fun K hK=>?_;refine aOps_split 1 fun K hK=>?_;simp;apply hK;clear hK K;refine aOps_call (hv _) (by first | rfl | simp) rfl rfl rfl ?_;simp;apply hK;clear hK K
 by_cases h0:(Ty.mk n l).valid=0
 ·repeat with_reducible refine awp_assoc ?_
  refine awp_sr fun K hK=>?_;simp [h0];apply hK;clear hK K;refine awp_seq_k fun K hK=>?_;refine awp_condF rfl (by simp) ?_;refine awp_skip ?_;apply hK;clear hK K
  have hp:=hp h0
  have he:=he h0
  generalize putT (renM ns) (.mk n l)=r at hp he
  rw [he]
  obtain ⟨rn,rl⟩:=r
  simp only [enc_mk] at hp ⊢
  refine awp_sd [1,2,5] [[],[],[],[0,1,2],[],[],[]] (by kernel_rfl) fun K hK=>?_
  refine aLex_read rfl rfl rfl rfl fun K hK=>?_;simp
  refine hK _ _ _ ?_
  clear hK K;refine aLex_eff rfl rfl rfl rfl fun K hK=>?_;simp;apply hK;clear hK K;refine aLex_calleW (hrn h0 _) rfl rfl rfl rfl (by simp) (by simp) ?_;refine aLex_read rfl rfl rfl rfl fun K hK=>?_;simp
  refine hK _ _ _ ?_
  clear hK K;refine aLex_callW (hp (nid H.next 3) _ (by simp)) rfl rfl rfl rfl (by simp) (by simp) ?_;refine aLex_eff rfl rfl rfl rfl fun K hK=>?_;simp;apply hK;clear hK K;refine aLex_read rfl rfl rfl rfl fun K hK=>?_;simp
  refine hK _ _ _ ?_
  clear hK K;refine aLex_end ?_;simp;apply hK;clear hK K;simp [h0,reset_all hcl]
 ·repeat with_reducible refine awp_assoc ?_
  refine awp_sr fun K hK=>?_;simp [h0];apply hK;clear hK K;refine awp_seq_k fun K hK=>?_;refine awp_condT rfl (by simp [h0]) ?_;refine awp_sr fun K hK=>?_;simp;apply hK;clear hK K
  rw [he2 h0]
  simp [zeroTy,enc_mk,reset_all hcl]
  exact Wk.tuple ⟨Wk.agg ⟨.refl _,Wk.nilSlice,trivial⟩,.refl _,trivial⟩
end Go.Proofs.YtgeehnbbhnpimaaGreat
