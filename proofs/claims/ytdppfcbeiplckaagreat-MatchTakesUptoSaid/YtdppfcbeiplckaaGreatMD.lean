/- Drawing regions whose changes stand in order with all that reads: walked like any other. -/
import Derived.Test.YtdppfcbeiplckaaGreatMC
set_option linter.unusedVariables false
set_option linter.unusedSimpArgs false
namespace Go.Abs
open Go
def isReg:Op→Bool
 | .move _ | .assign _ | .pick _ _ _ | .binOp _ _ _ _ _ | .unOp _ _ _ | .convert _ _ _ | .fieldAddr _ _ _ | .field _ _ _ | .indexAddr _ _ _ | .index _ _ _ | .extract _ _=>true
 | .slice _ _ _ _ _ | .build _ _ | .nilCheck _=>true
 | _=>false
theorem isReg_pure {o:Op} (h:isReg o=true):isPure o=true:=by
 cases o <;> first | rfl | (simp [isReg] at h)
def litOp (md:Nat→Mode) (o:Oper):Bool:=(match o.op with | .buildSlice _ _ _=>true | _=>false) && isLit md o.dst
def regM (md:Nat→Mode) (o:Oper):Bool:=(isReg o.op && noTok md o.dst) || litOp md o
def pureM (md:Nat→Mode) (o:Oper):Bool:=(isPure o.op && noTok md o.dst) || litOp md o
def regAt (md:Nat→Mode) (ops:Array Oper) (i:Nat):Bool:=match ops[i]? with | some o=>regM md o | none=>true
def calmW (md:Nat→Mode) (ops:Array Oper) (eff:List Nat) (W:List (List Nat)):Bool :=
 (List.range W.length).all fun k=>if eff.contains k then (W.getD k []).all (regAt md ops) else (W.getD k []).all (fun i=>!eff.contains i) || regAt md ops k
theorem calm_eff {md:Nat→Mode} {ops:Array Oper} {eff:List Nat} {W:List (List Nat)} (h:calmW md ops eff W=true) {k:Nat} (he:eff.contains k=true) {i:Nat} (hu:unord W k i=true):regAt md ops i=true:=by
 unfold unord at hu
 by_cases hk:k < W.length
 ·have:=List.all_eq_true.1 h k (by simpa using hk)
  simp only [he,if_true] at this
  exact List.all_eq_true.1 this i (by simpa using hu)
 ·simp [List.getD,List.getElem?_eq_none (Nat.le_of_not_lt hk)] at hu
theorem calm_read {md:Nat→Mode} {ops:Array Oper} {eff:List Nat} {W:List (List Nat)} (h:calmW md ops eff W=true) {k:Nat} (he:eff.contains k=false) {i:Nat} (hi:eff.contains i=true):unord W k i=false∨regAt md ops k=true:=by
 unfold unord
 by_cases hk:k < W.length
 ·have:=List.all_eq_true.1 h k (by simpa using hk)
  simp only [he,Bool.false_eq_true,if_false,Bool.or_eq_true] at this
  rcases this with this | this
  ·left
   rw [Bool.eq_false_iff]
   intro hc
   have:=List.all_eq_true.1 this i (by simpa using hc)
   rw [hi] at this;cases this
  ·exact .inr this
 ·left;simp [List.getD,List.getElem?_eq_none (Nat.le_of_not_lt hk)]
theorem ret_reg {H H':AHeap} {Kn:AV→Prop} {r:Option AV} (h:ret H (fun v _=>Kn v) r):ret H' (fun v H''=>H''=H'∧Kn v) r:=by
 cases r with
 | none=>exact h.elim
 | some a=>exact ⟨rfl,h⟩
theorem aop_reg {P:Program} {md:Nat→Mode} {env:Env} {H H':AHeap} {Kn:AV→Prop} {o:Oper} (hp:isReg o.op=true) (ht:noTok md o.dst=true) (h:aop P md env H (fun v _=>Kn v) o):aop P md env H' (fun v H''=>H''=H'∧Kn v) o:=by
 obtain ⟨dst,op,ty,pos,after,guard⟩:=o
 have hcut:isCut md dst=false:=noTok_cut ht
 revert h
 cases op <;> simp only [isReg] at hp <;> try (cases hp)
 all_goals simp only [aop,aBin,aUn,aConv,aFieldAddr,aField,aIndexAddr,aIndex,aSlice,aBuild,hcut,Bool.false_eq_true,if_false]
 all_goals repeat' split
 all_goals (intro h;first | exact (h:False).elim | exact ⟨by trivial,h⟩ | exact ret_reg h | exact ⟨h.1,(by trivial),h.2⟩ | exact ⟨h.1,ret_reg h.2⟩ | exact ⟨h.1,h.2.1,(by trivial),h.2.2⟩ | exact ⟨h.1,h.2.1,h.2.2.1,(by trivial),h.2.2.2⟩ | exact ⟨h.1,h.2.1,h.2.2.1,h.2.2.2.1,(by trivial),h.2.2.2.2⟩ | exact ⟨h.1,h.2.1,h.2.2.1,h.2.2.2.1,h.2.2.2.2.1,(by trivial),h.2.2.2.2.2⟩ | exact (h.2).elim | skip)
theorem tokW_noTok {md:Nat→Mode} {d:Option Nat} (ht:noTok md d=true) (Kn:AV→AHeap→Prop):tokW md d Kn=Kn:=by
 unfold tokW
 unfold noTok at ht
 cases d with
 | none=>rfl
 | some d =>
  simp only at ht ⊢
  cases hm:md d <;> rw [hm] at ht <;> first | rfl | cases ht
theorem aStep_aop {P:Program} {md:Nat→Mode} {env:Env} {o:Oper} (hc:isCall o.op=false) (hn:isNext o.op=false) (H:AHeap) (Kn:AV→AHeap→Prop):aStep P md env H Kn o↔aop P md env H (tokW md o.dst Kn) o:=by
 obtain ⟨dst,op,ty,pos,after,guard⟩:=o
 cases op with
 | call c =>
  obtain ⟨callee,args,tys⟩:=c
  cases callee with
  | value f=>exact absurd hc (by simp [isCall])
  | invoke _ _=>exact Iff.rfl
  | builtin b=>exact Iff.rfl
 | next=>cases hn
 | _=>exact Iff.rfl
theorem det_reg {P:Program} {md:Nat→Mode} {env:Env} {o:Oper} (hr:isReg o.op=true) (ht:noTok md o.dst=true) {H:AHeap} {v:AV} (h:Det P md o env H v H) (H':AHeap):Det P md o env H' v H':=by
 have h1:isCall o.op=false:=by revert hr;cases o.op <;> first | (intro _;rfl) | (intro h;cases h)
 have h2:isNext o.op=false:=by revert hr;cases o.op <;> first | (intro _;rfl) | (intro h;cases h)
 unfold Det at h ⊢
 rw [aStep_aop h1 h2,tokW_noTok ht] at h ⊢
 obtain ⟨v',H1,⟨rfl,rfl⟩,h4⟩:=aop_det h
 have h5:=h4 (fun x _=>x=v') rfl
 have h6:=aop_reg (H':=H') hr ht h5
 obtain ⟨v2,H2,⟨rfl,rfl⟩,h7⟩:=aop_det h6
 exact h7 _ ⟨rfl,rfl⟩
theorem lit_aStep {P:Program} {md:Nat→Mode} {env:Env} {o:Oper} (hl:litOp md o=true) {H:AHeap} {Kn:AV→AHeap→Prop} (h:aStep P md env H Kn o):∃ v,Kn v H∧∀ H',Det P md o env H' v H':=by
 obtain ⟨dst,op,ty,pos,after,guard⟩:=o
 simp only [litOp,Bool.and_eq_true] at hl
 obtain ⟨h1,h2⟩:=hl
 have ht:noTok md dst=true:=by
  unfold isLit at h2
  unfold noTok
  cases dst with
  | none=>rfl
  | some d=>simp only at h2 ⊢;cases hm:md d <;> rw [hm] at h2 <;> first | rfl | cases h2
 have hm:isMut md dst=false∧isOwn md dst=false:=by
  unfold isLit at h2
  unfold isMut isOwn
  cases dst with
  | none=>exact ⟨rfl,rfl⟩
  | some d=>simp only at h2 ⊢;cases hm:md d <;> rw [hm] at h2 <;> first | exact ⟨rfl,rfl⟩ | cases h2
 cases op <;> try (cases h1)
 rename_i t n parts
 have key:∀ {G:AHeap} {Kn:AV→AHeap→Prop},aStep P md env G Kn ⟨dst,.buildSlice t n parts,ty,pos,after,guard⟩↔aBuildSlice P md G Kn dst t n (parts.toList.map fun p=>(p.1,aeval env p.2)):=by
  intro G Kn
  rw [aStep_aop rfl rfl,tokW_noTok ht];rfl
 rw [key] at h
 unfold aBuildSlice at h
 split at h
 ·rename_i esz by_ z hel
  obtain ⟨a,b,h⟩:=h
  split at h
  ·rename_i rows hrows
   simp only [hm.1,hm.2,h2,Bool.false_eq_true,if_false,if_true] at h
   refine ⟨_,h,fun H'=>?_⟩
   unfold Det
   rw [key]
   simp only [aBuildSlice,hel,hrows,hm.1,hm.2,h2,Bool.false_eq_true,if_false,if_true]
   exact ⟨a,b,by simp⟩
  ·exact h.elim
 ·exact h.elim
theorem det_regM {P:Program} {md:Nat→Mode} {env:Env} {o:Oper} (hr:regM md o=true) {H:AHeap} {v:AV} (h:Det P md o env H v H) (H':AHeap):Det P md o env H' v H':=by
 unfold regM at hr
 rw [Bool.or_eq_true,Bool.and_eq_true] at hr
 rcases hr with ⟨h1,h2⟩ | h1
 ·exact det_reg h1 h2 h H'
 ·obtain ⟨v',⟨rfl,_⟩,h3⟩:=lit_aStep h1 h
  exact h3 H'
theorem aStep_pureM {P:Program} {md:Nat→Mode} {env:Env} {H:AHeap} {Kn:AV→AHeap→Prop} {o:Oper} (hp:pureM md o=true) (h:aStep P md env H Kn o):∃ v,Det P md o env H v H∧Kn v H:=by
 unfold pureM at hp
 rw [Bool.or_eq_true,Bool.and_eq_true] at hp
 rcases hp with ⟨h1,h2⟩ | h1
 ·exact aStep_pure h1 h2 h
 ·obtain ⟨v,h2,h3⟩:=lit_aStep h1 h
  exact ⟨v,h3 H,h2⟩
section
variable (P:Program) (md:Nat→Mode) (ops:Array Oper) (eff:List Nat) (Q:Env→AHeap→Prop)
def aCalm:List Oper→Nat→Env→AHeap→Prop
 | [],_,env,H=>Q env H
 | o::l,k,env,H=>match wantedA ops env o with
  | none=>False
  | some false=>aCalm l (k+1) (env.put o.dst (.tuple [])) H
  | some true=>if eff.contains k then ∃ v H1,Det P md o env H v H1∧aCalm l (k+1) (env.put o.dst v) H1
   else ∃ v,Det P md o env H v H∧aCalm l (k+1) (env.put o.dst v) H
def okPre:List Oper→Nat→Bool
 | [],_=>true
 | o::l,k=>!isCall o.op && !isNext o.op && (eff.contains k || (pureM md o)) && okPre l (k+1)
end
section
variable {P:Program} {md:Nat→Mode} {n0:Nat} {L:List Nat} {Q:AExit→Env→AHeap→Prop} {env:Env} {H:AHeap} {ops:Array Oper} {eff:List Nat} {W:List (List Nat)} {Qr:Env→AHeap→Prop}
theorem aLex_of_calm (hc:calmW md ops eff W=true):∀ {l:List Oper} {k:Nat} {Cs:List (Nat × (AHeap→Prop))} {Ps:List (Nat × AHeap)} {env:Env} {H:AHeap},(∀ j,l[j]?=ops[k+j]?) →
  (∀ c∈Cs,regAt md ops c.1=true→∀ H',c.2 H')→(∀ p∈Ps,eff.contains p.1=true)→aCalm P md ops eff Qr l k env H→aLex P md ops eff W Qr l k Cs Ps env H
 | [],_,_,_,_,_,_,_,_,h=>h
 | o::l,k,Cs,Ps,env,H,hl,hC,hp,h=>by
  have hl':∀ j,l[j]?=ops[k+1+j]?:=fun j=>by have:=hl (j+1);rw [show k+(j+1)=k+1+j by omega] at this;simpa using this
  have ho:ops[k]?=some o:=by have:=hl 0;simpa using this.symm
  simp only [aCalm] at h
  simp only [aLex]
  split at h
  ·exact h.elim
  ·rename_i hw
   simp only [hw]
   exact aLex_of_calm hc hl' hC hp h
  ·rename_i hw
   simp only [hw]
   by_cases he:eff.contains k=true
   ·simp only [he,if_true] at h ⊢
    obtain ⟨v,H1,h1,h2⟩:=h
    refine ⟨v,H1,h1,fun c hcm hu=>hC c hcm (calm_eff hc he hu) _,aLex_of_calm hc hl' hC (fun p hp'=>?_) h2⟩
    rcases List.mem_cons.1 hp' with rfl | hp'
    ·exact he
    ·exact hp p hp'
   ·have he':eff.contains k=false:=by simpa using he
    simp only [he',Bool.false_eq_true,if_false] at h ⊢
    obtain ⟨v,h1,h2⟩:=h
    refine ⟨v,h1,fun p hp' hu=>?_,aLex_of_calm hc hl' (fun c hcm hr=>?_) hp h2⟩
    ·rcases calm_read hc he' (hp p hp') with h3 | h3
     ·rw [h3] at hu;cases hu
     ·unfold regAt at h3
      rw [ho] at h3
      exact det_regM h3 h1 _
    ·rcases List.mem_cons.1 hcm with rfl | hcm
     ·unfold regAt at hr
      rw [ho] at hr
      exact fun H'=>det_regM hr h1 H'
     ·exact hC c hcm hr
theorem aCalm_end {k:Nat} (h:Qr env H):aCalm P md ops eff Qr [] k env H:=h
theorem aCalm_pre (n:Nat) {l:List Oper} {k:Nat} {env:Env} {H:AHeap} (hn:okPre md eff (l.take n) k=true)
  (h:∀ K:Env→AHeap→Prop,(∀ env H,aCalm P md ops eff Qr (l.drop n) (k+(l.take n).length) env H→K env H)→aOps P md ops K (l.take n) env H):aCalm P md ops eff Qr l k env H:=by
 have key:∀ (n:Nat) (l:List Oper) (k:Nat) (env:Env) (H:AHeap),okPre md eff (l.take n) k=true →
   aOps P md ops (fun env H=>aCalm P md ops eff Qr (l.drop n) (k+(l.take n).length) env H) (l.take n) env H→aCalm P md ops eff Qr l k env H:=by
  intro n
  induction n with
  | zero=>intro l k env H _ h;simpa [aOps] using h
  | succ n ih =>
   intro l k env H hn h
   cases l with
   | nil=>simpa [aOps] using h
   | cons o l =>
    simp only [List.take_succ_cons,okPre,Bool.and_eq_true,Bool.not_eq_true',Bool.or_eq_true] at hn
    obtain ⟨⟨⟨h1,h2⟩,h3⟩,h4⟩:=hn
    simp only [List.take_succ_cons,List.drop_succ_cons,aOps,List.length_cons] at h
    have e:k+((l.take n).length+1)=k+1+(l.take n).length:=by omega
    rw [e] at h
    simp only [aCalm]
    split at h
    ·rename_i hw
     simp only [hw]
     by_cases he:eff.contains k=true
     ·simp only [he,if_true]
      rw [aStep_aop h1 h2] at h
      obtain ⟨v,H1,g1,g2⟩:=aopT_det h
      exact ⟨v,H1,(aStep_aop h1 h2 _ _).2 g1,ih l (k+1) _ _ h4 g2⟩
     ·simp only [he,if_false,Bool.false_eq_true]
      have h3':pureM md o=true:=by
       rcases h3 with h3 | h3
       ·exact absurd h3 he
       ·exact h3
      obtain ⟨v,g1,g2⟩:=aStep_pureM h3' h
      exact ⟨v,g1,ih l (k+1) _ _ h4 g2⟩
    ·rename_i hw
     simp only [hw]
     exact ih l (k+1) _ _ h4 h
    ·exact h.elim
 exact key n l k env H hn (h _ fun _ _ h=>h)
theorem aCalm_skip {k:Nat} {o:Oper} {rest:List Oper} (hw:wantedA ops env o=some false) (hk:aCalm P md ops eff Qr rest (k+1) (env.put o.dst (.tuple [])) H):aCalm P md ops eff Qr (o::rest) k env H:=by
 simp only [aCalm,hw]
 exact hk
theorem aCalm_call0 {k:Nat} {o:Oper} {rest:List Oper} {g:FuncId} {as caps:List AV} {v:AV} {f:Operand} {args:Array Operand} {tys:Array TypeId}
  (h:ACalls P g as H v H) (hw:wantedA ops env o=some true) (he:eff.contains k=false) (ho:o.op=.call ⟨.value f,args,tys⟩) (hf:aeval env f=.fn g caps) (ha:args.toList.map (aeval env)++caps=as)
  (hk:aCalm P md ops eff Qr rest (k+1) (env.put o.dst v) H):aCalm P md ops eff Qr (o::rest) k env H:=by
 simp only [aCalm,hw,he,Bool.false_eq_true,if_false]
 refine ⟨v,?_,hk⟩
 show aStep P md env H _ o
 simp only [aStep,ho,hf,ha]
 exact h
theorem aCalm_calle {k:Nat} {o:Oper} {rest:List Oper} {g:FuncId} {as caps:List AV} {v:AV} {H1:AHeap} {f:Operand} {args:Array Operand} {tys:Array TypeId}
  (h:ACalls P g as H v H1) (hw:wantedA ops env o=some true) (he:eff.contains k=true) (ho:o.op=.call ⟨.value f,args,tys⟩) (hf:aeval env f=.fn g caps) (ha:args.toList.map (aeval env)++caps=as)
  (hk:aCalm P md ops eff Qr rest (k+1) (env.put o.dst v) H1):aCalm P md ops eff Qr (o::rest) k env H:=by
 simp only [aCalm,hw,he,if_true]
 refine ⟨v,H1,?_,hk⟩
 show aStep P md env H _ o
 simp only [aStep,ho,hf,ha]
 exact h
theorem aLex_calleA {k:Nat} {Cs:List (Nat × (AHeap→Prop))} {Ps:List (Nat × AHeap)} {o:Oper} {rest:List Oper} {g:FuncId} {as caps:List AV} {v:AV} {H1:AHeap} {f:Operand} {args:Array Operand} {tys:Array TypeId}
  (h:ACalls P g as H v H1) (hw:wantedA ops env o=some true) (he:eff.contains k=true) (ho:o.op=.call ⟨.value f,args,tys⟩) (hf:aeval env f=.fn g caps) (ha:args.toList.map (aeval env)++caps=as)
  (h2:∀ c∈Cs,unord W k c.1=true→c.2 H1) (hk:aLex P md ops eff W Qr rest (k+1) Cs ((k,H)::Ps) (env.put o.dst v) H1):aLex P md ops eff W Qr (o::rest) k Cs Ps env H:=by
 refine aLex_calle hw he ?_ h2 hk
 show aStep P md env H _ o
 simp only [aStep,ho,hf,ha]
 exact h
theorem acalls_wk {g:FuncId} {as as':List AV} {R:AV→AHeap→Prop} (h:ACallsR P g as' H R) (hw:WkE as as'):ACallsR P g as H R:=⟨h.1,fun K w cargs hI ha=>h.2 K w cargs hI (ha.wkE hw)⟩
theorem aOps_callW {o:Oper} {rest:List Oper} {g:FuncId} {as caps:List AV} {v:AV} {H':AHeap} {f:Operand} {args:Array Operand} {tys:Array TypeId}
  (h:ACalls P g as H v H') (hw:wantedA ops env o=some true) (ho:o.op=.call ⟨.value f,args,tys⟩) (hf:aeval env f=.fn g caps) (ha:WkE (args.toList.map (aeval env)++caps) as)
  (hk:aOps P md ops Qr rest (env.put o.dst v) H'):aOps P md ops Qr (o::rest) env H:=aOps_call (acalls_wk h ha) hw ho hf rfl hk
theorem aLex_callW {k:Nat} {Cs:List (Nat × (AHeap→Prop))} {Ps:List (Nat × AHeap)} {o:Oper} {rest:List Oper} {g:FuncId} {as caps:List AV} {v:AV} {f:Operand} {args:Array Operand} {tys:Array TypeId}
  (h:ACalls P g as H v H) (hw:wantedA ops env o=some true) (he:eff.contains k=false) (ho:o.op=.call ⟨.value f,args,tys⟩) (hf:aeval env f=.fn g caps) (ha:WkE (args.toList.map (aeval env)++caps) as)
  (h2:∀ p∈Ps,unord W k p.1=true→Det P md o env p.2 v p.2) (hk:aLex P md ops eff W Qr rest (k+1) ((k,fun H'=>Det P md o env H' v H')::Cs) Ps (env.put o.dst v) H):aLex P md ops eff W Qr (o::rest) k Cs Ps env H:=by
 refine aLex_call hw he ?_ h2 hk
 show aStep P md env H _ o
 simp only [aStep,ho,hf]
 exact acalls_wk h ha
@[simp] theorem HL_HL {H:AHeap} {bs cs:List ABlock}:HL (HL H bs) cs=HL H (bs++cs):=by
 refine AHeap.ext (fun i=>?_) (by simp [HL,Nat.add_assoc])
 show (if i < H.next+bs.length then (if i < H.next then H.get i else bs[i - H.next]?) else cs[i - (H.next+bs.length)]?)=if i < H.next then H.get i else (bs++cs)[i - H.next]?
 by_cases h1:i < H.next
 ·rw [if_pos h1,if_pos (by omega),if_pos h1]
 ·rw [if_neg h1]
  by_cases h2:i < H.next+bs.length
  ·rw [if_pos h2,if_neg h1,List.getElem?_append_left (by omega)]
  ·rw [if_neg h2,if_neg h1,List.getElem?_append_right (by omega),Nat.sub_add_eq]
@[simp] theorem nid_nid {n i j:Nat}:nid (nid n i) j=nid n (i+j):=by unfold nid;omega
theorem awp_sdc {id:Nat} {ops:List Oper} {b:Code} (eff:List Nat) (W:List (List Nat)) (hW:drawOk ops.toArray eff W=true) (hc:calmW md ops.toArray eff W=true) (h:∀ K:Env→AHeap→Prop,(∀ env H,awp P md n0 L b Q env H→K env H) →
  aCalm P md ops.toArray eff (fun env H=>K (Env.ofL (L.map fun t=>(t,env t))) H) ops 0 env H):awp P md n0 L (.seq (.region id ops.toArray true) b) Q env H :=
 awp_sd eff W hW fun K hK=>aLex_of_calm hc (fun j=>by simp) (by simp) (by simp) (h K hK)
theorem awp_drawc {id:Nat} {ops:List Oper} (eff:List Nat) (W:List (List Nat)) (hW:drawOk ops.toArray eff W=true) (hc:calmW md ops.toArray eff W=true)
  (h:aCalm P md ops.toArray eff (fun env H=>Q .normal (Env.ofL (L.map fun t=>(t,env t))) H) ops 0 env H):awp P md n0 L (.region id ops.toArray true) Q env H :=
 awp_draw eff W hW (aLex_of_calm hc (fun j=>by simp) (by simp) (by simp) h)
theorem aCalm_ops {l:List Oper} {k:Nat} (hn:okPre md eff l k=true) (h:aOps P md ops Qr l env H):aCalm P md ops eff Qr l k env H:=by
 refine aCalm_pre l.length (by rw [List.take_length];exact hn) fun K hK=>?_
 rw [List.take_length]
 rw [List.drop_length] at hK
 exact aOps_mono (fun env H h=>hK env H h) h
theorem awp_sdo {id:Nat} {ops:List Oper} {b:Code} (eff:List Nat) (W:List (List Nat)) (hW:drawOk ops.toArray eff W=true) (hc:calmW md ops.toArray eff W=true) (hp:okPre md eff ops 0=true) (h:∀ K:Env→AHeap→Prop,(∀ env H,awp P md n0 L b Q env H→K env H) →
  aOps P md ops.toArray (fun env H=>K (Env.ofL (L.map fun t=>(t,env t))) H) ops env H):awp P md n0 L (.seq (.region id ops.toArray true) b) Q env H :=
 awp_sdc eff W hW hc fun K hK=>aCalm_ops hp (h K hK)
theorem awp_drawo {id:Nat} {ops:List Oper} (eff:List Nat) (W:List (List Nat)) (hW:drawOk ops.toArray eff W=true) (hc:calmW md ops.toArray eff W=true) (hp:okPre md eff ops 0=true)
  (h:aOps P md ops.toArray (fun env H=>Q .normal (Env.ofL (L.map fun t=>(t,env t))) H) ops env H):awp P md n0 L (.region id ops.toArray true) Q env H :=
 awp_drawc eff W hW hc (aCalm_ops hp h)
end
end Go.Abs
