/- Drawing regions where one operation floats: how they are walked. -/
import Derived.Test.YtlhoigpidpokfaaGreatMD
set_option linter.unusedVariables false
set_option linter.unusedSimpArgs false
namespace Go.Abs
open Go
section
variable {P:Program} {md:Nat→Mode} {n0:Nat} {L:List Nat} {Q:AExit→Env→AHeap→Prop} {env:Env} {H:AHeap} {ops:Array Oper} {eff:List Nat} {W:List (List Nat)} {Qr:Env→AHeap→Prop} {j:Nat} {φ:AHeap→AHeap}
def AV.off (id:Nat):AV→Bool
 | .ref i _ | .map i | .vref i _ _ _ _=>i != id
 | _=>true
def isRd (o:Op):Bool:=isReg o || (match o with | .load _ _ | .lookup _ _ _ _=>true | .call ⟨.builtin .len,_,_⟩=>true | _=>false)
def offs (id:Nat) (env:Env) (o:Op):Bool:=o.operands.toList.all fun x=>(aeval env x).off id
theorem isRd_pure {o:Op} (h:isRd o=true):isPure o=true:=by
 unfold isRd at h
 rw [Bool.or_eq_true] at h
 rcases h with h | h
 ·exact isReg_pure h
 ·cases o <;> first | rfl | (revert h;simp) | skip
  rename_i c
  obtain ⟨callee,args,tys⟩:=c
  cases callee <;> first | (revert h;simp) | skip
  rename_i b
  cases b <;> first | rfl | (simp at h)
theorem ret_heap {H H':AHeap} {Kn:AV→Prop} {r:Option AV} (h:ret H (fun v _=>Kn v) r):ret H' (fun v H''=>H''=H'∧Kn v) r:=ret_reg h
theorem aop_frame {H':AHeap} {id:Nat} (hag:∀ i,i≠id→H'.get i=H.get i) {o:Oper} (hp:isRd o.op=true) (ht:noTok md o.dst=true) (hoff:(isReg o.op || offs id env o.op)=true) {Kn:AV→Prop} (h:aop P md env H (fun v _=>Kn v) o) :
  aop P md env H' (fun v H''=>H''=H'∧Kn v) o:=by
 by_cases hr:isReg o.op=true
 ·exact aop_reg hr ht h
 replace hoff:offs id env o.op=true:=by simpa [hr] using hoff
 obtain ⟨dst,op,ty,pos,after,guard⟩:=o
 unfold isRd at hp
 simp only [hr,Bool.false_or] at hp
 cases op <;> try (simp at hp;done)
 case load t a =>
  have hoa:(aeval env a).off id=true:=by simpa [offs,Op.operands] using hoff
  simp only [aop,aLoad] at h ⊢
  split at h
  ·exact h.elim
  rename_i k hk
  cases ha:aeval env a <;> rw [ha] at h hoa <;> (try simp only [ha] at h) <;> (try simp only [ha]) <;> try (exact h.elim)
  ·rename_i i o
   have hne:i≠id:=by simpa [AV.off] using hoa
   rw [hag i hne]
   split at h
   ·exact ret_heap h
   ·exact h.elim
  ·exact ret_heap h
  ·rename_i i len z row o
   have hne:i≠id:=by simpa [AV.off] using hoa
   rw [hag i hne]
   split at h
   ·obtain ⟨h1,h2,h3,h4⟩:=h
    refine ⟨h1,h2,h3,?_⟩
    split at h4
    ·exact ret_heap h4
    ·exact h4.elim
   ·exact h.elim
 case lookup t m k ok =>
  have hom:(aeval env m).off id=true:=by
   have:=hoff;simp [offs,Op.operands] at this;exact this.1
  simp only [aop,aLookup] at h ⊢
  split at h
  ·obtain ⟨h1,h⟩:=h
   refine ⟨h1,?_⟩
   split at h
   ·rename_i i hm
    rw [hm] at hom
    have hne:i≠id:=by simpa [AV.off] using hom
    rw [hag i hne]
    split at h
    ·obtain ⟨h2,h⟩:=h
     refine ⟨h2,?_⟩
     split at h
     ·exact ⟨trivial,h⟩
     ·exact ⟨trivial,h⟩
    ·exact h.elim
   ·exact ⟨trivial,h⟩
   ·exact h.elim
  ·exact h.elim
 case call c =>
  obtain ⟨callee,args,tys⟩:=c
  cases callee <;> try (simp at hp;done)
  rename_i b
  cases b <;> try (simp at hp;done)
  simp only [aop] at h ⊢
  split at h
  ·rename_i x t h1 h2
   have hox:(aeval env x).off id=true:=by
    have h3:x∈args.toList:=by rw [h1];simp
    have:=hoff
    simp only [offs,Op.operands,Call.operands,List.all_eq_true] at this
    exact this x (by simpa using h3)
   simp only [aLen] at h ⊢
   split at h
   ·exact ⟨h.1,trivial,h.2⟩
   ·exact ⟨h.1,trivial,h.2⟩
   ·exact ⟨h.1,trivial,h.2⟩
   ·exact ⟨h.1,trivial,h.2⟩
   ·exact ⟨h.1,trivial,h.2⟩
   ·exact ⟨h.1,trivial,h.2⟩
   ·rename_i i hx
    rw [hx] at hox
    have hne:i≠id:=by simpa [AV.off] using hox
    rw [hag i hne]
    obtain ⟨h3,h⟩:=h
    refine ⟨h3,?_⟩
    split at h
    ·exact ⟨trivial,h⟩
    ·exact h.elim
   ·exact h.elim
  ·exact h.elim
theorem det_frame {H':AHeap} {id:Nat} (hag:∀ i,i≠id→H'.get i=H.get i) {o:Oper} (hp:isRd o.op=true) (ht:noTok md o.dst=true) (hoff:(isReg o.op || offs id env o.op)=true) {v:AV} (h:Det P md o env H v H):Det P md o env H' v H':=by
 have h1:isCall o.op=false:=by
  have:=isRd_pure hp
  revert this;cases o.op <;> first | (intro _;rfl) | (intro h;cases h) | skip
  rename_i c;obtain ⟨callee,args,tys⟩:=c;cases callee <;> first | (intro _;rfl) | (intro h;cases h)
 have h2:isNext o.op=false:=by
  have:=isRd_pure hp
  revert this;cases o.op <;> first | (intro _;rfl) | (intro h;cases h)
 unfold Det at h ⊢
 rw [aStep_aop h1 h2,tokW_noTok ht] at h ⊢
 obtain ⟨v',H1,⟨rfl,rfl⟩,h4⟩:=aop_det h
 have h6:=aop_frame hag hp ht hoff (h4 (fun x _=>x=v') rfl)
 obtain ⟨v2,H2,⟨rfl,rfl⟩,h7⟩:=aop_det h6
 exact h7 _ ⟨rfl,rfl⟩
theorem appF_one {τ:Nat→Bool}:appF τ [(j,φ)] H=if τ j=true then φ H else H:=rfl
theorem flD_one {k:Nat} {o:Oper} {v:AV} {H1:AHeap} (hk:(k == j)=false) (h0:wt ops 2 k j=false→Det P md o env H v H1) (h1:wt ops 2 j k=false→Det P md o env (φ H) v (φ H1)):flD P md ops [(j,φ)] k o env H v H1:=by
 have hkj:k≠j:=by simpa using hk
 unfold flD
 rw [if_neg (by simp [hkj])]
 intro τ hτ
 rw [appF_one,appF_one]
 split
 ·rename_i ht
  refine h1 ?_
  rw [Bool.eq_false_iff]
  intro hw
  have:=hτ.2 j (by simp) (.inl hw)
  rw [ht] at this;cases this
 ·rename_i ht
  refine h0 ?_
  rw [Bool.eq_false_iff]
  intro hw
  exact ht (hτ.1 j (by simp) hw)
theorem flD_self {o:Oper} {v:AV} (h:Det P md o env H v (φ H)):flD P md ops [(j,φ)] j o env H v H:=by
 unfold flD
 rw [if_pos (by simp)]
 refine ⟨rfl,fun τ hτ=>?_⟩
 have:=hτ.2 j (by simp) (.inr rfl)
 rw [appF_one,appF_one,if_neg (by rw [this];simp),if_pos (by simp)]
 exact h
theorem flD_any {k:Nat} {o:Oper} {v:AV} {id:Nat} (hk:(k == j)=false) (hφ:∀ G:AHeap,∀ i,i≠id→(φ G).get i=G.get i) (hp:isRd o.op=true) (ht:noTok md o.dst=true) (hoff:(isReg o.op || offs id env o.op)=true) (h:Det P md o env H v H):flD P md ops [(j,φ)] k o env H v H :=
 flD_one hk (fun _=>h) fun _=>det_frame (hφ H) hp ht hoff h
def calmF (md:Nat→Mode) (ops:Array Oper) (eff:List Nat) (W:List (List Nat)) (j:Nat):Bool :=
 (List.range W.length).all fun k=>k == j || if eff.contains k then (W.getD k []).all (fun i=>i == j || regAt md ops i) else (W.getD k []).all (fun i=>!eff.contains i) || regAt md ops k
theorem calmF_eff (h:calmF md ops eff W j=true) {k:Nat} (hk:k≠j) (he:eff.contains k=true) {i:Nat} (hi:i≠j) (hu:unord W k i=true):regAt md ops i=true:=by
 unfold unord at hu
 by_cases hkl:k < W.length
 ·have:=List.all_eq_true.1 h k (by simpa using hkl)
  simp only [he,if_true,Bool.or_eq_true,beq_iff_eq,hk,false_or] at this
  have:=List.all_eq_true.1 this i (by simpa using hu)
  simpa [hi] using this
 ·simp [List.getD,List.getElem?_eq_none (Nat.le_of_not_lt hkl)] at hu
theorem calmF_read (h:calmF md ops eff W j=true) {k:Nat} (hk:k≠j) (he:eff.contains k=false) {i:Nat} (hi:eff.contains i=true):unord W k i=false∨regAt md ops k=true:=by
 unfold unord
 by_cases hkl:k < W.length
 ·have:=List.all_eq_true.1 h k (by simpa using hkl)
  simp only [he,Bool.false_eq_true,if_false,Bool.or_eq_true,beq_iff_eq,hk,false_or] at this
  rcases this with this | this
  ·left
   rw [Bool.eq_false_iff]
   intro hc
   have:=List.all_eq_true.1 this i (by simpa using hc)
   rw [hi] at this;cases this
  ·exact .inr this
 ·left;simp [List.getD,List.getElem?_eq_none (Nat.le_of_not_lt hkl)]
section
variable (P md ops eff W j φ Qr)
def fLex:List Oper→Nat→List (Nat × (AHeap→Prop))→List (Nat × AHeap)→Env→AHeap→Prop
 | [],_,_,_,env,H=>Qr env H
 | o::l,k,Cs,Ps,env,H=>match wantedA ops env o with
  | none=>False
  | some false=>fLex l (k+1) Cs Ps (env.put o.dst (.tuple [])) H
  | some true=>if eff.contains k then ∃ v H1,flD P md ops [(j,φ)] k o env H v H1∧(∀ c∈Cs,unord W k c.1=true→c.2 H1)∧fLex l (k+1) Cs ((k,H)::Ps) (env.put o.dst v) H1
   else if k == j then ∃ v,Det P md o env H v (φ H)∧(∀ p∈Ps,unord W k p.1=true→Det P md o env p.2 v (φ p.2))∧fLex l (k+1) ((k,fun H'=>Det P md o env H' v (φ H'))::Cs) Ps (env.put o.dst v) H
   else ∃ v,flD P md ops [(j,φ)] k o env H v H∧fLex l (k+1) Cs Ps (env.put o.dst v) H
end
theorem flD_reg {k:Nat} {o:Oper} {v:AV} (hk:k≠j) (hr:regM md o=true) {G:AHeap} (h:flD P md ops [(j,φ)] k o env G v G) (H:AHeap):flD P md ops [(j,φ)] k o env H v H:=by
 unfold flD at h ⊢
 rw [if_neg (by simp [hk])] at h ⊢
 exact fun τ hτ=>det_regM hr (h τ hτ) _
theorem gLex_of_f (hc:calmF md ops eff W j=true):∀ {l:List Oper} {k:Nat} {Cs Cs':List (Nat × (AHeap→Prop))} {Ps:List (Nat × AHeap)} {env:Env} {H:AHeap},(∀ m,l[m]?=ops[k+m]?)→eff.contains j=false →
  (∀ c∈Cs',(∃ c0∈Cs,c0.1=c.1∧∀ H',c0.2 H'→c.2 H')∨(c.1≠j∧(regAt md ops c.1=true→∀ H',c.2 H')))→(∀ p∈Ps,eff.contains p.1=true)→fLex P md ops eff W Qr j φ l k Cs Ps env H→gLex ops eff W (flD P md ops [(j,φ)]) Qr l k Cs' Ps env H
 | [],_,_,_,_,_,_,_,_,_,_,h=>h
 | o::l,k,Cs,Cs',Ps,env,H,hl,hej,hC,hp,h=>by
  have hl':∀ m,l[m]?=ops[k+1+m]?:=fun m=>by have:=hl (m+1);rw [show k+(m+1)=k+1+m by omega] at this;simpa using this
  have ho:ops[k]?=some o:=by have:=hl 0;simpa using this.symm
  simp only [fLex] at h
  simp only [gLex]
  split at h
  ·exact h.elim
  ·rename_i hw
   simp only [hw]
   exact gLex_of_f hc hl' hej hC hp h
  ·rename_i hw
   simp only [hw]
   by_cases he:eff.contains k=true
   ·have hkj:k≠j:=fun e=>by rw [e,hej] at he;cases he
    simp only [he,if_true] at h ⊢
    obtain ⟨v,H1,h1,h2,h3⟩:=h
    refine ⟨v,H1,h1,fun c hcm hu=>?_,gLex_of_f hc hl' hej hC (fun p hp'=>?_) h3⟩
    ·rcases hC c hcm with ⟨c0,h4,h5,h6⟩ | ⟨h4,h5⟩
     ·exact h6 _ (h2 c0 h4 (by rw [h5];exact hu))
     ·exact h5 (calmF_eff hc hkj he h4 hu) _
    ·rcases List.mem_cons.1 hp' with rfl | hp'
     ·exact he
     ·exact hp p hp'
   ·have he':eff.contains k=false:=by simpa using he
    simp only [he',Bool.false_eq_true,if_false] at h ⊢
    split at h
    ·rename_i hkj
     have hkj':k=j:=by simpa using hkj
     obtain ⟨v,h1,h2,h3⟩:=h
     have hs:∀ G,Det P md o env G v (φ G)→flD P md ops [(j,φ)] k o env G v G:=fun G hG=>by rw [hkj'];exact flD_self hG
     refine ⟨v,hs _ h1,fun p hp' hu=>hs _ (h2 p hp' hu),gLex_of_f (Cs:=(k,fun H'=>Det P md o env H' v (φ H'))::Cs) hc hl' hej (fun c hcm=>?_) hp h3⟩
     rcases List.mem_cons.1 hcm with rfl | hcm
     ·exact .inl ⟨_,List.mem_cons_self ..,rfl,fun H' h=>hs _ h⟩
     ·rcases hC c hcm with ⟨c0,h4,h5⟩ | h4
      ·exact .inl ⟨c0,List.mem_cons_of_mem _ h4,h5⟩
      ·exact .inr h4
    ·rename_i hkj
     have hkj':k≠j:=by simpa using hkj
     obtain ⟨v,h1,h2⟩:=h
     refine ⟨v,h1,fun p hp' hu=>?_,gLex_of_f hc hl' hej (fun c hcm=>?_) hp h2⟩
     ·rcases calmF_read hc hkj' he' (hp p hp') with h3 | h3
      ·rw [h3] at hu;cases hu
      ·unfold regAt at h3
       rw [ho] at h3
       exact flD_reg hkj' h3 h1 _
     ·rcases List.mem_cons.1 hcm with rfl | hcm
      ·refine .inr ⟨hkj',fun hr H'=>?_⟩
       unfold regAt at hr
       rw [ho] at hr
       exact flD_reg hkj' hr h1 H'
      ·exact hC c hcm
def oOps (P:Program) (md:Nat→Mode) (ops:Array Oper) (id:Nat) (Qe:Env→Prop):List Oper→Env→AHeap→Prop
 | [],env,_=>Qe env
 | o::rest,env,H=>match wantedA ops env o with
  | some true=>(regM md o || offs id env o.op)=true∧aStep P md env H (fun v _=>oOps P md ops id Qe rest (env.put o.dst v) H) o
  | some false=>oOps P md ops id Qe rest (env.put o.dst (.tuple [])) H
  | none=>False
def okRd (md:Nat→Mode) (eff:List Nat) (j:Nat):List Oper→Nat→Bool
 | [],_=>true
 | o::l,k=>((isRd o.op && noTok md o.dst) || litOp md o) && !eff.contains k && !(k == j) && okRd md eff j l (k+1)
theorem fLex_pre (id:Nat) (n:Nat) {l:List Oper} {k:Nat} {Cs:List (Nat × (AHeap→Prop))} {Ps:List (Nat × AHeap)} {env:Env} {H:AHeap} (hφ:∀ G:AHeap,∀ i,i≠id→(φ G).get i=G.get i) (hn:okRd md eff j (l.take n) k=true)
  (h:∀ K:Env→Prop,(∀ env,fLex P md ops eff W Qr j φ (l.drop n) (k+(l.take n).length) Cs Ps env H→K env)→oOps P md ops id K (l.take n) env H):fLex P md ops eff W Qr j φ l k Cs Ps env H:=by
 have key:∀ (n:Nat) (l:List Oper) (k:Nat) (env:Env),okRd md eff j (l.take n) k=true →
   oOps P md ops id (fun env=>fLex P md ops eff W Qr j φ (l.drop n) (k+(l.take n).length) Cs Ps env H) (l.take n) env H→fLex P md ops eff W Qr j φ l k Cs Ps env H:=by
  intro n
  induction n with
  | zero=>intro l k env _ h;simpa [oOps] using h
  | succ n ih =>
   intro l k env hn h
   cases l with
   | nil=>simpa [oOps] using h
   | cons o l =>
    simp only [List.take_succ_cons,okRd,Bool.and_eq_true,Bool.not_eq_true'] at hn
    obtain ⟨⟨⟨h1,h3⟩,h4⟩,h5⟩:=hn
    simp only [List.take_succ_cons,List.drop_succ_cons,oOps,List.length_cons] at h
    have e:k+((l.take n).length+1)=k+1+(l.take n).length:=by omega
    rw [e] at h
    simp only [fLex]
    split at h
    ·rename_i hw
     simp only [hw,h3,h4,Bool.false_eq_true,if_false]
     obtain ⟨hoff,h⟩:=h
     rw [Bool.or_eq_true,Bool.and_eq_true] at h1
     rcases h1 with ⟨h1,h2⟩ | h1
     ·obtain ⟨v,g1,g2⟩:=aStep_pure (isRd_pure h1) h2 h
      have hoff':(isReg o.op || offs id env o.op)=true:=by
       rw [Bool.or_eq_true] at hoff ⊢
       rcases hoff with hoff | hoff
       ·unfold regM at hoff
        rw [Bool.or_eq_true,Bool.and_eq_true] at hoff
        rcases hoff with hoff | hoff
        ·exact .inl hoff.1
        ·exfalso
         have hp:=isRd_pure h1
         revert hoff hp
         unfold litOp
         cases o.op <;> simp [isPure]
       ·exact .inr hoff
      exact ⟨v,flD_any h4 hφ h1 h2 hoff' g1,ih l (k+1) _ h5 g2⟩
     ·obtain ⟨v,g2,g1⟩:=lit_aStep h1 h
      exact ⟨v,flD_one h4 (fun _=>g1 _) (fun _=>g1 _),ih l (k+1) _ h5 g2⟩
    ·rename_i hw
     simp only [hw]
     exact ih l (k+1) _ h5 h
    ·exact h.elim
 exact key n l k env hn (h _ fun _ h=>h)
theorem fLex_end {k:Nat} {Cs:List (Nat × (AHeap→Prop))} {Ps:List (Nat × AHeap)} {env:Env} {H:AHeap} (h:Qr env H):fLex P md ops eff W Qr j φ [] k Cs Ps env H:=h
theorem fLex_call0 {k:Nat} {Cs:List (Nat × (AHeap→Prop))} {Ps:List (Nat × AHeap)} {env:Env} {H:AHeap} {o:Oper} {rest:List Oper} {g:FuncId} {as caps:List AV} {v:AV} {f:Operand} {args:Array Operand} {tys:Array TypeId}
  (h:ACalls P g as H v H) (h':ACalls P g as (φ H) v (φ H)) (hw:wantedA ops env o=some true) (he:eff.contains k=false) (hk:(k == j)=false) (ho:o.op=.call ⟨.value f,args,tys⟩) (hf:aeval env f=.fn g caps) (ha:args.toList.map (aeval env)++caps=as)
  (hr:fLex P md ops eff W Qr j φ rest (k+1) Cs Ps (env.put o.dst v) H):fLex P md ops eff W Qr j φ (o::rest) k Cs Ps env H:=by
 simp only [fLex,hw,he,hk,Bool.false_eq_true,if_false]
 have key:∀ G,ACalls P g as G v G→Det P md o env G v G:=fun G hG=>by
  show aStep P md env G _ o
  simp only [aStep,ho,hf,ha]
  exact hG
 exact ⟨v,flD_one hk (fun _=>key _ h) (fun _=>key _ h'),hr⟩
theorem fLex_effA {k:Nat} {Cs:List (Nat × (AHeap→Prop))} {Ps:List (Nat × AHeap)} {env:Env} {H:AHeap} {o:Oper} {rest:List Oper} (hw:wantedA ops env o=some true) (he:eff.contains k=true) (hk:(k == j)=false) (hc:isCall o.op=false) (hn:isNext o.op=false) (hkj:wt ops 2 k j=true)
  (h:∀ K:AV→AHeap→Prop,(∀ v H1,φ H1=H1→(∀ c∈Cs,unord W k c.1=true→c.2 H1)→fLex P md ops eff W Qr j φ rest (k+1) Cs ((k,H)::Ps) (env.put o.dst v) H1→K v H1) →
   aop P md env (φ H) (tokW md o.dst K) o):fLex P md ops eff W Qr j φ (o::rest) k Cs Ps env H:=by
 obtain ⟨v,H1,h1,h2,h3,h4⟩:=aopT_det (h (fun v H1=>φ H1=H1∧(∀ c∈Cs,unord W k c.1=true→c.2 H1)∧fLex P md ops eff W Qr j φ rest (k+1) Cs ((k,H)::Ps) (env.put o.dst v) H1) fun v H1 a b c=>⟨a,b,c⟩)
 simp only [fLex,hw,he,if_true]
 refine ⟨v,H1,flD_one hk (fun h=>by rw [hkj] at h;cases h) (fun _=>?_),h3,h4⟩
 rw [h2]
 exact (aStep_aop hc hn _ _).2 h1
theorem fLex_self {Cs:List (Nat × (AHeap→Prop))} {Ps:List (Nat × AHeap)} {env:Env} {H:AHeap} {o:Oper} {rest:List Oper} {v:AV} (hw:wantedA ops env o=some true) (he:eff.contains j=false)
  (h:Det P md o env H v (φ H)) (hp:∀ p∈Ps,unord W j p.1=true→Det P md o env p.2 v (φ p.2))
  (hr:fLex P md ops eff W Qr j φ rest (j+1) ((j,fun H'=>Det P md o env H' v (φ H'))::Cs) Ps (env.put o.dst v) H):fLex P md ops eff W Qr j φ (o::rest) j Cs Ps env H:=by
 simp only [fLex,hw,he,beq_self_eq_true,Bool.false_eq_true,if_false,if_true]
 exact ⟨v,h,hp,hr⟩
theorem awp_drawf {id:Nat} {ops:List Oper} (m j:Nat) (φ:AHeap→AHeap) (eff:List Nat) (W:List (List Nat)) {env:Env} {H:AHeap} (hW:drawOk ops.toArray eff W=true) (hf:flOk ops.toArray eff [(j,φ)]=true) (hc:calmF md ops.toArray eff W j=true)
  (h:fLex P md ops.toArray eff W (fun env H=>Q .normal (Env.ofL (L.map fun t=>(t,env t))) (φ H)) j φ ops 0 [] [] env (holes m H)):awp P md n0 L (.region id ops.toArray true) Q env H:=by
 have hej:eff.contains j=false:=by
  have:=hf;simp only [flOk,List.all_cons,List.all_nil,Bool.and_true,Bool.and_eq_true,Bool.not_eq_true'] at this;exact this.1
 exact .inr ⟨m,[(j,φ)],eff,W,hW,hf,gLex_of_f (Cs:=[]) hc (fun m=>by simp) hej (by simp) (by simp) h⟩
theorem awp_sdf {id:Nat} {ops:List Oper} {b:Code} (m j:Nat) (φ:AHeap→AHeap) (eff:List Nat) (W:List (List Nat)) {env:Env} {H:AHeap} (hW:drawOk ops.toArray eff W=true) (hf:flOk ops.toArray eff [(j,φ)]=true) (hc:calmF md ops.toArray eff W j=true)
  (h:∀ K:Env→AHeap→Prop,(∀ env H,awp P md n0 L b Q env H→K env H)→fLex P md ops.toArray eff W (fun env H=>K (Env.ofL (L.map fun t=>(t,env t))) (φ H)) j φ ops 0 [] [] env (holes m H)):awp P md n0 L (.seq (.region id ops.toArray true) b) Q env H :=
 awp_seq_k fun K hK=>awp_drawf m j φ eff W hW hf hc (h K hK)
def fillAt (id:Nat) (l:List AV) (H:AHeap):AHeap:=match H.get id with | some .hole=>H.upd id (.cells l) | _=>H
theorem fillAt_off {id:Nat} {l:List AV} (G:AHeap) (i:Nat) (h:i≠id):(fillAt id l G).get i=G.get i:=by
 unfold fillAt
 split
 ·exact get_upd_ne h
 ·rfl
theorem upd_off {id:Nat} {B:ABlock} (G:AHeap) (i:Nat) (h:i≠id):(G.upd id B).get i=G.get i:=get_upd_ne h
theorem det_late {o:Oper} {t:TypeId} {d:Nat} {id:Nat} {l:List AV} {z:Value} {env:Env} {H:AHeap} (ho:o.op=.alloc t) (hd:o.dst=some d) (hmd:md d=.late) (hz:zeroT P t=some z) (hl:z.cells.toList.map .v=l) (hh:H.get id=some .hole) :
  Det P md o env H (.ref id 0) (fillAt id l H):=by
 obtain ⟨dst,op,ty,pos,after,guard⟩:=o
 simp only at ho hd
 subst ho hd hl
 unfold Det
 rw [aStep_aop rfl rfl,tokW_noTok (by simp [noTok,hmd])]
 simp only [aop,aAlloc,hz,Option.map_some,hmd]
 exact ⟨id,hh,rfl,by simp only [fillAt,hh]⟩
end
end Go.Abs
namespace Go.Abs
open Go
section
variable {P:Program} {md:Nat→Mode} {n0:Nat} {L:List Nat} {Q:AExit→Env→AHeap→Prop} {env:Env} {H:AHeap} {ops:Array Oper} {eff:List Nat} {W:List (List Nat)} {Qr:Env→AHeap→Prop} {j:Nat} {φ:AHeap→AHeap}
section
variable (P md ops eff W j φ Qr)
end
end
end Go.Abs
