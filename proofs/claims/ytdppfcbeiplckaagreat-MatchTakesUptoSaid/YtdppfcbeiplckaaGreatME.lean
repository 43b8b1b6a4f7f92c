/- Drawing regions where one operation floats: how they are walked. -/
import Derived.Test.YtdppfcbeiplckaaGreatMD
set_option linter.unusedVariables false
set_option linter.unusedSimpArgs false
namespace Go.Abs
open Go
section
variable {P:Program} {md:Nat→Mode} {n0:Nat} {L:List Nat} {Q:AExit→Env→AHeap→Prop} {env:Env} {H:AHeap} {ops:Array Oper} {eff:List Nat} {W:List (List Nat)} {Qr:Env→AHeap→Prop} {j:Nat} {φ:AHeap→AHeap}
def AV.off (id:Nat):AV→Bool
 | .ref i _ | .map i | .vref i _ _ _ _=>i != id
 | _=>true
theorem appF_one {τ:Nat→Bool}:appF τ [(j,φ)] H=if τ j=true then φ H else H:=rfl
theorem flD_one {k:Nat} {o:Oper} {v:AV} {H1:AHeap} (hk:(k == j)=false) (h0:wt ops 2 k j=false→Det P md o env H v H1) (h1:wt ops 2 j k=false→Det P md o env (φ H) v (φ H1)):flD P md ops [(j,φ)] k o env H v H1:=by
 have hkj:k≠j:=by simpa using hk
 unfold flD
 rw [if_neg (by simp [hkj])]
 intro τ hτ
 rw [appF_one,appF_one]
 split
 ·rename_i ht
  refine h1 ?_
  rw [Bool.eq_false_iff]
  intro hw
  have:=hτ.2 j (by simp) (.inl hw)
  rw [ht] at this;cases this
 ·rename_i ht
  refine h0 ?_
  rw [Bool.eq_false_iff]
  intro hw
  exact ht (hτ.1 j (by simp) hw)
theorem flD_self {o:Oper} {v:AV} (h:Det P md o env H v (φ H)):flD P md ops [(j,φ)] j o env H v H:=by
 unfold flD
 rw [if_pos (by simp)]
 refine ⟨rfl,fun τ hτ=>?_⟩
 have:=hτ.2 j (by simp) (.inr rfl)
 rw [appF_one,appF_one,if_neg (by rw [this];simp),if_pos (by simp)]
 exact h
section
variable (P md ops eff W j φ Qr)
end
def fillAt (id:Nat) (l:List AV) (H:AHeap):AHeap:=match H.get id with | some .hole=>H.upd id (.cells l) | _=>H
theorem det_late {o:Oper} {t:TypeId} {d:Nat} {id:Nat} {l:List AV} {z:Value} {env:Env} {H:AHeap} (ho:o.op=.alloc t) (hd:o.dst=some d) (hmd:md d=.late) (hz:zeroT P t=some z) (hl:z.cells.toList.map .v=l) (hh:H.get id=some .hole) :
  Det P md o env H (.ref id 0) (fillAt id l H):=by
 obtain ⟨dst,op,ty,pos,after,guard⟩:=o
 simp only at ho hd
 subst ho hd hl
 unfold Det
 rw [aStep_aop rfl rfl,tokW_noTok (by simp [noTok,hmd])]
 simp only [aop,aAlloc,hz,Option.map_some,hmd]
 exact ⟨id,hh,rfl,by simp only [fillAt,hh]⟩
end
end Go.Abs
namespace Go.Abs
open Go
section
variable {P:Program} {md:Nat→Mode} {n0:Nat} {L:List Nat} {Q:AExit→Env→AHeap→Prop} {env:Env} {H:AHeap} {ops:Array Oper} {eff:List Nat} {W:List (List Nat)} {Qr:Env→AHeap→Prop} {j:Nat} {φ:AHeap→AHeap}
def stillRd (md:Nat→Mode) (env:Env) (o:Oper):Bool:=regM md o || (noTok md o.dst && match o.op with | .load _ a=>(match aeval env a with | .iptr _=>true | _=>false) | _=>false)
theorem still_step {o:Oper} {Kn:AV→AHeap→Prop} (hs:stillRd md env o=true) (h:aStep P md env H Kn o):∃ v,(∀ G,Det P md o env G v G)∧Kn v H:=by
 unfold stillRd at hs
 rw [Bool.or_eq_true,Bool.and_eq_true] at hs
 rcases hs with hs | ⟨h1,h2⟩
 ·have hp:pureM md o=true:=by
   unfold regM at hs
   unfold pureM
   rw [Bool.or_eq_true,Bool.and_eq_true] at hs ⊢
   exact hs.imp (fun h=>⟨isReg_pure h.1,h.2⟩) id
  obtain ⟨v,g1,g2⟩:=aStep_pureM hp h
  exact ⟨v,det_regM hs g1,g2⟩
 ·obtain ⟨dst,op,ty,pos,after,guard⟩:=o
  cases op with
  | load t a =>
   simp only at h1 h2
   cases ha:aeval env a with
   | iptr cs =>
    obtain ⟨v,g1,g2⟩:=aStep_pure rfl h1 h
    refine ⟨v,fun G=>?_,g2⟩
    unfold Det at g1 ⊢
    rw [aStep_aop rfl rfl,tokW_noTok h1] at g1 ⊢
    simp only [aop,aLoad,ha] at g1 ⊢
    split at g1
    ·exact g1.elim
    ·rename_i k hk
     cases hr:readC k cs with
     | none=>rw [hr] at g1;exact g1.elim
     | some x=>rw [hr] at g1;exact ⟨g1.1,rfl⟩
   | _=>rw [ha] at h2;cases h2
  | _=>cases h2
section
variable (P md ops eff W j φ Qr)
def sLex:List Oper→Nat→List (Nat × (AHeap→Prop))→List (Nat × AHeap)→Env→AHeap→Prop
 | [],_,_,_,env,H=>Qr env H
 | o::l,k,Cs,Ps,env,H=>match wantedA ops env o with
  | none=>False
  | some false=>sLex l (k+1) Cs Ps (env.put o.dst (.tuple [])) H
  | some true=>if eff.contains k then ∃ v H1,flD P md ops [(j,φ)] k o env H v H1∧(∀ c∈Cs,unord W k c.1=true→c.2 H1)∧sLex l (k+1) Cs ((k,H)::Ps) (env.put o.dst v) H1
   else if k == j then ∃ v,Det P md o env H v (φ H)∧(∀ p∈Ps,unord W k p.1=true→Det P md o env p.2 v (φ p.2))∧sLex l (k+1) ((k,fun H'=>Det P md o env H' v (φ H'))::Cs) Ps (env.put o.dst v) H
   else ∃ v,(∀ G,Det P md o env G v G)∧sLex l (k+1) Cs Ps (env.put o.dst v) H
end
theorem gLex_of_s:∀ {l:List Oper} {k:Nat} {Cs Cs':List (Nat × (AHeap→Prop))} {Ps:List (Nat × AHeap)} {env:Env} {H:AHeap},eff.contains j=false →
  (∀ c∈Cs',(∃ c0∈Cs,c0.1=c.1∧∀ H',c0.2 H'→c.2 H')∨∀ H',c.2 H')→sLex P md ops eff W Qr j φ l k Cs Ps env H→gLex ops eff W (flD P md ops [(j,φ)]) Qr l k Cs' Ps env H
 | [],_,_,_,_,_,_,_,_,h=>h
 | o::l,k,Cs,Cs',Ps,env,H,hej,hC,h=>by
  simp only [sLex] at h
  simp only [gLex]
  split at h
  ·exact h.elim
  ·rename_i hw
   simp only [hw]
   exact gLex_of_s hej hC h
  ·rename_i hw
   simp only [hw]
   by_cases he:eff.contains k=true
   ·have hkj:k≠j:=fun e=>by rw [e,hej] at he;cases he
    simp only [he,if_true] at h ⊢
    obtain ⟨v,H1,h1,h2,h3⟩:=h
    refine ⟨v,H1,h1,fun c hcm hu=>?_,gLex_of_s hej hC h3⟩
    rcases hC c hcm with ⟨c0,h4,h5,h6⟩ | h4
    ·exact h6 _ (h2 c0 h4 (by rw [h5];exact hu))
    ·exact h4 _
   ·have he':eff.contains k=false:=by simpa using he
    simp only [he',Bool.false_eq_true,if_false] at h ⊢
    split at h
    ·rename_i hkj
     have hkj':k=j:=by simpa using hkj
     obtain ⟨v,h1,h2,h3⟩:=h
     have hs:∀ G,Det P md o env G v (φ G)→flD P md ops [(j,φ)] k o env G v G:=fun G hG=>by rw [hkj'];exact flD_self hG
     refine ⟨v,hs _ h1,fun p hp' hu=>hs _ (h2 p hp' hu),gLex_of_s (Cs:=(k,fun H'=>Det P md o env H' v (φ H'))::Cs) hej (fun c hcm=>?_) h3⟩
     rcases List.mem_cons.1 hcm with rfl | hcm
     ·exact .inl ⟨_,List.mem_cons_self ..,rfl,fun H' h=>hs _ h⟩
     ·rcases hC c hcm with ⟨c0,h4,h5⟩ | h4
      ·exact .inl ⟨c0,List.mem_cons_of_mem _ h4,h5⟩
      ·exact .inr h4
    ·rename_i hkj
     have hkj':(k == j)=false:=by simpa using hkj
     obtain ⟨v,h1,h2⟩:=h
     have hs:∀ G,flD P md ops [(j,φ)] k o env G v G:=fun G=>flD_one hkj' (fun _=>h1 G) (fun _=>h1 _)
     refine ⟨v,hs _,fun p _ _=>hs _,gLex_of_s hej (fun c hcm=>?_) h2⟩
     rcases List.mem_cons.1 hcm with rfl | hcm
     ·exact .inr fun H'=>hs H'
     ·exact hC c hcm
def sOps (P:Program) (md:Nat→Mode) (ops:Array Oper) (Qe:Env→Prop):List Oper→Env→AHeap→Prop
 | [],env,_=>Qe env
 | o::rest,env,H=>match wantedA ops env o with
  | some true=>stillRd md env o=true∧aStep P md env H (fun v _=>sOps P md ops Qe rest (env.put o.dst v) H) o
  | some false=>sOps P md ops Qe rest (env.put o.dst (.tuple [])) H
  | none=>False
def okSt (eff:List Nat) (j:Nat):List Oper→Nat→Bool
 | [],_=>true
 | _::l,k=>!eff.contains k && !(k == j) && okSt eff j l (k+1)
theorem sLex_pre (n:Nat) {l:List Oper} {k:Nat} {Cs:List (Nat × (AHeap→Prop))} {Ps:List (Nat × AHeap)} {env:Env} {H:AHeap} (hn:okSt eff j (l.take n) k=true)
  (h:∀ K:Env→Prop,(∀ env,sLex P md ops eff W Qr j φ (l.drop n) (k+(l.take n).length) Cs Ps env H→K env)→sOps P md ops K (l.take n) env H):sLex P md ops eff W Qr j φ l k Cs Ps env H:=by
 have key:∀ (n:Nat) (l:List Oper) (k:Nat) (env:Env),okSt eff j (l.take n) k=true →
   sOps P md ops (fun env=>sLex P md ops eff W Qr j φ (l.drop n) (k+(l.take n).length) Cs Ps env H) (l.take n) env H→sLex P md ops eff W Qr j φ l k Cs Ps env H:=by
  intro n
  induction n with
  | zero=>intro l k env _ h;simpa [sOps] using h
  | succ n ih =>
   intro l k env hn h
   cases l with
   | nil=>simpa [sOps] using h
   | cons o l =>
    simp only [List.take_succ_cons,okSt,Bool.and_eq_true,Bool.not_eq_true'] at hn
    obtain ⟨⟨h3,h4⟩,h5⟩:=hn
    simp only [List.take_succ_cons,List.drop_succ_cons,sOps,List.length_cons] at h
    have e:k+((l.take n).length+1)=k+1+(l.take n).length:=by omega
    rw [e] at h
    simp only [sLex]
    split at h
    ·rename_i hw
     simp only [hw,h3,h4,Bool.false_eq_true,if_false]
     obtain ⟨hst,h⟩:=h
     obtain ⟨v,g1,g2⟩:=still_step hst h
     exact ⟨v,g1,ih l (k+1) _ h5 g2⟩
    ·rename_i hw
     simp only [hw]
     exact ih l (k+1) _ h5 h
    ·exact h.elim
 exact key n l k env hn (h _ fun _ h=>h)
theorem sLex_end {k:Nat} {Cs:List (Nat × (AHeap→Prop))} {Ps:List (Nat × AHeap)} {env:Env} {H:AHeap} (h:Qr env H):sLex P md ops eff W Qr j φ [] k Cs Ps env H:=h
theorem sLex_eff {k:Nat} {Cs:List (Nat × (AHeap→Prop))} {Ps:List (Nat × AHeap)} {env:Env} {H:AHeap} {o:Oper} {rest:List Oper} (hw:wantedA ops env o=some true) (he:eff.contains k=true) (hk:(k == j)=false) (hc:isCall o.op=false) (hn:isNext o.op=false)
  (h:∀ K:AV→AHeap→Prop,(∀ v H1,(wt ops 2 j k=false→Det P md o env (φ H) v (φ H1))→(∀ c∈Cs,unord W k c.1=true→c.2 H1)→sLex P md ops eff W Qr j φ rest (k+1) Cs ((k,H)::Ps) (env.put o.dst v) H1→K v H1) →
   aop P md env H (tokW md o.dst K) o):sLex P md ops eff W Qr j φ (o::rest) k Cs Ps env H:=by
 obtain ⟨v,H1,h1,h2,h3,h4⟩:=aopT_det (h (fun v H1=>(wt ops 2 j k=false→Det P md o env (φ H) v (φ H1))∧(∀ c∈Cs,unord W k c.1=true→c.2 H1)∧sLex P md ops eff W Qr j φ rest (k+1) Cs ((k,H)::Ps) (env.put o.dst v) H1) fun v H1 a b c=>⟨a,b,c⟩)
 simp only [sLex,hw,he,if_true]
 exact ⟨v,H1,flD_one hk (fun _=>(aStep_aop hc hn _ _).2 h1) h2,h3,h4⟩
theorem sLex_effA {k:Nat} {Cs:List (Nat × (AHeap→Prop))} {Ps:List (Nat × AHeap)} {env:Env} {H:AHeap} {o:Oper} {rest:List Oper} (hw:wantedA ops env o=some true) (he:eff.contains k=true) (hk:(k == j)=false) (hc:isCall o.op=false) (hn:isNext o.op=false) (hkj:wt ops 2 k j=true)
  (h:∀ K:AV→AHeap→Prop,(∀ v H1,φ H1=H1→(∀ c∈Cs,unord W k c.1=true→c.2 H1)→sLex P md ops eff W Qr j φ rest (k+1) Cs ((k,H)::Ps) (env.put o.dst v) H1→K v H1) →
   aop P md env (φ H) (tokW md o.dst K) o):sLex P md ops eff W Qr j φ (o::rest) k Cs Ps env H:=by
 obtain ⟨v,H1,h1,h2,h3,h4⟩:=aopT_det (h (fun v H1=>φ H1=H1∧(∀ c∈Cs,unord W k c.1=true→c.2 H1)∧sLex P md ops eff W Qr j φ rest (k+1) Cs ((k,H)::Ps) (env.put o.dst v) H1) fun v H1 a b c=>⟨a,b,c⟩)
 simp only [sLex,hw,he,if_true]
 refine ⟨v,H1,flD_one hk (fun h=>by rw [hkj] at h;cases h) (fun _=>?_),h3,h4⟩
 rw [h2]
 exact (aStep_aop hc hn _ _).2 h1
theorem sLex_self {Cs:List (Nat × (AHeap→Prop))} {Ps:List (Nat × AHeap)} {env:Env} {H:AHeap} {o:Oper} {rest:List Oper} {v:AV} (hw:wantedA ops env o=some true) (he:eff.contains j=false)
  (h:Det P md o env H v (φ H)) (hp:∀ p∈Ps,unord W j p.1=true→Det P md o env p.2 v (φ p.2))
  (hr:sLex P md ops eff W Qr j φ rest (j+1) ((j,fun H'=>Det P md o env H' v (φ H'))::Cs) Ps (env.put o.dst v) H):sLex P md ops eff W Qr j φ (o::rest) j Cs Ps env H:=by
 simp only [sLex,hw,he,beq_self_eq_true,Bool.false_eq_true,if_false,if_true]
 exact ⟨v,h,hp,hr⟩
theorem awp_draws {id:Nat} {ops:List Oper} (m j:Nat) (φ:AHeap→AHeap) (eff:List Nat) (W:List (List Nat)) {env:Env} {H:AHeap} (hW:drawOk ops.toArray eff W=true) (hf:flOk ops.toArray eff [(j,φ)]=true)
  (h:sLex P md ops.toArray eff W (fun env H=>Q .normal (Env.ofL (L.map fun t=>(t,env t))) (φ H)) j φ ops 0 [] [] env (holes m H)):awp P md n0 L (.region id ops.toArray true) Q env H:=by
 have hej:eff.contains j=false:=by
  have:=hf;simp only [flOk,List.all_cons,List.all_nil,Bool.and_true,Bool.and_eq_true,Bool.not_eq_true'] at this;exact this.1
 exact .inr ⟨m,[(j,φ)],eff,W,hW,hf,gLex_of_s (Cs:=[]) hej (by simp) h⟩
theorem awp_sds {id:Nat} {ops:List Oper} {b:Code} (m j:Nat) (φ:AHeap→AHeap) (eff:List Nat) (W:List (List Nat)) {env:Env} {H:AHeap} (hW:drawOk ops.toArray eff W=true) (hf:flOk ops.toArray eff [(j,φ)]=true)
  (h:∀ K:Env→AHeap→Prop,(∀ env H,awp P md n0 L b Q env H→K env H)→sLex P md ops.toArray eff W (fun env H=>K (Env.ofL (L.map fun t=>(t,env t))) (φ H)) j φ ops 0 [] [] env (holes m H)):awp P md n0 L (.seq (.region id ops.toArray true) b) Q env H :=
 awp_seq_k fun K hK=>awp_draws m j φ eff W hW hf (h K hK)
end
end Go.Abs
