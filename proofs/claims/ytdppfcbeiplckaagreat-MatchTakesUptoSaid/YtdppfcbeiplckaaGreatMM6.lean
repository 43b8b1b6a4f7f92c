/- The program: the constructors in a pattern (an iterator). -/
import Derived.Test.YtdppfcbeiplckaaGreatMM1
import Derived.Test.YtdppfcbeiplckaaGreatMI
set_option linter.unusedVariables false
set_option linter.unusedSimpArgs false
namespace Go.Proofs.YtdppfcbeiplckaaGreat
open Go Go.Abs Go.Proofs
set_option maxRecDepth 20000
attribute [local simp] aOps wantedA aStep aop aLoad aStore aBin aUn aFieldAddr aField aIndexAddr aIndex aLen aBuild aFill aAlloc aAppend aAppendOwn aMin aMax aBuildSlice litRows newRows isMut isOwn isNilS nilsW bytesR tokW tokAV tokL ret readC splice aeval isLit isLate isCut aCut AV.celled AV.one AV.ofValue Value.oneCell' Value.cells intOp strOp get_nid upd_nid awp aEnd aResults aResult Det unord isCall isNext
attribute [local simp] low_take low_strs low_comp low_tcomp wkEs_refl' WkBs WkEnv WkB WkL WkE WkO ABlock.low lowO lowL lowR AV.low cellsL_eq Ty.low low_map Ty.cells_length Ty.cells_one
attribute [local simp] cellsNd_eq low_nds Nd.cells_length Nd.cells_one cellsDT_eq low_dts DT.kcells_length DT.kcells_one low_ints low_rows low_pls
mutual
def Nd.conL:Nd→List Nd
 | .mk o s n l=>(if o=3 then [.mk o s n l] else [])++conLL l
def conLL:List Nd→List Nd
 | []=>[]
 | t::l=>t.conL++conLL l
end
theorem conLL_append (a b:List Nd):conLL (a++b)=conLL a++conLL b:=by
 induction a with
 | nil=>rfl
 | cons t a ih=>simp [conLL,ih]
theorem conLL_take {l:List Nd} {k:Nat} {t:Nd} (h:l[k]?=some t):conLL (l.take (k+1))=conLL (l.take k)++t.conL:=by
 rw [take_one h,conLL_append];simp [conLL]
theorem conLL_mem {l:List Nd} {t v:Nd} (ht:t∈l) (hv:v∈t.conL):v∈conLL l:=by
 induction l with
 | nil=>cases ht
 | cons x l ih =>
  simp only [conLL,List.mem_append]
  rcases List.mem_cons.1 ht with e | e
  ·subst e;exact .inl hv
  ·exact .inr (ih e)
theorem cons_c (t:Nd) (H:AHeap):ACalls Tryz.prog 46 [t.enc] H (.fn 104 [.ref H.next 0]) (H.alloc (.cells t.cells)):=by
 obtain ⟨o,s,n,l⟩:=t
 simp only [Nd.enc_mk]
 refine acalls_walk (fun _=>.imm) [0,1,2] Tryz.mixed Tryz.func46 rfl rfl rfl (by decide) (fun hcl hlow=>?_)
 repeat with_reducible refine awp_assoc ?_
 refine awp_sr fun K hK=>?_
 simp
 refine hK _ _ ?_
 clear hK K
 repeat with_reducible refine awp_assoc ?_
 refine awp_sr fun K hK=>?_
 simp
 refine hK _ _ ?_
 clear hK K
 simp [Nd.cells]
 have e:H.alloc (.cells [intV o,strV s,intV n,.slice (l.map Nd.cells) none])=HL H [.cells [intV o,strV s,intV n,.slice (l.map Nd.cells) none]]:=by
  conv=>lhs;rw [←HL_nil hcl]
  simp
 rw [e]
 exact ⟨Wk.refl _,Reset.refl (closed_HL hcl (by simp))⟩
set_option maxHeartbeats 1000000 in
theorem cons_it {b:Nat} (hb:b≤4611686018427387904):∀ p:Nd,p.Sh b→∀ {σ:Type} (i:Nat) (B:Bool→σ→List (Nat × ABlock)) (step:σ→Nd→Bool × σ) (ids:List Nat),Names B ids→Eats Tryz.prog Nd.enc i B step p.conL →
  ∀ (s:σ) (G:AHeap) (j:Nat),G.get j=some (.cells p.cells)→j ∉ ids→Holds G (B true s) →
  ACalls Tryz.prog 104 [.yld i,.ref j 0] G (.tuple []) (puts G (B (feed step s p.conL).1 (feed step s p.conL).2)):=by
 refine Nd.ind fun o nm n l ih hs σ i B step ids hN hE s G j hj hji hB=>?_
 have hi:=hs.inv
 have hlen:l.length < 4611686018427387904:=by omega
 have e0:(Nd.mk o nm n l).conL=(if o=3 then [.mk o nm n l] else [])++conLL l:=by simp [Nd.conL]
 rw [e0] at hE ⊢
 simp only [Nd.cells,cellsNd_eq] at hj
 refine acalls_walk (fun _=>.imm) [0,1,2,4,5,14,16,17,18,19,23,24,28] Tryz.mixed Tryz.func104 rfl rfl rfl (by decide) (fun hcl hlow=>?_)
 have hjl:j < G.next:=(hcl j _ hj).1
 have hil:i < G.next:=by
  have h:i < G.next∧j < G.next:=by simpa using hlow
  exact h.1
 have hB0:=holds_low hcl hB
 have gj:∀ ok s' bs,(HL (puts G (B ok s')) bs).get j=some (.cells [intV o,strV nm,intV n,.slice (l.map Nd.cells) none]):=fun ok s' bs=>by
  rw [get_lt (by simpa using hjl),hN.get_ne hji];exact hj
 have gj0:∀ bs,(HL G bs).get j=some (.cells [intV o,strV nm,intV n,.slice (l.map Nd.cells) none]):=fun bs=>by rw [get_lt hjl];exact hj
 have hlt:=hN.lt hcl hB
 have hY:∀ (s':σ) (v:Nd) (bs:List ABlock),v∈(if o=3 then [Nd.mk o nm n l] else [])++conLL l→AYieldR Tryz.prog i [v.enc] (HL (puts G (B true s')) bs) fun r G'=>r=boolV (step s' v).1∧G'=HL (puts G (B (step s' v).1 (step s' v).2)) bs:=fun s' v bs hv=>by
  have:=(hE s' v hv (HL (puts G (B true s')) bs) ((holds_HL (fun p hp=>by simpa using hN.lt' hcl hB p hp)).2 (hN.holds true s'))).2
  rwa [puts_HL (fun p hp=>by simpa using hN.lt' hcl hB p hp),hN.puts] at this
 have hLo:∀ (s':σ) (v:Nd),v∈(if o=3 then [Nd.mk o nm n l] else [])++conLL l→(∀ p∈B true s',p.2.low G.next)→∀ p∈B (step s' v).1 (step s' v).2,p.2.low G.next:=fun s' v hv hl=>by
  have:=(hE s' v hv (puts G (B true s')) (hN.holds true s')).1 (hN.closed hcl hB hl)
  simpa using this
 have hFL:∀ (W:List Nd),(∀ v∈W,v∈(if o=3 then [Nd.mk o nm n l] else [])++conLL l)→∀ s',(∀ p∈B true s',p.2.low G.next)→∀ p∈B (feed step s' W).1 (feed step s' W).2,p.2.low G.next:=by
  intro W
  induction W with
  | nil=>exact fun _ s' h=>h
  | cons v W ihW =>
   intro hW s' h
   have h1:=hLo s' v (hW v (by simp)) h
   simp only [feed]
   by_cases hc:(step s' v).1=true
   ·rw [if_pos hc]
    rw [hc] at h1
    exact ihW (fun v hv=>hW v (by simp [hv])) _ h1
   ·rw [if_neg hc]
    have:(step s' v).1=false:=by simpa using hc
    rw [this] at h1
    exact h1
 repeat with_reducible refine awp_assoc ?_
 refine awp_sr fun K hK=>?_
 simp
 refine hK _ _ ?_
 clear hK K
 repeat with_reducible refine awp_assoc ?_
 refine awp_sr fun K hK=>?_
 have hKL:∀ (s1:σ) (env:Env),feed step s (if o=3 then [Nd.mk o nm n l] else [])=(true,s1)→(∀ p∈B true s1,p.2.low G.next)→env 1=.ref j 0→env 2=.ref (nid G.next 0) 0→env 14=boolV false→K env (HL (puts G (B true s1)) [.cells [.yld i]]):=by
  intro s1 env hf1 hl1 e1 e2 e14
  refine hK _ _ ?_
  clear hK K
  refine awp_seq_k fun K hK=>?_
  refine awp_condF (t:=false) (by exact e14) rfl ?_
  refine awp_skip ?_
  refine hK _ _ ?_
  clear hK K
  rw [feed_append,hf1]
  simp only [if_true]
  repeat with_reducible refine awp_assoc ?_
  refine awp_sr fun K hK=>?_
  simp [e1,e2,gj]
  refine hK _ _ ?_
  clear hK K
  refine awp_block ?_
  obtain ⟨S,hS⟩:∃ S:Nat→Bool × σ,∀ k,S k=feed step s1 (conLL (l.take k)):=⟨_,fun _=>rfl⟩
  have hS0:S 0=(true,s1):=by rw [hS];simp [conLL,feed]
  have hSe:S l.length=feed step s1 (conLL l):=by rw [hS,List.take_length]
  have hS1:∀ k x,l[k]?=some x→(S k).1=true→S (k+1)=feed step (S k).2 x.conL:=fun k x hx h=>by
   rw [hS,conLL_take hx,feed_append,←hS,if_pos h]
  have hSf:∀ k sF,S k=(false,sF)→feed step s1 (conLL l)=(false,sF):=fun k sF h=>by
   have h2:conLL l=conLL (l.take k)++conLL (l.drop k):=by rw [←conLL_append,List.take_append_drop]
   rw [h2,feed_append,←hS,h];simp
  refine awp_up l.length (fun k=>Env.ofL [(1,.ref j 0),(2,.ref (nid G.next 0) 0),(16,.slice (l.map Nd.cells) none),(17,intV (l.length:Int)),(18,intV k)]) (fun k=>HL (puts G (B true (S k).2)) [.cells [.yld i]])
   (fun k=>(S k).1=true∧∀ p∈B true (S k).2,p.2.low G.next) ?_ ⟨by rw [hS0],by rw [hS0];exact hl1⟩ (fun k hk hv=>?_) (fun hv=>?_)
  ·rw [hS0]
   exact weak_HL (hN.closed hcl hB hl1) (by simp) (by simp [lt_nid hil]) (by simp [lt_nid hjl,e1,e2])
  ·obtain ⟨x,hx⟩:∃ x,l[k]?=some x:=⟨_,List.getElem?_eq_getElem hk⟩
   have hxm:=List.mem_of_getElem? hx
   have hit:=@ih x hxm (hi.2 x hxm) σ
   have hS2:=hS1 k x hx hv.1
   have hSf2:=hSf (k+1)
   have hsub:∀ v∈x.conL,v∈(if o=3 then [Nd.mk o nm n l] else [])++conLL l:=fun v hv=>List.mem_append_right _ (conLL_mem hxm hv)
   clear ih hS1 hSf hSe hS0 hS
   generalize hq:S k=q at *
   obtain ⟨okk,sk⟩:=q
   obtain ⟨rfl,hlk⟩:=hv
   simp only at hS2 hlk ⊢
   have hclk:=hN.closed hcl hB hlk
   have hBk:Holds (puts G (B true sk)) (B true sk):=hN.holds true sk
   have hcc:ACalls Tryz.prog 46 [x.enc] (HL (puts G (B true sk)) [.cells [.yld i],.cells x.cells]) (.fn 104 [.ref (nid G.next 2) 0]) (HL (puts G (B true sk)) [.cells [.yld i],.cells x.cells,.cells x.cells]):=by
    have:=cons_c x (HL (puts G (B true sk)) [.cells [.yld i],.cells x.cells])
    simpa using this
   obtain ⟨xo,xs,xn,xl⟩:=x
   simp only [Nd.enc_mk,Nd.cells,cellsNd_eq] at hcc hit
   repeat with_reducible refine awp_assoc ?_
   refine awp_sr fun K hK=>?_
   simp [hk]
   refine hK _ _ ?_
   clear hK K
   repeat with_reducible refine awp_assoc ?_
   refine awp_seq_k fun K hK=>?_
   refine awp_condT rfl (by simp) ?_
   refine awp_skip ?_
   refine hK _ _ ?_
   clear hK K
   refine awp_seq_k fun KC hKC=>?_
   refine awp_block ?_
   repeat with_reducible refine awp_assoc ?_
   refine awp_sr fun K hK=>?_
   simp [hx,Nd.cells]
   refine hK _ _ ?_
   clear hK K
   repeat with_reducible refine awp_assoc ?_
   refine awp_sr fun K hK=>?_
   refine aOps_split 1 fun K hK=>?_
   simp
   refine hK _ _ ?_
   clear hK K
   refine aOps_call (hcc) (by first | rfl | simp) rfl rfl (by first | (simp;done) | rfl) ?_
   simp
   refine hK _ _ ?_
   clear hK K
   have hnids:∀ m,nid G.next m ∉ ids:=fun m h=>by have:=hlt _ h;unfold nid at this;omega
   refine awp_block ?_
   refine awp_range' (n:=G.next) (by simp) rfl fun r he hps hra hrb=>⟨_,hit (nid G.next 3) (fun ok s'=>(nid G.next 3,.lrec r (if ok=true then .ready else .ret))::(nid G.next 0,.cells [.yld i])::B ok s') step (nid G.next 3::nid G.next 0::ids) ?_ ?_ sk _ (nid G.next 2) ?_ ?_ ?_,?_⟩
   ·exact ⟨by simp [hnids,hN.nodup],fun ok s'=>by simp [hN.ids ok s']⟩
   ·intro s' v hv' G2 hG2
    obtain ⟨hg3,hg0,hgB⟩:=hG2
    have hvm:=hsub v hv'
    refine ⟨fun hc2 p hp=>?_,?_⟩
    ·rcases List.mem_cons.1 hp with e | hp
     ·subst e
      have:=(hc2 _ _ hg3).2
      simpa [ABlock.low] using this
     ·rcases List.mem_cons.1 hp with e | hp
      ·subst e;exact (hc2 _ _ hg0).2
      ·exact (hE s' v hvm G2 hgB).1 hc2 p hp
    ·refine ayield_walk (fun _=>.imm) [0,1,2,4,5,14,16,17,18,19,23,24,28] Tryz.mixed hg3 (by rw [hps];rfl) fun hc2 hcb hlow2=>?_
     have hi3:=(hc2 _ _ hg3).1
     have hi0:=(hc2 _ _ hg0).1
     have hBb:Holds (G2.upd (nid G.next 3) (.lrec r .busy)) (B true s'):=holds_upd_ne (by rw [hN.ids];exact hnids 3) hgB
     have hYb:=fun bs=>(hE s' v hvm (HL (G2.upd (nid G.next 3) (.lrec r .busy)) bs) ((holds_HL (hN.lt' hcb hBb)).2 hBb)).2
     have hLb:=(hE s' v hvm (G2.upd (nid G.next 3) (.lrec r .busy)) hBb).1 hcb
     simp only [puts_HL (hN.lt' hcb hBb)] at hYb
     have hcf:=hN.closed hcb hBb hLb
     have g0:∀ bs,(HL (G2.upd (nid G.next 3) (.lrec r .busy)) bs).get (nid G.next 0)=some (.cells [.yld i]):=fun bs=>by
      rw [get_lt (by exact hi0),get_upd_ne (by simp)];exact hg0
     have heq:∀ st,(puts (G2.upd (nid G.next 3) (.lrec r .busy)) (B (step s' v).1 (step s' v).2)).upd (nid G.next 3) (.lrec r st)=puts G2 ((nid G.next 3,.lrec r st)::(nid G.next 0,.cells [.yld i])::B (step s' v).1 (step s' v).2):=fun st=>by
      rw [←puts_upd _ (by rw [hN.ids];exact hnids 3),upd_upd]
      simp only [puts]
      rw [upd_same (c:=nid G.next 0) (by rw [get_upd_ne (by simp)];exact hg0)]
     have hgb:(puts (G2.upd (nid G.next 3) (.lrec r .busy)) (B (step s' v).1 (step s' v).2)).get (nid G.next 3)=some (.lrec r .busy):=by
      rw [hN.get_ne (hnids 3)];exact get_upd_self
     clear hLb hgB hBb hvm
     generalize step s' v=st' at *
     obtain ⟨okk,s''⟩:=st'
     obtain ⟨vo,vs,vn,vl⟩:=v
     simp only [Nd.enc_mk] at hYb hlow2 ⊢
     rw [hra]
     have hr0:r.round [.agg [intV vo,strV vs,intV vn,.slice (vl.map Nd.cells) none]]=Env.put r.env (some 24) (.agg [intV vo,strV vs,intV vn,.slice (vl.map Nd.cells) none]):=by
      simp only [ALoop.round,hps];rfl
     rw [hr0,he]
     refine awp_region ?_
     simp
     refine ⟨_,rfl,?_⟩
     rw [hrb]
     refine awp_block ?_
     repeat with_reducible refine awp_assoc ?_
     refine awp_sr fun K hK=>?_
     refine aOps_split 2 fun K hK=>?_
     simp [g0]
     refine hK _ _ ?_
     clear hK K
     refine aOps_yield (hYb _) (by first | rfl | simp) rfl rfl (by first | (simp;done) | rfl) ?_
     simp
     refine hK _ _ ?_
     clear hK K
     cases okk with
     | true =>
      refine awp_condF rfl (by simp) ?_
      refine awp_skip ?_
      exact ⟨_,reset_all hcf,by simp,hgb,rfl,heq _⟩
     | false =>
      refine awp_condT rfl (by simp) ?_
      refine awp_ret ?_
      exact ⟨_,reset_all hcf,by simp,hgb,rfl,heq _⟩
   ·simp
   ·simp [hnids]
   ·refine ⟨by simp,by simp,(holds_HL fun p hp=>by simpa using hN.lt' hcl hB p hp).2 hBk⟩
   ·rintro v H' ⟨rfl,rfl⟩
    have hfl:∀ p∈B (feed step sk (Nd.mk xo xs xn xl).conL).1 (feed step sk (Nd.mk xo xs xn xl).conL).2,p.2.low G.next:=hFL _ hsub sk hlk
    rw [←hS2] at hfl ⊢
    generalize hq1:S (k+1)=q1 at *
    obtain ⟨okf,sF⟩:=q1
    have hpe:∀ st,puts (HL (puts G (B true sk)) [.cells [.yld i],.cells [intV xo,strV xs,intV xn,.slice (xl.map Nd.cells) none],.cells [intV xo,strV xs,intV xn,.slice (xl.map Nd.cells) none],.lrec r .ready]) ((nid G.next 3,.lrec r st)::(nid G.next 0,.cells [.yld i])::B okf sF) =
      HL (puts G (B okf sF)) [.cells [.yld i],.cells [intV xo,strV xs,intV xn,.slice (xl.map Nd.cells) none],.cells [intV xo,strV xs,intV xn,.slice (xl.map Nd.cells) none],.lrec r st]:=fun st=>by
     simp only [puts]
     simp
     rw [puts_HL (fun p hp=>by simpa using hN.lt' hcl hB p hp),hN.puts]
    simp only [List.cons_append,List.nil_append]
    rw [hpe]
    cases okf with
    | true =>
     simp
     refine hKC _ _ ?_
     clear hKC KC
     refine awp_region ?_
     simp [wrap_succ (show k < 4611686018427387904 by omega)]
     refine ⟨by simpa using hfl,weak_HL (hN.closed hcl hB hfl) (by simp) (by simp [lt_nid hil]) (by simp [lt_nid hjl])⟩
    | false =>
     rw [hSf2 sF rfl]
     simp [reset_all (hN.closed hcl hB hfl)]
  ·have hfe:=hSe
   generalize hq:S l.length=q at *
   obtain ⟨okk,sk⟩:=q
   obtain ⟨rfl,hlk⟩:=hv
   rw [←hfe]
   repeat with_reducible refine awp_assoc ?_
   refine awp_sr fun K hK=>?_
   simp
   refine hK _ _ ?_
   clear hK K
   repeat with_reducible refine awp_assoc ?_
   refine awp_seq_k fun K hK=>?_
   refine awp_condF rfl (by simp) ?_
   refine awp_exit ?_
   simp [reset_all (hN.closed hcl hB hlk)]
 have hKF:∀ (s1:σ) (env:Env),feed step s (if o=3 then [Nd.mk o nm n l] else [])=(false,s1)→(∀ p∈B false s1,p.2.low G.next)→env 14=boolV true→K env (HL (puts G (B false s1)) [.cells [.yld i]]):=by
  intro s1 env hf1 hl1 e14
  refine hK _ _ ?_
  clear hK hKL K
  refine awp_seq_k fun K hK=>?_
  refine awp_condT (t:=true) (by exact e14) rfl ?_
  rw [feed_append,hf1]
  simp [reset_all (hN.closed hcl hB hl1)]
 clear hK
 by_cases h3:o=3
 ·have b3:=eq_true h3
  have hY0:=hY s (.mk o nm n l) [.cells [.yld i]] (by simp [h3])
  have hLo0:=hLo s (.mk o nm n l) (by simp [h3]) hB0
  rw [puts_self hB] at hY0
  simp only [if_pos h3,feed] at hKL hKF
  generalize step s (.mk o nm n l)=q at *
  obtain ⟨ok,s1⟩:=q
  simp only [Nd.enc_mk] at hY0
  refine aOps_split 6 fun K hK=>?_
  simp [gj0,b3]
  refine hK _ _ ?_
  clear hK K
  refine aOps_yield hY0 (by first | rfl | simp) rfl rfl (by first | (simp;done) | rfl) ?_
  simp
  cases ok with
  | true=>refine hKL s1 _ (by simp) hLo0 ?_ ?_ ?_ <;> rfl
  | false=>refine hKF s1 _ (by simp) hLo0 ?_;rfl
 ·rw [if_neg h3] at hKL
  have hKL2:=hKL s
  rw [puts_self hB] at hKL2
  refine aOps_split 4 fun K hK=>?_
  simp [gj0,h3]
  refine hK _ _ ?_
  clear hK K
  simp [gj0,h3]
  refine hKL2 _ rfl hB0 ?_ ?_ ?_ <;> rfl
end Go.Proofs.YtdppfcbeiplckaaGreat
