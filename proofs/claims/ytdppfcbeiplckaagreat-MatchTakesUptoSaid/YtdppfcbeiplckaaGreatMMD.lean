/- The program: what stands in a row at a path; whether rows meet. -/
import Derived.Test.YtdppfcbeiplckaaGreatMM7
import Derived.Test.YtdppfcbeiplckaaGreatMD6
set_option linter.unusedVariables false
set_option linter.unusedSimpArgs false
namespace Go.Proofs.YtdppfcbeiplckaaGreat
open Go Go.Abs Go.Proofs
set_option maxRecDepth 20000
attribute [local simp] aOps wantedA aStep aop aLoad aStore aBin aUn aFieldAddr aField aIndexAddr aIndex aLen aBuild aFill aAlloc aAppend aAppendOwn aMin aMax aBuildSlice litRows newRows isMut isOwn isNilS nilsW bytesR tokW tokAV tokL ret readC splice aeval isLit isLate isCut aCut AV.celled AV.one AV.ofValue Value.oneCell' Value.cells intOp strOp get_nid upd_nid awp aEnd aResults aResult Det unord isCall isNext
attribute [local simp] low_take low_strs low_comp low_tcomp wkEs_refl' WkBs WkEnv WkB WkL WkE WkO ABlock.low lowO lowL lowR AV.low cellsL_eq Ty.low low_map Ty.cells_length Ty.cells_one
attribute [local simp] cellsNd_eq low_nds Nd.cells_length Nd.cells_one low_ints low_rows low_strs low_strR low_rowR
def anyN:Nd:=.mk 1 ByteArray.empty 0 []
def atK:Nd→List Int→Nd
 | p,[]=>p
 | .mk o _ _ l,k::m=>if o≠3∨(l.length:Int)≤k then anyN else atK (l.getD k.toNat anyN) m
termination_by _ m=>m.length
theorem atK_nil (p:Nd):atK p []=p:=by cases p;rw [atK]
theorem atK_cons (o:Int) (s:ByteArray) (n:Int) (l:List Nd) (k:Int) (m:List Int):atK (.mk o s n l) (k::m)=if o≠3∨(l.length:Int)≤k then anyN else atK (l.getD k.toNat anyN) m:=by rw [atK]
def atN (row:List Nd):List Int→Nd
 | []=>anyN
 | k::m=>atK (row.getD k.toNat anyN) m
theorem aSlice_from {P:Program} {H:AHeap} {Kn:AV→AHeap→Prop} {t:TypeId} {rows:List (List AV)} {tok:Option Nat} {k:IntKind} {n:Nat} {z:Nat × Nat × List Value} (hel:elT P t=some z) (hn:n≤rows.length) (hr:∀ r∈rows,r.length=z.1)
  (h:Kn (.slice (rows.drop n) none) H):aSlice P H Kn t (.slice rows tok) (some (.v (.int k n))) none none:=by
 unfold aSlice
 refine ⟨by rw [hel];rfl,?_⟩
 simp only [bnd]
 refine ⟨by omega,by omega,Int.le_refl _,fun r hr'=>by rw [hel,hr r hr'];rfl,?_⟩
 simpa using h
set_option maxHeartbeats 1000000 in
theorem at_c {b:Nat} (hb:b≤4611686018427387904) (row:List Nd) (k0:Int) (l:List Int) (h0:0≤k0) (p0:Nd) (hp:row[k0.toNat]?=some p0) (hsh:p0.Sh b) (hl:l.length < 4611686018427387904) (hpos:∀ k∈l,0≤k) (H:AHeap) :
  ACalls Tryz.prog 137 [.slice (row.map Nd.cells) none,.slice ((k0::l).map intR) none] H (atN row (k0::l)).enc H:=by
 have eR:atN row (k0::l)=atK p0 l:=by simp [atN,List.getD,hp]
 rw [eR]
 obtain ⟨R,hR⟩:∃ R,atK p0 l=R:=⟨_,rfl⟩
 rw [hR]
 obtain ⟨ro,rs,rn,rl⟩:=R
 obtain ⟨st,hst⟩:∃ st:Nat→Nd,∀ k,st k=(l.take k).foldl (fun p i=>p.kids.getD i.toNat anyN) p0:=⟨_,fun _=>rfl⟩
 have hst0:st 0=p0:=by rw [hst];rfl
 have hst1:∀ k i,l[k]?=some i→st (k+1)=(st k).kids.getD i.toNat anyN:=fun k i hi=>by rw [hst,hst,take_one hi,List.foldl_append];rfl
 have hlen:((k0::l).map intR).length=l.length+1:=by simp
 have hx0:(row.map Nd.cells)[k0.toNat]?=some p0.cells:=by simp [hp]
 have hk0:((k0::l).map intR)[0]?=some [intV k0]:=by simp [intR]
 have hdr0:((k0::l).map intR).drop 1=l.map intR:=by simp
 have hlr:∀ r∈(k0::l).map intR,r.length=1:=by simp [intR]
 generalize (k0::l).map intR=path at *
 clear hst
 simp only [Nd.enc_mk]
 obtain ⟨po,ps,pn,pl⟩:=p0
 simp only [Nd.cells,cellsNd_eq] at hx0
 refine acalls_walk (fun _=>.imm) [0,1,4,5,7,15,16,17,18,30] Tryz.mixed Tryz.func137 rfl rfl rfl (by decide) (fun hcl hlow=>?_)
 repeat with_reducible refine awp_assoc ?_
 refine awp_sr fun K hK=>?_
 simp
 refine hK _ _ ?_
 clear hK K
 repeat with_reducible refine awp_assoc ?_
 refine awp_sr fun K hK=>?_
 simp [hk0,h0,hx0]
 refine hK _ _ ?_
 clear hK K
 repeat with_reducible refine awp_assoc ?_
 refine awp_sr fun K hK=>?_
 refine aOps_split 1 fun K hK=>?_
 simp
 refine hK _ _ ?_
 clear hK K
 refine aOps_split 1 fun K hK=>?_
 simp
 refine aSlice_from (n:=1) rfl (by omega) hlr ?_
 rw [hdr0]
 simp
 refine hK _ _ ?_
 clear hK K
 simp
 refine hK _ _ ?_
 clear hK K
 repeat with_reducible refine awp_assoc ?_
 refine awp_seq_k fun K hK=>?_
 refine awp_block ?_
 refine awp_up l.length (fun k=>Env.ofL [(17,intV k),(16,intV (l.length:Int)),(15,.slice (l.map intR) none),(5,.ref (nid H.next 1) 0),(4,.ref (nid H.next 0) 0)]) (fun k=>HL H [.cells [intV 0,strV ByteArray.empty,intV 0,.v (.slice none 0 0)],.cells (st k).cells]) (fun k=>(st k).Sh b∧atK (st k) (l.drop k)=.mk ro rs rn rl) (weak_HL hcl rfl (by simp [hst0,Nd.cells,Nd.low]) (by simp [hst0,Nd.cells,Nd.low])) (by rw [hst0];exact ⟨hsh,hR⟩) (fun k hk hvk=>?_) (fun hvk=>?_)
 ·obtain ⟨i,hi⟩:∃ i,l[k]?=some i:=⟨_,List.getElem?_eq_getElem hk⟩
  have hs1:=hst1 k i hi
  have hi0:0≤i:=hpos i (List.mem_of_getElem? hi)
  have hi':(l.map intR)[k]?=some [intV i]:=by simp [hi,intR]
  clear hst1
  generalize hq:st k=q at *
  obtain ⟨hv1,hv2⟩:=hvk
  obtain ⟨qo,qs,qn,ql⟩:=q
  have hinv:=hv1.inv
  have hdr:l.drop k=i::l.drop (k+1):=by
   rw [List.drop_eq_getElem_cons hk]
   congr 1
   have:=List.getElem?_eq_getElem hk
   rw [this] at hi;simpa using hi
  rw [hdr,atK_cons] at hv2
  simp only [Nd.cells,cellsNd_eq,Nd.kids] at *
  repeat with_reducible refine awp_assoc ?_
  refine awp_sr fun K hK=>?_
  simp [hk]
  refine hK _ _ ?_
  clear hK K
  repeat with_reducible refine awp_assoc ?_
  refine awp_seq_k fun K hK=>?_
  refine awp_condT rfl (by simp) ?_
  refine awp_skip ?_
  refine hK _ _ ?_
  clear hK K
  refine awp_seq_k fun KC hKC=>?_
  refine awp_block ?_
  repeat with_reducible refine awp_assoc ?_
  refine awp_sr fun K hK=>?_
  simp [hi']
  refine hK _ _ ?_
  clear hK K
  by_cases c1:qo=3
  rotate_left
  ·rw [if_pos (.inl c1)] at hv2
   simp only [anyN,Nd.mk.injEq] at hv2
   obtain ⟨rfl,rfl,rfl,rfl⟩:=hv2
   repeat with_reducible refine awp_assoc ?_
   refine awp_sr fun K hK=>?_
   refine aOps_split 6 fun K hK=>?_
   simp [c1]
   refine hK _ _ ?_
   clear hK K
   simp [c1]
   refine hK _ _ ?_
   clear hK K
   repeat with_reducible refine awp_assoc ?_
   refine awp_seq_k fun K hK=>?_
   refine awp_condT rfl (by simp) ?_
   repeat with_reducible refine awp_assoc ?_
   refine awp_sr fun K hK=>?_
   simp
   refine hK _ _ ?_
   clear hK K
   simp [reset_all hcl]
   exact Wk.agg ⟨.refl _,.refl _,.refl _,Wk.nilSlice,trivial⟩
  by_cases c2:(ql.length:Int)≤i
  ·rw [if_pos (.inr c2)] at hv2
   simp only [anyN,Nd.mk.injEq] at hv2
   obtain ⟨rfl,rfl,rfl,rfl⟩:=hv2
   repeat with_reducible refine awp_assoc ?_
   refine awp_sr fun K hK=>?_
   refine aOps_split 6 fun K hK=>?_
   simp [c1,c2]
   refine hK _ _ ?_
   clear hK K
   simp [c1,c2]
   refine hK _ _ ?_
   clear hK K
   repeat with_reducible refine awp_assoc ?_
   refine awp_seq_k fun K hK=>?_
   refine awp_condT rfl (by simp) ?_
   repeat with_reducible refine awp_assoc ?_
   refine awp_sr fun K hK=>?_
   simp
   refine hK _ _ ?_
   clear hK K
   simp [reset_all hcl]
   exact Wk.agg ⟨.refl _,.refl _,.refl _,Wk.nilSlice,trivial⟩
  rw [if_neg (by omega)] at hv2
  have c2':i.toNat < ql.length:=by omega
  obtain ⟨x,hx⟩:∃ x,ql[i.toNat]?=some x:=⟨_,List.getElem?_eq_getElem c2'⟩
  have hgx:ql.getD i.toNat anyN=x:=by simp [List.getD,hx]
  rw [hgx] at hs1 hv2
  have hxs:=hinv.2 x (List.mem_of_getElem? hx)
  repeat with_reducible refine awp_assoc ?_
  refine awp_sr fun K hK=>?_
  refine aOps_split 6 fun K hK=>?_
  simp [c1,c2]
  refine hK _ _ ?_
  clear hK K
  simp [c1,c2]
  refine hK _ _ ?_
  clear hK K
  repeat with_reducible refine awp_assoc ?_
  refine awp_seq_k fun K hK=>?_
  refine awp_condF rfl (by simp) ?_
  refine awp_skip ?_
  refine hK _ _ ?_
  clear hK K
  obtain ⟨xo,xs,xn,xl⟩:=x
  have hx':(ql.map Nd.cells)[i.toNat]?=some [intV xo,strV xs,intV xn,.slice (xl.map Nd.cells) none]:=by simp [hx,Nd.cells]
  refine awp_region ?_
  simp [hx',hi0]
  refine hKC _ _ ?_
  clear hKC KC
  refine awp_region ?_
  simp [wrap_succ (show k < 4611686018427387904 by omega)]
  rw [hs1]
  refine ⟨⟨hxs,hv2⟩,weak_HL hcl rfl (by simp [Nd.cells]) (by simp)⟩
 ·rw [List.drop_length,atK_nil] at hvk
  obtain ⟨_,hvk⟩:=hvk
  rw [hvk]
  simp only [Nd.cells,cellsNd_eq]
  repeat with_reducible refine awp_assoc ?_
  refine awp_sr fun K hK=>?_
  simp
  refine hK _ _ ?_
  clear hK K
  repeat with_reducible refine awp_assoc ?_
  refine awp_seq_k fun K hK=>?_
  refine awp_condF rfl (by simp) ?_
  refine awp_exit ?_
  simp
  clear hK K
  refine hK _ _ ?_
  clear hK K
  repeat with_reducible refine awp_assoc ?_
  refine awp_sr fun K hK=>?_
  simp
  refine hK _ _ ?_
  clear hK K
  simp [reset_all hcl]
theorem asks_c {b:Nat} (hb:b≤4611686018427387904) (row:List Nd) (k0:Int) (l:List Int) (h0:0≤k0) (p0:Nd) (hp:row[k0.toNat]?=some p0) (hsh:p0.Sh b) (hl:l.length < 4611686018427387904) (hpos:∀ k∈l,0≤k) (H:AHeap) :
  ACalls Tryz.prog 72 [.slice (row.map Nd.cells) none,.slice ((k0::l).map intR) none] H (boolV (decide (3≤(atN row (k0::l)).op))) H:=by
 have hc:=at_c hb row k0 l h0 p0 hp hsh hl hpos
 generalize atN row (k0::l)=R at *
 generalize (k0::l).map intR=path at *
 obtain ⟨ro,rs,rn,rl⟩:=R
 simp only [Nd.enc_mk,Nd.op] at *
 refine acalls_walk (fun _=>.imm) [0,1,4] Tryz.mixed Tryz.func72 rfl rfl rfl (by decide) (fun hcl hlow=>?_)
 repeat with_reducible refine awp_assoc ?_
 refine awp_sr fun K hK=>?_
 simp
 refine hK _ _ ?_
 clear hK K
 repeat with_reducible refine awp_assoc ?_
 refine awp_sr fun K hK=>?_
 refine aOps_split 2 fun K hK=>?_
 simp
 refine hK _ _ ?_
 clear hK K
 refine aOps_call (hc _) (by first | rfl | simp) rfl rfl (by first | (simp;done) | rfl) ?_
 simp
 refine hK _ _ ?_
 clear hK K
 simp [reset_all hcl]
 exact Wk.refl _
mutual
def meetN:Nd→Nd→Bool
 | .mk o s n l,.mk o' s' n' l'=>if o < 3∨o' < 3 then true else if o≠o'∨s≠s'∨n≠n'∨l.length≠l'.length then false else meetL l l'
def meetL:List Nd→List Nd→Bool
 | t::l,q::m=>meetN t q && meetL l m
 | _,_=>true
end
theorem meetL_zip:∀ a b:List Nd,meetL a b=(a.zip b).all fun x=>meetN x.1 x.2
 | t::l,q::m=>by simp [meetL,meetL_zip l m]
 | [],_=>by simp [meetL]
 | _::_,[]=>by simp [meetL]
theorem all_not_any {α:Type} (p:α→Bool) (l:List α):l.all p=!l.any fun x=>!p x:=by induction l <;> simp_all
set_option maxHeartbeats 1000000 in
theorem meetAll_of (l:List Nd) (hl:l.length < 4611686018427387904) (ih:∀ t∈l,∀ (q:Nd) (H:AHeap),ACalls Tryz.prog 90 [t.enc,q.enc] H (boolV (meetN t q)) H) (m:List Nd) (hlm:l.length≤m.length) (H:AHeap) :
  ACalls Tryz.prog 40 [.slice (l.map Nd.cells) none,.slice (m.map Nd.cells) none] H (boolV (meetL l m)) H:=by
 rw [meetL_zip,all_not_any]
 obtain ⟨res,hres⟩:∃ r,((l.zip m).any fun x=>!meetN x.1 x.2)=r:=⟨_,rfl⟩
 rw [hres]
 refine acalls_walk (fun _=>.imm) [0,1,4,5,7,8,9,20] Tryz.mixed Tryz.func40 rfl rfl rfl (by decide) (fun hcl hlow=>?_)
 repeat with_reducible refine awp_assoc ?_
 refine awp_sr fun K hK=>?_
 simp
 refine hK _ _ ?_
 clear hK K
 repeat with_reducible refine awp_assoc ?_
 refine awp_sr fun K hK=>?_
 simp
 refine hK _ _ ?_
 clear hK K
 repeat with_reducible refine awp_assoc ?_
 refine awp_seq_k fun K hK=>?_
 refine awp_block ?_
 refine awp_up l.length (fun k=>Env.ofL [(0,.slice (l.map Nd.cells) none),(1,.slice (m.map Nd.cells) none),(7,intV (l.length:Int)),(8,intV k)]) (fun k=>HL H []) (fun k=>((l.zip m).take k).any (fun x=>!meetN x.1 x.2)=false) (weak_HL hcl rfl (by simp) (by simp)) (by simp) (fun k hk hvk=>?_) (fun hvk=>?_)
 rotate_left
 ·repeat with_reducible refine awp_assoc ?_
  refine awp_sr fun K hK=>?_
  simp
  refine hK _ _ ?_
  clear hK K
  repeat with_reducible refine awp_assoc ?_
  refine awp_seq_k fun K hK=>?_
  refine awp_condF rfl (by simp) ?_
  refine awp_exit ?_
  simp
  clear hK K
  refine hK _ _ ?_
  clear hK K
  repeat with_reducible refine awp_assoc ?_
  refine awp_sr fun K hK=>?_
  simp
  refine hK _ _ ?_
  clear hK K
  rw [List.take_of_length_le (by simp;omega)] at hvk
  rw [hvk] at hres
  subst hres
  simp [reset_all hcl]
 obtain ⟨t,ht⟩:∃ t,l[k]?=some t:=⟨_,List.getElem?_eq_getElem hk⟩
 obtain ⟨q,hq⟩:∃ q,m[k]?=some q:=⟨_,List.getElem?_eq_getElem (by omega)⟩
 have hz:(l.zip m)[k]?=some (t,q):=by rw [List.getElem?_zip_eq_some];exact ⟨ht,hq⟩
 have hyes:meetN t q=false→res=true:=fun h=>by rw [←hres];exact any_at (p:=fun x:Nd × Nd=>!meetN x.1 x.2) hz (by simp [h])
 have hmiss:=miss (p:=fun x:Nd × Nd=>!meetN x.1 x.2) hz hvk
 clear hres
 have hc:=ih t (List.mem_of_getElem? ht) q
 simp only at hmiss
 generalize meetN t q=r at *
 obtain ⟨o,s,n,tl⟩:=t
 obtain ⟨o',s',n',ql⟩:=q
 simp only [Nd.enc_mk] at hc
 have ht':(l.map Nd.cells)[k]?=some [intV o,strV s,intV n,.slice (tl.map Nd.cells) none]:=by simp [ht,Nd.cells]
 have hq':(m.map Nd.cells)[k]?=some [intV o',strV s',intV n',.slice (ql.map Nd.cells) none]:=by simp [hq,Nd.cells]
 repeat with_reducible refine awp_assoc ?_
 refine awp_sr fun K hK=>?_
 simp [hk]
 refine hK _ _ ?_
 clear hK K
 repeat with_reducible refine awp_assoc ?_
 refine awp_seq_k fun K hK=>?_
 refine awp_condT rfl (by simp) ?_
 refine awp_skip ?_
 refine hK _ _ ?_
 clear hK K
 refine awp_seq_k fun KB hKB=>?_
 refine awp_block ?_
 repeat with_reducible refine awp_assoc ?_
 refine awp_sr fun K hK=>?_
 simp
 refine hK _ _ ?_
 clear hK K
 repeat with_reducible refine awp_assoc ?_
 refine awp_sdc [] [[],[0],[],[],[0,1,2,3],[0,1,2,3,4],[0,1,2,3],[0,1,2,3],[],[0,1,4,5]] (by kernel_rfl) (by rfl) fun K hK=>?_
 refine aCalm_pre 4 (by rfl) fun K hK=>?_
 simp [ht']
 refine hK _ _ ?_
 clear hK K
 refine aCalm_pre 4 (by rfl) fun K hK=>?_
 simp [hq']
 refine hK _ _ ?_
 clear hK K
 refine aCalm_call0 (hc _) (by first | rfl | simp) rfl rfl rfl (by first | (simp;done) | rfl) ?_
 refine aCalm_pre 1 (by rfl) fun K hK=>?_
 simp
 refine hK _ _ ?_
 clear hK K
 refine aCalm_end ?_
 simp
 refine hK _ _ ?_
 clear hK K
 cases r with
 | false =>
  refine awp_condT rfl (by simp) ?_
  repeat with_reducible refine awp_assoc ?_
  refine awp_sr fun K hK=>?_
  simp
  refine hK _ _ ?_
  clear hK K
  rw [hyes rfl]
  simp [reset_all hcl]
 | true =>
  refine awp_condF rfl (by simp) ?_
  refine awp_skip ?_
  refine hKB _ _ ?_
  clear hKB
  refine awp_region ?_
  simp [wrap_succ (show k < 4611686018427387904 by omega)]
  refine ⟨?_,weak_HL hcl rfl (by simp) (by simp)⟩
  simpa using hmiss rfl
set_option maxHeartbeats 1000000 in
theorem meet_c {b:Nat} (hb:b≤4611686018427387904):∀ t:Nd,t.Sh b→∀ (q:Nd) (H:AHeap),ACalls Tryz.prog 90 [t.enc,q.enc] H (boolV (meetN t q)) H:=by
 refine Nd.ind fun o s n l ih hs q H=>?_
 have hi:=hs.inv
 have hall:=meetAll_of l (by omega) (fun t ht=>ih t ht (hi.2 t ht))
 clear ih
 obtain ⟨o',s',n',m⟩:=q
 rw [meetN]
 simp only [Nd.enc_mk]
 refine acalls_walk (fun _=>.imm) [0,1,2,3,4,12,40] Tryz.mixed Tryz.func90 rfl rfl rfl (by decide) (fun hcl hlow=>?_)
 repeat with_reducible refine awp_assoc ?_
 refine awp_sr fun K hK=>?_
 simp
 refine hK _ _ ?_
 clear hK K
 by_cases h1:o < 3
 ·repeat with_reducible refine awp_assoc ?_
  refine awp_sr fun K hK=>?_
  simp [h1]
  refine hK _ _ ?_
  clear hK K
  repeat with_reducible refine awp_assoc ?_
  refine awp_seq_k fun K hK=>?_
  refine awp_condT rfl (by simp) ?_
  repeat with_reducible refine awp_assoc ?_
  refine awp_sr fun K hK=>?_
  simp
  refine hK _ _ ?_
  clear hK K
  rw [if_pos (.inl h1)]
  simp [reset_all hcl]
 by_cases h2:o' < 3
 ·repeat with_reducible refine awp_assoc ?_
  refine awp_sr fun K hK=>?_
  simp [h1,h2]
  refine hK _ _ ?_
  clear hK K
  repeat with_reducible refine awp_assoc ?_
  refine awp_seq_k fun K hK=>?_
  refine awp_condT rfl (by simp) ?_
  repeat with_reducible refine awp_assoc ?_
  refine awp_sr fun K hK=>?_
  simp
  refine hK _ _ ?_
  clear hK K
  rw [if_pos (.inr h2)]
  simp [reset_all hcl]
 rw [if_neg (by omega)]
 repeat with_reducible refine awp_assoc ?_
 refine awp_sr fun K hK=>?_
 simp [h1,h2]
 refine hK _ _ ?_
 clear hK K
 repeat with_reducible refine awp_assoc ?_
 refine awp_seq_k fun K hK=>?_
 refine awp_condF rfl (by simp) ?_
 refine awp_skip ?_
 refine hK _ _ ?_
 clear hK K
 by_cases h3:o=o'
 rotate_left
 ·repeat with_reducible refine awp_assoc ?_
  refine awp_sr fun K hK=>?_
  refine aOps_split 6 fun K hK=>?_
  simp [h3]
  refine hK _ _ ?_
  clear hK K
  refine aOps_split 6 fun K hK=>?_
  simp [h3]
  refine hK _ _ ?_
  clear hK K
  refine aOps_split 6 fun K hK=>?_
  simp [h3]
  refine hK _ _ ?_
  clear hK K
  refine aOps_split 6 fun K hK=>?_
  simp [h3]
  refine hK _ _ ?_
  clear hK K
  simp [h3]
  refine hK _ _ ?_
  clear hK K
  repeat with_reducible refine awp_assoc ?_
  refine awp_seq_k fun K hK=>?_
  refine awp_condT rfl (by simp) ?_
  repeat with_reducible refine awp_assoc ?_
  refine awp_sr fun K hK=>?_
  simp
  refine hK _ _ ?_
  clear hK K
  rw [if_pos (.inl h3)]
  simp [reset_all hcl]
 by_cases h4:s=s'
 rotate_left
 ·repeat with_reducible refine awp_assoc ?_
  refine awp_sr fun K hK=>?_
  refine aOps_split 6 fun K hK=>?_
  simp [h3,h4]
  refine hK _ _ ?_
  clear hK K
  refine aOps_split 6 fun K hK=>?_
  simp [h3,h4]
  refine hK _ _ ?_
  clear hK K
  refine aOps_split 6 fun K hK=>?_
  simp [h3,h4]
  refine hK _ _ ?_
  clear hK K
  refine aOps_split 6 fun K hK=>?_
  simp [h3,h4]
  refine hK _ _ ?_
  clear hK K
  simp [h3,h4]
  refine hK _ _ ?_
  clear hK K
  repeat with_reducible refine awp_assoc ?_
  refine awp_seq_k fun K hK=>?_
  refine awp_condT rfl (by simp) ?_
  repeat with_reducible refine awp_assoc ?_
  refine awp_sr fun K hK=>?_
  simp
  refine hK _ _ ?_
  clear hK K
  rw [if_pos (.inr (.inl h4))]
  simp [reset_all hcl]
 by_cases h5:n=n'
 rotate_left
 ·repeat with_reducible refine awp_assoc ?_
  refine awp_sr fun K hK=>?_
  refine aOps_split 6 fun K hK=>?_
  simp [h3,h4,h5]
  refine hK _ _ ?_
  clear hK K
  refine aOps_split 6 fun K hK=>?_
  simp [h3,h4,h5]
  refine hK _ _ ?_
  clear hK K
  refine aOps_split 6 fun K hK=>?_
  simp [h3,h4,h5]
  refine hK _ _ ?_
  clear hK K
  refine aOps_split 6 fun K hK=>?_
  simp [h3,h4,h5]
  refine hK _ _ ?_
  clear hK K
  simp [h3,h4,h5]
  refine hK _ _ ?_
  clear hK K
  repeat with_reducible refine awp_assoc ?_
  refine awp_seq_k fun K hK=>?_
  refine awp_condT rfl (by simp) ?_
  repeat with_reducible refine awp_assoc ?_
  refine awp_sr fun K hK=>?_
  simp
  refine hK _ _ ?_
  clear hK K
  rw [if_pos (.inr (.inr (.inl h5)))]
  simp [reset_all hcl]
 by_cases h6:l.length=m.length
 rotate_left
 ·have h6':¬ (l.length:Int)=m.length:=by omega
  repeat with_reducible refine awp_assoc ?_
  refine awp_sr fun K hK=>?_
  refine aOps_split 6 fun K hK=>?_
  simp [h3,h4,h5,h6,h6']
  refine hK _ _ ?_
  clear hK K
  refine aOps_split 6 fun K hK=>?_
  simp [h3,h4,h5,h6,h6']
  refine hK _ _ ?_
  clear hK K
  refine aOps_split 6 fun K hK=>?_
  simp [h3,h4,h5,h6,h6']
  refine hK _ _ ?_
  clear hK K
  refine aOps_split 6 fun K hK=>?_
  simp [h3,h4,h5,h6,h6']
  refine hK _ _ ?_
  clear hK K
  simp [h3,h4,h5,h6,h6']
  refine hK _ _ ?_
  clear hK K
  repeat with_reducible refine awp_assoc ?_
  refine awp_seq_k fun K hK=>?_
  refine awp_condT rfl (by simp) ?_
  repeat with_reducible refine awp_assoc ?_
  refine awp_sr fun K hK=>?_
  simp
  refine hK _ _ ?_
  clear hK K
  rw [if_pos (.inr (.inr (.inr h6)))]
  simp [reset_all hcl]
 rw [if_neg (by simp [h3,h4,h5,h6])]
 have hc:=hall m (by omega)
 repeat with_reducible refine awp_assoc ?_
 refine awp_sr fun K hK=>?_
 refine aOps_split 6 fun K hK=>?_
 simp [h3,h4,h5,h6]
 refine hK _ _ ?_
 clear hK K
 refine aOps_split 6 fun K hK=>?_
 simp [h3,h4,h5,h6]
 refine hK _ _ ?_
 clear hK K
 refine aOps_split 6 fun K hK=>?_
 simp [h3,h4,h5,h6]
 refine hK _ _ ?_
 clear hK K
 refine aOps_split 6 fun K hK=>?_
 simp [h3,h4,h5,h6]
 refine hK _ _ ?_
 clear hK K
 simp [h3,h4,h5,h6]
 refine hK _ _ ?_
 clear hK K
 repeat with_reducible refine awp_assoc ?_
 refine awp_seq_k fun K hK=>?_
 refine awp_condF rfl (by simp) ?_
 refine awp_skip ?_
 refine hK _ _ ?_
 clear hK K
 repeat with_reducible refine awp_assoc ?_
 refine awp_sr fun K hK=>?_
 refine aOps_split 4 fun K hK=>?_
 simp
 refine hK _ _ ?_
 clear hK K
 refine aOps_call (hc _) (by first | rfl | simp) rfl rfl (by first | (simp;done) | rfl) ?_
 simp
 refine hK _ _ ?_
 clear hK K
 simp [reset_all hcl]
theorem meetAll_c {b:Nat} (hb:b≤4611686018427387904) (l:List Nd) (hl:l.length < b) (hs:∀ t∈l,t.Sh b) (m:List Nd) (hlm:l.length≤m.length) (H:AHeap) :
  ACalls Tryz.prog 40 [.slice (l.map Nd.cells) none,.slice (m.map Nd.cells) none] H (boolV (meetL l m)) H :=
 meetAll_of l (by omega) (fun t ht=>meet_c hb t (hs t ht)) m hlm H
end Go.Proofs.YtdppfcbeiplckaaGreat
namespace Go.Proofs.YtdppfcbeiplckaaGreat
open Go Go.Abs Go.Proofs
set_option maxRecDepth 20000
attribute [local simp] aOps wantedA aStep aop aLoad aStore aBin aUn aFieldAddr aField aIndexAddr aIndex aLen aBuild aFill aAlloc aAppend aAppendOwn aMin aMax aBuildSlice litRows newRows isMut isOwn isNilS nilsW bytesR tokW tokAV tokL ret readC splice aeval isLit isLate isCut aCut AV.celled AV.one AV.ofValue Value.oneCell' Value.cells intOp strOp get_nid upd_nid awp aEnd aResults aResult Det unord isCall isNext
attribute [local simp] low_take low_strs low_comp low_tcomp wkEs_refl' WkBs WkEnv WkB WkL WkE WkO ABlock.low lowO lowL lowR AV.low cellsL_eq Ty.low low_map Ty.cells_length Ty.cells_one
attribute [local simp] cellsNd_eq low_nds Nd.cells_length Nd.cells_one low_ints low_rows low_strs low_strR low_rowR low_pls
mutual
def covN:Nd→Nd→Bool
 | .mk o s n l,.mk o' s' n' l'=>if o < 3 then true else if o'≠o∨s'≠s∨n'≠n then false else covL l l'
def covL:List Nd→List Nd→Bool
 | t::l,q::m=>covN t q && covL l m
 | _,_=>true
end
mutual
def cvkN:Nd→Nd→Bool
 | .mk o s n l,.mk o' s' n' l'=>if o < 3 then true else if o'≠o∨s'≠s∨n'≠n then true else cvkL l l'
def cvkL:List Nd→List Nd→Bool
 | t::l,q::m=>cvkN t q && cvkL l m
 | [],_=>true
 | _::_,[]=>false
end
theorem covL_zip:∀ a b:List Nd,covL a b=(a.zip b).all fun x=>covN x.1 x.2
 | t::l,q::m=>by simp [covL,covL_zip l m]
 | [],_=>by simp [covL]
 | _::_,[]=>by simp [covL]
theorem cvkL_len:∀ {a b:List Nd},cvkL a b=true→a.length≤b.length
 | t::l,q::m,h=>by simp only [cvkL,Bool.and_eq_true] at h;have:=cvkL_len h.2;simp;omega
 | [],_,_=>by simp
 | _::_,[],h=>by simp [cvkL] at h
theorem cvkL_at:∀ {a b:List Nd},cvkL a b=true→∀ {k:Nat} {t q:Nd},a[k]?=some t→b[k]?=some q→cvkN t q=true
 | t::l,q::m,h,0,t',q',ha,hb=>by
  simp only [cvkL,Bool.and_eq_true] at h
  simp only [List.getElem?_cons_zero,Option.some.injEq] at ha hb
  rw [←ha,←hb];exact h.1
 | t::l,q::m,h,k+1,t',q',ha,hb=>by
  simp only [cvkL,Bool.and_eq_true] at h
  simp only [List.getElem?_cons_succ] at ha hb
  exact cvkL_at h.2 ha hb
 | [],_,_,_,_,_,ha,_=>by simp at ha
 | _::_,[],_,_,_,_,_,hb=>by simp at hb
set_option maxHeartbeats 4000000 in
theorem covers_c {b:Nat} (hb:b≤4611686018427387904):∀ t:Nd,t.Sh b→∀ m:List Nd,cvkL t.kids m=true→∀ H:AHeap,ACalls Tryz.prog 131 [.slice (t.kids.map Nd.cells) none,.slice (m.map Nd.cells) none] H (boolV (covL t.kids m)) H:=by
 refine Nd.ind fun o0 s0 n0 l ih hs m hck H=>?_
 have hi:=hs.inv
 simp only [Nd.kids] at hck ⊢
 have hlm:=cvkL_len hck
 have hlen:l.length < 4611686018427387904:=by omega
 rw [covL_zip,all_not_any]
 obtain ⟨res,hres⟩:∃ r,((l.zip m).any fun x=>!covN x.1 x.2)=r:=⟨_,rfl⟩
 rw [hres]
 refine acalls_walk (fun _=>.imm) [0,1,4,5,7,8,9,11,18] Tryz.mixed Tryz.func131 rfl rfl rfl (by decide) (fun hcl hlow=>?_)
 repeat with_reducible refine awp_assoc ?_
 refine awp_sr fun K hK=>?_
 simp
 refine hK _ _ ?_
 clear hK K
 repeat with_reducible refine awp_assoc ?_
 refine awp_sr fun K hK=>?_
 simp
 refine hK _ _ ?_
 clear hK K
 repeat with_reducible refine awp_assoc ?_
 refine awp_seq_k fun K hK=>?_
 refine awp_block ?_
 refine awp_up l.length (fun k=>Env.ofL [(0,.slice (l.map Nd.cells) none),(1,.slice (m.map Nd.cells) none),(7,intV (l.length:Int)),(8,intV k)]) (fun k=>HL H []) (fun k=>((l.zip m).take k).any (fun x=>!covN x.1 x.2)=false) (weak_HL hcl rfl (by simp) (by simp)) (by simp) (fun k hk hvk=>?_) (fun hvk=>?_)
 rotate_left
 ·repeat with_reducible refine awp_assoc ?_
  refine awp_sr fun K hK=>?_
  simp
  refine hK _ _ ?_
  clear hK K
  repeat with_reducible refine awp_assoc ?_
  refine awp_seq_k fun K hK=>?_
  refine awp_condF rfl (by simp) ?_
  refine awp_exit ?_
  simp
  clear hK K
  refine hK _ _ ?_
  clear hK K
  repeat with_reducible refine awp_assoc ?_
  refine awp_sr fun K hK=>?_
  simp
  refine hK _ _ ?_
  clear hK K
  rw [List.take_of_length_le (by simp;omega)] at hvk
  rw [hvk] at hres
  subst hres
  simp [reset_all hcl]
 obtain ⟨t,ht⟩:∃ t,l[k]?=some t:=⟨_,List.getElem?_eq_getElem hk⟩
 obtain ⟨q,hq⟩:∃ q,m[k]?=some q:=⟨_,List.getElem?_eq_getElem (by omega)⟩
 have hz:(l.zip m)[k]?=some (t,q):=by rw [List.getElem?_zip_eq_some];exact ⟨ht,hq⟩
 have hyes:covN t q=false→res=true:=fun h=>by rw [←hres];exact any_at (p:=fun x:Nd × Nd=>!covN x.1 x.2) hz (by simp [h])
 have hmiss:=miss (p:=fun x:Nd × Nd=>!covN x.1 x.2) hz hvk
 have hckt:=cvkL_at hck ht hq
 have iht:=ih t (List.mem_of_getElem? ht) (hi.2 t (List.mem_of_getElem? ht))
 clear hres ih
 simp only at hmiss
 obtain ⟨o,s,n,tl⟩:=t
 obtain ⟨o',s',n',ql⟩:=q
 rw [covN] at hyes hmiss
 rw [cvkN] at hckt
 simp only [Nd.kids] at iht
 have ht':(l.map Nd.cells)[k]?=some [intV o,strV s,intV n,.slice (tl.map Nd.cells) none]:=by simp [ht,Nd.cells]
 have hq':(m.map Nd.cells)[k]?=some [intV o',strV s',intV n',.slice (ql.map Nd.cells) none]:=by simp [hq,Nd.cells]
 repeat with_reducible refine awp_assoc ?_
 refine awp_sr fun K hK=>?_
 simp [hk]
 refine hK _ _ ?_
 clear hK K
 repeat with_reducible refine awp_assoc ?_
 refine awp_seq_k fun K hK=>?_
 refine awp_condT rfl (by simp) ?_
 refine awp_skip ?_
 refine hK _ _ ?_
 clear hK K
 refine awp_seq_k fun KB hKB=>?_
 refine awp_block ?_
 repeat with_reducible refine awp_assoc ?_
 refine awp_sr fun K hK=>?_
 simp
 refine hK _ _ ?_
 clear hK K
 refine awp_block ?_
 by_cases h1:o < 3
 ·repeat with_reducible refine awp_assoc ?_
  refine awp_sr fun K hK=>?_
  simp [ht',h1]
  refine hK _ _ ?_
  clear hK K
  refine awp_condT rfl (by simp) ?_
  refine awp_skip ?_
  refine hKB _ _ ?_
  clear hKB
  refine awp_region ?_
  simp [wrap_succ (show k < 4611686018427387904 by omega)]
  refine ⟨?_,weak_HL hcl rfl (by simp) (by simp)⟩
  simpa using hmiss (by rw [if_pos h1];rfl)
 rw [if_neg h1] at hyes hmiss hckt
 repeat with_reducible refine awp_assoc ?_
 refine awp_sr fun K hK=>?_
 simp [ht',h1]
 refine hK _ _ ?_
 clear hK K
 refine awp_condF rfl (by simp) ?_
 by_cases h3:o'=o
 rotate_left
 ·repeat with_reducible refine awp_assoc ?_
  refine awp_sdc [] [[],[0],[],[],[],[0,1,2,3,4],[0,1,2,3,4,5],[0,1,2,3,4],[0,1,2,3,4],[0,1,2,3,4],[0,1,5,6],[0,1,2,5,6,7],[0,1,2,3,5,6,7,8],[0,1,2,3,5,6,7,8,12],[0,1,2,3,5,6,7,8],[0,1,2,3,5,6,7,8],[0,1,2,3,5,6,7,8],[0,1,2,3,5,6,7,8,12,13,14,15,16],[0,1,2,3,5,6,7,8,12,13,14,15,16,17],[0,1,2,3,5,6,7,8,12,13,14,15,16],[0,1,2,3,5,6,7,8,12,13,14,15,16],[0,1,2,3,5,6,7,8,12,13,14,15,16],[0,1,2,3,5,6,7,8,12,13,17,18],[0,1,2,3,5,6,7,8,12,13,14,17,18,19],[0,1,2,3,5,6,7,8,12,13,14,15,17,18,19,20],[0,1,2,3,4,5,6,7,8,9,12,13,14,15,16,17,18,19,20,21],[0,1,2,3,4,5,6,7,8,9,12,13,14,15,16,17,18,19,20,21,25],[0,1,2,3,4,5,6,7,8,9,12,13,14,15,16,17,18,19,20,21],[0,1,2,3,4,5,6,7,8,9,12,13,14,15,16,17,18,19,20,21],[0,1,2,3,4,5,6,7,8,9,12,13,14,15,16,17,18,19,20,21],[0,1,2,3,4,5,6,7,8,9,12,13,14,15,16,17,18,19,20,21,25,26,27,28,29],[0,1,2,3,4,5,6,7,8,9,12,13,14,15,16,17,18,19,20,21,25,26,27,28,29,30],[0,1,2,3,4,5,6,7,8,9,12,13,14,15,16,17,18,19,20,21,25,26,27,28,29],[0,1,2,3,4,5,6,7,8,9,12,13,14,15,16,17,18,19,20,21,25,26,27,28,29],[0,1,2,3,4,5,6,7,8,9,12,13,14,15,16,17,18,19,20,21,25,26,27,28,29],[0,1,2,3,4,5,6,7,8,9,12,13,14,15,16,17,18,19,20,21,25,26,30,31],[0,1,2,3,4,5,6,7,8,9,12,13,14,15,16,17,18,19,20,21,25,26,27,30,31,32],[0,1,2,3,4,5,6,7,8,9,12,13,14,15,16,17,18,19,20,21,25,26,27,28,30,31,32,33],[0,1,2,3,4,5,6,7,8,9,10,12,13,14,15,16,17,18,19,20,21,22,25,26,27,28,29,30,31,32,33,34],[0,1,2,3,4,5,6,7,8,9,10,12,13,14,15,16,17,18,19,20,21,22,25,26,27,28,29,30,31,32,33,34,38],[0,1,2,3,4,5,6,7,8,9,10,12,13,14,15,16,17,18,19,20,21,22,25,26,27,28,29,30,31,32,33,34],[0,1,2,3,4,5,6,7,8,9,10,12,13,14,15,16,17,18,19,20,21,22,25,26,27,28,29,30,31,32,33,34],[0,1,2,3,4,5,6,7,8,9,10,12,13,14,15,16,17,18,19,20,21,22,25,26,27,28,29,30,31,32,33,34],[0,1,2,3,4,5,6,7,8,9,10,12,13,14,15,16,17,18,19,20,21,22,25,26,27,28,29,30,31,32,33,34,38,39,40,41,42],[0,1,2,3,4,5,6,7,8,9,10,12,13,14,15,16,17,18,19,20,21,22,25,26,27,28,29,30,31,32,33,34,38,39,40,41,42,43],[0,1,2,3,4,5,6,7,8,9,10,12,13,14,15,16,17,18,19,20,21,22,25,26,27,28,29,30,31,32,33,34,38,39,40,41,42],[0,1,2,3,4,5,6,7,8,9,10,12,13,14,15,16,17,18,19,20,21,22,25,26,27,28,29,30,31,32,33,34,38,39,40,41,42],[0,1,2,3,4,5,6,7,8,9,10,12,13,14,15,16,17,18,19,20,21,22,25,26,27,28,29,30,31,32,33,34,38,39,40,41,42],[0,1,2,3,4,5,6,7,8,9,10,12,13,14,15,16,17,18,19,20,21,22,25,26,27,28,29,30,31,32,33,34,38,39,43,44],[0,1,2,3,4,5,6,7,8,9,10,12,13,14,15,16,17,18,19,20,21,22,25,26,27,28,29,30,31,32,33,34,38,39,40,43,44,45],[0,1,2,3,4,5,6,7,8,9,10,12,13,14,15,16,17,18,19,20,21,22,25,26,27,28,29,30,31,32,33,34,38,39,40,41,43,44,45,46],[0,1,2,3,4,5,6,7,8,9,10,11,12,13,14,15,16,17,18,19,20,21,22,23,25,26,27,28,29,30,31,32,33,34,35,38,39,40,43,44,45]] (by kernel_rfl) (by rfl) fun K hK=>?_
  refine aCalm_pre 6 (by rfl) fun K hK=>?_
  simp [hq',ht',h3]
  refine hK _ _ ?_
  clear hK K
  refine aCalm_pre 6 (by rfl) fun K hK=>?_
  simp [hq',ht',h3]
  refine hK _ _ ?_
  clear hK K
  refine aCalm_pre 6 (by rfl) fun K hK=>?_
  simp [hq',ht',h3]
  refine hK _ _ ?_
  clear hK K
  refine aCalm_pre 6 (by rfl) fun K hK=>?_
  simp [hq',ht',h3]
  refine hK _ _ ?_
  clear hK K
  refine aCalm_pre 6 (by rfl) fun K hK=>?_
  simp [hq',ht',h3]
  refine hK _ _ ?_
  clear hK K
  refine aCalm_pre 6 (by rfl) fun K hK=>?_
  simp [hq',ht',h3]
  refine hK _ _ ?_
  clear hK K
  refine aCalm_pre 6 (by rfl) fun K hK=>?_
  simp [hq',ht',h3]
  refine hK _ _ ?_
  clear hK K
  refine aCalm_pre 6 (by rfl) fun K hK=>?_
  simp [hq',ht',h3]
  refine hK _ _ ?_
  clear hK K
  refine aCalm_skip (by first | rfl | simp) ?_
  refine aCalm_pre 3 (by rfl) fun K hK=>?_
  simp [hq',ht',h3]
  refine hK _ _ ?_
  clear hK K
  refine aCalm_end ?_
  simp
  refine hK _ _ ?_
  clear hK K
  refine awp_condT rfl (by simp) ?_
  repeat with_reducible refine awp_assoc ?_
  refine awp_sr fun K hK=>?_
  simp
  refine hK _ _ ?_
  clear hK K
  rw [hyes (by rw [if_pos (.inl h3)])]
  simp [reset_all hcl]
 by_cases h4:s'=s
 rotate_left
 ·repeat with_reducible refine awp_assoc ?_
  refine awp_sdc [] [[],[0],[],[],[],[0,1,2,3,4],[0,1,2,3,4,5],[0,1,2,3,4],[0,1,2,3,4],[0,1,2,3,4],[0,1,5,6],[0,1,2,5,6,7],[0,1,2,3,5,6,7,8],[0,1,2,3,5,6,7,8,12],[0,1,2,3,5,6,7,8],[0,1,2,3,5,6,7,8],[0,1,2,3,5,6,7,8],[0,1,2,3,5,6,7,8,12,13,14,15,16],[0,1,2,3,5,6,7,8,12,13,14,15,16,17],[0,1,2,3,5,6,7,8,12,13,14,15,16],[0,1,2,3,5,6,7,8,12,13,14,15,16],[0,1,2,3,5,6,7,8,12,13,14,15,16],[0,1,2,3,5,6,7,8,12,13,17,18],[0,1,2,3,5,6,7,8,12,13,14,17,18,19],[0,1,2,3,5,6,7,8,12,13,14,15,17,18,19,20],[0,1,2,3,4,5,6,7,8,9,12,13,14,15,16,17,18,19,20,21],[0,1,2,3,4,5,6,7,8,9,12,13,14,15,16,17,18,19,20,21,25],[0,1,2,3,4,5,6,7,8,9,12,13,14,15,16,17,18,19,20,21],[0,1,2,3,4,5,6,7,8,9,12,13,14,15,16,17,18,19,20,21],[0,1,2,3,4,5,6,7,8,9,12,13,14,15,16,17,18,19,20,21],[0,1,2,3,4,5,6,7,8,9,12,13,14,15,16,17,18,19,20,21,25,26,27,28,29],[0,1,2,3,4,5,6,7,8,9,12,13,14,15,16,17,18,19,20,21,25,26,27,28,29,30],[0,1,2,3,4,5,6,7,8,9,12,13,14,15,16,17,18,19,20,21,25,26,27,28,29],[0,1,2,3,4,5,6,7,8,9,12,13,14,15,16,17,18,19,20,21,25,26,27,28,29],[0,1,2,3,4,5,6,7,8,9,12,13,14,15,16,17,18,19,20,21,25,26,27,28,29],[0,1,2,3,4,5,6,7,8,9,12,13,14,15,16,17,18,19,20,21,25,26,30,31],[0,1,2,3,4,5,6,7,8,9,12,13,14,15,16,17,18,19,20,21,25,26,27,30,31,32],[0,1,2,3,4,5,6,7,8,9,12,13,14,15,16,17,18,19,20,21,25,26,27,28,30,31,32,33],[0,1,2,3,4,5,6,7,8,9,10,12,13,14,15,16,17,18,19,20,21,22,25,26,27,28,29,30,31,32,33,34],[0,1,2,3,4,5,6,7,8,9,10,12,13,14,15,16,17,18,19,20,21,22,25,26,27,28,29,30,31,32,33,34,38],[0,1,2,3,4,5,6,7,8,9,10,12,13,14,15,16,17,18,19,20,21,22,25,26,27,28,29,30,31,32,33,34],[0,1,2,3,4,5,6,7,8,9,10,12,13,14,15,16,17,18,19,20,21,22,25,26,27,28,29,30,31,32,33,34],[0,1,2,3,4,5,6,7,8,9,10,12,13,14,15,16,17,18,19,20,21,22,25,26,27,28,29,30,31,32,33,34],[0,1,2,3,4,5,6,7,8,9,10,12,13,14,15,16,17,18,19,20,21,22,25,26,27,28,29,30,31,32,33,34,38,39,40,41,42],[0,1,2,3,4,5,6,7,8,9,10,12,13,14,15,16,17,18,19,20,21,22,25,26,27,28,29,30,31,32,33,34,38,39,40,41,42,43],[0,1,2,3,4,5,6,7,8,9,10,12,13,14,15,16,17,18,19,20,21,22,25,26,27,28,29,30,31,32,33,34,38,39,40,41,42],[0,1,2,3,4,5,6,7,8,9,10,12,13,14,15,16,17,18,19,20,21,22,25,26,27,28,29,30,31,32,33,34,38,39,40,41,42],[0,1,2,3,4,5,6,7,8,9,10,12,13,14,15,16,17,18,19,20,21,22,25,26,27,28,29,30,31,32,33,34,38,39,40,41,42],[0,1,2,3,4,5,6,7,8,9,10,12,13,14,15,16,17,18,19,20,21,22,25,26,27,28,29,30,31,32,33,34,38,39,43,44],[0,1,2,3,4,5,6,7,8,9,10,12,13,14,15,16,17,18,19,20,21,22,25,26,27,28,29,30,31,32,33,34,38,39,40,43,44,45],[0,1,2,3,4,5,6,7,8,9,10,12,13,14,15,16,17,18,19,20,21,22,25,26,27,28,29,30,31,32,33,34,38,39,40,41,43,44,45,46],[0,1,2,3,4,5,6,7,8,9,10,11,12,13,14,15,16,17,18,19,20,21,22,23,25,26,27,28,29,30,31,32,33,34,35,38,39,40,43,44,45]] (by kernel_rfl) (by rfl) fun K hK=>?_
  refine aCalm_pre 6 (by rfl) fun K hK=>?_
  simp [hq',ht',h3]
  refine hK _ _ ?_
  clear hK K
  refine aCalm_pre 6 (by rfl) fun K hK=>?_
  simp [hq',ht',h3]
  refine hK _ _ ?_
  clear hK K
  refine aCalm_pre 6 (by rfl) fun K hK=>?_
  simp [hq',ht',h3,h4]
  refine hK _ _ ?_
  clear hK K
  refine aCalm_pre 6 (by rfl) fun K hK=>?_
  simp [hq',ht',h3,h4]
  refine hK _ _ ?_
  clear hK K
  refine aCalm_pre 6 (by rfl) fun K hK=>?_
  simp [hq',ht',h3,h4]
  refine hK _ _ ?_
  clear hK K
  refine aCalm_pre 6 (by rfl) fun K hK=>?_
  simp [hq',ht',h3,h4]
  refine hK _ _ ?_
  clear hK K
  refine aCalm_pre 6 (by rfl) fun K hK=>?_
  simp [hq',ht',h3,h4]
  refine hK _ _ ?_
  clear hK K
  refine aCalm_pre 6 (by rfl) fun K hK=>?_
  simp [hq',ht',h3,h4]
  refine hK _ _ ?_
  clear hK K
  refine aCalm_skip (by first | rfl | simp) ?_
  refine aCalm_pre 3 (by rfl) fun K hK=>?_
  simp [hq',ht',h3,h4]
  refine hK _ _ ?_
  clear hK K
  refine aCalm_end ?_
  simp
  refine hK _ _ ?_
  clear hK K
  refine awp_condT rfl (by simp) ?_
  repeat with_reducible refine awp_assoc ?_
  refine awp_sr fun K hK=>?_
  simp
  refine hK _ _ ?_
  clear hK K
  rw [hyes (by rw [if_pos (.inr (.inl h4))])]
  simp [reset_all hcl]
 by_cases h5:n'=n
 rotate_left
 ·repeat with_reducible refine awp_assoc ?_
  refine awp_sdc [] [[],[0],[],[],[],[0,1,2,3,4],[0,1,2,3,4,5],[0,1,2,3,4],[0,1,2,3,4],[0,1,2,3,4],[0,1,5,6],[0,1,2,5,6,7],[0,1,2,3,5,6,7,8],[0,1,2,3,5,6,7,8,12],[0,1,2,3,5,6,7,8],[0,1,2,3,5,6,7,8],[0,1,2,3,5,6,7,8],[0,1,2,3,5,6,7,8,12,13,14,15,16],[0,1,2,3,5,6,7,8,12,13,14,15,16,17],[0,1,2,3,5,6,7,8,12,13,14,15,16],[0,1,2,3,5,6,7,8,12,13,14,15,16],[0,1,2,3,5,6,7,8,12,13,14,15,16],[0,1,2,3,5,6,7,8,12,13,17,18],[0,1,2,3,5,6,7,8,12,13,14,17,18,19],[0,1,2,3,5,6,7,8,12,13,14,15,17,18,19,20],[0,1,2,3,4,5,6,7,8,9,12,13,14,15,16,17,18,19,20,21],[0,1,2,3,4,5,6,7,8,9,12,13,14,15,16,17,18,19,20,21,25],[0,1,2,3,4,5,6,7,8,9,12,13,14,15,16,17,18,19,20,21],[0,1,2,3,4,5,6,7,8,9,12,13,14,15,16,17,18,19,20,21],[0,1,2,3,4,5,6,7,8,9,12,13,14,15,16,17,18,19,20,21],[0,1,2,3,4,5,6,7,8,9,12,13,14,15,16,17,18,19,20,21,25,26,27,28,29],[0,1,2,3,4,5,6,7,8,9,12,13,14,15,16,17,18,19,20,21,25,26,27,28,29,30],[0,1,2,3,4,5,6,7,8,9,12,13,14,15,16,17,18,19,20,21,25,26,27,28,29],[0,1,2,3,4,5,6,7,8,9,12,13,14,15,16,17,18,19,20,21,25,26,27,28,29],[0,1,2,3,4,5,6,7,8,9,12,13,14,15,16,17,18,19,20,21,25,26,27,28,29],[0,1,2,3,4,5,6,7,8,9,12,13,14,15,16,17,18,19,20,21,25,26,30,31],[0,1,2,3,4,5,6,7,8,9,12,13,14,15,16,17,18,19,20,21,25,26,27,30,31,32],[0,1,2,3,4,5,6,7,8,9,12,13,14,15,16,17,18,19,20,21,25,26,27,28,30,31,32,33],[0,1,2,3,4,5,6,7,8,9,10,12,13,14,15,16,17,18,19,20,21,22,25,26,27,28,29,30,31,32,33,34],[0,1,2,3,4,5,6,7,8,9,10,12,13,14,15,16,17,18,19,20,21,22,25,26,27,28,29,30,31,32,33,34,38],[0,1,2,3,4,5,6,7,8,9,10,12,13,14,15,16,17,18,19,20,21,22,25,26,27,28,29,30,31,32,33,34],[0,1,2,3,4,5,6,7,8,9,10,12,13,14,15,16,17,18,19,20,21,22,25,26,27,28,29,30,31,32,33,34],[0,1,2,3,4,5,6,7,8,9,10,12,13,14,15,16,17,18,19,20,21,22,25,26,27,28,29,30,31,32,33,34],[0,1,2,3,4,5,6,7,8,9,10,12,13,14,15,16,17,18,19,20,21,22,25,26,27,28,29,30,31,32,33,34,38,39,40,41,42],[0,1,2,3,4,5,6,7,8,9,10,12,13,14,15,16,17,18,19,20,21,22,25,26,27,28,29,30,31,32,33,34,38,39,40,41,42,43],[0,1,2,3,4,5,6,7,8,9,10,12,13,14,15,16,17,18,19,20,21,22,25,26,27,28,29,30,31,32,33,34,38,39,40,41,42],[0,1,2,3,4,5,6,7,8,9,10,12,13,14,15,16,17,18,19,20,21,22,25,26,27,28,29,30,31,32,33,34,38,39,40,41,42],[0,1,2,3,4,5,6,7,8,9,10,12,13,14,15,16,17,18,19,20,21,22,25,26,27,28,29,30,31,32,33,34,38,39,40,41,42],[0,1,2,3,4,5,6,7,8,9,10,12,13,14,15,16,17,18,19,20,21,22,25,26,27,28,29,30,31,32,33,34,38,39,43,44],[0,1,2,3,4,5,6,7,8,9,10,12,13,14,15,16,17,18,19,20,21,22,25,26,27,28,29,30,31,32,33,34,38,39,40,43,44,45],[0,1,2,3,4,5,6,7,8,9,10,12,13,14,15,16,17,18,19,20,21,22,25,26,27,28,29,30,31,32,33,34,38,39,40,41,43,44,45,46],[0,1,2,3,4,5,6,7,8,9,10,11,12,13,14,15,16,17,18,19,20,21,22,23,25,26,27,28,29,30,31,32,33,34,35,38,39,40,43,44,45]] (by kernel_rfl) (by rfl) fun K hK=>?_
  refine aCalm_pre 6 (by rfl) fun K hK=>?_
  simp [hq',ht',h3]
  refine hK _ _ ?_
  clear hK K
  refine aCalm_pre 6 (by rfl) fun K hK=>?_
  simp [hq',ht',h3]
  refine hK _ _ ?_
  clear hK K
  refine aCalm_pre 6 (by rfl) fun K hK=>?_
  simp [hq',ht',h3,h4]
  refine hK _ _ ?_
  clear hK K
  refine aCalm_pre 6 (by rfl) fun K hK=>?_
  simp [hq',ht',h3,h4]
  refine hK _ _ ?_
  clear hK K
  refine aCalm_pre 6 (by rfl) fun K hK=>?_
  simp [hq',ht',h3,h4]
  refine hK _ _ ?_
  clear hK K
  refine aCalm_pre 6 (by rfl) fun K hK=>?_
  simp [hq',ht',h3,h4,h5]
  refine hK _ _ ?_
  clear hK K
  refine aCalm_pre 6 (by rfl) fun K hK=>?_
  simp [hq',ht',h3,h4,h5]
  refine hK _ _ ?_
  clear hK K
  refine aCalm_pre 6 (by rfl) fun K hK=>?_
  simp [hq',ht',h3,h4,h5]
  refine hK _ _ ?_
  clear hK K
  refine aCalm_skip (by first | rfl | simp) ?_
  refine aCalm_pre 3 (by rfl) fun K hK=>?_
  simp [hq',ht',h3,h4,h5]
  refine hK _ _ ?_
  clear hK K
  refine aCalm_end ?_
  simp
  refine hK _ _ ?_
  clear hK K
  refine awp_condT rfl (by simp) ?_
  repeat with_reducible refine awp_assoc ?_
  refine awp_sr fun K hK=>?_
  simp
  refine hK _ _ ?_
  clear hK K
  rw [hyes (by rw [if_pos (.inr (.inr h5))])]
  simp [reset_all hcl]
 rw [if_neg (by simp [h3,h4,h5])] at hyes hmiss hckt
 have hc:=iht ql hckt
 repeat with_reducible refine awp_assoc ?_
 refine awp_sdc [] [[],[0],[],[],[],[0,1,2,3,4],[0,1,2,3,4,5],[0,1,2,3,4],[0,1,2,3,4],[0,1,2,3,4],[0,1,5,6],[0,1,2,5,6,7],[0,1,2,3,5,6,7,8],[0,1,2,3,5,6,7,8,12],[0,1,2,3,5,6,7,8],[0,1,2,3,5,6,7,8],[0,1,2,3,5,6,7,8],[0,1,2,3,5,6,7,8,12,13,14,15,16],[0,1,2,3,5,6,7,8,12,13,14,15,16,17],[0,1,2,3,5,6,7,8,12,13,14,15,16],[0,1,2,3,5,6,7,8,12,13,14,15,16],[0,1,2,3,5,6,7,8,12,13,14,15,16],[0,1,2,3,5,6,7,8,12,13,17,18],[0,1,2,3,5,6,7,8,12,13,14,17,18,19],[0,1,2,3,5,6,7,8,12,13,14,15,17,18,19,20],[0,1,2,3,4,5,6,7,8,9,12,13,14,15,16,17,18,19,20,21],[0,1,2,3,4,5,6,7,8,9,12,13,14,15,16,17,18,19,20,21,25],[0,1,2,3,4,5,6,7,8,9,12,13,14,15,16,17,18,19,20,21],[0,1,2,3,4,5,6,7,8,9,12,13,14,15,16,17,18,19,20,21],[0,1,2,3,4,5,6,7,8,9,12,13,14,15,16,17,18,19,20,21],[0,1,2,3,4,5,6,7,8,9,12,13,14,15,16,17,18,19,20,21,25,26,27,28,29],[0,1,2,3,4,5,6,7,8,9,12,13,14,15,16,17,18,19,20,21,25,26,27,28,29,30],[0,1,2,3,4,5,6,7,8,9,12,13,14,15,16,17,18,19,20,21,25,26,27,28,29],[0,1,2,3,4,5,6,7,8,9,12,13,14,15,16,17,18,19,20,21,25,26,27,28,29],[0,1,2,3,4,5,6,7,8,9,12,13,14,15,16,17,18,19,20,21,25,26,27,28,29],[0,1,2,3,4,5,6,7,8,9,12,13,14,15,16,17,18,19,20,21,25,26,30,31],[0,1,2,3,4,5,6,7,8,9,12,13,14,15,16,17,18,19,20,21,25,26,27,30,31,32],[0,1,2,3,4,5,6,7,8,9,12,13,14,15,16,17,18,19,20,21,25,26,27,28,30,31,32,33],[0,1,2,3,4,5,6,7,8,9,10,12,13,14,15,16,17,18,19,20,21,22,25,26,27,28,29,30,31,32,33,34],[0,1,2,3,4,5,6,7,8,9,10,12,13,14,15,16,17,18,19,20,21,22,25,26,27,28,29,30,31,32,33,34,38],[0,1,2,3,4,5,6,7,8,9,10,12,13,14,15,16,17,18,19,20,21,22,25,26,27,28,29,30,31,32,33,34],[0,1,2,3,4,5,6,7,8,9,10,12,13,14,15,16,17,18,19,20,21,22,25,26,27,28,29,30,31,32,33,34],[0,1,2,3,4,5,6,7,8,9,10,12,13,14,15,16,17,18,19,20,21,22,25,26,27,28,29,30,31,32,33,34],[0,1,2,3,4,5,6,7,8,9,10,12,13,14,15,16,17,18,19,20,21,22,25,26,27,28,29,30,31,32,33,34,38,39,40,41,42],[0,1,2,3,4,5,6,7,8,9,10,12,13,14,15,16,17,18,19,20,21,22,25,26,27,28,29,30,31,32,33,34,38,39,40,41,42,43],[0,1,2,3,4,5,6,7,8,9,10,12,13,14,15,16,17,18,19,20,21,22,25,26,27,28,29,30,31,32,33,34,38,39,40,41,42],[0,1,2,3,4,5,6,7,8,9,10,12,13,14,15,16,17,18,19,20,21,22,25,26,27,28,29,30,31,32,33,34,38,39,40,41,42],[0,1,2,3,4,5,6,7,8,9,10,12,13,14,15,16,17,18,19,20,21,22,25,26,27,28,29,30,31,32,33,34,38,39,40,41,42],[0,1,2,3,4,5,6,7,8,9,10,12,13,14,15,16,17,18,19,20,21,22,25,26,27,28,29,30,31,32,33,34,38,39,43,44],[0,1,2,3,4,5,6,7,8,9,10,12,13,14,15,16,17,18,19,20,21,22,25,26,27,28,29,30,31,32,33,34,38,39,40,43,44,45],[0,1,2,3,4,5,6,7,8,9,10,12,13,14,15,16,17,18,19,20,21,22,25,26,27,28,29,30,31,32,33,34,38,39,40,41,43,44,45,46],[0,1,2,3,4,5,6,7,8,9,10,11,12,13,14,15,16,17,18,19,20,21,22,23,25,26,27,28,29,30,31,32,33,34,35,38,39,40,43,44,45]] (by kernel_rfl) (by rfl) fun K hK=>?_
 refine aCalm_pre 6 (by rfl) fun K hK=>?_
 simp [hq',ht',h3]
 refine hK _ _ ?_
 clear hK K
 refine aCalm_pre 6 (by rfl) fun K hK=>?_
 simp [hq',ht',h3]
 refine hK _ _ ?_
 clear hK K
 refine aCalm_pre 6 (by rfl) fun K hK=>?_
 simp [hq',ht',h3,h4]
 refine hK _ _ ?_
 clear hK K
 refine aCalm_pre 6 (by rfl) fun K hK=>?_
 simp [hq',ht',h3,h4]
 refine hK _ _ ?_
 clear hK K
 refine aCalm_pre 6 (by rfl) fun K hK=>?_
 simp [hq',ht',h3,h4]
 refine hK _ _ ?_
 clear hK K
 refine aCalm_pre 6 (by rfl) fun K hK=>?_
 simp [hq',ht',h3,h4,h5]
 refine hK _ _ ?_
 clear hK K
 refine aCalm_pre 6 (by rfl) fun K hK=>?_
 simp [hq',ht',h3,h4,h5]
 refine hK _ _ ?_
 clear hK K
 refine aCalm_pre 6 (by rfl) fun K hK=>?_
 simp [hq',ht',h3,h4,h5]
 refine hK _ _ ?_
 clear hK K
 refine aCalm_call0 (hc _) (by first | rfl | simp) rfl rfl rfl (by first | (simp;done) | rfl) ?_
 refine aCalm_pre 3 (by rfl) fun K hK=>?_
 simp
 refine hK _ _ ?_
 clear hK K
 refine aCalm_end ?_
 simp
 refine hK _ _ ?_
 clear hK K
 generalize covL tl ql=r at *
 cases r with
 | false =>
  refine awp_condT rfl (by simp) ?_
  repeat with_reducible refine awp_assoc ?_
  refine awp_sr fun K hK=>?_
  simp
  refine hK _ _ ?_
  clear hK K
  rw [hyes rfl]
  simp [reset_all hcl]
 | true =>
  refine awp_condF rfl (by simp) ?_
  refine awp_skip ?_
  refine hKB _ _ ?_
  clear hKB
  refine awp_region ?_
  simp [wrap_succ (show k < 4611686018427387904 by omega)]
  refine ⟨?_,weak_HL hcl rfl (by simp) (by simp)⟩
  simpa using hmiss rfl
def pthR (r:List Int):List AV:=[.slice (r.map intR) none]
theorem low_pths (n:Nat) (l:List (List Int)):lowR n (l.map pthR):=lowR_map fun r _=>⟨⟨by simp,low_ints n r⟩,trivial⟩
theorem iClone_c (l:List Int) (hl:l.length < 1099511627776) (H:AHeap):ACalls Tryz.prog 73 [.slice (l.map intR) none] H (.vec (nid H.next 1) l.length) (HL H [.tok 0 1 (some []),.tok l.length 1 (some (l.map intR))]):=by
 cases l with
 | nil =>
  refine acalls_nil2 fun a cap=>?_
  cases a with
  | none =>
   refine acalls_walk (fun t=>if t=2 then .nilm 1 else if t=5 then .own else .imm) [0,2,4] Tryz.mixed Tryz.func73 rfl rfl rfl (by decide) (fun hcl hlow=>?_)
   repeat with_reducible refine awp_assoc ?_
   refine awp_sr fun K hK=>?_
   simp
   refine hK _ _ ?_
   clear hK K
   repeat with_reducible refine awp_assoc ?_
   refine awp_sr fun K hK=>?_
   simp
   refine hK _ _ ?_
   clear hK K
   repeat with_reducible refine awp_assoc ?_
   refine awp_seq_k fun K hK=>?_
   refine awp_condT rfl (by simp) ?_
   repeat with_reducible refine awp_assoc ?_
   refine awp_sr fun K hK=>?_
   simp
   refine hK _ _ ?_
   clear hK K
   simp
   exact ⟨reset_HL hcl (by simp [WkR]),le_nid⟩
  | some a =>
   refine acalls_walk (fun t=>if t=2 then .nilm 1 else if t=5 then .own else .imm) [0,2,4] Tryz.mixed Tryz.func73 rfl rfl rfl (by decide) (fun hcl hlow=>?_)
   repeat with_reducible refine awp_assoc ?_
   refine awp_sr fun K hK=>?_
   simp
   refine hK _ _ ?_
   clear hK K
   repeat with_reducible refine awp_assoc ?_
   refine awp_sr fun K hK=>?_
   simp
   refine hK _ _ ?_
   clear hK K
   repeat with_reducible refine awp_assoc ?_
   refine awp_seq_k fun K hK=>?_
   refine awp_condF rfl (by simp) ?_
   refine awp_skip ?_
   refine hK _ _ ?_
   clear hK K
   repeat with_reducible refine awp_assoc ?_
   refine awp_sr fun K hK=>?_
   simp [newRows]
   refine hK _ _ ?_
   clear hK K
   simp
   exact ⟨reset_HL hcl (by simp [WkR]),le_nid⟩
 | cons s l =>
  refine acalls_walk (fun t=>if t=2 then .nilm 1 else if t=5 then .own else .imm) [0,2,4] Tryz.mixed Tryz.func73 rfl rfl rfl (by decide) (fun hcl hlow=>?_)
  repeat with_reducible refine awp_assoc ?_
  refine awp_sr fun K hK=>?_
  simp
  refine hK _ _ ?_
  clear hK K
  repeat with_reducible refine awp_assoc ?_
  refine awp_sr fun K hK=>?_
  simp
  refine hK _ _ ?_
  clear hK K
  repeat with_reducible refine awp_assoc ?_
  refine awp_seq_k fun K hK=>?_
  refine awp_condF rfl (by simp) ?_
  refine awp_skip ?_
  refine hK _ _ ?_
  clear hK K
  simp only [List.length_cons] at hl
  have hsz:(l.length+1) * 8≤70368744177664:=by omega
  repeat with_reducible refine awp_assoc ?_
  refine awp_sr fun K hK=>?_
  refine aOps_split 2 fun K hK=>?_
  simp
  refine hK _ _ ?_
  clear hK K
  refine aOps_split 1 fun K hK=>?_
  simp
  refine ⟨hsz,hK _ _ ?_⟩
  clear hK K
  simp
  refine hK _ _ ?_
  clear hK K
  simp
  exact ⟨reset_HL hcl (by simp [WkR,intR];exact WkR.refl _),le_nid⟩
theorem Nd.drop4 (t:Nd):t.cells.drop 4=[]:=by cases t;rfl
theorem set_nd (row:List Nd) (k:Nat) (t:Nd):(row.map Nd.cells).set k t.cells=(row.set k t).map Nd.cells:=List.map_set.symm
attribute [local simp] Nd.drop4
theorem pClone_c (l:List Nd) (hl:l.length < 1000000000) (H:AHeap):ACalls Tryz.prog 200 [.slice (l.map Nd.cells) none] H (.vec (nid H.next 1) l.length) (HL H [.tok 0 4 (some []),.tok l.length 4 (some (l.map Nd.cells))]):=by
 cases l with
 | nil =>
  refine acalls_nil2 fun a cap=>?_
  cases a with
  | none =>
   refine acalls_walk (fun t=>if t=2 then .nilm 4 else if t=5 then .own else .imm) [0,2,4] Tryz.mixed Tryz.func200 rfl rfl rfl (by decide) (fun hcl hlow=>?_)
   repeat with_reducible refine awp_assoc ?_
   refine awp_sr fun K hK=>?_
   simp
   refine hK _ _ ?_
   clear hK K
   repeat with_reducible refine awp_assoc ?_
   refine awp_sr fun K hK=>?_
   simp
   refine hK _ _ ?_
   clear hK K
   repeat with_reducible refine awp_assoc ?_
   refine awp_seq_k fun K hK=>?_
   refine awp_condT rfl (by simp) ?_
   repeat with_reducible refine awp_assoc ?_
   refine awp_sr fun K hK=>?_
   simp
   refine hK _ _ ?_
   clear hK K
   simp
   exact ⟨reset_HL hcl (by simp [WkR]),le_nid⟩
  | some a =>
   refine acalls_walk (fun t=>if t=2 then .nilm 4 else if t=5 then .own else .imm) [0,2,4] Tryz.mixed Tryz.func200 rfl rfl rfl (by decide) (fun hcl hlow=>?_)
   repeat with_reducible refine awp_assoc ?_
   refine awp_sr fun K hK=>?_
   simp
   refine hK _ _ ?_
   clear hK K
   repeat with_reducible refine awp_assoc ?_
   refine awp_sr fun K hK=>?_
   simp
   refine hK _ _ ?_
   clear hK K
   repeat with_reducible refine awp_assoc ?_
   refine awp_seq_k fun K hK=>?_
   refine awp_condF rfl (by simp) ?_
   refine awp_skip ?_
   refine hK _ _ ?_
   clear hK K
   repeat with_reducible refine awp_assoc ?_
   refine awp_sr fun K hK=>?_
   simp [newRows]
   refine hK _ _ ?_
   clear hK K
   simp
   exact ⟨reset_HL hcl (by simp [WkR]),le_nid⟩
 | cons s l =>
  refine acalls_walk (fun t=>if t=2 then .nilm 4 else if t=5 then .own else .imm) [0,2,4] Tryz.mixed Tryz.func200 rfl rfl rfl (by decide) (fun hcl hlow=>?_)
  repeat with_reducible refine awp_assoc ?_
  refine awp_sr fun K hK=>?_
  simp
  refine hK _ _ ?_
  clear hK K
  repeat with_reducible refine awp_assoc ?_
  refine awp_sr fun K hK=>?_
  simp
  refine hK _ _ ?_
  clear hK K
  repeat with_reducible refine awp_assoc ?_
  refine awp_seq_k fun K hK=>?_
  refine awp_condF rfl (by simp) ?_
  refine awp_skip ?_
  refine hK _ _ ?_
  clear hK K
  simp only [List.length_cons] at hl
  have hsz:(l.length+1) * 56≤70368744177664:=by omega
  repeat with_reducible refine awp_assoc ?_
  refine awp_sr fun K hK=>?_
  refine aOps_split 2 fun K hK=>?_
  simp
  refine hK _ _ ?_
  clear hK K
  refine aOps_split 1 fun K hK=>?_
  simp
  refine ⟨⟨?_,?_⟩,hsz,hK _ _ ?_⟩
  ·exact fun x hx=>List.all_eq_true.1 s.cells_one x hx
  ·exact fun a _ x hx=>List.all_eq_true.1 a.cells_one x hx
  clear hK K
  simp
  refine hK _ _ ?_
  clear hK K
  simp
  exact ⟨reset_HL hcl (by simp [WkR,WkE.refl];exact ⟨WkR.refl _,s.low _⟩),le_nid⟩
def putF:List Nd→List Int→Nd→Option (List Nd)
 | _,[],_=>none
 | row,[k],p=>if 0≤k∧k.toNat < row.length then some (row.set k.toNat p) else none
 | row,k::k2::l,p=>if 0≤k then match row[k.toNat]? with
  | some (.mk o s n ks)=>(putF ks (k2::l) p).map fun ks'=>row.set k.toNat (.mk o s n ks')
  | none=>none
  else none
set_option maxHeartbeats 1000000 in
theorem put_c {b:Nat} (hb:b≤1000000000) (p:Nd):∀ (path:List Int) (row r:List Nd),putF row path p=some r→row.length < b→(∀ t∈row,t.Sh b)→path.length < 1000000000→∀ H:AHeap,ACalls Tryz.prog 136 [.slice (row.map Nd.cells) none,.slice (path.map intR) none,p.enc] H (.slice (r.map Nd.cells) none) H:=by
 intro path
 induction path with
 | nil=>intro row r h;simp [putF] at h
 | cons k rest ih =>
  intro row r h hl hs hpl H
  have hk:0≤k:=by
   cases rest with
   | nil =>
    rw [putF] at h
    by_cases hk:0≤k∧k.toNat < row.length
    ·exact hk.1
    ·rw [if_neg hk] at h;cases h
   | cons =>
    rw [putF] at h
    by_cases hk:0≤k
    ·exact hk
    ·rw [if_neg hk] at h;cases h
  have hcp:=pClone_c row (by omega)
  obtain ⟨po,ps,pn,pl⟩:=p
  simp only [Nd.enc_mk] at ih ⊢
  have hk0:((k::rest).map intR)[0]?=some [intV k]:=by simp [intR]
  have hlr:∀ x∈(k::rest).map intR,x.length=1:=by simp [intR]
  have hdr:((k::rest).map intR).drop 1=rest.map intR:=by simp
  have hpl2:((k::rest).map intR).length=rest.length+1:=by simp
  generalize (k::rest).map intR=pth at *
  have hcp0:∀ B,ACalls Tryz.prog 200 [.slice (row.map Nd.cells) none] (HL H [B]) (.vec (nid H.next 2) row.length) (HL H [B,.tok 0 4 (some []),.tok row.length 4 (some (row.map Nd.cells))]):=fun B=>by
   have:=hcp (HL H [B])
   simpa using this
  refine acalls_walk (fun t=>if t=20 then .frz else if t=40 then .frz else .imm) [0,1,2,5,6,7,8,13] Tryz.mixed Tryz.func136 rfl rfl rfl (by decide) (fun hcl hlow=>?_)
  repeat with_reducible refine awp_assoc ?_
  refine awp_sr fun K hK=>?_
  simp
  refine hK _ _ ?_
  clear hK K
  repeat with_reducible refine awp_assoc ?_
  refine awp_sr fun K hK=>?_
  refine aOps_split 1 fun K hK=>?_
  simp
  refine hK _ _ ?_
  clear hK K
  refine aOps_call (hcp0 _) (by first | rfl | simp) rfl rfl (by first | (simp;done) | rfl) ?_
  simp
  refine hK _ _ ?_
  clear hK K
  cases rest with
  | nil =>
   rw [putF] at h
   by_cases hc:0≤k∧k.toNat < row.length
   ·rw [if_pos hc] at h
    simp only [Option.some.injEq] at h
    subst h
    simp only [List.length_nil] at hpl2
    repeat with_reducible refine awp_assoc ?_
    refine awp_sr fun K hK=>?_
    simp [hpl2]
    refine hK _ _ ?_
    clear hK K
    repeat with_reducible refine awp_assoc ?_
    refine awp_seq_k fun K hK=>?_
    refine awp_condT rfl (by simp) ?_
    repeat with_reducible refine awp_assoc ?_
    refine awp_sd [6] [[],[0],[0],[0],[0,1,2,3],[],[]] (by kernel_rfl) fun K hK=>?_
    refine aLex_read rfl rfl rfl rfl fun K hK=>?_
    simp
    refine hK _ _ _ ?_
    clear hK K
    refine aLex_read rfl rfl rfl rfl fun K hK=>?_
    simp
    refine hK _ _ _ ?_
    clear hK K
    refine aLex_read rfl rfl rfl rfl fun K hK=>?_
    simp [hk0]
    refine hK _ _ _ ?_
    clear hK K
    refine aLex_read rfl rfl rfl rfl fun K hK=>?_
    simp [hk0]
    refine hK _ _ _ ?_
    clear hK K
    refine aLex_read rfl rfl rfl rfl fun K hK=>?_
    simp
    refine hK _ _ _ ?_
    clear hK K
    refine aLex_read rfl rfl rfl rfl fun K hK=>?_
    simp [hk,hc.2]
    refine hK _ _ _ ?_
    clear hK K
    refine aLex_eff rfl rfl rfl rfl fun K hK=>?_
    simp [hc.2]
    refine hK _ _ ?_
    clear hK K
    refine aLex_end ?_
    simp
    refine hK _ _ ?_
    clear hK K
    have hsn:=set_nd row k.toNat (.mk po ps pn pl)
    simp only [Nd.cells,cellsNd_eq] at hsn
    rw [hsn]
    repeat with_reducible refine awp_assoc ?_
    refine awp_sr fun K hK=>?_
    simp
    refine ⟨?_,hK _ _ ?_⟩
    ·intro r hr
     rw [set_nd] at hr
     obtain ⟨t,_,rfl⟩:=List.mem_map.1 hr
     obtain ⟨to,ts,tn,tl⟩:=t
     simp [Nd.cells]
    simp [reset_all hcl]
    rw [set_nd]
    exact low_nds _ _
   ·rw [if_neg hc] at h;cases h
  | cons k2 rest =>
   rw [putF,if_pos hk] at h
   cases hq:row[k.toNat]? with
   | none=>rw [hq] at h;cases h
   | some q =>
    obtain ⟨qo,qs,qn,ql⟩:=q
    rw [hq] at h
    simp only [Option.map_eq_some_iff] at h
    obtain ⟨ks,hks,rfl⟩:=h
    have hkl:k.toNat < row.length:=(List.getElem?_eq_some_iff.1 hq).1
    have hqs:=(hs _ (List.mem_of_getElem? hq)).inv
    simp only [List.length_cons] at hpl hpl2
    have hr:=ih ql ks hks hqs.1 hqs.2 (by simp;omega)
    have hq':(row.map Nd.cells)[k.toNat]?=some [intV qo,strV qs,intV qn,.slice (ql.map Nd.cells) none]:=by simp [hq,Nd.cells]
    have hne:¬ ((rest.length:Int)+1+1=1):=by omega
    have hge : row[k.toNat]'hkl = .mk qo qs qn ql := by have := List.getElem?_eq_getElem hkl; rw [this] at hq; simpa using hq
    generalize (k2::rest).map intR=rp at *
    repeat with_reducible refine awp_assoc ?_
    refine awp_sr fun K hK=>?_
    simp [hpl2,hne]
    refine hK _ _ ?_
    clear hK K
    repeat with_reducible refine awp_assoc ?_
    refine awp_seq_k fun K hK=>?_
    refine awp_condF rfl (by simp) ?_
    refine awp_skip ?_
    refine hK _ _ ?_
    clear hK K
    repeat with_reducible refine awp_assoc ?_
    refine awp_sr fun K hK=>?_
    simp [hk0,hk,hq',hkl,hge,Nd.cells]
    refine hK _ _ ?_
    clear hK K
    repeat with_reducible refine awp_assoc ?_
    refine awp_sd [7] [[],[],[0,1],[0,1],[0,1,2,3],[],[],[]] (by kernel_rfl) fun K hK=>?_
    refine aLex_read rfl rfl rfl rfl fun K hK=>?_
    simp
    refine hK _ _ _ ?_
    clear hK K
    refine aLex_read rfl rfl rfl rfl fun K hK=>?_
    simp
    refine hK _ _ _ ?_
    clear hK K
    refine aLex_read rfl rfl rfl rfl fun K hK=>?_
    simp
    refine hK _ _ _ ?_
    clear hK K
    refine aLex_read rfl rfl rfl rfl fun K hK=>?_
    simp
    refine aSlice_from (n:=1) rfl (by omega) hlr ?_
    rw [hdr]
    simp
    refine hK _ _ _ ?_
    clear hK K
    refine aLex_read rfl rfl rfl rfl fun K hK=>?_
    simp
    refine hK _ _ _ ?_
    clear hK K
    refine aLex_callW (hr _) rfl rfl rfl rfl (by simp) (by simp) ?_
    refine aLex_read rfl rfl rfl rfl fun K hK=>?_
    simp
    refine hK _ _ _ ?_
    clear hK K
    refine aLex_eff rfl rfl rfl rfl fun K hK=>?_
    simp
    refine hK _ _ ?_
    clear hK K
    refine aLex_end ?_
    simp
    refine hK _ _ ?_
    clear hK K
    repeat with_reducible refine awp_assoc ?_
    refine awp_sd [6] [[],[0],[0],[0],[0,1,2,3],[],[]] (by kernel_rfl) fun K hK=>?_
    refine aLex_read rfl rfl rfl rfl fun K hK=>?_
    simp
    refine hK _ _ _ ?_
    clear hK K
    refine aLex_read rfl rfl rfl rfl fun K hK=>?_
    simp
    refine hK _ _ _ ?_
    clear hK K
    refine aLex_read rfl rfl rfl rfl fun K hK=>?_
    simp [hk0]
    refine hK _ _ _ ?_
    clear hK K
    refine aLex_read rfl rfl rfl rfl fun K hK=>?_
    simp [hk0]
    refine hK _ _ _ ?_
    clear hK K
    refine aLex_read rfl rfl rfl rfl fun K hK=>?_
    simp
    refine hK _ _ _ ?_
    clear hK K
    refine aLex_read rfl rfl rfl rfl fun K hK=>?_
    simp [hk,hkl]
    refine hK _ _ _ ?_
    clear hK K
    refine aLex_eff rfl rfl rfl rfl fun K hK=>?_
    simp [hkl]
    refine hK _ _ ?_
    clear hK K
    refine aLex_end ?_
    simp
    refine hK _ _ ?_
    clear hK K
    have hsn:=set_nd row k.toNat (.mk qo qs qn ks)
    simp only [Nd.cells,cellsNd_eq] at hsn
    rw [hsn]
    repeat with_reducible refine awp_assoc ?_
    refine awp_sr fun K hK=>?_
    simp
    refine ⟨?_,hK _ _ ?_⟩
    ·intro r hr
     rw [set_nd] at hr
     obtain ⟨t,_,rfl⟩:=List.mem_map.1 hr
     obtain ⟨to,ts,tn,tl⟩:=t
     simp [Nd.cells]
    simp [reset_all hcl]
    rw [set_nd]
    exact low_nds _ _
end Go.Proofs.YtdppfcbeiplckaaGreat
