/- The reference: Least. -/
import Derived.Test.YtlhoigpidpokfaaGreatMR2
import Derived.Test.YtlhoigpidpokfaaGreatMR1
import Derived.Test.YtlhoigpidpokfaaGreatME5
set_option linter.unusedVariables false
set_option linter.unusedSimpArgs false
namespace Go.Proofs.YtlhoigpidpokfaaGreat
open Go Go.Abs Go.Proofs
set_option maxRecDepth 20000
attribute [local simp] aOps wantedA aStep aop aLoad aStore aBin aUn aFieldAddr aField aIndexAddr aIndex aLen aBuild aFill aAlloc aAppend aAppendOwn aMin aMax aBuildSlice litRows newRows isMut isOwn isNilS nilsW bytesR tokW tokAV tokL ret readC splice aeval isLit isLate isCut aCut AV.celled AV.one AV.ofValue Value.oneCell' Value.cells intOp strOp get_nid upd_nid awp aEnd aResults aResult Det unord isCall isNext
attribute [local simp] low_take low_strs low_comp low_tcomp wkEs_refl' WkBs WkEnv WkB WkL WkE WkO ABlock.low lowO lowL lowR AV.low cellsL_eq Ty.low low_map Ty.cells_length Ty.cells_one
attribute [local simp] ConD.cells Dat.cells PredD.cells SigD.cells ClsD.cells InstD.cells DeclsD.cells DeclsD.enc Dat.enc low_datL low_conL low_predL low_sigL low_clsL low_instL
def vqC (p:VP):List AV:=[strV p.1,strV p.2,.slice [] none]
theorem low_vqL (n:Nat) (l:List VP):lowR n (l.map vqC):=lowR_map fun _ _=>⟨trivial,trivial,⟨by simp,trivial⟩,trivial⟩
theorem wkR_vq (l:List VP):WkR (l.map vqC) (l.map vqC):=WkR.refl _
attribute [local simp] low_vqL wkR_vq wkR_nil
noncomputable def drP (d:DeclsD) (p q:VP):Bool:=decide (q.2=p.2) && memS p.1 (abv d.classes q.1)
theorem rest_any {S:List VP} {i:Nat} {p:VP} (hp:S[i]?=some p) (f:VP→Bool) (hf:f p=false):(S.take i++S.drop (i+1)).any f=S.any f:=by
 have h:S=S.take i++p::S.drop (i+1):=sp hp
 have h2:S.any f=(S.take i++p::S.drop (i+1)).any f:=by rw [←h]
 rw [h2,List.any_append,List.any_append,List.any_cons,hf,Bool.false_or]
structure SiftP (L:List VP) (x:VP) (R:List VP):Prop where
 asc:AscP (L++R)
 lt:∀ y∈R,ltP x y=true
theorem SiftP.step {L R:List VP} {x y:VP} (h:SiftP (L++[y]) x R) (hlt:ltP x y=true):SiftP L x (y::R) :=
 ⟨by have:=h.asc;rw [List.append_assoc] at this;exact this,fun z hz=>by
  rcases List.mem_cons.1 hz with rfl | hz
  ·exact hlt
  ·exact h.lt z hz⟩
theorem SiftP.done {L R:List VP} {x:VP} (h:SiftP L x R) (hd:∀ y∈L,y≠x) (he:∀ L' y,L=L'++[y]→ltP x y=false):AscP (L++x::R):=by
 have ha:=List.pairwise_append.1 h.asc
 refine List.pairwise_append.2 ⟨ha.1,List.Pairwise.cons h.lt ha.2.1,fun a haL b hb=>?_⟩
 have hax:ltP a x=true:=by
  rcases List.eq_nil_or_concat L with rfl | ⟨L',y,rfl⟩
  ·cases haL
  ·rw [List.concat_eq_append] at *
   have hy:ltP y x=true:=by
    rcases ltP_total y x with h1 | h1 | h1
    ·exact h1
    ·exact absurd h1 (hd y (by simp))
    ·rw [he L' y rfl] at h1;cases h1
   rcases List.mem_append.1 haL with h1 | h1
   ·exact ltP_trans ((List.pairwise_append.1 ha.1).2.2 a h1 y (by simp)) hy
   ·simp at h1;subst h1;exact hy
 rcases List.mem_cons.1 hb with rfl | hb
 ·exact hax
 ·exact ltP_trans hax (h.lt b hb)
def rowsV (l:List VP):List (List AV):=l.map vqC
theorem rowsV_at {l:List VP} {k:Nat} {x:VP} (h:l[k]?=some x):(rowsV l)[k]?=some (vqC x):=by unfold rowsV;rw [List.getElem?_map,h];rfl
theorem rowsV_len {l:List VP}:∀ r∈rowsV l,r.length=3:=by intro r hr;obtain ⟨s,_,rfl⟩:=List.mem_map.1 hr;rfl
theorem low_rowsV (n:Nat) (l:List VP):lowR n (rowsV l):=low_vqL n l
theorem wkR_rowsV (l:List VP):WkR (rowsV l) (rowsV l):=WkR.refl _
theorem vq_celled (p:VP):AV.celled (.agg (vqC p))=some (vqC p):=rfl
theorem vq_len (p:VP):(vqC p).length=3:=rfl
theorem vq_splice (p q:VP):splice (vqC p) 0 (vqC q)=vqC q:=rfl
theorem low_vqC (n:Nat) (p:VP):lowL n (vqC p):=⟨trivial,trivial,⟨by simp,trivial⟩,trivial⟩
attribute [local simp] low_vqC low_rowsV wkR_rowsV vq_celled vq_len vq_splice
set_option maxHeartbeats 4000000 in
theorem rLeast_c (d:DeclsD) (hcls:ClsOk d) (S:List VP) (hn:S.Nodup) (hl:S.length < 1000000000) (hirr:∀ p∈S,memS p.1 (abv d.classes p.1)=false) (H:AHeap) :
  ACalls Tryz.prog 61 [.slice (d.classes.map ClsD.cells) none,.slice (S.map vqC) none] H (.slice ((leastP d S).map vqC) none) H:=by
 have hab:=fun n=>rAbove2_c d hcls n
 have hcn:=fun (n x:ByteArray)=>rPlace_c (abv d.classes n) (by obtain ⟨_,hl⟩:=hcls.ab n;omega) x
 have hge:=fun (n x:ByteArray)=>placeI_ge (abv d.classes n) x
 refine acalls_walk (fun t=>if t=5 then .nilm 3 else if t=85 then .lit else if t=126 then .frz else .imm) [0,1,4,5,6,7,8,9,10,11,12,13,17,36,82,90,107] Tryz.mixed Tryz.func61 rfl rfl rfl (by decide) (fun hcl hlow=>?_)
 generalize hcs:d.classes.map ClsD.cells=cs at *
 repeat with_reducible refine awp_assoc ?_
 refine awp_sr fun K hK=>?_
 simp
 refine hK _ _ ?_
 clear hK K
 repeat with_reducible refine awp_assoc ?_
 refine awp_sr fun K hK=>?_
 simp
 refine hK _ _ ?_
 clear hK K
 repeat with_reducible refine awp_assoc ?_
 refine awp_sr fun K hK=>?_
 simp
 refine hK _ _ ?_
 clear hK K
 refine awp_seq_k fun KO hKO=>?_
 refine awp_block ?_
 refine awp_up S.length (fun i=>Env.ofL [(0,.slice cs none),(1,.slice (S.map vqC) none),(5,.vec (nid H.next 0) (keepL d S (S.take i)).length),(6,intV i)]) (fun i=>HL H [.tok (keepL d S (S.take i)).length 3 (some ((keepL d S (S.take i)).map vqC))]) (fun _=>True) (weak_HL hcl rfl (by simp [keepL]) (by simp [keepL,←hcs])) trivial (fun i hi _=>?_) (fun _=>?_)
 ·obtain ⟨p,hp⟩:∃ p,S[i]?=some p:=⟨_,List.getElem?_eq_getElem hi⟩
  have hpm:=List.mem_of_getElem? hp
  have hout:(keepL d S (S.take i)).length≤i:=by have:=List.length_filter_le (fun p=>!dropD d S p) (S.take i);rw [List.length_take] at this;unfold keepL;omega
  have e1:keepL d S (S.take (i+1))=if dropD d S p=true then keepL d S (S.take i) else keepL d S (S.take i)++[p]:=by rw [take_one hp,keepL_app]
  have hdr:(S.take i++S.drop (i+1)).any (drP d p)=dropD d S p:=rest_any hp _ (by unfold drP;rw [hirr p hpm];simp)
  generalize hr:S.take i++S.drop (i+1)=rest at *
  have hrl:rest.length < 1000000000:=by rw [←hr];simp;omega
  have hri:∀ q∈rest,q≠p:=by
   intro q hq e
   rw [←hr] at hq
   have h:=hn
   rw [sp hp,List.nodup_append] at h
   rcases List.mem_append.1 hq with h1 | h1
   ·exact h.2.2 q h1 p (by simp) e
   ·have:=(List.nodup_cons.1 h.2.1).1
    rw [←e] at this
    exact this h1
  generalize keepL d S (S.take i)=out at *
  generalize keepL d S (S.take (i+1))=out2 at *
  subst e1
  repeat with_reducible refine awp_assoc ?_
  refine awp_sr fun K hK=>?_
  simp [hi]
  refine hK _ _ ?_
  clear hK K
  repeat with_reducible refine awp_assoc ?_
  refine awp_seq_k fun K hK=>?_
  refine awp_condT rfl (by simp) ?_
  refine awp_skip ?_
  refine hK _ _ ?_
  clear hK K
  refine awp_seq_k fun KB hKB=>?_
  refine awp_block ?_
  repeat with_reducible refine awp_assoc ?_
  refine awp_sr fun K hK=>?_
  simp [hp,vqC]
  refine hK _ _ ?_
  clear hK K
  repeat with_reducible refine awp_assoc ?_
  refine awp_sdc [3,8] [[],[0],[],[],[0,1,2,3],[0,1,2,3,4],[0,1,2,3,4],[0,1,2,3],[],[]] (by kernel_rfl) (by rfl) fun K hK=>?_
  suffices hgo:∀ (v:AV) (bs:List ABlock),Wk v (.slice (rest.map vqC) none)→K (Env.ofL [(0,.slice cs none),(1,.slice (S.map vqC) none),(4,.undef),(5,.vec (nid H.next 0) out.length),(6,intV (i:Int)),(7,.ref (nid H.next 1) 0),(8,v),(9,.undef),(10,.undef),(11,.undef),(12,.undef),(13,.undef),(17,boolV true),(36,.undef),(82,.undef),(90,.undef),(107,.undef)]) (HL H ([.tok out.length 3 (some (out.map vqC)),.cells [strV p.1,strV p.2,.slice [] none]]++bs)) by
   refine aCalm_pre 3 (by rfl) fun K2 hK2=>?_
   simp [aSlice,bnd]
   refine ⟨by omega,fun r x y _ h=>by subst h;rfl,hK2 _ _ ?_⟩
   clear hK2 K2
   have hrr:∀ (l:List VP) (r:List AV),r∈l.map vqC→r.length=3∧r.all (·.one)=true:=fun l r h=>by
    obtain ⟨x,_,rfl⟩:=List.mem_map.1 h
    exact ⟨rfl,rfl⟩
   have hone:∀ x:VP,(vqC x).length=3∧∀ a∈vqC x,a.one=true:=fun x=>⟨rfl,by simp [vqC]⟩
   have w1:IntKind.i64.wrap ((i:Int)+1)=(i:Int)+1:=wrap64 (by omega) (by omega)
   have t1:((i:Int)+1).toNat=i+1:=by omega
   have ha1:(S.map vqC).take i=(S.take i).map vqC:=by rw [List.map_take]
   have ha2:(S.map vqC).drop (i+1)=(S.drop (i+1)).map vqC:=by rw [List.map_drop]
   have hal:(S.take i).length≤i:=by rw [List.length_take];omega
   have hbl:(S.drop (i+1)).length < 1000000000:=by simp;omega
   have hS3:∀ (r:List AV) (x y:ByteArray),(x,y)∈S→vqC (x,y)=r→3=r.length:=fun r x y _ h=>by subst h;rfl
   have etk:(S.map vqC).take S.length=S.map vqC:=List.take_of_length_le (by simp)
   rw [ha1]
   generalize S.take i=A at *
   generalize S.drop (i+1)=B at *
   by_cases hA:A=[]
   ·subst hA
    refine aCalm_pre 1 (by rfl) fun K hK=>?_
    simp
    refine hK _ _ ?_
    clear hK K
    refine aCalm_pre 4 (by rfl) fun K2 hK2=>?_
    simp [aSlice,bnd,w1,t1,etk,ha2]
    refine ⟨by omega,by omega,fun r x y _ h=>by subst h;rfl,hK2 _ _ ?_⟩
    clear hK2 K2
    by_cases hB:B=[]
    ·subst hB
     refine aCalm_pre 2 (by rfl) fun K hK=>?_
     simp
     refine hK _ _ ?_
     clear hK K
     refine aCalm_end ?_
     simp
     refine hgo _ [] ?_
     rw [←hr]
     exact Wk.nilSlice
    ·refine aCalm_pre 1 (by rfl) fun K2 hK2=>?_
     simp [hB]
     refine ⟨fun r x y _ h=>by subst h;simp [vqC],by omega,hK2 _ _ ?_⟩
     clear hK2 K2
     refine aCalm_pre 1 (by rfl) fun K hK=>?_
     simp
     refine hK _ _ ?_
     clear hK K
     refine aCalm_end ?_
     simp
     refine hgo _ [.tok B.length 3 none] ?_
     rw [←hr]
     exact Wk.tok _ _
   ·refine aCalm_pre 1 (by rfl) fun K2 hK2=>?_
    simp [hA]
    refine ⟨fun r x y _ h=>by subst h;simp [vqC],by omega,hK2 _ _ ?_⟩
    clear hK2 K2
    refine aCalm_pre 4 (by rfl) fun K2 hK2=>?_
    simp [aSlice,bnd,w1,t1,etk,ha2]
    refine ⟨by omega,by omega,fun r x y _ h=>by subst h;rfl,hK2 _ _ ?_⟩
    clear hK2 K2
    by_cases hB:B=[]
    ·subst hB
     refine aCalm_pre 1 (by rfl) fun K2 hK2=>?_
     simp
     refine ⟨by omega,fun r x y _ h=>by subst h;simp [vqC],hK2 _ _ ?_⟩
     clear hK2 K2
     refine aCalm_pre 1 (by rfl) fun K hK=>?_
     simp
     refine hK _ _ ?_
     clear hK K
     refine aCalm_end ?_
     simp
     refine hgo _ [.tok A.length 3 none] ?_
     rw [←hr,List.append_nil]
     exact Wk.tok _ _
    ·refine aCalm_pre 1 (by rfl) fun K2 hK2=>?_
     simp [hB]
     refine ⟨fun r x y _ h=>by subst h;simp [vqC],by omega,fun r x y _ h=>by subst h;simp [vqC],hK2 _ _ ?_⟩
     clear hK2 K2
     refine aCalm_pre 1 (by rfl) fun K hK=>?_
     simp
     refine hK _ _ ?_
     clear hK K
     refine aCalm_end ?_
     simp
     refine hgo _ [.tok (A.length+B.length) 3 none] ?_
     rw [←hr,List.map_append]
     exact Wk.tok _ _
  intro v bs hv
  refine hK _ _ ?_
  clear hK K
  repeat with_reducible refine awp_assoc ?_
  refine awp_sr fun K hK=>?_
  simp
  refine hK _ _ ?_
  clear hK K
  repeat with_reducible refine awp_assoc ?_
  refine awp_sr fun K hK=>?_
  simp
  refine hK _ _ ?_
  clear hK K
  refine awp_seq_k fun KI hKI=>?_
  refine awp_block ?_
  refine awp_up rest.length (fun k=>Env.ofL [(0,.slice cs none),(1,.slice (S.map vqC) none),(5,.vec (nid H.next 0) out.length),(6,intV (i:Int)),(7,.ref (nid H.next 1) 0),(8,.slice (rest.map vqC) none),(9,boolV ((rest.take k).any (drP d p))),(10,intV k)]) (fun k=>HL H [.tok out.length 3 (some (out.map vqC)),.cells [strV p.1,strV p.2,.slice [] none]]) (fun _=>True) (weak_HL hcl rfl (by simp) (by simp [←hcs,hv])) trivial (fun k hk _=>?_) (fun _=>?_)
  ·obtain ⟨q,hq⟩:∃ q,rest[k]?=some q:=⟨_,List.getElem?_eq_getElem hk⟩
   have hqp:=hri q (List.mem_of_getElem? hq)
   have hc1:=hab q.1
   have hc2:=hcn q.1 p.1
   have hg2:=hge q.1 p.1
   have e2:(rest.take (k+1)).any (drP d p)=((rest.take k).any (drP d p) || drP d p q):=by rw [take_one hq,List.any_append];simp
   repeat with_reducible refine awp_assoc ?_
   refine awp_sr fun K hK=>?_
   simp [hk]
   refine hK _ _ ?_
   clear hK K
   repeat with_reducible refine awp_assoc ?_
   refine awp_seq_k fun K hK=>?_
   refine awp_condT rfl (by simp) ?_
   refine awp_skip ?_
   refine hK _ _ ?_
   clear hK K
   refine awp_seq_k fun KC hKC=>?_
   refine awp_block ?_
   repeat with_reducible refine awp_assoc ?_
   refine awp_sdc [] [[],[0],[],[],[],[0,1],[0,1,2,3,4,5],[0,1,2,3,4,5],[0,1,2,3,4,5],[0,1,2],[]] (by kernel_rfl) (by rfl) fun K hK=>?_
   refine aCalm_pre 6 (by rfl) fun K hK=>?_
   simp [hq,vqC]
   refine hK _ _ ?_
   clear hK K
   refine aCalm_pre 5 (by rfl) fun K hK=>?_
   simp
   refine hK _ _ ?_
   clear hK K
   refine aCalm_end ?_
   simp
   refine hK _ _ ?_
   clear hK K
   cases hb:(rest.take k).any (drP d p)
   rotate_left
   ·rw [hb,Bool.true_or] at e2
    refine awp_drawc [] [[],[],[],[],[],[4],[4,5],[4],[4],[4],[5,6],[4,5,6,7,8,9,10],[4,5,6,7,8,9,10],[5,6,7],[5,6,7,8],[5,6,7,8],[0,4,5,6,7,8,9,11],[0,4,5,6,7,8,9,11,16],[0,4,5,6,7,8,9,11],[0,4,5,6,7,8,9,11],[0,1,2,4,5,6,7,8,9,10,11,12],[0,1,2,4,5,6,7,8,9,10,11,12,20],[0,1,2,4,5,6,7,8,9,10,11,12],[0,1,2,4,5,6,7,8,9,10,11,12],[0,1,2,4,5,6,7,8,9,10,11,12],[0,1,2,4,5,6,7,8,9,10,11,12,20,21,22,23,24],[0,1,2,4,5,6,7,8,9,10,11,12,20,21,22,23,24],[0,1,2,4,5,6,7,8,9,10,11,12,20,21],[0,4,5,6,7,8,9,11,20,21,22],[4,5,6,7,8,9,11,16,17,20,21,22,23,25],[4,5,6,7,8,9,10,11,12,16,17,18,20,21,22,23,24,25,26],[4,5,6,7,8,9,10,11,12,13,14,16,17,18,19,20,21,22,23,24,25,26,27],[]] (by kernel_rfl) (by rfl) ?_
    refine aCalm_pre 5 (by rfl) fun K hK=>?_
    simp
    refine hK _ _ ?_
    clear hK K
    refine aCalm_pre 5 (by rfl) fun K hK=>?_
    simp
    refine hK _ _ ?_
    clear hK K
    refine aCalm_skip (by first | rfl | simp) ?_
    refine aCalm_pre 2 (by rfl) fun K hK=>?_
    simp
    refine hK _ _ ?_
    clear hK K
    refine aCalm_skip (by first | rfl | simp) ?_
    refine aCalm_pre 6 (by rfl) fun K hK=>?_
    simp
    refine hK _ _ ?_
    clear hK K
    refine aCalm_pre 6 (by rfl) fun K hK=>?_
    simp
    refine hK _ _ ?_
    clear hK K
    refine aCalm_pre 7 (by rfl) fun K hK=>?_
    simp
    refine hK _ _ ?_
    clear hK K
    refine aCalm_end ?_
    simp
    refine hKC _ _ ?_
    clear hKC
    refine awp_region ?_
    simp [wrap_succ (show k < 4611686018427387904 by omega),e2]
    exact weak_HL hcl rfl (by simp) (by simp [←hcs])
   rw [hb,Bool.false_or] at e2
   by_cases hqn:q.2=p.2
   ·have hq1:¬ q.1=p.1:=fun e=>hqp (Prod.ext e hqn)
    have e3:drP d p q=memS p.1 (abv d.classes q.1):=by unfold drP;simp [hqn]
    rw [e3] at e2
    cases hm:memS p.1 (abv d.classes q.1)
    ·have hg3:¬ 0≤placeI (abv d.classes q.1) p.1:=by rw [hm] at hg2;simpa using hg2
     rw [hm] at e2
     refine awp_drawc [] [[],[],[],[],[],[4],[4,5],[4],[4],[4],[5,6],[4,5,6,7,8,9,10],[4,5,6,7,8,9,10],[5,6,7],[5,6,7,8],[5,6,7,8],[0,4,5,6,7,8,9,11],[0,4,5,6,7,8,9,11,16],[0,4,5,6,7,8,9,11],[0,4,5,6,7,8,9,11],[0,1,2,4,5,6,7,8,9,10,11,12],[0,1,2,4,5,6,7,8,9,10,11,12,20],[0,1,2,4,5,6,7,8,9,10,11,12],[0,1,2,4,5,6,7,8,9,10,11,12],[0,1,2,4,5,6,7,8,9,10,11,12],[0,1,2,4,5,6,7,8,9,10,11,12,20,21,22,23,24],[0,1,2,4,5,6,7,8,9,10,11,12,20,21,22,23,24],[0,1,2,4,5,6,7,8,9,10,11,12,20,21],[0,4,5,6,7,8,9,11,20,21,22],[4,5,6,7,8,9,11,16,17,20,21,22,23,25],[4,5,6,7,8,9,10,11,12,16,17,18,20,21,22,23,24,25,26],[4,5,6,7,8,9,10,11,12,13,14,16,17,18,19,20,21,22,23,24,25,26,27],[]] (by kernel_rfl) (by rfl) ?_
     refine aCalm_pre 5 (by rfl) fun K hK=>?_
     simp [eq_true hqn]
     refine hK _ _ ?_
     clear hK K
     refine aCalm_pre 5 (by rfl) fun K hK=>?_
     simp [eq_true hqn,hq,vqC]
     refine hK _ _ ?_
     clear hK K
     refine aCalm_call0 (hc1 _) (by first | rfl | simp) rfl rfl rfl (by first | (simp;done) | rfl) ?_
     refine aCalm_pre 2 (by rfl) fun K hK=>?_
     simp [vqC]
     refine hK _ _ ?_
     clear hK K
     refine aCalm_call0 (hc2 _) (by first | rfl | simp) rfl rfl rfl (by first | (simp;done) | rfl) ?_
     by_cases hki:k < i
     ·refine aCalm_pre 6 (by rfl) fun K hK=>?_
      simp [hg3,hki]
      refine hK _ _ ?_
      clear hK K
      refine aCalm_pre 5 (by rfl) fun K hK=>?_
      simp [hg3,hki,hq,vqC]
      refine hK _ _ ?_
      clear hK K
      refine aCalm_pre 5 (by rfl) fun K hK=>?_
      simp [hq1]
      refine hK _ _ ?_
      clear hK K
      refine aCalm_pre 3 (by rfl) fun K hK=>?_
      simp
      refine hK _ _ ?_
      clear hK K
      refine aCalm_end ?_
      simp
      refine hKC _ _ ?_
      clear hKC
      refine awp_region ?_
      simp [wrap_succ (show k < 4611686018427387904 by omega),e2]
      exact weak_HL hcl rfl (by simp) (by simp [←hcs])
     ·refine aCalm_pre 6 (by rfl) fun K hK=>?_
      simp [hg3,hki]
      refine hK _ _ ?_
      clear hK K
      refine aCalm_pre 5 (by rfl) fun K hK=>?_
      simp [hg3,hki,hq,vqC]
      refine hK _ _ ?_
      clear hK K
      refine aCalm_pre 5 (by rfl) fun K hK=>?_
      simp [hq1]
      refine hK _ _ ?_
      clear hK K
      refine aCalm_pre 3 (by rfl) fun K hK=>?_
      simp
      refine hK _ _ ?_
      clear hK K
      refine aCalm_end ?_
      simp
      refine hKC _ _ ?_
      clear hKC
      refine awp_region ?_
      simp [wrap_succ (show k < 4611686018427387904 by omega),e2]
      exact weak_HL hcl rfl (by simp) (by simp [←hcs])
    ·have hg3:0≤placeI (abv d.classes q.1) p.1:=by rw [hm] at hg2;simpa using hg2
     rw [hm] at e2
     refine awp_drawc [] [[],[],[],[],[],[4],[4,5],[4],[4],[4],[5,6],[4,5,6,7,8,9,10],[4,5,6,7,8,9,10],[5,6,7],[5,6,7,8],[5,6,7,8],[0,4,5,6,7,8,9,11],[0,4,5,6,7,8,9,11,16],[0,4,5,6,7,8,9,11],[0,4,5,6,7,8,9,11],[0,1,2,4,5,6,7,8,9,10,11,12],[0,1,2,4,5,6,7,8,9,10,11,12,20],[0,1,2,4,5,6,7,8,9,10,11,12],[0,1,2,4,5,6,7,8,9,10,11,12],[0,1,2,4,5,6,7,8,9,10,11,12],[0,1,2,4,5,6,7,8,9,10,11,12,20,21,22,23,24],[0,1,2,4,5,6,7,8,9,10,11,12,20,21,22,23,24],[0,1,2,4,5,6,7,8,9,10,11,12,20,21],[0,4,5,6,7,8,9,11,20,21,22],[4,5,6,7,8,9,11,16,17,20,21,22,23,25],[4,5,6,7,8,9,10,11,12,16,17,18,20,21,22,23,24,25,26],[4,5,6,7,8,9,10,11,12,13,14,16,17,18,19,20,21,22,23,24,25,26,27],[]] (by kernel_rfl) (by rfl) ?_
     refine aCalm_pre 5 (by rfl) fun K hK=>?_
     simp [eq_true hqn]
     refine hK _ _ ?_
     clear hK K
     refine aCalm_pre 5 (by rfl) fun K hK=>?_
     simp [eq_true hqn,hq,vqC]
     refine hK _ _ ?_
     clear hK K
     refine aCalm_call0 (hc1 _) (by first | rfl | simp) rfl rfl rfl (by first | (simp;done) | rfl) ?_
     refine aCalm_pre 2 (by rfl) fun K hK=>?_
     simp [vqC]
     refine hK _ _ ?_
     clear hK K
     refine aCalm_call0 (hc2 _) (by first | rfl | simp) rfl rfl rfl (by first | (simp;done) | rfl) ?_
     refine aCalm_pre 6 (by rfl) fun K hK=>?_
     simp [hg3]
     refine hK _ _ ?_
     clear hK K
     refine aCalm_pre 6 (by rfl) fun K hK=>?_
     simp
     refine hK _ _ ?_
     clear hK K
     refine aCalm_pre 7 (by rfl) fun K hK=>?_
     simp
     refine hK _ _ ?_
     clear hK K
     refine aCalm_end ?_
     simp
     refine hKC _ _ ?_
     clear hKC
     refine awp_region ?_
     simp [wrap_succ (show k < 4611686018427387904 by omega),e2]
     exact weak_HL hcl rfl (by simp) (by simp [←hcs])
   ·have e3:drP d p q=false:=by unfold drP;simp [hqn]
    rw [e3] at e2
    refine awp_drawc [] [[],[],[],[],[],[4],[4,5],[4],[4],[4],[5,6],[4,5,6,7,8,9,10],[4,5,6,7,8,9,10],[5,6,7],[5,6,7,8],[5,6,7,8],[0,4,5,6,7,8,9,11],[0,4,5,6,7,8,9,11,16],[0,4,5,6,7,8,9,11],[0,4,5,6,7,8,9,11],[0,1,2,4,5,6,7,8,9,10,11,12],[0,1,2,4,5,6,7,8,9,10,11,12,20],[0,1,2,4,5,6,7,8,9,10,11,12],[0,1,2,4,5,6,7,8,9,10,11,12],[0,1,2,4,5,6,7,8,9,10,11,12],[0,1,2,4,5,6,7,8,9,10,11,12,20,21,22,23,24],[0,1,2,4,5,6,7,8,9,10,11,12,20,21,22,23,24],[0,1,2,4,5,6,7,8,9,10,11,12,20,21],[0,4,5,6,7,8,9,11,20,21,22],[4,5,6,7,8,9,11,16,17,20,21,22,23,25],[4,5,6,7,8,9,10,11,12,16,17,18,20,21,22,23,24,25,26],[4,5,6,7,8,9,10,11,12,13,14,16,17,18,19,20,21,22,23,24,25,26,27],[]] (by kernel_rfl) (by rfl) ?_
    refine aCalm_pre 5 (by rfl) fun K hK=>?_
    simp [hqn]
    refine hK _ _ ?_
    clear hK K
    refine aCalm_pre 5 (by rfl) fun K hK=>?_
    simp [hqn]
    refine hK _ _ ?_
    clear hK K
    refine aCalm_skip (by first | rfl | simp) ?_
    refine aCalm_pre 2 (by rfl) fun K hK=>?_
    simp
    refine hK _ _ ?_
    clear hK K
    refine aCalm_skip (by first | rfl | simp) ?_
    refine aCalm_pre 6 (by rfl) fun K hK=>?_
    simp
    refine hK _ _ ?_
    clear hK K
    refine aCalm_pre 6 (by rfl) fun K hK=>?_
    simp
    refine hK _ _ ?_
    clear hK K
    refine aCalm_pre 7 (by rfl) fun K hK=>?_
    simp
    refine hK _ _ ?_
    clear hK K
    refine aCalm_end ?_
    simp
    refine hKC _ _ ?_
    clear hKC
    refine awp_region ?_
    simp [wrap_succ (show k < 4611686018427387904 by omega),e2]
    exact weak_HL hcl rfl (by simp) (by simp [←hcs])
  ·rw [List.take_length,hdr]
   repeat with_reducible refine awp_assoc ?_
   refine awp_sr fun K hK=>?_
   simp
   refine hK _ _ ?_
   clear hK K
   repeat with_reducible refine awp_assoc ?_
   refine awp_seq_k fun K hK=>?_
   refine awp_condF rfl (by simp) ?_
   refine awp_exit ?_
   simp
   refine hKI _ _ ?_
   repeat with_reducible refine awp_assoc ?_
   refine awp_sr fun K hK=>?_
   simp
   refine hK _ _ ?_
   clear hK K
   cases hd:dropD d S p
   ·refine awp_condT rfl (by simp) ?_
    refine awp_region ?_
    simp
    refine ⟨by omega,fun r x y _ h=>by subst h;simp [vqC],?_⟩
    refine hKB _ _ ?_
    clear hKB
    refine awp_region ?_
    simp [wrap_succ (show i < 4611686018427387904 by omega)]
    have e4:out.map vqC++[[strV p.1,strV p.2,.slice [] none]]=(out++[p]).map vqC:=by simp [vqC]
    have e5:(if dropD d S p=true then out else out++[p])=out++[p]:=by simp [hd]
    rw [e4,e5]
    exact weak_HL hcl rfl (by simp [WkR.refl]) (by simp [←hcs])
   ·refine awp_condF rfl (by simp) ?_
    refine awp_skip ?_
    refine hKB _ _ ?_
    clear hKB
    refine awp_region ?_
    simp [wrap_succ (show i < 4611686018427387904 by omega)]
    exact weak_HL hcl rfl (by simp [hd]) (by simp [←hcs,hd])
 ·rw [List.take_length]
  have hon:(keepL d S S).Nodup:=hn.filter _
  have holl:(keepL d S S).length≤S.length:=List.length_filter_le _ _
  have hfin0:leastP d S=sortP (keepL d S S):=rfl
  generalize keepL d S S=l at *
  have hA:=fun (x y:VP)=>rIsAhead_c (vpP x) (vpP y)
  have hA2:∀ (x y:VP) (H:AHeap),ACalls Tryz.prog 97 [.agg (vqC x),.agg (vqC y)] H (boolV (ltP x y)) H:=hA
  clear hA hirr hab hcn hge
  repeat with_reducible refine awp_assoc ?_
  refine awp_sr fun K hK=>?_
  simp
  refine hK _ _ ?_
  clear hK K
  repeat with_reducible refine awp_assoc ?_
  refine awp_seq_k fun K hK=>?_
  refine awp_condF rfl (by simp) ?_
  refine awp_exit ?_
  simp
  refine hKO _ _ ?_
  clear hK K hKO
  have hrv:l.map vqC=rowsV l:=rfl
  rw [hrv]
  repeat with_reducible refine awp_assoc ?_
  refine awp_sr fun K hK=>?_
  simp
  refine hK _ _ ?_
  clear hK K
  refine awp_seq_k fun KO hKO=>?_
  refine awp_block ?_
  refine awp_loop (fun n env H'=>∃ (q:Nat) (c:List VP),c.Perm l∧q≤l.length∧AscP (c.take q)∧n=l.length - q∧env=Env.ofL [(5,.vec (nid H.next 0) l.length),(12,intV (q:Int))]∧H'=HL H [.tok l.length 3 (some (rowsV c))])
   l.length (weak_HL hcl rfl (by simp) (by simp)) ⟨0,l,.refl _,Nat.zero_le _,by simp,rfl,rfl,rfl⟩ ?_
  rintro n env H' ⟨q,c,hc,hq,hasc,rfl,rfl,rfl⟩
  have hcl2:=hc.length_eq
  by_cases hlt:q < l.length
  rotate_left
  ·have hlt':¬ (q:Int) < l.length:=by omega
   repeat with_reducible refine awp_assoc ?_
   refine awp_sr fun K hK=>?_
   simp [hlt']
   refine hK _ _ ?_
   clear hK K
   repeat with_reducible refine awp_assoc ?_
   refine awp_seq_k fun K hK=>?_
   refine awp_condF rfl (by simp) ?_
   refine awp_exit ?_
   simp
   refine hKO _ _ ?_
   clear hKO
   have hcm:c=sortP l:=by
    refine sortP_eq hon hc ?_
    rwa [List.take_of_length_le (by omega)] at hasc
   rw [hcm]
   have hsl:(sortP l).length=l.length:=(sortP_perm l).length_eq
   have hrl2:(rowsV (sortP l)).length=l.length:=by simp [rowsV,hsl]
   refine awp_sr fun K hK=>?_
   simp
   refine ⟨hrl2,fun r hr=>by obtain ⟨s,_,rfl⟩:=List.mem_map.1 hr;simp [vqC],hK _ _ ?_⟩
   clear hK K
   simp [reset_all hcl]
   rw [hfin0]
   exact Wk.tok _ _
  have hlt':(q:Int) < l.length:=by omega
  repeat with_reducible refine awp_assoc ?_
  refine awp_sr fun K hK=>?_
  simp [hlt']
  refine hK _ _ ?_
  clear hK K
  repeat with_reducible refine awp_assoc ?_
  refine awp_seq_k fun K hK=>?_
  refine awp_condT rfl (by simp) ?_
  refine awp_skip ?_
  refine hK _ _ ?_
  clear hK K
  refine awp_seq_k fun K hK=>?_
  refine awp_block ?_
  repeat with_reducible refine awp_assoc ?_
  refine awp_sr fun K hK=>?_
  simp
  refine hK _ _ ?_
  clear hK K
  obtain ⟨x,hx⟩:∃ x,c[q]?=some x:=⟨_,List.getElem?_eq_getElem (by omega)⟩
  have hcs2:c=c.take q++x::c.drop (q+1):=sp hx
  refine awp_block ?_
  refine awp_loop (fun n env H'=>∃ (L R:List VP),SiftP L x R∧L.length+R.length=q∧(L++R).Perm (c.take q)∧n=L.length ∧
    env=Env.ofL [(5,.vec (nid H.next 0) l.length),(12,intV (q:Int)),(13,intV L.length)]∧H'=HL H [.tok l.length 3 (some (rowsV (L++x::R++c.drop (q+1))))])
   q (weak_HL hcl rfl ?_ ?_) ⟨c.take q,[],⟨by simpa using hasc,by simp⟩,by simp;omega,by simp,by simp;omega,rfl,by rw [show c.take q++x::[]++c.drop (q+1)=c by rw [List.append_assoc];exact hcs2.symm]⟩ ?_
  ·simp
  ·have:min q c.length=q:=by omega
   simp [this]
  rintro n env H' ⟨L,R,hS,hLR,hLp,rfl,rfl,rfl⟩
  have w1:IntKind.i64.wrap ((q:Int)+1)=((q+1:Nat):Int):=by rw [wrap64 (by omega) (by omega)];omega
  have hcn:c.Nodup:=hc.nodup_iff.2 hon
  have hck:(c.take q++x::c.drop (q+1)).Nodup:=by rw [←hcs2];exact hcn
  have hdis:∀ y∈c.take q,y≠x:=by
   intro y hy e
   rw [List.nodup_append] at hck
   exact hck.2.2 y hy x (by simp) e
  have hfin:∀ env:Env,env 5=.vec (nid H.next 0) l.length→env 12=intV (q:Int)→(∀ L' y,L=L'++[y]→ltP x y=false)→K env (HL H [.tok l.length 3 (some (rowsV (L++x::R++c.drop (q+1))))]):=by
   intro env h3 h4 hd
   refine hK _ _ ?_
   refine awp_region ?_
   have hasc':AscP (L++x::R):=hS.done (fun y hy=>hdis y (hLp.subset (by simp [hy]))) hd
   have hp2:(L++x::R++c.drop (q+1)).Perm l:=by
    refine List.Perm.trans ?_ hc
    refine List.Perm.trans ?_ (List.Perm.of_eq hcs2.symm)
    have h1:(L++x::R).Perm (x::(L++R)):=List.perm_middle
    have h2:(c.take q++x::c.drop (q+1)).Perm (x::(c.take q++c.drop (q+1))):=List.perm_middle
    refine (h1.append_right _).trans (List.Perm.trans ?_ h2.symm)
    exact (hLp.append_right _).cons x
   simp [h3,h4,w1]
   refine ⟨l.length - (q+1),_,HL H [.tok l.length 3 (some (rowsV (L++x::R++c.drop (q+1))))],?_,by omega,q+1,L++x::R++c.drop (q+1),hp2,by omega,?_,rfl,rfl,rfl⟩
   ·rw [List.append_assoc,List.cons_append]
    exact weak_HL hcl rfl (by simp) (by simp [h3,h4])
   ·rw [List.take_append_of_le_length (by simp;omega),List.take_of_length_le (by simp;omega)]
    exact hasc'
  rcases List.eq_nil_or_concat L with rfl | ⟨L',y,rfl⟩
  ·have hnil:∀ env:Env,env 5=.vec (nid H.next 0) l.length→env 12=intV (q:Int)→K env (HL H [.tok l.length 3 (some (rowsV (x::(R++c.drop (q+1)))))]):=fun env a b=>by
    have:=hfin env a b (by simp)
    simpa using this
   repeat with_reducible refine awp_assoc ?_
   refine awp_sdc [] [[],[],[],[],[3],[],[],[3,4,5,6],[3,4,5,6,7],[3,4,5,6,7],[3,4,5,6],[3,4,5,6],[8],[3,4,7,8,9]] (by kernel_rfl) (by rfl) fun K hK=>?_
   refine aCalm_pre 4 (by rfl) fun K hK=>?_
   simp
   refine hK _ _ ?_
   clear hK K
   refine aCalm_pre 4 (by rfl) fun K hK=>?_
   simp
   refine hK _ _ ?_
   clear hK K
   refine aCalm_pre 4 (by rfl) fun K hK=>?_
   simp
   refine hK _ _ ?_
   clear hK K
   refine aCalm_skip (by first | rfl | simp) ?_
   refine aCalm_pre 1 (by rfl) fun K hK=>?_
   simp
   refine hK _ _ ?_
   clear hK K
   refine aCalm_end ?_
   simp
   refine hK _ _ ?_
   clear hK K
   repeat with_reducible refine awp_assoc ?_
   refine awp_seq_k fun K hK=>?_
   refine awp_condF rfl (by simp) ?_
   refine awp_exit ?_
   simp
   exact hnil _ rfl rfl
  ·rw [List.concat_eq_append] at *
   have hgy:(L'++[y]++x::R++c.drop (q+1))[L'.length]?=some y:=by simp
   have hgx:(L'++[y]++x::R++c.drop (q+1))[L'.length+1]?=some x:=by
    rw [List.append_assoc,List.getElem?_append_right (by simp)];simp
   generalize hrows:L'++[y]++x::R++c.drop (q+1)=rows at *
   have hry:=rowsV_at hgy
   have hrx:=rowsV_at hgx
   have hrl:=rowsV_len (l:=rows)
   have hL':L'.length+1≤q:=by simp at hLR;omega
   have e0:((L'++[y]).length:Int)=(L'.length:Int)+1:=by simp
   have w3:IntKind.i64.wrap (L'.length:Int)=(L'.length:Int):=wrap64 (by omega) (by omega)
   have t1:((L'.length:Int)+1).toNat=L'.length+1:=by omega
   have p1:(0:Int) < (L'.length:Int)+1:=by omega
   have p2:(0:Int)≤(L'.length:Int)+1:=by omega
   have p3:L'.length+1 < l.length:=by omega
   have p4:L'.length < l.length:=by omega
   have hxy:=hA2 x y
   simp only [e0]
   repeat with_reducible refine awp_assoc ?_
   refine awp_sdc [] [[],[],[],[],[3],[],[],[3,4,5,6],[3,4,5,6,7],[3,4,5,6,7],[3,4,5,6],[3,4,5,6],[8],[3,4,7,8,9]] (by kernel_rfl) (by rfl) fun K hK=>?_
   refine aCalm_pre 3 (by rfl) fun K hK=>?_
   simp [p1]
   refine hK _ _ ?_
   clear hK K
   refine aCalm_pre 4 (by rfl) fun K hK=>?_
   simp [t1,p2,p3,hrx,eq_true hrl]
   refine hK _ _ ?_
   clear hK K
   refine aCalm_pre 5 (by rfl) fun K hK=>?_
   simp [w3,p4,hry,eq_true hrl]
   refine hK _ _ ?_
   clear hK K
   refine aCalm_call0 (hxy _) (by first | rfl | simp) rfl rfl rfl (by first | (simp;done) | rfl) ?_
   cases hlt2:ltP x y
   ·refine aCalm_pre 1 (by rfl) fun K hK=>?_
    simp
    refine hK _ _ ?_
    clear hK K
    refine aCalm_end ?_
    simp
    refine hK _ _ ?_
    clear hK K
    repeat with_reducible refine awp_assoc ?_
    refine awp_seq_k fun K hK=>?_
    refine awp_condF rfl (by simp) ?_
    refine awp_exit ?_
    simp
    refine hfin _ rfl rfl (fun L2 y2 e=>?_)
    obtain ⟨_,e2⟩:=List.append_inj' e rfl
    simp only [List.cons.injEq,and_true] at e2
    rw [←e2];exact hlt2
   ·refine aCalm_pre 1 (by rfl) fun K hK=>?_
    simp
    refine hK _ _ ?_
    clear hK K
    refine aCalm_end ?_
    simp
    refine hK _ _ ?_
    clear hK K
    repeat with_reducible refine awp_assoc ?_
    refine awp_seq_k fun K hK=>?_
    refine awp_condT rfl (by simp) ?_
    refine awp_skip ?_
    refine hK _ _ ?_
    clear hK K
    refine awp_seq_k fun K2 hK2=>?_
    refine awp_block ?_
    have hset:((rowsV rows).set (L'.length+1) [strV y.1,strV y.2,.slice [] none]).set L'.length [strV x.1,strV x.2,.slice [] none]=rowsV (L'++x::y::R++c.drop (q+1)):=by
     show ((rowsV rows).set (L'.length+1) (vqC y)).set L'.length (vqC x)=_
     rw [←hrows]
     unfold rowsV
     rw [←List.map_set,←List.map_set]
     congr 1
     simp [List.set_append]
    have hrl2:∀ r∈(rowsV rows).set (L'.length+1) [strV y.1,strV y.2,.slice [] none],r.length=3:=by
     intro r hr
     rcases List.mem_or_eq_of_mem_set hr with h | h
     ·exact hrl r h
     ·rw [h];rfl
    refine awp_drawo [15,17] [[],[0],[0,1],[0,1,2],[0,1,2],[0,1,2,3,4],[0,1,2,3,4,5],[0,1,2,3,4,5],[0,1,2,3,4],[0,1,2,3,4],[0,1,2,3,4,5,6,7,8,9],[0,1,2,3,4,5,6,7,8,9,10],[0,1,2,3,4,5,6,7,8,9],[0,1,2,3,4,5,6,7,8,9],[2,3,4],[2,3,4],[],[]] (by kernel_rfl) (by rfl) (by rfl) ?_
    simp [w3,t1,p2,p3,p4,hry,hrx,eq_true hrl,eq_true hrl2,vqC]
    refine hK2 _ _ ?_
    refine awp_region ?_
    rw [hset]
    simp [w3]
    refine ⟨L'.length,_,HL H [.tok l.length 3 (some (rowsV (L'++x::y::R++c.drop (q+1))))],?_,by omega,L',y::R,hS.step hlt2,by simp at hLR ⊢;omega,by simpa using hLp,rfl,rfl,by simp⟩
    rw [List.append_assoc,List.cons_append,List.cons_append]
    exact weak_HL hcl rfl (by simp) (by simp)
end Go.Proofs.YtlhoigpidpokfaaGreat
