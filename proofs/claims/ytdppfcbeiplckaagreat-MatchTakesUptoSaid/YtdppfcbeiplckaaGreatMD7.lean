/- Sorting of texts. -/
import Derived.Test.YtdppfcbeiplckaaGreatMD1
import Derived.Test.YtdppfcbeiplckaaGreatMO
import Derived.Test.YtdppfcbeiplckaaGreatMD2
set_option linter.unusedVariables false
set_option linter.unusedSimpArgs false
namespace Go.Proofs.YtdppfcbeiplckaaGreat
open Go Go.Abs Go.Proofs
set_option maxRecDepth 20000
attribute [local simp] aOps wantedA aStep aop aLoad aStore aBin aUn aFieldAddr aField aIndexAddr aIndex aLen aBuild aFill aAlloc aAppend aAppendOwn aMin aMax aBuildSlice litRows newRows isMut isOwn isNilS nilsW bytesR tokW tokAV tokL ret readC splice aeval isLit isLate isCut aCut AV.celled AV.one AV.ofValue Value.oneCell' Value.cells intOp strOp get_nid upd_nid awp aEnd aResults aResult Det unord isCall isNext
attribute [local simp] low_take low_strs low_comp low_tcomp wkEs_refl' WkBs WkEnv WkB WkL WkE WkO ABlock.low lowO lowL lowR AV.low cellsL_eq Ty.low low_map Ty.cells_length Ty.cells_one
abbrev AscS (l:List ByteArray):Prop:=l.Pairwise fun a b=>ltS a b=true
@[simp] theorem szString:szT Tryz.prog 9=some 1:=by kernel_rfl
def tyP (s:ByteArray):ByteArray × Ty:=(s,.mk s [])
def sortS (l:List ByteArray):List ByteArray:=(sortM (l.map tyP)).map (·.1)
theorem map_tyP (l:List ByteArray):(l.map tyP).map (·.1)=l:=by rw [List.map_map];exact List.map_id l
theorem sortS_eq {l r:List ByteArray} (hn:l.Nodup) (hp:r.Perm l) (ha:AscS r):r=sortS l:=by
 have h:=sortM_eq (l:=l.map tyP) (r:=r.map tyP) (by rw [map_tyP];exact hn) (hp.map _) (List.pairwise_map.2 ha)
 unfold sortS
 rw [←h,map_tyP]
theorem sortS_perm (l:List ByteArray):(sortS l).Perm l:=by
 have h:=(sortM_perm (l.map tyP)).map (·.1)
 rw [map_tyP] at h;exact h
structure SiftS (L:List ByteArray) (x:ByteArray) (R:List ByteArray):Prop where
 asc:AscS (L++R)
 lt:∀ y∈R,ltS x y=true
theorem SiftS.step {L R:List ByteArray} {x y:ByteArray} (h:SiftS (L++[y]) x R) (hlt:ltS x y=true):SiftS L x (y::R) :=
 ⟨by have:=h.asc;rw [List.append_assoc] at this;exact this,fun z hz=>by
  rcases List.mem_cons.1 hz with rfl | hz
  ·exact hlt
  ·exact h.lt z hz⟩
theorem SiftS.done {L R:List ByteArray} {x:ByteArray} (h:SiftS L x R) (hd:∀ y∈L,y≠x) (he:∀ L' y,L=L'++[y]→ltS x y=false):AscS (L++x::R):=by
 have ha:=List.pairwise_append.1 h.asc
 refine List.pairwise_append.2 ⟨ha.1,List.Pairwise.cons h.lt ha.2.1,fun a haL b hb=>?_⟩
 have hax:ltS a x=true:=by
  rcases List.eq_nil_or_concat L with rfl | ⟨L',y,rfl⟩
  ·cases haL
  ·rw [List.concat_eq_append] at *
   have hy:ltS y x=true:=by
    rcases ltS_total y x with h1 | h1 | h1
    ·exact h1
    ·exact absurd h1 (hd y (by simp))
    ·rw [he L' y rfl] at h1;cases h1
   rcases List.mem_append.1 haL with h1 | h1
   ·exact ltS_trans ((List.pairwise_append.1 ha.1).2.2 a h1 y (by simp)) hy
   ·simp at h1;subst h1;exact hy
 rcases List.mem_cons.1 hb with rfl | hb
 ·exact hax
 ·exact ltS_trans hax (h.lt b hb)
theorem isNaN_c (s:ByteArray) (H:AHeap):ACalls Tryz.prog 248 [strV s] H (boolV false) H:=by
 refine acalls_walk (fun _=>.imm) [0,2] Tryz.mixed Tryz.func248 rfl rfl rfl (by decide) (fun hcl hlow=>?_)
 repeat with_reducible refine awp_assoc ?_
 refine awp_sr fun K hK=>?_
 simp
 refine hK _ _ ?_
 clear hK K
 repeat with_reducible refine awp_assoc ?_
 refine awp_sr fun K hK=>?_
 simp
 refine hK _ _ ?_
 clear hK K
 simp [reset_all hcl]
theorem less_c (a b:ByteArray) (H:AHeap):ACalls Tryz.prog 212 [strV a,strV b] H (boolV (ltS a b)) H:=by
 refine acalls_walk (fun _=>.imm) [0,1,4] Tryz.mixed Tryz.func212 rfl rfl rfl (by decide) (fun hcl hlow=>?_)
 repeat with_reducible refine awp_assoc ?_
 refine awp_sr fun K hK=>?_
 simp
 refine hK _ _ ?_
 clear hK K
 repeat with_reducible refine awp_assoc ?_
 refine awp_sr fun K hK=>?_
 refine aOps_split 1 fun K hK=>?_
 simp
 refine hK _ _ ?_
 clear hK K
 refine aOps_call (isNaN_c a _) (by first | rfl | simp) rfl rfl (by first | (simp;done) | rfl) ?_
 refine aOps_split 6 fun K hK=>?_
 simp
 refine hK _ _ ?_
 clear hK K
 simp
 refine hK _ _ ?_
 clear hK K
 simp [ltS,reset_all hcl]
def rowsS (l:List ByteArray):List (List AV):=l.map fun s=>[strV s]
theorem rowsS_at {l:List ByteArray} {k:Nat} {x:ByteArray} (h:l[k]?=some x):(rowsS l)[k]?=some [strV x]:=by unfold rowsS;rw [List.getElem?_map,h];rfl
theorem rowsS_len {l:List ByteArray}:∀ r∈rowsS l,r.length=1:=by intro r hr;obtain ⟨s,_,rfl⟩:=List.mem_map.1 hr;rfl
theorem low_rowsS (n:Nat) (l:List ByteArray):lowR n (rowsS l):=low_strs n l
set_option maxHeartbeats 4000000 in
theorem insSort_c (l:List ByteArray) (hn:l.Nodup) (hl:l.length < 1000000000000) (i:Nat) (H:AHeap) (hH:H.get i=some (.tok l.length 1 (some (rowsS l)))) :
  ACalls Tryz.prog 206 [.vec i l.length,intV 0,intV l.length] H (.tuple []) (H.upd i (.tok l.length 1 (some (rowsS (sortS l))))):=by
 refine acalls_walk (fun _=>.imm) [0,1,2,6,7,12,30] Tryz.mixed Tryz.func206 rfl rfl rfl (by decide) (fun hcl hlow=>?_)
 have hil:i < H.next:=(hcl _ _ hH).1
 have hcu:∀ c,(H.upd i (.tok l.length 1 (some (rowsS c)))).Closed:=fun c=>closed_upd hcl hil (low_rowsS _ _)
 have hg:∀ c bs,(HL (H.upd i (.tok l.length 1 (some (rowsS c)))) bs).get i=some (.tok l.length 1 (some (rowsS c))):=fun c bs=>by rw [get_lt (by exact hil)];simp [AHeap.upd]
 have hu:∀ c B bs,(HL (H.upd i (.tok l.length 1 (some (rowsS c)))) bs).upd i B=HL (H.upd i B) bs:=fun c B bs=>by rw [upd_lt (by exact hil),upd_upd]
 have h0:H=H.upd i (.tok l.length 1 (some (rowsS l))):=(upd_same hH).symm
 have eHL:HL H []=HL (H.upd i (.tok l.length 1 (some (rowsS l)))) []:=by rw [←h0]
 rw [eHL]
 repeat with_reducible refine awp_assoc ?_
 refine awp_sr fun K hK=>?_
 simp
 refine hK _ _ ?_
 clear hK K
 refine awp_block ?_
 refine awp_loop (fun n env H'=>∃ (q:Nat) (c:List ByteArray),c.Perm l∧q≤l.length∧AscS (c.take (q+1))∧n=l.length - q∧env=Env.ofL [(0,.vec i l.length),(1,intV 0),(2,intV (l.length:Int)),(6,intV ((q:Int)+1))]∧H'=HL (H.upd i (.tok l.length 1 (some (rowsS c)))) [])
  l.length (weak_HL (hcu l) rfl (by simp) (by simp [lt_nid hil,show IntKind.i64.wrap 1=1 from by decide])) ⟨0,l,.refl _,Nat.zero_le _,?_,rfl,rfl,rfl⟩ ?_
 ·cases l <;> simp
 rintro n env H' ⟨q,c,hc,hq,hasc,rfl,rfl,rfl⟩
 have hcl2:=hc.length_eq
 by_cases hlt:q+1 < l.length
 ·have hlt':(q:Int)+1 < l.length:=by omega
  repeat with_reducible refine awp_assoc ?_
  refine awp_sr fun K hK=>?_
  simp [hlt']
  refine hK _ _ ?_
  clear hK K
  repeat with_reducible refine awp_assoc ?_
  refine awp_seq_k fun K hK=>?_
  refine awp_condT rfl (by simp) ?_
  refine awp_skip ?_
  refine hK _ _ ?_
  clear hK K
  refine awp_seq_k fun K hK=>?_
  refine awp_block ?_
  repeat with_reducible refine awp_assoc ?_
  refine awp_sr fun K hK=>?_
  simp
  refine hK _ _ ?_
  clear hK K
  obtain ⟨x,hx⟩:∃ x,c[q+1]?=some x:=⟨_,List.getElem?_eq_getElem (by omega)⟩
  have hcs:c=c.take (q+1)++x::c.drop (q+2):=by
   rw [List.getElem?_eq_getElem (by omega)] at hx
   simp only [Option.some.injEq] at hx
   rw [←hx,←List.drop_eq_getElem_cons,List.take_append_drop]
  refine awp_block ?_
  refine awp_loop (fun n env H'=>∃ (L R:List ByteArray),SiftS L x R∧L.length+R.length=q+1∧(L++R).Perm (c.take (q+1))∧n=L.length ∧
    env=Env.ofL [(0,.vec i l.length),(1,intV 0),(2,intV (l.length:Int)),(6,intV ((q:Int)+1)),(7,intV L.length)]∧H'=HL (H.upd i (.tok l.length 1 (some (rowsS (L++x::R++c.drop (q+2)))))) [])
   (q+1) (weak_HL (hcu _) rfl ?_ ?_) ⟨c.take (q+1),[],⟨by simpa using hasc,by simp⟩,by simp;omega,by simp,by simp;omega,rfl,by rw [show c.take (q+1)++x::[]++c.drop (q+2)=c by rw [List.append_assoc];exact hcs.symm]⟩ ?_
  ·simp
  ·have:min (q+1) c.length=q+1:=by omega
   simp [this,lt_nid hil]
  rintro n env H' ⟨L,R,hS,hLR,hLp,rfl,rfl,rfl⟩
  have w1:IntKind.i64.wrap ((q:Int)+1+1)=((q+1:Nat):Int)+1:=by rw [wrap64 (by omega) (by omega)];omega
  have hcn:c.Nodup:=hc.nodup_iff.2 hn
  have hck:(c.take (q+1)++x::c.drop (q+2)).Nodup:=by rw [←hcs];exact hcn
  have hdis:∀ y∈c.take (q+1),y≠x:=by
   intro y hy e
   rw [List.nodup_append] at hck
   exact hck.2.2 y hy x (by simp) e
  have hfin:∀ env:Env,env 0=.vec i l.length→env 1=intV 0→env 2=intV (l.length:Int)→env 6=intV ((q:Int)+1)→(∀ L' y,L=L'++[y]→ltS x y=false)→K env (HL (H.upd i (.tok l.length 1 (some (rowsS (L++x::R++c.drop (q+2)))))) []):=by
   intro env h00 h1 h2 h6 hd
   refine hK _ _ ?_
   refine awp_region ?_
   have hasc':AscS (L++x::R):=hS.done (fun y hy=>hdis y (hLp.subset (by simp [hy]))) hd
   have hp2:(L++x::R++c.drop (q+2)).Perm l:=by
    refine List.Perm.trans ?_ hc
    refine List.Perm.trans ?_ (List.Perm.of_eq hcs.symm)
    have h1:(L++x::R).Perm (x::(L++R)):=List.perm_middle
    have h2:(c.take (q+1)++x::c.drop (q+2)).Perm (x::(c.take (q+1)++c.drop (q+2))):=List.perm_middle
    refine (h1.append_right _).trans (List.Perm.trans ?_ h2.symm)
    exact (hLp.append_right _).cons x
   simp [h00,h1,h2,h6,w1]
   have w2:((q+1:Nat):Int)+1=(q:Int)+1+1:=by omega
   refine ⟨l.length - (q+1),_,HL (H.upd i (.tok l.length 1 (some (rowsS (L++x::R++c.drop (q+2)))))) [],?_,by omega,q+1,L++x::R++c.drop (q+2),hp2,by omega,?_,rfl,rfl,rfl⟩
   ·rw [List.append_assoc,List.cons_append]
    exact weak_HL (hcu _) rfl (by simp) (by simp [h00,h1,h2,h6,w2,lt_nid hil])
   ·rw [List.take_append_of_le_length (by simp;omega),List.take_of_length_le (by simp;omega)]
    exact hasc'
  rcases List.eq_nil_or_concat L with rfl | ⟨L',y,rfl⟩
  ·repeat with_reducible refine awp_assoc ?_
   refine awp_sdc [] [[],[0],[],[],[],[4],[],[],[4,5,6,7],[4,5,6,7,8],[4,5,6,7,8],[4,5,6,7],[4,5,6,7],[9],[4,5,8,9,10]] (by kernel_rfl) (by rfl) fun K hK=>?_
   refine aCalm_pre 4 (by rfl) fun K hK=>?_
   simp
   refine hK _ _ ?_
   clear hK K
   refine aCalm_pre 6 (by rfl) fun K hK=>?_
   simp
   refine hK _ _ ?_
   clear hK K
   refine aCalm_pre 3 (by rfl) fun K hK=>?_
   simp
   refine hK _ _ ?_
   clear hK K
   refine aCalm_skip rfl ?_
   refine aCalm_pre 1 (by rfl) fun K hK=>?_
   simp
   refine hK _ _ ?_
   clear hK K
   refine aCalm_end ?_
   simp
   refine hK _ _ ?_
   clear hK K
   repeat with_reducible refine awp_assoc ?_
   refine awp_seq_k fun K hK=>?_
   refine awp_condF rfl (by simp) ?_
   refine awp_exit ?_
   simp
   have:=hfin (Env.ofL [(0,.vec i l.length),(1,intV 0),(2,intV (l.length:Int)),(6,intV ((q:Int)+1)),(7,intV 0),(12,.undef),(30,boolV false)]) rfl rfl rfl rfl (by simp)
   simpa using this
  ·rw [List.concat_eq_append] at *
   have hgy:(L'++[y]++x::R++c.drop (q+2))[L'.length]?=some y:=by simp
   have hgx:(L'++[y]++x::R++c.drop (q+2))[L'.length+1]?=some x:=by
    rw [List.append_assoc,List.getElem?_append_right (by simp)];simp
   generalize hrows:L'++[y]++x::R++c.drop (q+2)=rows at *
   have hry:=rowsS_at hgy
   have hrx:=rowsS_at hgx
   have hrl:=rowsS_len (l:=rows)
   have hgr:=hg rows
   have hL':L'.length+1≤q+1:=by simp at hLR;omega
   have e0:((L'++[y]).length:Int)=(L'.length:Int)+1:=by simp
   have w3:IntKind.i64.wrap (L'.length:Int)=(L'.length:Int):=wrap64 (by omega) (by omega)
   have t1:((L'.length:Int)+1).toNat=L'.length+1:=by omega
   have p1:(0:Int) < (L'.length:Int)+1:=by omega
   have p2:(0:Int)≤(L'.length:Int)+1:=by omega
   have p3:L'.length+1 < l.length:=by omega
   have p4:L'.length < l.length:=by omega
   simp only [e0]
   repeat with_reducible refine awp_assoc ?_
   refine awp_sdc [] [[],[0],[],[],[],[4],[],[],[4,5,6,7],[4,5,6,7,8],[4,5,6,7,8],[4,5,6,7],[4,5,6,7],[9],[4,5,8,9,10]] (by kernel_rfl) (by rfl) fun K hK=>?_
   refine aCalm_pre 4 (by rfl) fun K hK=>?_
   simp [p1]
   refine hK _ _ ?_
   clear hK K
   refine aCalm_pre 4 (by rfl) fun K hK=>?_
   simp [t1,p2,p3,hgr,hrx,eq_true hrl]
   refine hK _ _ ?_
   clear hK K
   refine aCalm_pre 5 (by rfl) fun K hK=>?_
   simp [w3,p4,hgr,hry,eq_true hrl]
   refine hK _ _ ?_
   clear hK K
   refine aCalm_call0 (less_c x y _) (by first | rfl | simp) rfl rfl rfl (by first | (simp;done) | rfl) ?_
   refine aCalm_pre 1 (by rfl) fun K hK=>?_
   simp
   refine hK _ _ ?_
   clear hK K
   refine aCalm_end ?_
   simp
   refine hK _ _ ?_
   clear hK K
   cases hlt2:ltS x y
   ·repeat with_reducible refine awp_assoc ?_
    refine awp_seq_k fun K hK=>?_
    refine awp_condF rfl (by simp [hlt2]) ?_
    refine awp_exit ?_
    simp
    refine hfin _ rfl rfl rfl rfl (fun L2 y2 e=>?_)
    obtain ⟨_,e2⟩:=List.append_inj' e rfl
    simp only [List.cons.injEq,and_true] at e2
    rw [←e2];exact hlt2
   ·repeat with_reducible refine awp_assoc ?_
    refine awp_seq_k fun K hK=>?_
    refine awp_condT rfl (by simp [hlt2]) ?_
    refine awp_skip ?_
    refine hK _ _ ?_
    clear hK K
    refine awp_seq_k fun K2 hK2=>?_
    refine awp_block ?_
    have hset:((rowsS rows).set (L'.length+1) [strV y]).set L'.length [strV x]=rowsS (L'++x::y::R++c.drop (q+2)):=by
     rw [←hrows]
     unfold rowsS
     rw [show ([strV y]:List AV)=(fun s=>[strV s]) y from rfl,show ([strV x]:List AV)=(fun s=>[strV s]) x from rfl,←List.map_set,←List.map_set]
     congr 1
     simp [List.set_append]
    have hrl2:∀ r∈(rowsS rows).set (L'.length+1) [strV y],r.length=1:=by
     intro r hr
     rcases List.mem_or_eq_of_mem_set hr with h | h
     ·exact hrl r h
     ·rw [h];rfl
    have hgu:∀ B bs,(HL (H.upd i B) bs).get i=some B:=fun B bs=>by rw [get_lt (by exact hil)];simp [AHeap.upd]
    have hu2:∀ B B' bs,(HL (H.upd i B) bs).upd i B'=HL (H.upd i B') bs:=fun B B' bs=>by rw [upd_lt (by exact hil),upd_upd]
    refine awp_drawo [15,17] [[],[0],[0,1],[0,1,2],[0,1,2],[0,1,2,3,4],[0,1,2,3,4,5],[0,1,2,3,4,5],[0,1,2,3,4],[0,1,2,3,4],[0,1,2,3,4,5,6,7,8,9],[0,1,2,3,4,5,6,7,8,9,10],[0,1,2,3,4,5,6,7,8,9],[0,1,2,3,4,5,6,7,8,9],[2,3,4],[2,3,4],[],[]] (by kernel_rfl) (by rfl) (by rfl) ?_
    simp [w3,t1,p2,p3,p4,hgu,hu2,hry,hrx,eq_true hrl,eq_true hrl2]
    refine hK2 _ _ ?_
    refine awp_region ?_
    rw [hset]
    simp [w3]
    refine ⟨L'.length,_,HL (H.upd i (.tok l.length 1 (some (rowsS (L'++x::y::R++c.drop (q+2)))))) [],?_,by omega,L',y::R,hS.step hlt2,by simp at hLR ⊢;omega,by simpa using hLp,rfl,rfl,by simp⟩
    rw [List.append_assoc,List.cons_append,List.cons_append]
    exact weak_HL (hcu _) rfl (by simp) (by simp [lt_nid hil])
 ·have hlt':¬ (q:Int)+1 < l.length:=by omega
  repeat with_reducible refine awp_assoc ?_
  refine awp_sr fun K hK=>?_
  simp [hlt']
  refine hK _ _ ?_
  clear hK K
  repeat with_reducible refine awp_assoc ?_
  refine awp_seq_k fun K hK=>?_
  refine awp_condF rfl (by simp) ?_
  refine awp_exit ?_
  have hcm:c=sortS l:=by
   refine sortS_eq hn hc ?_
   rwa [List.take_of_length_le (by omega)] at hasc
  rw [hcm]
  simp
  exact reset_all (hcu _)
def bitsL (n:Nat):Int:=if n=0 then 0 else if n < 2 then 1 else if n < 4 then 2 else if n < 8 then 3 else 4
theorem len64_c (n:Nat) (hn:n≤12) (H:AHeap):ACalls Tryz.prog 127 [.v (.int .u64 n)] H (intV (bitsL n)) H:=by
 have c1:¬ (4294967296:Int)≤n:=by omega
 have c2:¬ (65536:Int)≤n:=by omega
 have c3:¬ (256:Int)≤n:=by omega
 have w1:IntKind.u8.wrap (n:Int)=n:=by
  have:n=0∨n=1∨n=2∨n=3∨n=4∨n=5∨n=6∨n=7∨n=8∨n=9∨n=10∨n=11∨n=12:=by omega
  rcases this with rfl | rfl | rfl | rfl | rfl | rfl | rfl | rfl | rfl | rfl | rfl | rfl | rfl <;> decide
 refine acalls_walk (fun _=>.imm) [0,2,4,8,14] Tryz.mixed Tryz.func127 rfl rfl rfl (by decide) (fun hcl hlow=>?_)
 repeat with_reducible refine awp_assoc ?_
 refine awp_sr fun K hK=>?_
 simp
 refine hK _ _ ?_
 clear hK K
 repeat with_reducible refine awp_assoc ?_
 refine awp_sr fun K hK=>?_
 simp [c1]
 refine hK _ _ ?_
 clear hK K
 repeat with_reducible refine awp_assoc ?_
 refine awp_seq_k fun K hK=>?_
 refine awp_condF rfl (by simp) ?_
 refine awp_skip ?_
 refine hK _ _ ?_
 clear hK K
 repeat with_reducible refine awp_assoc ?_
 refine awp_sr fun K hK=>?_
 simp [c2]
 refine hK _ _ ?_
 clear hK K
 repeat with_reducible refine awp_assoc ?_
 refine awp_seq_k fun K hK=>?_
 refine awp_condF rfl (by simp) ?_
 refine awp_skip ?_
 refine hK _ _ ?_
 clear hK K
 repeat with_reducible refine awp_assoc ?_
 refine awp_sr fun K hK=>?_
 simp [c3]
 refine hK _ _ ?_
 clear hK K
 repeat with_reducible refine awp_assoc ?_
 refine awp_seq_k fun K hK=>?_
 refine awp_condF rfl (by simp) ?_
 refine awp_skip ?_
 refine hK _ _ ?_
 clear hK K
 repeat with_reducible refine awp_assoc ?_
 refine awp_sr fun K hK=>?_
 refine aOps_split 3 fun K hK=>?_
 simp [w1]
 refine hK _ _ ?_
 clear hK K
 refine aOps_split 1 fun K hK=>?_
 simp
 simp only [w1]
 have hfin:∀ b:UInt8,(b.toNat:Int)=bitsL n→K (((((Env.ofL [(0,AV.v (Value.int IntKind.u64 n)),(2,AV.v (Value.int IntKind.i64 0)),(4,AV.v (Value.bool false)),(8,AV.v (Value.bool false)),(14,AV.v (Value.bool false))]).put (some 19) (AV.v (Value.int IntKind.i64 0))).put (some 20) (AV.v (Value.int IntKind.u64 n))).put (some 21) (AV.v (Value.int IntKind.u8 n))).put (some 22) (AV.v (Value.int IntKind.u8 b.toNat))) (HL H []):=by
  intro b hb
  refine hK _ _ ?_
  clear hK K
  have hb4:bitsL n≤4∧0≤bitsL n:=by unfold bitsL;repeat' split <;> omega
  have w2:IntKind.i64.wrap (b.toNat:Int)=bitsL n:=by rw [hb];exact wrap64 (by omega) (by omega)
  have w3:IntKind.i64.wrap (bitsL n)=bitsL n:=wrap64 (by omega) (by omega)
  simp [aConv,Tryz.underlying5,Tryz.underlying3,w2,w3]
  refine hK _ _ ?_
  clear hK K
  simp [reset_all hcl]
 clear hK
 have:n=0∨n=1∨n=2∨n=3∨n=4∨n=5∨n=6∨n=7∨n=8∨n=9∨n=10∨n=11∨n=12:=by omega
 rcases this with rfl | rfl | rfl | rfl | rfl | rfl | rfl | rfl | rfl | rfl | rfl | rfl | rfl
 ·exact ⟨by decide,hfin 0 (by decide)⟩
 ·exact ⟨by decide,hfin 1 (by decide)⟩
 ·exact ⟨by decide,hfin 2 (by decide)⟩
 ·exact ⟨by decide,hfin 2 (by decide)⟩
 ·exact ⟨by decide,hfin 3 (by decide)⟩
 ·exact ⟨by decide,hfin 3 (by decide)⟩
 ·exact ⟨by decide,hfin 3 (by decide)⟩
 ·exact ⟨by decide,hfin 3 (by decide)⟩
 ·exact ⟨by decide,hfin 4 (by decide)⟩
 ·exact ⟨by decide,hfin 4 (by decide)⟩
 ·exact ⟨by decide,hfin 4 (by decide)⟩
 ·exact ⟨by decide,hfin 4 (by decide)⟩
 ·exact ⟨by decide,hfin 4 (by decide)⟩
theorem len_c (n:Nat) (hn:n≤12) (H:AHeap):ACalls Tryz.prog 59 [.v (.int .u64 n)] H (intV (bitsL n)) H:=by
 refine acalls_walk (fun _=>.imm) [0,2] Tryz.mixed Tryz.func59 rfl rfl rfl (by decide) (fun hcl hlow=>?_)
 repeat with_reducible refine awp_assoc ?_
 refine awp_sr fun K hK=>?_
 simp
 refine hK _ _ ?_
 clear hK K
 repeat with_reducible refine awp_assoc ?_
 refine awp_seq_k fun K hK=>?_
 refine awp_condF rfl (by simp) ?_
 refine awp_skip ?_
 refine hK _ _ ?_
 clear hK K
 repeat with_reducible refine awp_assoc ?_
 refine awp_sr fun K hK=>?_
 refine aOps_split 1 fun K hK=>?_
 simp
 refine hK _ _ ?_
 clear hK K
 refine aOps_call (len64_c n hn _) (by first | rfl | simp) rfl rfl (by first | (simp;done) | rfl) ?_
 simp
 refine hK _ _ ?_
 clear hK K
 simp [reset_all hcl]
theorem pdq_c (l:List ByteArray) (hn:l.Nodup) (hl:l.length≤12) (b:Int) (i:Nat) (H:AHeap) (hH:H.get i=some (.tok l.length 1 (some (rowsS l)))) :
  ACalls Tryz.prog 155 [.vec i l.length,intV 0,intV l.length,intV b] H (.tuple []) (H.upd i (.tok l.length 1 (some (rowsS (sortS l))))):=by
 have hs:=insSort_c l hn (by omega) i
 refine acalls_walk (fun _=>.imm) [0,1,2,3,8,9,10,11,12,13,14,15,16,17,18,23,29,35,50,68,72,87,113] Tryz.mixed Tryz.func155 rfl rfl rfl (by decide) (fun hcl hlow=>?_)
 have hil:i < H.next:=(hcl _ _ hH).1
 have hcu:∀ c,(H.upd i (.tok l.length 1 (some (rowsS c)))).Closed:=fun c=>closed_upd hcl hil (low_rowsS _ _)
 have hl2:(l.length:Int)≤12:=by omega
 have w1:IntKind.i64.wrap (l.length:Int)=l.length:=wrap64 (by omega) (by omega)
 repeat with_reducible refine awp_assoc ?_
 refine awp_sr fun K hK=>?_
 simp
 refine hK _ _ ?_
 clear hK K
 repeat with_reducible refine awp_assoc ?_
 refine awp_sr fun K hK=>?_
 simp
 refine hK _ _ ?_
 clear hK K
 refine awp_block ?_
 refine awp_loop (fun n env H'=>n=0∧env=Env.ofL [(0,.vec i l.length),(1,intV 0),(2,intV (l.length:Int)),(3,intV b),(8,boolV true),(9,boolV true)]∧H'=HL H []) 0 (weak_HL hcl rfl (by simp) (by simp [lt_nid hil])) ⟨rfl,rfl,rfl⟩ ?_
 rintro n env H' ⟨rfl,rfl,rfl⟩
 refine awp_block ?_
 repeat with_reducible refine awp_assoc ?_
 refine awp_sr fun K hK=>?_
 simp [w1]
 refine hK _ _ ?_
 clear hK K
 repeat with_reducible refine awp_assoc ?_
 refine awp_sr fun K hK=>?_
 simp [hl2]
 refine hK _ _ ?_
 clear hK K
 repeat with_reducible refine awp_assoc ?_
 refine awp_seq_k fun K hK=>?_
 refine awp_condT rfl (by simp) ?_
 have hs2:=hs (HL H []) (by rw [get_lt hil];exact hH)
 repeat with_reducible refine awp_assoc ?_
 refine awp_sr fun K hK=>?_
 refine aOps_split 3 fun K hK=>?_
 simp
 refine hK _ _ ?_
 clear hK K
 refine aOps_call (hs2) (by first | rfl | simp) rfl rfl (by first | (simp;done) | rfl) ?_
 simp
 refine hK _ _ ?_
 clear hK K
 simp
 rw [upd_lt hil]
 exact reset_all (hcu _)
theorem sort_c (l:List ByteArray) (hn:l.Nodup) (hl:l.length≤12) (i:Nat) (H:AHeap) (hH:H.get i=some (.tok l.length 1 (some (rowsS l)))) :
  ACalls Tryz.prog 87 [.vec i l.length] H (.tuple []) (H.upd i (.tok l.length 1 (some (rowsS (sortS l))))):=by
 have hs:=pdq_c l hn hl
 have hb:=len_c l.length hl
 refine acalls_walk (fun _=>.imm) [0,2] Tryz.mixed Tryz.func87 rfl rfl rfl (by decide) (fun hcl hlow=>?_)
 have hil:i < H.next:=(hcl _ _ hH).1
 have hcu:∀ c,(H.upd i (.tok l.length 1 (some (rowsS c)))).Closed:=fun c=>closed_upd hcl hil (low_rowsS _ _)
 have w1:IntKind.u64.wrap (l.length:Int)=l.length:=by
  generalize l.length=n at hl
  have:n=0∨n=1∨n=2∨n=3∨n=4∨n=5∨n=6∨n=7∨n=8∨n=9∨n=10∨n=11∨n=12:=by omega
  rcases this with rfl | rfl | rfl | rfl | rfl | rfl | rfl | rfl | rfl | rfl | rfl | rfl | rfl <;> decide
 have hs2:=hs (bitsL l.length) i (HL H []) (by rw [get_lt hil];exact hH)
 repeat with_reducible refine awp_assoc ?_
 refine awp_sr fun K hK=>?_
 simp
 refine hK _ _ ?_
 clear hK K
 refine awp_region ?_
 refine aOps_split 3 fun K hK=>?_
 simp
 refine hK _ _ ?_
 clear hK K
 refine aOps_split 1 fun K hK=>?_
 simp [aConv,Tryz.underlying147,Tryz.underlying3,w1]
 refine hK _ _ ?_
 clear hK K
 refine aOps_call (hb _) (by first | rfl | simp) rfl rfl (by first | (simp;done) | rfl) ?_
 refine aOps_call (hs2) (by first | rfl | simp) rfl rfl (by first | (simp;done) | rfl) ?_
 simp
 rw [upd_lt hil]
 exact reset_all (hcu _)
attribute [local simp] ConD.cells Dat.cells PredD.cells SigD.cells ClsD.cells InstD.cells DeclsD.cells DeclsD.enc Dat.enc low_datL low_conL low_predL low_sigL low_clsL low_instL
def supersOf (cs:List ClsD) (n:ByteArray):List ByteArray:=match cs.find? fun x=>decide (x.name=n) with | some c=>c.supers | none=>[]
abbrev SW:=List ByteArray × List ByteArray
def stepA (p:SW) (s:ByteArray):SW:=if memS s p.1=true then p else (p.1++[s],p.2++[s])
def aboveF (cs:List ClsD):Nat→List ByteArray→List ByteArray→Option (List ByteArray)
 | 0,_,_=>none
 | _+1,[],seen=>some seen
 | f+1,w::work,seen=>aboveF cs f ((supersOf cs w).foldl stepA (seen,work)).2 ((supersOf cs w).foldl stepA (seen,work)).1
theorem stepA_facts (p:SW) (s:ByteArray):p.1.length≤(stepA p s).1.length∧(stepA p s).2.length+p.1.length=p.2.length+(stepA p s).1.length∧(p.1.Nodup→(stepA p s).1.Nodup):=by
 unfold stepA
 split
 ·exact ⟨Nat.le_refl _,rfl,id⟩
 ·rename_i h
  refine ⟨by simp,by simp;omega,fun hn=>?_⟩
  rw [List.nodup_append]
  refine ⟨hn,by simp,fun a ha b hb=>?_⟩
  simp only [List.mem_singleton] at hb
  rintro rfl
  exact h (memS_iff.2 (hb ▸ ha))
theorem foldA_facts (l:List ByteArray) (p:SW):p.1.length≤(l.foldl stepA p).1.length∧(l.foldl stepA p).2.length+p.1.length=p.2.length+(l.foldl stepA p).1.length∧(p.1.Nodup→(l.foldl stepA p).1.Nodup):=by
 induction l generalizing p with
 | nil=>exact ⟨Nat.le_refl _,rfl,id⟩
 | cons s l ih =>
  obtain ⟨a1,a2,a3⟩:=stepA_facts p s
  obtain ⟨b1,b2,b3⟩:=ih (stepA p s)
  exact ⟨by simp only [List.foldl_cons];omega,by simp only [List.foldl_cons];omega,fun h=>b3 (a3 h)⟩
theorem aboveF_facts {cs:List ClsD}:∀ {f:Nat} {w seen S:List ByteArray},aboveF cs f w seen=some S→seen.length≤S.length∧(seen.Nodup→S.Nodup)
 | 0,_,_,_,h=>by cases h
 | _+1,[],_,_,h=>by cases h;exact ⟨Nat.le_refl _,id⟩
 | f+1,w::work,seen,S,h=>by
  obtain ⟨a1,a2,a3⟩:=foldA_facts (supersOf cs w) (seen,work)
  obtain ⟨b1,b2⟩:=aboveF_facts (f:=f) h
  exact ⟨Nat.le_trans a1 b1,fun hn=>b2 (a3 hn)⟩
theorem fold_take {l:List ByteArray} {k:Nat} {x:ByteArray} (h:l[k]?=some x) (p:SW):(l.take (k+1)).foldl stepA p=stepA ((l.take k).foldl stepA p) x:=by rw [take_one h,List.foldl_append];rfl
theorem fold_le (l:List ByteArray) (k:Nat) (p:SW):((l.take k).foldl stepA p).1.length≤(l.foldl stepA p).1.length:=by
 conv=>rhs;rw [←List.take_append_drop k l,List.foldl_append]
 exact (foldA_facts _ _).1
theorem rep_set (k:Nat) (t x:ABlock) (l:List ABlock):(List.replicate k ABlock.gone++t::l).set k x=List.replicate k ABlock.gone++x::l:=by
 rw [List.set_append_right _ _ (by simp)];simp
theorem rep_more (k:Nat) (l:List ABlock):List.replicate k ABlock.gone++ABlock.gone::l=List.replicate (k+1) ABlock.gone++l:=by
 rw [List.replicate_succ',List.append_assoc];rfl
theorem wk_rep (n k:Nat) (a b:ABlock) (h:WkBs n [a] [b]):WkBs n (List.replicate k .gone++[a]) (List.replicate k .gone++[b]):=by
 induction k with
 | zero=>exact h
 | succ k ih=>simp only [List.replicate_succ,List.cons_append];exact ⟨trivial,trivial,ih⟩
def keepsA (d:DeclsD) (seen:List ByteArray) (k n:Nat):List ABlock:=.cells d.cells::.amap (metEs seen) seen.length::(List.replicate k .gone++[.tok n 1 none])
theorem ka_len (d:DeclsD) (seen:List ByteArray) (k n:Nat):(keepsA d seen k n).length=k+3:=by simp [keepsA]
theorem ka_0 (d:DeclsD) (seen:List ByteArray) (k n:Nat):(keepsA d seen k n)[0]?=some (.cells d.cells):=rfl
theorem ka_2 (d:DeclsD) (seen:List ByteArray) (k n:Nat):(keepsA d seen k n)[k+2]?=some (.tok n 1 none):=by simp [keepsA]
theorem ka_g (d:DeclsD) (seen:List ByteArray) (k n:Nat) (h:k+2 < (keepsA d seen k n).length):(keepsA d seen k n)[k+2]=.tok n 1 none:=by
 have:=ka_2 d seen k n
 rw [List.getElem?_eq_getElem h] at this
 exact Option.some.inj this
theorem ka_1g (d:DeclsD) (seen:List ByteArray) (k n:Nat) (h:1 < (keepsA d seen k n).length):(keepsA d seen k n)[1]=.amap (metEs seen) seen.length:=rfl
theorem ka_0g (d:DeclsD) (seen:List ByteArray) (k n:Nat) (h:0 < (keepsA d seen k n).length):(keepsA d seen k n)[0]=.cells d.cells:=rfl
theorem ka_wk (m:Nat) (d:DeclsD) (seen:List ByteArray) (k n:Nat):WkBs m (keepsA d seen k n) (keepsA d seen k n) :=
 ⟨WkB.refl _,low_decls m d,WkB.refl _,low_met m seen,wk_rep m k _ _ ⟨WkB.refl _,trivial,trivial⟩⟩
theorem ka_cut (d:DeclsD) (seen:List ByteArray) (k n n':Nat):(keepsA d seen k n).set (k+2) .gone++[.tok n' 1 none]=keepsA d seen (k+1) n':=by
 simp only [keepsA,List.set_cons_succ,rep_set,List.cons_append,List.append_assoc,List.nil_append,rep_more]
theorem ka_set (d:DeclsD) (seen:List ByteArray) (k n n':Nat):(keepsA d seen k n).set (k+2) (.tok n' 1 none)=keepsA d seen k n':=by
 simp only [keepsA,List.set_cons_succ,rep_set]
theorem ka_map (d:DeclsD) (seen seen':List ByteArray) (k n:Nat):(keepsA d seen k n).set 1 (.amap (metEs seen') seen'.length)=keepsA d seen' k n:=rfl
theorem ka_both (d:DeclsD) (seen:List ByteArray) (x:ByteArray) (k n n':Nat):((keepsA d seen (k+1) n).set 1 (.amap (metEs (seen++[x])) (seen.length+1))).set (k+3) (.tok n' 1 none)=keepsA d (seen++[x]) (k+1) n':=by
 have h:=ka_map d seen (seen++[x]) (k+1) n
 rw [List.length_append] at h
 have h2:(keepsA d seen (k+1) n).set 1 (.amap (metEs (seen++[x])) (seen.length+1))=keepsA d (seen++[x]) (k+1) n:=h
 rw [h2]
 exact ka_set d (seen++[x]) (k+1) n n'
def pickS (m:List ByteArray) (seen:List Nat):List ByteArray:=seen.filterMap fun j=>m[j]?
theorem pickS_app {m:List ByteArray} {seen:List Nat} {j:Nat} {p:ByteArray} (h:m[j]?=some p):pickS m (seen++[j])=pickS m seen++[p]:=by
 simp [pickS,h]
theorem pickS_range (m:List ByteArray):pickS m (List.range m.length)=m:=by
 have key:∀ (n:Nat),pickS m (List.range n)=m.take n:=by
  intro n
  induction n with
  | zero=>rfl
  | succ n ih =>
   rw [List.range_succ,List.take_add_one,←ih]
   cases h:m[n]? with
   | none=>simp [pickS,h]
   | some p=>rw [pickS_app h];rfl
 rw [key,List.take_length]
theorem pickS_len (m:List ByteArray):∀ (seen:List Nat),(pickS m seen).length≤seen.length
 | []=>Nat.le_refl _
 | j::s=>by
  have:=pickS_len m s
  unfold pickS at this ⊢
  rw [List.filterMap_cons]
  split <;> simp <;> omega
theorem sortS_asc {l:List ByteArray} (hn:l.Nodup):AscS (sortS l):=by
 have h:=sortM_asc (l:=l.map tyP) (by rw [map_tyP];exact hn)
 exact List.pairwise_map.2 h
theorem sortS_same {a b:List ByteArray} (hn:b.Nodup) (hp:a.Perm b):sortS a=sortS b:=sortS_eq hn ((sortS_perm a).trans hp) (sortS_asc (hp.nodup_iff.2 hn))
def keepsB (d:DeclsD) (S:List ByteArray) (k i:Nat) (out:List ByteArray) (left:List Nat) (cur:Option Nat):List ABlock:=keepsA d S k 0++[.tok out.length 1 (some (rowsS out)),.iter i S.length left cur]
theorem kb_len (d:DeclsD) (S:List ByteArray) (k i:Nat) (out:List ByteArray) (left:List Nat) (cur:Option Nat):(keepsB d S k i out left cur).length=k+5:=by simp [keepsB,ka_len]
theorem kb_1 (d:DeclsD) (S:List ByteArray) (k i:Nat) (out:List ByteArray) (left:List Nat) (cur:Option Nat) (h:1 < (keepsB d S k i out left cur).length):(keepsB d S k i out left cur)[1]=.amap (metEs S) S.length:=rfl
theorem kb_3 (d:DeclsD) (S:List ByteArray) (k i:Nat) (out:List ByteArray) (left:List Nat) (cur:Option Nat):(keepsB d S k i out left cur)[k+3]?=some (.tok out.length 1 (some (rowsS out))):=by
 unfold keepsB;rw [List.getElem?_append_right (by rw [ka_len];omega),ka_len];simp
theorem kb_4 (d:DeclsD) (S:List ByteArray) (k i:Nat) (out:List ByteArray) (left:List Nat) (cur:Option Nat):(keepsB d S k i out left cur)[k+4]?=some (.iter i S.length left cur):=by
 unfold keepsB;rw [List.getElem?_append_right (by rw [ka_len];omega),ka_len];simp
theorem kb_3g (d:DeclsD) (S:List ByteArray) (k i:Nat) (out:List ByteArray) (left:List Nat) (cur:Option Nat) (h:k+3 < (keepsB d S k i out left cur).length):(keepsB d S k i out left cur)[k+3]=.tok out.length 1 (some (rowsS out)):=by
 have:=kb_3 d S k i out left cur;rw [List.getElem?_eq_getElem h] at this;exact Option.some.inj this
theorem kb_4g (d:DeclsD) (S:List ByteArray) (k i:Nat) (out:List ByteArray) (left:List Nat) (cur:Option Nat) (h:k+4 < (keepsB d S k i out left cur).length):(keepsB d S k i out left cur)[k+4]=.iter i S.length left cur:=by
 have:=kb_4 d S k i out left cur;rw [List.getElem?_eq_getElem h] at this;exact Option.some.inj this
theorem kb_it (d:DeclsD) (S:List ByteArray) (k i:Nat) (out:List ByteArray) (left left':List Nat) (cur cur':Option Nat):(keepsB d S k i out left cur).set (k+4) (.iter i S.length left' cur')=keepsB d S k i out left' cur':=by
 unfold keepsB;rw [List.set_append_right _ _ (by rw [ka_len];omega),ka_len];simp
theorem kb_out (d:DeclsD) (S:List ByteArray) (k i:Nat) (out out':List ByteArray) (left:List Nat) (cur:Option Nat) (n:Nat) (hn:n=out'.length):(keepsB d S k i out left cur).set (k+3) (.tok n 1 (some (rowsS out')))=keepsB d S k i out' left cur:=by
 subst hn;unfold keepsB;rw [List.set_append_right _ _ (by rw [ka_len];omega),ka_len];simp
theorem wkbs_app {n:Nat}:∀ {a b c d:List ABlock},WkBs n a b→a.length=b.length→WkBs n c d→WkBs n (a++c) (b++d)
 | [],[],_,_,_,_,h=>h
 | _::_,_::_,_,_,⟨h1,h2,h3⟩,hl,h=>⟨h1,h2,wkbs_app h3 (by simpa using hl) h⟩
theorem kb_wk (m:Nat) (d:DeclsD) (S:List ByteArray) (k i:Nat) (out:List ByteArray) (left:List Nat) (cur:Option Nat) (hi:i < m):WkBs m (keepsB d S k i out left cur) (keepsB d S k i out left cur) :=
 wkbs_app (ka_wk _ _ _ _ _) rfl ⟨WkB.refl _,low_rowsS _ _,WkB.refl _,hi,trivial⟩
set_option maxHeartbeats 4000000 in
theorem above_c (d:DeclsD) (hcz:d.classes.length < 1000000000000) (hsu:∀ x∈d.classes,x.supers.length < 4611686018427387904) (n:ByteArray) (S:List ByteArray) (f:Nat) (hf:aboveF d.classes f [n] []=some S) (hS:S.length≤12) (H:AHeap) :
  ACalls Tryz.prog 173 [d.enc,strV n] H (strs (sortS S) none) H:=by
 have hcc:=class_c d hcz
 have hSn:=(aboveF_facts hf).2 List.nodup_nil
 refine acalls_walk (fun t=>if t=24 then .cut else if t=46∨t=58 then .lit else if t=49 then .own else if t=62 then .frz else .imm) [0,1,2,4,5,6,7,9,10,11,17,26,32,33,34,35,41,51,53] Tryz.mixed Tryz.func173 rfl rfl rfl (by decide) (fun hcl hlow=>?_)
 repeat with_reducible refine awp_assoc ?_
 refine awp_sr fun K hK=>?_
 simp
 refine hK _ _ ?_
 clear hK K
 repeat with_reducible refine awp_assoc ?_
 refine awp_sr fun K hK=>?_
 simp
 refine hK _ _ ?_
 clear hK K
 repeat with_reducible refine awp_assoc ?_
 refine awp_sr fun K hK=>?_
 simp
 refine hK _ _ ?_
 clear hK K
 refine awp_seq_k fun KO hKO=>?_
 refine awp_block ?_
 refine awp_loop (fun m env H'=>∃ (k:Nat) (work seen:List ByteArray),aboveF d.classes m work seen=some S∧work.length≤seen.length+1∧seen.Nodup ∧
   env=Env.ofL [(2,.ref (nid H.next 0) 0),(5,.map (nid H.next 1)),(6,strs work (some (nid H.next (k+2))))]∧H'=HL H (keepsA d seen k work.length)) f
  (weak_HL hcl rfl ?_ ?_) ⟨0,[n],[],hf,by simp,List.nodup_nil,rfl,rfl⟩ ?_
 ·simp [keepsA,metEs,WkEs,lowEs]
 ·simp [keepsA,strs]
 rintro m env H' ⟨k,work,seen,hm,hwl,hsn,rfl,rfl⟩
 have hsl:=(aboveF_facts hm).1
 cases m with
 | zero=>cases hm
 | succ m =>
 cases work with
 | nil =>
  simp only [aboveF,Option.some.injEq] at hm
  subst hm
  repeat with_reducible refine awp_assoc ?_
  refine awp_sr fun K hK=>?_
  simp
  refine hK _ _ ?_
  clear hK K
  repeat with_reducible refine awp_assoc ?_
  refine awp_seq_k fun K hK=>?_
  refine awp_condF rfl (by simp) ?_
  refine awp_exit ?_
  simp
  refine hKO _ _ ?_
  clear hK hKO
  have hmet:(metEs seen).length=seen.length:=by simp [metEs]
  repeat with_reducible refine awp_assoc ?_
  refine awp_sr fun K hK=>?_
  simp [ka_len]
  refine hK _ _ ?_
  clear hK K
  repeat with_reducible refine awp_assoc ?_
  refine awp_sr fun K hK=>?_
  simp [ka_len,ka_1g,hmet]
  refine hK _ _ ?_
  clear hK K
  have hHB:HL H (keepsA d seen k 0++[.tok 0 1 (some []),.iter (nid H.next 1) seen.length (List.range seen.length) none])=HL H (keepsB d seen k (nid H.next 1) [] (List.range seen.length) none):=rfl
  rw [hHB]
  refine awp_seq_k fun K hK=>?_
  refine awp_block ?_
  refine awp_loop (fun n env H'=>∃ (met left:List Nat) (cur:Option Nat),(met++left).Perm (List.range seen.length)∧n=left.length ∧
    env=Env.ofL [(10,.vec (nid H.next (k+3)) (pickS seen met).length),(51,.ref (nid H.next (k+4)) 0)]∧H'=HL H (keepsB d seen k (nid H.next 1) (pickS seen met) left cur)) seen.length
   (weak_HL hcl rfl (kb_wk _ _ _ _ _ _ _ _ (by rw [kb_len];exact nid_lt_nid (by omega))) (by simp [kb_len,pickS,nid_lt_nid])) ⟨[],List.range seen.length,none,by simp,by simp,rfl,rfl⟩ ?_
  rintro n env H' ⟨met,left,cur,hp,rfl,rfl,rfl⟩
  have hpl:=pickS_len seen met
  have hml:met.length≤seen.length:=by have:=hp.length_eq;simp at this;omega
  generalize hout:pickS seen met=out at hpl ⊢
  repeat with_reducible refine awp_assoc ?_
  refine awp_sr fun K hK=>?_
  simp [aNext,kb_len,kb_1,kb_4g]
  refine ⟨fun hl0=>?_,fun j hj s tv he=>?_⟩
  ·refine hK _ _ ?_
   clear hK K
   repeat with_reducible refine awp_assoc ?_
   refine awp_seq_k fun K hK=>?_
   refine awp_condF rfl (by simp) ?_
   refine awp_exit ?_
   simp
   clear hK K
   refine hK _ _ ?_
   clear hK K
   subst hl0
   have hperm:out.Perm seen:=by
    rw [←hout]
    have h1:met.Perm (List.range seen.length):=by simpa using hp
    have h2:(pickS seen met).Perm (pickS seen (List.range seen.length)):=h1.filterMap _
    rwa [pickS_range] at h2
   have hol:=hperm.length_eq
   have hs:=sort_c out (hperm.nodup_iff.2 hsn) (by omega) (nid H.next (k+3)) (HL H (keepsB d seen k (nid H.next 1) out [] cur)) (by simp [kb_len,kb_3g])
   have hse:=sortS_same hsn hperm
   have hsl2:(sortS seen).length=out.length:=by rw [←hse];exact (sortS_perm out).length_eq
   rw [hse] at hs
   have hrs:(rowsS (sortS seen)).length=out.length:=by simp [rowsS,hsl2]
   repeat with_reducible refine awp_assoc ?_
   refine awp_sr fun K hK=>?_
   refine aOps_split 1 fun K hK=>?_
   simp
   refine hK _ _ ?_
   clear hK K
   refine aOps_call (hs) (by first | rfl | simp) rfl rfl (by first | (simp;done) | rfl) ?_
   simp [kb_len,kb_out _ _ _ _ _ (sortS seen) _ _ _ hsl2.symm]
   refine hK _ _ ?_
   clear hK K
   refine awp_sr fun K hK=>?_
   simp [kb_len,kb_3g]
   refine ⟨hsl2,hrs,fun r hr=>by obtain ⟨s,_,rfl⟩:=List.mem_map.1 hr;simp,hK _ _ ?_⟩
   clear hK K
   simp [reset_all hcl]
   exact Wk.tok _ _
  ·simp only [kb_it]
   obtain ⟨p,hp2,rfl,rfl⟩:∃ p,seen[j]?=some p∧s=.string p∧tv=boolV true:=by
    simp only [metEs,List.getElem?_map,Option.map_eq_some_iff] at he
    obtain ⟨p,h1,h2⟩:=he
    simp only [Prod.mk.injEq] at h2
    exact ⟨p,h1,h2.1.symm,h2.2.symm⟩
   refine hK _ _ ?_
   clear hK K
   have e1:pickS seen (met++[j])=out++[p]:=by rw [←hout];exact pickS_app hp2
   repeat with_reducible refine awp_assoc ?_
   refine awp_seq_k fun K hK=>?_
   refine awp_condT rfl (by simp) ?_
   refine awp_skip ?_
   refine hK _ _ ?_
   clear hK K
   refine awp_block ?_
   repeat with_reducible refine awp_assoc ?_
   refine awp_sr fun K hK=>?_
   simp [aEntry,kb_len,kb_1,kb_4g,he]
   refine hK _ _ ?_
   clear hK K
   refine awp_region ?_
   simp [kb_len,kb_3g]
   have hnl:left.Nodup:=(List.nodup_append.1 (hp.symm.nodup List.nodup_range)).2.1
   have hlt:(left.filter (· != j)).length < left.length:=by
    rw [←hnl.erase_eq_filter,List.length_erase_of_mem hj]
    have:=List.length_pos_of_mem hj;omega
   have hro:rowsS out++[[AV.v (.string p)]]=rowsS (out++[p]):=by simp [rowsS]
   rw [hro,kb_out _ _ _ _ _ (out++[p]) _ _ (out.length+1) (by simp)]
   refine ⟨by omega,by simp [rowsS],fun r hr=>by obtain ⟨s,_,rfl⟩:=List.mem_map.1 hr;simp,(left.filter (· != j)).length,_,HL H (keepsB d seen k (nid H.next 1) (out++[p]) (left.filter (· != j)) (some j)),weak_HL hcl rfl (kb_wk _ _ _ _ _ _ _ _ (by rw [kb_len];exact nid_lt_nid (by omega))) ?_,hlt,met++[j],left.filter (· != j),?_,rfl,rfl,some j,by rw [e1]⟩
   ·rw [e1]
    simp [kb_len,nid_lt_nid]
   ·rw [←hnl.erase_eq_filter]
    refine List.Perm.trans ?_ hp
    rw [List.append_assoc]
    exact List.Perm.append_left met (List.perm_cons_erase hj).symm
 | cons w work =>
 have hm2:aboveF d.classes m ((supersOf d.classes w).foldl stepA (seen,work)).2 ((supersOf d.classes w).foldl stepA (seen,work)).1=some S:=hm
 have hc:=hcc w
 repeat with_reducible refine awp_assoc ?_
 refine awp_sr fun K hK=>?_
 simp
 refine hK _ _ ?_
 clear hK K
 repeat with_reducible refine awp_assoc ?_
 refine awp_seq_k fun K hK=>?_
 refine awp_condT rfl (by simp) ?_
 refine awp_skip ?_
 refine hK _ _ ?_
 clear hK K
 refine awp_block ?_
 repeat with_reducible refine awp_assoc ?_
 refine awp_sdc [] [[],[0],[0],[0],[],[]] (by kernel_rfl) (by rfl) fun K hK=>?_
 refine aCalm_pre 4 (by rfl) fun K hK=>?_
 simp [strs,ka_0]
 refine hK _ _ ?_
 clear hK K
 refine aCalm_call0 (hc _) (by first | rfl | simp) rfl rfl rfl (by first | (simp;done) | rfl) ?_
 refine aCalm_pre 1 (by rfl) fun K hK=>?_
 simp
 refine hK _ _ ?_
 clear hK K
 refine aCalm_end ?_
 simp
 refine hK _ _ ?_
 clear hK K
 refine awp_sr fun K hK=>?_
 simp [aCut,strs,ka_g,ka_len,isCut,bnd,ka_cut]
 refine hK _ _ ?_
 clear hK K
 obtain ⟨fa1,fa2,fa3⟩:=foldA_facts (supersOf d.classes w) (seen,work)
 have fs:=(aboveF_facts hm2).1
 simp only [List.length_cons] at hwl
 by_cases hneg:classI d.classes w < 0
 ·have es:supersOf d.classes w=[]:=by
   unfold supersOf classI at *
   cases h:d.classes.findIdx? fun x=>decide (x.name=w) with
   | some i=>rw [h] at hneg;simp [ixI] at hneg;omega
   | none=>rw [List.findIdx?_eq_none_iff] at h;rw [find_none h]
  rw [es] at hm2
  repeat with_reducible refine awp_assoc ?_
  refine awp_sr fun K hK=>?_
  simp [hneg]
  refine hK _ _ ?_
  clear hK K
  repeat with_reducible refine awp_assoc ?_
  refine awp_seq_k fun K hK=>?_
  refine awp_condT rfl (by simp [hneg]) ?_
  refine awp_exit ?_
  simp
  refine ⟨m,_,HL H (keepsA d seen (k+1) work.length),weak_HL hcl rfl ?_ ?_,by omega,k+1,work,seen,hm2,by omega,hsn,rfl,rfl⟩
  ·exact ka_wk _ _ _ _ _
  ·simp [ka_len,strs,low_strs,nid_lt_nid]
 obtain ⟨i,c,ei,hci,es⟩:∃ (i:Nat) (c:ClsD),classI d.classes w=i∧d.classes[i]?=some c∧supersOf d.classes w=c.supers:=by
  unfold supersOf classI at *
  cases h:d.classes.findIdx? fun x=>decide (x.name=w) with
  | none=>rw [h] at hneg;simp [ixI] at hneg
  | some i =>
   obtain ⟨hl,h1,h2⟩:=List.findIdx?_eq_some_iff_getElem.1 h
   refine ⟨i,d.classes[i],rfl,List.getElem?_eq_getElem hl,?_⟩
   have hfd:d.classes.find? (fun x=>decide (x.name=w))=some d.classes[i]:=by
    rw [List.find?_eq_some_iff_getElem]
    exact ⟨h1,i,hl,rfl,fun j hj=>by simpa using h2 j hj⟩
   rw [hfd]
 rw [es] at hm2 fa1 fa2 fa3 fs
 have hcs:=hsu c (List.mem_of_getElem? hci)
 repeat with_reducible refine awp_assoc ?_
 refine awp_sr fun K hK=>?_
 simp [hneg]
 refine hK _ _ ?_
 clear hK K
 repeat with_reducible refine awp_assoc ?_
 refine awp_seq_k fun K hK=>?_
 refine awp_condF rfl (by simp [hneg]) ?_
 refine awp_skip ?_
 refine hK _ _ ?_
 clear hK K
 rw [ei]
 repeat with_reducible refine awp_assoc ?_
 refine awp_sr fun K hK=>?_
 simp [strs,ka_0g,ka_len,hci]
 refine hK _ _ ?_
 clear hK K
 refine awp_block ?_
 refine awp_up c.supers.length (fun j=>Env.ofL [(2,.ref (nid H.next 0) 0),(5,.map (nid H.next 1)),(6,strs ((c.supers.take j).foldl stepA (seen,work)).2 (some (nid H.next (k+3)))),(32,strs c.supers none),(33,intV (c.supers.length:Int)),(34,intV j)]) (fun j=>HL H (keepsA d ((c.supers.take j).foldl stepA (seen,work)).1 (k+1) ((c.supers.take j).foldl stepA (seen,work)).2.length)) (fun _=>True) (weak_HL hcl rfl (ka_wk _ _ _ _ _) (by simp [ka_len,strs,low_strs,nid_lt_nid])) trivial (fun j hj _=>?_) (fun _=>?_)
 ·obtain ⟨x,hx⟩:∃ x,c.supers[j]?=some x:=⟨_,List.getElem?_eq_getElem hj⟩
  have hle:=fold_le c.supers j (seen,work)
  obtain ⟨ga1,ga2,ga3⟩:=foldA_facts (c.supers.take j) (seen,work)
  rw [fold_take hx]
  generalize (c.supers.take j).foldl stepA (seen,work)=r at *
  obtain ⟨rs,rw_⟩:=r
  simp only at hle ga1 ga2 ga3
  repeat with_reducible refine awp_assoc ?_
  refine awp_sr fun K hK=>?_
  simp [hj]
  refine hK _ _ ?_
  clear hK K
  repeat with_reducible refine awp_assoc ?_
  refine awp_seq_k fun K hK=>?_
  refine awp_condT rfl (by simp) ?_
  refine awp_skip ?_
  refine hK _ _ ?_
  clear hK K
  refine awp_seq_k fun KC hKC=>?_
  refine awp_block ?_
  repeat with_reducible refine awp_assoc ?_
  refine awp_sr fun K hK=>?_
  simp [hx]
  refine hK _ _ ?_
  clear hK K
  cases hmm:memS x rs
  rotate_left
  ·have er:stepA (rs,rw_) x=(rs,rw_):=by simp [stepA,hmm]
   rw [er]
   repeat with_reducible refine awp_assoc ?_
   refine awp_sr fun K hK=>?_
   simp [aLookup,ka_1g,ka_len,keys_met,keyOk,aLook_met,hmm]
   refine hK _ _ ?_
   clear hK K
   refine awp_condF rfl (by simp) ?_
   refine awp_skip ?_
   refine hKC _ _ ?_
   clear hKC
   refine awp_region ?_
   simp [wrap_succ (show j < 4611686018427387904 by omega)]
   rw [er]
   exact weak_HL hcl rfl (ka_wk _ _ _ _ _) (by simp [ka_len,strs,low_strs,nid_lt_nid])
  have er:stepA (rs,rw_) x=(rs++[x],rw_++[x]):=by simp [stepA,hmm]
  have hv1:aVer (metEs rs) (.string x) rs.length true=(rs++[x]).length:=by simp [aVer,aLook_met,hmm]
  repeat with_reducible refine awp_assoc ?_
  refine awp_sr fun K hK=>?_
  simp [aLookup,ka_1g,ka_len,keys_met,keyOk,aLook_met,hmm]
  refine hK _ _ ?_
  clear hK K
  refine awp_condT rfl (by simp) ?_
  repeat with_reducible refine awp_assoc ?_
  refine awp_sr fun K hK=>?_
  simp [aMapUpdate,ka_1g,ka_len,keys_met,keyOk,aPut_met hmm,hv1,ka_map]
  refine hK _ _ ?_
  clear hK K
  refine awp_region ?_
  simp [strs,ka_g,ka_len,ka_both]
  have hle2:rs.length≤12:=by omega
  refine ⟨by omega,?_⟩
  refine hKC _ _ ?_
  clear hKC
  refine awp_region ?_
  simp [wrap_succ (show j < 4611686018427387904 by omega)]
  rw [er]
  refine weak_HL hcl rfl ?_ (by simp [ka_len,strs,low_strs,nid_lt_nid])
  simp only [List.length_append,List.length_cons,List.length_nil,Nat.zero_add]
  exact ka_wk _ _ _ _ _
 generalize hr:c.supers.foldl stepA (seen,work)=r at *
 rw [List.take_length,hr]
 obtain ⟨rs,rw_⟩:=r
 simp only at hm2 fa1 fa2 fa3 fs
 repeat with_reducible refine awp_assoc ?_
 refine awp_sr fun K hK=>?_
 simp
 refine hK _ _ ?_
 clear hK K
 repeat with_reducible refine awp_assoc ?_
 refine awp_seq_k fun K hK=>?_
 refine awp_condF rfl (by simp) ?_
 refine awp_exit ?_
 simp
 refine ⟨m,_,HL H (keepsA d rs (k+1) rw_.length),weak_HL hcl rfl (ka_wk _ _ _ _ _) ?_,by omega,k+1,rw_,rs,hm2,by omega,fa3 hsn,rfl,rfl⟩
 simp [ka_len,strs,low_strs,nid_lt_nid]
end Go.Proofs.YtdppfcbeiplckaaGreat
