/- Validity of declarations: the walk. -/
import Derived.Test.YtdppfcbeiplckaaGreatMD3
import Derived.Test.YtdppfcbeiplckaaGreatMD5
import Derived.Test.YtdppfcbeiplckaaGreatMD6
import Derived.Test.YtdppfcbeiplckaaGreatMD8
set_option linter.unusedVariables false
set_option linter.unusedSimpArgs false
namespace Go.Proofs.YtdppfcbeiplckaaGreat
open Go Go.Abs Go.Proofs
set_option maxRecDepth 20000
attribute [local simp] aOps wantedA aStep aop aLoad aStore aBin aUn aFieldAddr aField aIndexAddr aIndex aLen aBuild aFill aAlloc aAppend aAppendOwn aMin aMax aBuildSlice litRows newRows isMut isOwn isNilS nilsW bytesR tokW tokAV tokL ret readC splice aeval isLit isLate isCut aCut AV.celled AV.one AV.ofValue Value.oneCell' Value.cells intOp strOp get_nid upd_nid awp aEnd aResults aResult Det unord isCall isNext
attribute [local simp] low_take low_strs low_comp low_tcomp wkEs_refl' WkBs WkEnv WkB WkL WkE WkO ABlock.low lowO lowL lowR AV.low cellsL_eq Ty.low low_map Ty.cells_length Ty.cells_one
attribute [local simp] ConD.cells Dat.cells PredD.cells SigD.cells ClsD.cells InstD.cells DeclsD.cells DeclsD.enc Dat.enc low_datL low_conL low_predL low_sigL low_clsL low_instL
def firstNZ:List Int→Int
 | []=>0
 | v::l=>if v=0 then firstNZ l else v
theorem firstNZ_at:∀ {l:List Int} {k:Nat} {v:Int},l[k]?=some v→v≠0→(∀ y∈l.take k,y=0)→firstNZ l=v
 | [],_,_,h,_,_=>by simp at h
 | a::l,0,v,h,hv,_=>by
  simp only [List.getElem?_cons_zero,Option.some.injEq] at h
  subst h;simp [firstNZ,hv]
 | a::l,k+1,v,h,hv,hz=>by
  have ha:a=0:=hz a (by simp)
  simp only [firstNZ,if_pos ha]
  exact firstNZ_at (by simpa using h) hv fun y hy=>hz y (by simp [hy])
theorem firstNZ_0:∀ {l:List Int},(∀ y∈l,y=0)→firstNZ l=0
 | [],_=>rfl
 | a::l,h=>by simp only [firstNZ,if_pos (h a (by simp))];exact firstNZ_0 fun y hy=>h y (by simp [hy])
def valFs:List FuncId:=[96,97,98,99,100,101,102,103]
def fnR (l:List FuncId):List (List AV):=l.map fun g=>[.fn g []]
theorem low_fnR (n:Nat) (l:List FuncId):lowR n (fnR l):=lowR_map fun _ _=>⟨trivial,trivial⟩
theorem fnR_at {l:List FuncId} {k:Nat} {g:FuncId} (h:l[k]?=some g):(fnR l)[k]?=some [.fn g []]:=by unfold fnR;rw [List.getElem?_map,h];rfl
theorem val_c (d:DeclsD) (vs:List Int) (hl:vs.length=8) (hc:∀ k v g,vs[k]?=some v→valFs[k]?=some g→(∀ y∈vs.take k,y=0)→∀ H,ACalls Tryz.prog g [d.enc] H (intV v) H) (H:AHeap):ACalls Tryz.prog 45 [d.enc] H (intV (firstNZ vs)) H:=by
 refine acalls_walk (fun _=>.imm) [0,1,2,4,5,6,7,8,9,16] Tryz.mixed Tryz.func45 rfl rfl rfl (by decide) (fun hcl hlow=>?_)
 repeat with_reducible refine awp_assoc ?_
 refine awp_sr fun K hK=>?_
 simp
 refine hK _ _ ?_
 clear hK K
 repeat with_reducible refine awp_assoc ?_
 refine awp_sr fun K hK=>?_
 simp
 refine hK _ _ ?_
 clear hK K
 have hfs:([[.fn 96 []],[.fn 97 []],[.fn 98 []],[.fn 99 []],[.fn 100 []],[.fn 101 []],[.fn 102 []],[.fn 103 []]]:List (List AV))=fnR valFs:=rfl
 rw [hfs]
 have hfl:valFs.length=8:=rfl
 generalize valFs=fs at *
 refine awp_seq_k fun K hK=>?_
 refine awp_block ?_
 refine awp_up 8 (fun k=>Env.ofL [(1,.ref (nid H.next 0) 0),(2,intV 0),(6,.slice (fnR fs) none),(7,intV 8),(8,intV k)]) (fun k=>HL H [.cells d.cells]) (fun k=>∀ y∈vs.take k,y=0) (weak_HL hcl rfl (by simp) (by simp [low_fnR,Wk.tok])) (by simp) (fun k hk hv=>?_) (fun hv=>?_)
 ·obtain ⟨g,hg⟩:∃ g,fs[k]?=some g:=⟨_,List.getElem?_eq_getElem (by omega)⟩
  obtain ⟨v,hvk⟩:∃ v,vs[k]?=some v:=⟨_,List.getElem?_eq_getElem (by omega)⟩
  have hcall:=hc k v g hvk hg hv
  have hat:=fnR_at hg
  have hk':(k:Int) < 8:=by omega
  repeat with_reducible refine awp_assoc ?_
  refine awp_sr fun K hK=>?_
  simp [hk']
  refine hK _ _ ?_
  clear hK K
  repeat with_reducible refine awp_assoc ?_
  refine awp_seq_k fun K hK=>?_
  refine awp_condT rfl (by simp) ?_
  refine awp_skip ?_
  refine hK _ _ ?_
  clear hK K
  refine awp_seq_k fun KB hKB=>?_
  refine awp_block ?_
  repeat with_reducible refine awp_assoc ?_
  refine awp_sr fun K hK=>?_
  simp [hat]
  refine hK _ _ ?_
  clear hK K
  repeat with_reducible refine awp_assoc ?_
  refine awp_sr fun K hK=>?_
  refine aOps_split 2 fun K hK=>?_
  simp
  refine hK _ _ ?_
  clear hK K
  refine aOps_call (hcall _) (by first | rfl | simp) rfl rfl (by first | (simp;done) | rfl) ?_
  simp
  refine hK _ _ ?_
  clear hK K
  repeat with_reducible refine awp_assoc ?_
  refine awp_sr fun K hK=>?_
  simp
  refine hK _ _ ?_
  clear hK K
  by_cases h0:v=0
  ·refine awp_condF rfl (by simp [h0]) ?_
   refine awp_skip ?_
   refine hKB _ _ ?_
   clear hKB
   refine awp_region ?_
   simp [wrap_succ (show k < 4611686018427387904 by omega)]
   refine ⟨take_all (p:=fun y=>y=0) hvk h0 hv,weak_HL hcl rfl (by simp) (by simp [low_fnR])⟩
  ·refine awp_condT rfl (by simp [h0]) ?_
   repeat with_reducible refine awp_assoc ?_
   refine awp_sr fun K hK=>?_
   simp
   refine hK _ _ ?_
   clear hK K
   rw [firstNZ_at hvk h0 hv]
   simp [reset_all hcl]
 ·repeat with_reducible refine awp_assoc ?_
  refine awp_sr fun K hK=>?_
  simp
  refine hK _ _ ?_
  clear hK K
  repeat with_reducible refine awp_assoc ?_
  refine awp_seq_k fun K hK=>?_
  refine awp_condF rfl (by simp) ?_
  refine awp_exit ?_
  simp
  clear hK K
  refine hK _ _ ?_
  clear hK K
  repeat with_reducible refine awp_assoc ?_
  refine awp_sr fun K hK=>?_
  simp
  refine hK _ _ ?_
  clear hK K
  rw [List.take_of_length_le (by omega)] at hv
  rw [firstNZ_0 hv]
  simp [reset_all hcl]
end Go.Proofs.YtdppfcbeiplckaaGreat
namespace Go.Proofs.YtdppfcbeiplckaaGreat
open Go Go.Abs Go.Proofs
theorem foldA_sub {N:List ByteArray}:∀ (l:List ByteArray) (p:SW),(∀ s∈l,s∈N)→(∀ s∈p.1,s∈N)→∀ s∈(l.foldl stepA p).1,s∈N
 | [],_,_,hp=>hp
 | x::l,p,hl,hp=>by
  rw [List.foldl_cons]
  refine foldA_sub l _ (fun s hs=>hl s (by simp [hs])) fun s hs=>?_
  unfold stepA at hs
  split at hs
  ·exact hp s hs
  ·rcases List.mem_append.1 hs with h | h
   ·exact hp s h
   ·simp only [List.mem_singleton] at h;subst h;exact hl _ (by simp)
theorem aboveF_sub {cs:List ClsD} {N:List ByteArray} (hN:∀ n,∀ s∈supersOf cs n,s∈N):∀ {f:Nat} {w seen S:List ByteArray},aboveF cs f w seen=some S→(∀ s∈seen,s∈N)→∀ s∈S,s∈N
 | 0,_,_,_,h,_=>by cases h
 | _+1,[],_,_,h,hs=>by cases h;exact hs
 | f+1,w::work,seen,S,h,hs=>aboveF_sub hN (f:=f) h (foldA_sub _ _ (hN w) hs)
theorem nd_le:∀ {a N:List ByteArray},a.Nodup→(∀ s∈a,s∈N)→a.length≤N.length
 | [],_,_,_=>Nat.zero_le _
 | x::a,N,hn,hs=>by
  obtain ⟨h1,h2⟩:=List.nodup_cons.1 hn
  have h3:(N.filter fun y=>!decide (y=x)).length < N.length:=List.length_filter_lt_length_iff_exists.2 ⟨x,hs x (by simp),by simp⟩
  have h4:=nd_le (N:=N.filter fun y=>!decide (y=x)) h2 fun s hs2=>List.mem_filter.2 ⟨hs s (by simp [hs2]),by
   have:s≠x:=fun e=>h1 (e ▸ hs2)
   simpa using this⟩
  rw [List.length_cons];omega
theorem above_ex {cs:List ClsD} {N:List ByteArray} (hN:∀ n,∀ s∈supersOf cs n,s∈N):∀ (m:Nat) (w seen:List ByteArray),seen.Nodup→(∀ s∈seen,s∈N)→2 * (N.length - seen.length)+w.length≤m→∃ f S,aboveF cs f w seen=some S
 | _,[],seen,_,_,_=>⟨1,seen,rfl⟩
 | 0,_::_,_,_,_,h=>by simp at h
 | m+1,w::work,seen,hn,hs,h=>by
  obtain ⟨a1,a2,a3⟩:=foldA_facts (supersOf cs w) (seen,work)
  have hs2:=foldA_sub _ (seen,work) (hN w) hs
  have hle:=nd_le (a3 hn) hs2
  simp only at a1 a2
  simp only [List.length_cons] at h
  obtain ⟨f,S,hf⟩:=above_ex hN m ((supersOf cs w).foldl stepA (seen,work)).2 ((supersOf cs w).foldl stepA (seen,work)).1 (a3 hn) hs2 (by omega)
  exact ⟨f+1,S,hf⟩
theorem classI_mem {l:List ClsD} {n:ByteArray} (h:¬ classI l n < 0):n∈l.map ClsD.name:=by
 unfold classI at h
 cases hh:l.findIdx? fun x=>decide (x.name=n) with
 | none=>rw [hh] at h;simp [ixI] at h
 | some i =>
  obtain ⟨hl,h1,_⟩:=List.findIdx?_eq_some_iff_getElem.1 hh
  exact List.mem_map.2 ⟨l[i],List.getElem_mem hl,by simpa using h1⟩
theorem none_sup {d:DeclsD} (hno:noneB d=false):∀ n,∀ s∈supersOf d.classes n,s∈d.classes.map ClsD.name:=by
 intro n s hs
 unfold supersOf at hs
 split at hs
 ·rename_i c hc
  have hcm:=List.mem_of_find?_eq_some hc
  have h2:d.classes.any (fun x=>x.supers.any (noCls d))=false:=by
   unfold noneB at hno;simp only [Bool.or_eq_false_iff] at hno;exact hno.1.2
  rw [List.any_eq_false] at h2
  have h3:=h2 c hcm
  simp only [Bool.not_eq_true,List.any_eq_false] at h3
  have h4:=h3 s hs
  exact classI_mem (by simpa [noCls] using h4)
 ·cases hs
theorem ab_ok {d:DeclsD} (hlg:d.classes.length≤12) (hno:noneB d=false):AbOk d.classes:=by
 intro n
 have hN:=none_sup hno
 obtain ⟨f,S,hf⟩:=above_ex hN _ [n] [] List.nodup_nil (by simp) (Nat.le_refl _)
 have hex:∃ S f,aboveF d.classes f [n] []=some S:=⟨S,f,hf⟩
 have e:abv d.classes n=hex.choose:=by unfold abv;rw [dif_pos hex]
 have hsp:=hex.choose_spec
 rw [←e] at hsp
 refine ⟨hsp,?_⟩
 obtain ⟨f2,h2⟩:=hsp
 have h3:=nd_le ((aboveF_facts h2).2 List.nodup_nil) (aboveF_sub hN h2 (by simp))
 rw [List.length_map] at h3;omega
theorem clsOk_of {d:DeclsD} (hr:RawD d) (hlg:largeB d=false) (hno:noneB d=false):ClsOk d:=by
 have h:=(largeB_le hlg).2.1
 exact ⟨by omega,hr.supers,ab_ok h hno⟩
theorem flat_le {α β:Type} {f:α→List β} {l:List α} {m:Nat} (h:∀ x∈l,(f x).length≤m):(l.flatMap f).length≤l.length * m:=by
 induction l with
 | nil=>simp
 | cons x l ih =>
  have h1:=h x (by simp)
  have h2:=ih fun y hy=>h y (by simp [hy])
  rw [List.flatMap_cons,List.length_append,List.length_cons,Nat.add_mul];omega
theorem great_sz {s:ByteArray} (h:greatN s=true):s.size≤16:=by
 rw [great_tl] at h;simp only [Bool.and_eq_true,tlB,decide_eq_true_eq] at h;exact h.2.1
theorem all_ok {α:Type} {p:α→Bool} {l:List α} (h:l.all p=true):∀ x∈l,p x=true:=List.all_eq_true.1 h
theorem allV_mem {l:List Ty} (h:allV l=0):∀ t∈l,t.valid=0:=by
 induction l with
 | nil=>intro t ht;cases ht
 | cons a l ih =>
  simp only [allV] at h
  split at h
  ·rename_i h1
   intro t ht
   rcases List.mem_cons.1 ht with rfl | ht
   ·exact h1
   ·exact ih h t ht
  ·rename_i h1;exact absurd h h1
structure Named1 (d:DeclsD):Prop where
 vars:∀ x∈d.datas,x.vars.length≤8
 args:∀ x∈d.datas,∀ c∈x.cons,c.args.length≤8
 inst:∀ i∈d.insts,i.cls.size≤16∧i.data.size≤16
theorem named1 {d:DeclsD} (h:argsB d=true):Named1 d:=by
 simp only [argsB,Bool.and_eq_true] at h
 refine ⟨fun x hx=>?_,fun x hx c hc=>?_,fun i hi=>?_⟩
 ·have:=all_ok h.1.1 x hx
  simp only [isDataB,Bool.and_eq_true,decide_eq_true_eq] at this
  exact this.1.1.2
 ·have:=all_ok h.1.1 x hx
  simp only [isDataB,Bool.and_eq_true,decide_eq_true_eq] at this
  have:=all_ok this.2 c hc
  simp only [conB,Bool.and_eq_true,decide_eq_true_eq] at this
  exact this.2
 ·have:=all_ok h.2 i hi
  simp only [isInstB,Bool.and_eq_true] at this
  exact ⟨great_sz this.1.1,great_sz this.1.2⟩
theorem base_len:∀ x∈baseD,x.vars.length≤8∧x.cons.length≤16:=by decide
theorem allD_mem {d:DeclsD} (hlg:largeB d=false) (hn:Named1 d):∀ x∈allD d,x.vars.length≤8∧x.cons.length≤16:=by
 intro x hx
 rcases List.mem_append.1 hx with h | h
 ·exact base_len x h
 ·exact ⟨hn.vars x h,(largeB_le hlg).2.2.2.1 x h⟩
theorem written_len {d:DeclsD} (hlg:largeB d=false) (hn:Named1 d):(writtenD d).length≤4000:=by
 have h:=largeB_le hlg
 have h1:(d.datas.flatMap datTys).length≤d.datas.length * 128:=flat_le fun x hx=>by
  have h2:(x.cons.flatMap ConD.args).length≤x.cons.length * 8:=flat_le fun c hc=>hn.args x hx c hc
  have h3:=h.2.2.2.1 x hx
  unfold datTys;omega
 have h4:(d.classes.flatMap clsTys).length≤d.classes.length * 8:=flat_le fun x hx=>by
  unfold clsTys;rw [List.length_map];exact h.2.2.2.2.1 x hx
 unfold writtenD
 rw [List.length_append];omega
theorem written_con {d:DeclsD} {x:Dat} {c:ConD} {t:Ty} (hx:x∈d.datas) (hc:c∈x.cons) (ht:t∈c.args):t∈writtenD d :=
 List.mem_append_left _ (List.mem_flatMap.2 ⟨x,hx,List.mem_flatMap.2 ⟨c,hc,ht⟩⟩)
theorem written_op {d:DeclsD} {x:ClsD} {o:SigD} (hx:x∈d.classes) (ho:o∈x.ops):o.t∈writtenD d :=
 List.mem_append_right _ (List.mem_flatMap.2 ⟨x,hx,List.mem_map.2 ⟨o,ho,rfl⟩⟩)
theorem valid_cnt2 {t:Ty} (h:t.valid=0):t.cnt≤200:=large_cnt (Ty.not_large h)
noncomputable def validL (d:DeclsD):List Int:=[if largeB d=true then 3 else 0,if argsB d=true then 0 else 1,allV (writtenD d),if twiceB d=true then 5 else 0,if noneB d=true then 4 else 0,if fitB d=true then 8 else 0,if loopB d=true then 10 else 0,if ruleB d=true then 7 else 0]
noncomputable def validD (d:DeclsD):Int:=firstNZ (validL d)
theorem ite_b {b:Bool} {v:Int} (hv:v≠0) (h:(if b=true then v else 0)=0):b=false:=by cases b <;> simp_all
theorem dValidate_c (d:DeclsD) (hr:RawD d) (H:AHeap):ACalls Tryz.prog 45 [d.enc] H (intV (validD d)) H:=by
 refine val_c d (validL d) rfl (fun k v g hv hg hz H=>?_) H
 have z0:0 < k→largeB d=false:=fun hk=>ite_b (v:=3) (by decide) (hz _ (List.mem_of_getElem? (i:=0) (by rw [List.getElem?_take_of_lt hk];rfl)))
 have z1:1 < k→argsB d=true:=fun hk=>by
  have h:(if argsB d=true then (0:Int) else 1)=0:=hz _ (List.mem_of_getElem? (i:=1) (by rw [List.getElem?_take_of_lt hk];rfl))
  cases h2:argsB d with
  | true=>rfl
  | false=>rw [h2] at h;simp at h
 have z2:2 < k→allV (writtenD d)=0:=fun hk=>hz _ (List.mem_of_getElem? (i:=2) (by rw [List.getElem?_take_of_lt hk];rfl))
 have z4:4 < k→noneB d=false:=fun hk=>ite_b (v:=4) (by decide) (hz _ (List.mem_of_getElem? (i:=4) (by rw [List.getElem?_take_of_lt hk];rfl)))
 have hwt:2 < k→∀ t∈writtenD d,t.cnt < 1000000000000:=fun hk t ht=>by have:=valid_cnt2 (allV_mem (z2 hk) t ht);omega
 match k,hv,hg with
 | 0,hv,hg=>cases hv;cases hg;exact large_c d hr H
 | 1,hv,hg=>cases hv;cases hg;exact args_c d hr (z0 (by decide)) H
 | 2,hv,hg=>cases hv;cases hg;exact texts_c d hr H
 | 3,hv,hg =>
  cases hv;cases hg
  have hlg:=z0 (by decide)
  have hn:=named1 (z1 (by decide))
  have hl:=largeB_le hlg
  have ham:=allD_mem hlg hn
  have hal:(allD d).length≤35:=by unfold allD;rw [List.length_append];have:baseD.length=5:=rfl;omega
  have h1:((allD d).flatMap cnames).length≤(allD d).length * 16:=flat_le fun x hx=>by unfold cnames;rw [List.length_map];exact (ham x hx).2
  have h2:(d.classes.flatMap onames).length≤d.classes.length * 8:=flat_le fun x hx=>by unfold onames;rw [List.length_map];exact hl.2.2.2.2.1 x hx
  exact twice_c d (by omega) (by omega) (by omega) (by omega) (fun x hx=>by have:=ham x hx;omega) (fun x hx=>by have:=hl.2.2.2.2.1 x hx;omega) (by omega) (by omega) hn.inst H
 | 4,hv,hg =>
  cases hv;cases hg
  have hl:=largeB_le (z0 (by decide))
  have hw:=written_len (z0 (by decide)) (named1 (z1 (by decide)))
  exact none_c d hr (by omega) (by omega) (by omega) (hwt (by decide)) H
 | 5,hv,hg =>
  cases hv;cases hg
  have hl:=largeB_le (z0 (by decide))
  have hw:=written_len (z0 (by decide)) (named1 (z1 (by decide)))
  exact fit_c d hr (by omega) (by omega) (hwt (by decide)) (fun x hx c hc t ht=>hwt (by decide) t (written_con hx hc ht)) H
 | 6,hv,hg=>cases hv;cases hg;exact loop_c d (clsOk_of hr (z0 (by decide)) (z4 (by decide))) H
 | 7,hv,hg =>
  cases hv;cases hg
  have hl:=largeB_le (z0 (by decide))
  have hno:=z4 (by decide)
  refine rule_c d (clsOk_of hr (z0 (by decide)) hno) hr (by omega) (fun x hx o ho=>hwt (by decide) _ (written_op hx ho)) (fun x hx=>?_) H
  unfold noneB at hno
  simp only [Bool.or_eq_false_iff] at hno
  have h2:=List.any_eq_false.1 hno.2 x hx
  simp only [instNone,noCls,Bool.not_eq_true,Bool.or_eq_false_iff,decide_eq_false_iff_not] at h2
  exact h2.1.2
 | k+8,hv,_=>simp [validL] at hv
end Go.Proofs.YtdppfcbeiplckaaGreat
