/- The program: the search for a row that nothing matches. -/
import Derived.Test.YtdppfcbeiplckaaGreatMME
set_option linter.unusedVariables false
set_option linter.unusedSimpArgs false
namespace Go.Proofs.YtdppfcbeiplckaaGreat
open Go Go.Abs Go.Proofs
set_option maxRecDepth 20000
attribute [local simp] aOps wantedA aStep aop aLoad aStore aBin aUn aFieldAddr aField aIndexAddr aIndex aLen aBuild aFill aAlloc aAppend aAppendOwn aMin aMax aBuildSlice litRows newRows isMut isOwn isNilS nilsW bytesR tokW tokAV tokL ret readC splice aeval isLit isLate isCut aCut AV.celled AV.one AV.ofValue Value.oneCell' Value.cells intOp strOp get_nid upd_nid awp aEnd aResults aResult Det unord isCall isNext
attribute [local simp] low_take low_strs low_comp low_tcomp wkEs_refl' WkBs WkEnv WkB WkL WkE WkO ABlock.low lowO lowL lowR AV.low cellsL_eq Ty.low low_map Ty.cells_length Ty.cells_one
attribute [local simp] cellsNd_eq low_nds Nd.cells_length Nd.cells_one low_ints low_rows low_strs low_strR low_rowR low_pls low_pths
mutual
def shN (b:Nat):Nd→Bool
 | .mk _ _ _ l=>decide (l.length < b) && shL b l
def shL (b:Nat):List Nd→Bool
 | []=>true
 | t::l=>shN b t && shL b l
end
theorem shL_all (b:Nat) (l:List Nd):shL b l=l.all (shN b):=by
 induction l with
 | nil=>rfl
 | cons t l ih=>simp [shL,ih]
theorem shN_sh {b:Nat}:∀ t:Nd,shN b t=true→t.Sh b:=by
 refine Nd.ind fun o s n l ih h=>?_
 rw [shN,Bool.and_eq_true,shL_all] at h
 exact .mk (of_decide_eq_true h.1) fun t ht=>ih t ht (List.all_eq_true.1 h.2 t ht)
theorem shL_sh {b:Nat} {l:List Nd} (h:shL b l=true):∀ t∈l,t.Sh b:=fun t ht=>shN_sh t (List.all_eq_true.1 (by rwa [shL_all] at h) t ht)
abbrev Ks:=List (List Int)
def kEs (ks:Ks):List (Value × AV):=ks.map fun p=>(.agg ((keyA p).map (Value.int .i64)).toArray,boolV true)
theorem low_kEs (n:Nat) (ks:Ks):lowEs n (kEs ks):=by
 induction ks with
 | nil=>trivial
 | cons p ks ih=>exact ⟨trivial,ih⟩
def kH (H:AHeap) (mi:Nat) (m:Ks):AHeap:=H.upd mi (.amap (kEs m) m.length)
@[simp] theorem kH_next (H:AHeap) (mi:Nat) (m:Ks):(kH H mi m).next=H.next:=Eq.trans rfl rfl
theorem kH_self {H:AHeap} {mi:Nat} {m:Ks} (h:H.get mi=some (.amap (kEs m) m.length)):kH H mi m=H:=by
 refine AHeap.ext (fun i=>?_) rfl
 show (if i=mi then some _ else H.get i)=H.get i
 by_cases e:i=mi
 ·rw [if_pos e,e,h]
 ·rw [if_neg e]
@[simp] theorem kH_kH (H:AHeap) (mi:Nat) (m m':Ks):kH (kH H mi m) mi m'=kH H mi m':=upd_upd
@[simp] theorem kH_get (H:AHeap) (mi:Nat) (m:Ks):(kH H mi m).get mi=some (.amap (kEs m) m.length):=get_upd_self
theorem kH_ne (H:AHeap) {mi i:Nat} (m:Ks) (h:i≠mi):(kH H mi m).get i=H.get i:=get_upd_ne h
theorem kH_HL {H:AHeap} {mi:Nat} (m:Ks) (bs:List ABlock) (h:mi < H.next):kH (HL H bs) mi m=HL (kH H mi m) bs:=upd_lt h
theorem kH_closed {H:AHeap} {mi:Nat} (m:Ks) (hcl:H.Closed) (h:mi < H.next):(kH H mi m).Closed:=closed_upd hcl h (low_kEs _ _)
def rowAt (rows:List (List Nd)) (i:Int):List Nd:=rows.getD i.toNat []
def mayK (rows:List (List Nd)) (p:List Nd):Nat→List Int
 | 0=>[]
 | k+1=>mayK rows p k++if meetL (rows.getD k []) p then [(k:Int)] else []
def mayF (rows:List (List Nd)) (p:List Nd):List Int:=mayK rows p rows.length
theorem mayK_len (rows:List (List Nd)) (p:List Nd):∀ k,(mayK rows p k).length≤k
 | 0=>by simp [mayK]
 | k+1=>by
  have:=mayK_len rows p k
  rw [mayK,List.length_append]
  split <;> simp <;> omega
theorem mayK_mem {rows:List (List Nd)} {p:List Nd}:∀ {k:Nat},k≤rows.length→∀ {i:Int},i∈mayK rows p k→∃ j r,i=((j:Nat):Int)∧rows[j]?=some r∧rowAt rows i=r
 | 0,_,i,h=>by simp [mayK] at h
 | k+1,hk,i,h=>by
  rw [mayK,List.mem_append] at h
  rcases h with h | h
  ·exact mayK_mem (by omega) h
  ·split at h
   ·rw [List.mem_singleton] at h
    subst h
    have hx:rows[k]?=some rows[k]:=List.getElem?_eq_getElem (by omega)
    exact ⟨k,rows[k],rfl,hx,by simp [rowAt,List.getD,hx]⟩
   ·simp at h
noncomputable def kOk (q:List Int):Bool:=(keyOf Tryz.prog 173 (.agg ((keyA q).map (Value.int .i64)).toArray)).isSome
def pOk (rows:List (List Nd)) (may:List Int):List Int→Bool
 | []=>false
 | k0::l=>decide (l.length < 8) && (k0::l).all (fun k=>decide (0≤k)) && may.all fun i=>decide (k0.toNat < (rowAt rows i).length)
def askF (rows:List (List Nd)) (path:List Int) (i:Int):Bool:=decide (3≤(atN (rowAt rows i) path).op)
def headsF (P:List Ent) (rows:List (List Nd)) (may:List Int) (path:List Int):Option (List Nd) :=
 match may with
 | []=>none
 | i::_=>match atN (rowAt rows i) path with
  | .mk o s _ _=>if o≠3 then none else match entF P s with
   | none=>none
   | some e=>if e.2.1.cons.length < 1000∧∀ c∈e.2.1.cons,c.args.length < 1000 then some (e.2.1.cons.map headC) else none
abbrev FindR:=Option (Option (List Nd) × Ks)
def tryF (f:List Nd→Ks→FindR) (p:List Nd) (path:List Int):List Nd→Ks→FindR
 | [],ks=>some (none,ks)
 | h::hs,ks=>match putF p path h with
  | none=>none
  | some q=>match f q ks with
   | none=>none
   | some (some r,ks')=>some (some r,ks')
   | some (none,ks')=>tryF f p path hs ks'
def stF (f:List Nd→Ks→FindR) (p:List Nd) (path:List Int) (hs:List Nd) (ks:Ks):Nat→Ks
 | 0=>ks
 | k+1=>match hs[k]? with
  | none=>[]
  | some h=>match putF p path h with
   | none=>[]
   | some q=>match f q (stF f p path hs ks k) with
    | some (_,ks')=>ks'
    | none=>[]
noncomputable def findF (P:List Ent) (rows:List (List Nd)) (dep:Int):Nat→List Nd→Ks→FindR
 | 0,_,_=>none
 | n+1,p,ks =>
  if ¬ (p.length < 1000∧shL 1000 p=true∧rows.all (fun r=>decide (r.length≤p.length))=true) then none
  else if mayF rows p=[] then some (some p,ks)
  else if ¬ (mayF rows p).all (fun i=>cvkL (rowAt rows i) p)=true then none
  else if (mayF rows p).any (fun i=>covL (rowAt rows i) p)=true then some (none,ks)
  else if ¬ ((opL dep p [] 0).length < 1000000000∧(opL dep p [] 0).all (pOk rows (mayF rows p))=true) then none
  else match (opL dep p [] 0).find? fun path=>(mayF rows p).any (askF rows path) with
   | none=>some (none,ks)
   | some path=>if ¬ (kOk path && ks.all (fun q=>kOk q && decide (keyA q≠keyA path)))=true then none else match headsF P rows (mayF rows p) path with
    | none=>none
    | some hs=>tryF (findF P rows dep n) p path hs (ks++[path])
theorem first_at {α:Type} {q:α→Bool} {l:List α} {k:Nat} {x:α} (h:l[k]?=some x) (hn:∀ y∈l.take k,q y=false) (hx:q x=true):l.find? q=some x:=by
 induction l generalizing k with
 | nil=>simp at h
 | cons a l ih =>
  cases k with
  | zero =>
   simp only [List.getElem?_cons_zero,Option.some.injEq] at h
   subst h
   simp [hx]
  | succ k =>
   simp only [List.getElem?_cons_succ] at h
   rw [List.find?_cons,hn a (by simp)]
   exact ih h fun y hy=>hn y (by simp [hy])
theorem mapT_keys:mapT Tryz.prog 117=none:=by kernel_rfl
theorem wide_keys:wideK Tryz.prog 173=true:=by kernel_rfl
theorem mapM_one:∀ l:List Int,(l.map intV).mapM oneV=some (l.map (Value.int .i64))
 | []=>rfl
 | a::l=>by
  simp only [List.map_cons,List.mapM_cons,mapM_one l];rfl
theorem ints_inj:∀ {a b:List Int},a.map (Value.int .i64)=b.map (Value.int .i64)→a=b
 | [],[],_=>rfl
 | [],_::_,h=>by simp at h
 | _::_,[],h=>by simp at h
 | x::a,y::b,h=>by
  simp only [List.map_cons,List.cons.injEq,Value.int.injEq,true_and] at h
  rw [h.1,ints_inj h.2]
theorem aMapNew_key {H:AHeap} {Kn:AV→AHeap→Prop} {km:Nat} {ks:Ks} {path:List Int} (hg:H.get km=some (.amap (kEs ks) ks.length)) (hfr:(kOk path && ks.all (fun q=>kOk q && decide (keyA q≠keyA path)))=true)
  (hK:Kn .undef (H.upd km (.amap (kEs (ks++[path])) (ks++[path]).length))):aMapNew Tryz.prog H Kn 117 km ((keyA path).map intV) (boolV true):=by
 unfold aMapNew
 rw [Tryz.underlying117,mapM_one]
 rw [Bool.and_eq_true] at hfr
 refine ⟨wide_keys,hfr.1,?_⟩
 rw [hg]
 refine ⟨fun e he=>?_,?_⟩
 ·obtain ⟨q,hq,rfl⟩:=List.mem_map.1 he
  have:=List.all_eq_true.1 hfr.2 q hq
  simp only [Bool.and_eq_true,decide_eq_true_eq] at this
  refine ⟨this.1,fun hc=>this.2 (ints_inj ?_)⟩
  simp only [Value.agg.injEq] at hc
  exact congrArg Array.toList hc
 ·have e:kEs (ks++[path])=kEs ks++[(.agg ((keyA path).map (Value.int .i64)).toArray,boolV true)]:=by simp [kEs]
  rw [e,List.length_append,List.length_singleton] at hK
  exact hK
theorem heads_ex {P:List Ent} {rows:List (List Nd)} {M:List Int} {path:List Int} {hs:List Nd} (h:headsF P rows M path=some hs) :
  ∃ i may s n kd e,M=i::may∧atN (rowAt rows i) path=.mk 3 s n kd∧entF P s=some e∧hs=e.2.1.cons.map headC∧e.2.1.cons.length < 1000∧∀ c∈e.2.1.cons,c.args.length < 1000:=by
 unfold headsF at h
 split at h
 ·cases h
 rename_i i may
 split at h
 rename_i o s n kd hat
 split at h
 ·cases h
 rename_i ho
 split at h
 ·cases h
 rename_i e he
 split at h
 ·rename_i hb
  simp only [Option.some.injEq] at h
  refine ⟨i,may,s,n,kd,e,rfl,?_,he,h.symm,hb.1,hb.2⟩
  rw [hat,show o=3 by simpa using ho]
 ·cases h
theorem tab_HL {H:AHeap} {tp a mb:Nat} {P:List Ent} (hcl:H.Closed) (h:TabAt H tp a mb P) (bs:List ABlock):TabAt (HL H bs) tp a mb P :=
 ⟨by rw [get_lt (hcl _ _ h.1).1];exact h.1,by rw [get_lt (hcl _ _ h.2).1];exact h.2,by rw [get_lt (hcl _ _ h.3).1];exact h.3⟩
theorem tab_kH {H:AHeap} {tp a mb km:Nat} {P:List Ent} (h:TabAt H tp a mb P) (h1:tp≠km) (h2:a≠km) (h3:mb≠km) (m:Ks):TabAt (kH H km m) tp a mb P :=
 ⟨by rw [kH_ne _ _ h1];exact h.1,by rw [kH_ne _ _ h2];exact h.2,by rw [kH_ne _ _ h3];exact h.3⟩
set_option maxHeartbeats 4000000 in
theorem find_c {P:List Ent} {rows:List (List Nd)} {dep:Int} (hdep:dep≤1000) (hrl:rows.length < 1000000) (hrs:∀ r∈rows,r.length < 1000∧∀ t∈r,t.Sh 1000) {g tp a mb km:Nat} (hgk:g≠km) (htpk:tp≠km) (hak:a≠km) (hbk:mb≠km) :
  ∀ (n:Nat) (p:List Nd) (ks:Ks) (res:Option (List Nd) × Ks),findF P rows dep n p ks=some res→∀ H:AHeap,TabAt H tp a mb P→H.get g=some (.cells [.ref tp 0,.slice (rows.map rowR) none,intV dep,.map km])→H.get km=some (.amap (kEs ks) ks.length) →
  ACalls Tryz.prog 66 [.ref g 0,.slice (p.map Nd.cells) none] H (.tuple [.slice ((res.1.getD []).map Nd.cells) none,boolV res.1.isSome]) (kH H km res.2):=by
 intro n
 induction n with
 | zero=>intro p ks res h;simp [findF] at h
 | succ n ih =>
 intro p ks res h H hT hg hkm
 rw [findF] at h
 by_cases hsz:p.length < 1000∧shL 1000 p=true∧rows.all (fun r=>decide (r.length≤p.length))=true
 rotate_left
 ·rw [if_pos hsz] at h;cases h
 rw [if_neg (by simpa using hsz)] at h
 obtain ⟨hpl,hps,hpr⟩:=hsz
 have hpr':∀ r∈rows,r.length≤p.length:=fun r hr=>of_decide_eq_true (List.all_eq_true.1 hpr r hr)
 have hps':=shL_sh hps
 have hT0:=hT
 obtain ⟨t1,t2,t3⟩:=hT0
 refine acalls_walk (fun d=>if d=6 then .nilv 1 else if d=30 then .lit else .imm) [0,1,2,3,4,5,6,7,8,10,12,13,14,18,19,20,21,27,35,39,42,43,44,45,51,61,62,63,64,76] Tryz.mixed Tryz.func66 rfl rfl rfl (by decide) (fun hcl hlow=>?_)
 have hkl:km < H.next:=(hcl _ _ hkm).1
 have hgl:∀ m,g < nid H.next m:=fun m=>by have:=(hcl _ _ hg).1;unfold nid;omega
 have gg:∀ bs,(HL H bs).get g=some (.cells [.ref tp 0,.slice (rows.map rowR) none,intV dep,.map km]):=fun bs=>by rw [get_lt (hcl _ _ hg).1];exact hg
 repeat with_reducible refine awp_assoc ?_
 refine awp_sr fun K hK=>?_
 simp
 refine hK _ _ ?_
 clear hK K
 repeat with_reducible refine awp_assoc ?_
 refine awp_sr fun K hK=>?_
 simp
 refine hK _ _ ?_
 clear hK K
 repeat with_reducible refine awp_assoc ?_
 refine awp_sr fun K hK=>?_
 simp [gg]
 refine hK _ _ ?_
 clear hK K
 have hmk:(rows.map rowR).length=rows.length:=List.length_map ..
 generalize hM:mayF rows p=M at *
 repeat with_reducible refine awp_assoc ?_
 refine awp_seq_k fun K hK=>?_
 refine awp_block ?_
 refine awp_up rows.length (fun k=>Env.ofL [(20,intV k),(19,intV (rows.length:Int)),(18,.slice (rows.map rowR) none),(6,.slice ((mayK rows p k).map intR) (some (nid H.next 2))),(3,.ref (nid H.next 1) 0),(2,.ref (nid H.next 0) 0)]) (fun k=>HL H [.cells [.ref g 0],.cells [.slice (p.map Nd.cells) none],.tok (mayK rows p k).length 1 none]) (fun _=>True) (weak_HL hcl rfl (by simp [mayK,hgl]) (by simp [mayK,hgl])) (trivial) (fun k hk hvk=>?_) (fun hvk=>?_)
 rotate_left
 ·have hMM:mayK rows p rows.length=M:=hM
  rw [hMM]
  have hMm:∀ i∈M,∃ j r,i=((j:Nat):Int)∧rows[j]?=some r∧rowAt rows i=r:=fun i hi=>mayK_mem (Nat.le_refl _) (by rw [hMM];exact hi)
  have hMl:M.length≤rows.length:=by rw [←hMM];exact mayK_len _ _ _
  clear hMM hM
  repeat with_reducible refine awp_assoc ?_
  refine awp_sr fun K hK=>?_
  simp
  refine hK _ _ ?_
  clear hK K
  repeat with_reducible refine awp_assoc ?_
  refine awp_seq_k fun K hK=>?_
  refine awp_condF rfl (by simp) ?_
  refine awp_exit ?_
  simp
  clear hK K
  refine hK _ _ ?_
  clear hK K
  by_cases hM0:M=[]
  ·rw [if_pos hM0] at h
   simp only [Option.some.injEq] at h
   subst h
   rw [kH_self hkm]
   have hM1:M.length=0:=by rw [hM0];rfl
   repeat with_reducible refine awp_assoc ?_
   refine awp_sr fun K hK=>?_
   simp [hM1]
   refine hK _ _ ?_
   clear hK K
   repeat with_reducible refine awp_assoc ?_
   refine awp_seq_k fun K hK=>?_
   refine awp_condT rfl (by simp) ?_
   repeat with_reducible refine awp_assoc ?_
   refine awp_sr fun K hK=>?_
   simp
   refine hK _ _ ?_
   clear hK K
   simp [reset_all hcl]
  rw [if_neg hM0] at h
  have hM1:¬ M.length=0:=fun e=>hM0 (List.length_eq_zero_iff.1 e)
  repeat with_reducible refine awp_assoc ?_
  refine awp_sr fun K hK=>?_
  simp [hM0]
  refine hK _ _ ?_
  clear hK K
  repeat with_reducible refine awp_assoc ?_
  refine awp_seq_k fun K hK=>?_
  refine awp_condF rfl (by simp) ?_
  refine awp_skip ?_
  refine hK _ _ ?_
  clear hK K
  by_cases hck:M.all (fun i=>cvkL (rowAt rows i) p)=true
  rotate_left
  ·rw [if_pos hck] at h;cases h
  rw [if_neg (by simpa using hck)] at h
  have hcov:=hasI_c M (by omega) 130 [.ref (nid H.next 0) 0,.ref (nid H.next 1) 0] (fun i=>covL (rowAt rows i) p) (HL H [.cells [.ref g 0],.cells [.slice (p.map Nd.cells) none],.tok M.length 1 none]) (fun x hx=>by
   obtain ⟨j,r,rfl,hj,hrow⟩:=hMm x hx
   have hc2:=List.all_eq_true.1 hck _ hx
   rw [hrow] at hc2 ⊢
   have hrk:=hrs r (List.mem_of_getElem? hj)
   exact fcov_c (b:=1000) (by omega) hj hrk.1 hrk.2 hc2 (by simp) (by simp) (gg _))
  repeat with_reducible refine awp_assoc ?_
  refine awp_sr fun K hK=>?_
  refine aOps_split 2 fun K hK=>?_
  simp
  refine hK _ _ ?_
  clear hK K
  refine aOps_callW hcov (by first | rfl | simp) rfl rfl ⟨Wk.tok _ _,.refl _,trivial⟩ ?_
  simp
  refine hK _ _ ?_
  clear hK K
  generalize M.any (fun i=>covL (rowAt rows i) p)=cv at *
  cases cv with
  | true =>
   simp only [if_true,Option.some.injEq] at h
   subst h
   rw [kH_self hkm]
   repeat with_reducible refine awp_assoc ?_
   refine awp_seq_k fun K hK=>?_
   refine awp_condT rfl (by simp) ?_
   repeat with_reducible refine awp_assoc ?_
   refine awp_sr fun K hK=>?_
   simp
   refine hK _ _ ?_
   clear hK K
   simp [reset_all hcl]
   exact Wk.tuple ⟨Wk.nilSlice,.refl _,trivial⟩
  | false =>
  simp only [Bool.false_eq_true,if_false] at h
  repeat with_reducible refine awp_assoc ?_
  refine awp_seq_k fun K hK=>?_
  refine awp_condF rfl (by simp) ?_
  refine awp_skip ?_
  refine hK _ _ ?_
  clear hK K
  by_cases hop:(opL dep p [] 0).length < 1000000000∧(opL dep p [] 0).all (pOk rows M)=true
  rotate_left
  ·rw [if_pos hop] at h;cases h
  rw [if_neg (by simpa using hop)] at h
  obtain ⟨hop1,hop2⟩:=hop
  have hopn:=fun H hH=>opens_c (b:=1000) (by omega) dep hdep (g:=g) (tp:=.ref tp 0) (km:=.map km) (rows:=rows.map rowR) (.mk 0 ⟨#[]⟩ 0 p) (.mk hpl hps') [] (by simp) hop1 H hH
  simp only [Nd.kids,List.map_nil] at hopn
  generalize opL dep p [] 0=OP at *
  repeat with_reducible refine awp_assoc ?_
  refine awp_sr fun K hK=>?_
  refine aOps_split 2 fun K hK=>?_
  simp
  refine hK _ _ ?_
  clear hK K
  refine aOps_callW (hopn _ (gg _)) (by first | rfl | simp) rfl rfl ⟨.refl _,.refl _,Wk.nilSlice,trivial⟩ ?_
  simp
  refine hK _ _ ?_
  clear hK K
  clear hcov hopn
  have hMw:Wk (.slice (M.map intR) (some (nid H.next 2))) (.slice (M.map intR) none):=Wk.tok _ _
  repeat with_reducible refine awp_assoc ?_
  refine awp_seq_k fun K hK=>?_
  refine awp_block ?_
  refine awp_up OP.length (fun k=>Env.ofL [(44,intV k),(43,intV (OP.length:Int)),(42,.slice (OP.map pthR) none),(6,.slice (M.map intR) none),(3,.ref (nid H.next 1) 0),(2,.ref (nid H.next 0) 0)]) (fun k=>HL H [.cells [.ref g 0],.cells [.slice (p.map Nd.cells) none]]) (fun k=>∀ y∈OP.take k,M.any (askF rows y)=false) (weak_HL hcl rfl (by simp [hgl,hMw]) (by simp [hgl,hMw])) (by simp) (fun k hk hvk=>?_) (fun hvk=>?_)
  rotate_left
  ·rw [List.take_length] at hvk
   have hfn:(OP.find? fun path=>M.any (askF rows path))=none:=by
    rw [List.find?_eq_none]
    intro y hy
    rw [hvk y hy];simp
   rw [hfn] at h
   simp only [Option.some.injEq] at h
   subst h
   rw [kH_self hkm]
   repeat with_reducible refine awp_assoc ?_
   refine awp_sr fun K hK=>?_
   simp
   refine hK _ _ ?_
   clear hK K
   repeat with_reducible refine awp_assoc ?_
   refine awp_seq_k fun K hK=>?_
   refine awp_condF rfl (by simp) ?_
   refine awp_exit ?_
   simp
   clear hK K
   refine hK _ _ ?_
   clear hK K
   repeat with_reducible refine awp_assoc ?_
   refine awp_sr fun K hK=>?_
   simp
   refine hK _ _ ?_
   clear hK K
   simp
   rw [kH_self hkm]
   exact ⟨Wk.tuple ⟨Wk.nilSlice,.refl _,trivial⟩,reset_all hcl⟩
  obtain ⟨path,hpath⟩:∃ path,OP[k]?=some path:=⟨_,List.getElem?_eq_getElem hk⟩
  have hpk:=List.all_eq_true.1 hop2 path (List.mem_of_getElem? hpath)
  have hfa:=first_at (q:=fun path=>M.any (askF rows path)) hpath hvk
  have htk:=take_all (p:=fun y=>M.any (askF rows y)=false) hpath
  have hpath':(OP.map pthR)[k]?=some [.slice (path.map intR) none]:=by simp [hpath,pthR]
  cases path with
  | nil=>simp [pOk] at hpk
  | cons k0 l =>
  simp only [pOk,Bool.and_eq_true] at hpk
  obtain ⟨⟨hpk1,hpk2⟩,hpk3⟩:=hpk
  have hpk1:=of_decide_eq_true hpk1
  have hpos:∀ i∈k0::l,0≤i:=fun i hi=>of_decide_eq_true (List.all_eq_true.1 hpk2 i hi)
  have hask:=hasI_c M (by omega) 133 [.ref (nid H.next 0) 0,.ref (nid H.next 2) 0] (askF rows (k0::l)) (HL H [.cells [.ref g 0],.cells [.slice (p.map Nd.cells) none],.cells [.slice ((k0::l).map intR) none]]) (fun x hx=>by
   obtain ⟨j,r,rfl,hj,hrow⟩:=hMm x hx
   have hc2:=List.all_eq_true.1 hpk3 _ hx
   have hrk:=hrs r (List.mem_of_getElem? hj)
   unfold askF
   rw [hrow] at hc2 ⊢
   have hc3:=of_decide_eq_true hc2
   obtain ⟨p0,hp0⟩:∃ p0,r[k0.toNat]?=some p0:=⟨_,List.getElem?_eq_getElem hc3⟩
   exact fask_c (b:=1000) (by omega) hj (hpos k0 (by simp)) hp0 (hrk.2 p0 (List.mem_of_getElem? hp0)) (by omega) (fun i hi=>hpos i (by simp [hi])) (by simp) (by simp) (gg _))
  have hkey:=fun H=>key_c k0 l hpk1 H
  have hlw:∀ m,lowR m ((k0::l).map intR):=fun m=>low_ints m _
  have hPT:∃ PT,(k0::l).map intR=PT:=⟨_,rfl⟩
  obtain ⟨PT,hPT⟩:=hPT
  rw [hPT] at hask hpath' hlw
  simp only [hPT] at hkey
  repeat with_reducible refine awp_assoc ?_
  refine awp_sr fun K hK=>?_
  simp [hk]
  refine hK _ _ ?_
  clear hK K
  repeat with_reducible refine awp_assoc ?_
  refine awp_seq_k fun K hK=>?_
  refine awp_condT rfl (by simp) ?_
  refine awp_skip ?_
  refine hK _ _ ?_
  clear hK K
  refine awp_seq_k fun KB hKB=>?_
  refine awp_block ?_
  repeat with_reducible refine awp_assoc ?_
  refine awp_sr fun K hK=>?_
  simp [hpath']
  refine hK _ _ ?_
  clear hK K
  repeat with_reducible refine awp_assoc ?_
  refine awp_sr fun K hK=>?_
  refine aOps_split 2 fun K hK=>?_
  simp
  refine hK _ _ ?_
  clear hK K
  refine aOps_call (hask) (by first | rfl | simp) rfl rfl (by first | (simp;done) | rfl) ?_
  simp
  refine hK _ _ ?_
  clear hK K
  cases has:M.any (askF rows (k0::l)) with
  | false =>
   refine awp_seq_k fun KC hKC=>?_
   refine awp_condT rfl (by simp) ?_
   refine awp_exit ?_
   simp
   refine hKB _ _ ?_
   clear hKB
   refine awp_region ?_
   simp [wrap_succ (show k < 4611686018427387904 by omega)]
   refine ⟨by simpa using htk has hvk,weak_HL hcl rfl (by simp [hgl]) (by simp [hgl])⟩
  | true =>
  rw [hfa has] at h
  simp only at h
  by_cases hfr:(kOk (k0::l) && ks.all (fun q=>kOk q && decide (keyA q≠keyA (k0::l))))=true
  rotate_left
  ·rw [if_pos hfr] at h;cases h
  rw [if_neg (by simpa using hfr)] at h
  cases hhd:headsF P rows M (k0::l) with
  | none=>rw [hhd] at h;cases h
  | some hs =>
  rw [hhd] at h
  simp only at h
  repeat with_reducible refine awp_assoc ?_
  refine awp_seq_k fun K hK=>?_
  refine awp_condF rfl (by simp) ?_
  refine awp_skip ?_
  refine hK _ _ ?_
  clear hK K
  repeat with_reducible refine awp_assoc ?_
  refine awp_sdc [6] [[],[],[],[],[0,1,2,3],[0,1,2,3],[]] (by kernel_rfl) (by rfl) fun K hK=>?_
  refine aCalm_pre 5 (by rfl) fun K hK=>?_
  simp [gg]
  refine hK _ _ ?_
  clear hK K
  refine aCalm_call0 (hkey _) (by first | rfl | simp) rfl rfl rfl (by first | (simp;done) | rfl) ?_
  refine aCalm_pre 1 (by rfl) fun K hK=>?_
  simp [aMapUpdate,mapT_keys]
  refine aMapNew_key (ks:=ks) (by rw [get_lt hkl];exact hkm) hfr ?_
  simp
  have um0:∀ bs,(HL H bs).upd km (.amap (kEs (ks++[k0::l])) (ks.length+1))=HL (kH H km (ks++[k0::l])) bs:=fun bs=>by
   rw [←kH_HL _ _ hkl]
   unfold kH
   rw [List.length_append,List.length_singleton]
  rw [um0]
  clear um0
  generalize ks++[k0::l]=K1 at *
  refine hK _ _ ?_
  clear hK K
  refine aCalm_end ?_
  simp
  refine hK _ _ ?_
  clear hK K
  obtain ⟨i,may,s,nn,kd,e,rfl,hat,hent,rfl,hxl,hxa⟩:=heads_ex hhd
  obtain ⟨j,r,rfl,hj,hrow⟩:=hMm i (by simp)
  have hrk:=hrs r (List.mem_of_getElem? hj)
  have hpk4:=of_decide_eq_true (List.all_eq_true.1 hpk3 (j:Int) (by simp))
  rw [hrow] at hpk4 hat
  obtain ⟨p0,hp0⟩:∃ p0,r[k0.toNat]?=some p0:=⟨_,List.getElem?_eq_getElem hpk4⟩
  obtain ⟨nm,x,jj⟩:=e
  have gk:∀ m bs,(HL (kH H km m) bs).get g=some (.cells [.ref tp 0,.slice (rows.map rowR) none,intV dep,.map km]):=fun m bs=>by rw [get_lt (by exact (hcl _ _ hg).1),kH_ne _ _ hgk];exact hg
  have hclm:=fun m=>kH_closed m hcl hkl
  have htm:=fun m bs=>tab_HL (hclm m) (tab_kH hT htpk hak hbk m) bs
  have hhc:=fun m bs=>heads_c (b:=1000) (by omega) (may:=may) (by simp only [List.length_cons] at hMl;omega) hj (hpos k0 (by simp)) hp0 (hrk.2 p0 (List.mem_of_getElem? hp0)) (by omega) (fun i hi=>hpos i (by simp [hi])) hat hent (by simp only at hxl;omega) (fun c hc=>by have:=hxa c hc;omega) (htm m bs) (gk m bs)
  rw [hPT] at hhc
  generalize hHS:x.cons.map headC=HS at *
  repeat with_reducible refine awp_assoc ?_
  refine awp_sr fun K hK=>?_
  refine aOps_split 3 fun K hK=>?_
  simp [gk]
  refine hK _ _ ?_
  clear hK K
  refine aOps_call (hhc _ _) (by first | rfl | simp) rfl rfl (by first | (simp;done) | rfl) ?_
  simp
  refine hK _ _ ?_
  clear hK K
  have hHSl:HS.length < 1000:=by rw [←hHS,List.length_map];exact hxl
  clear hhc hat hent hxl hxa hfr hhd
  obtain ⟨st,hst⟩:∃ st,st=stF (findF P rows dep n) p (k0::l) HS K1:=⟨_,rfl⟩
  have hst0:st 0=K1:=by rw [hst];rfl
  have hst1:∀ i hd q ks',HS[i]?=some hd→putF p (k0::l) hd=some q→findF P rows dep n q (st i)=some (none,ks')→st (i+1)=ks':=fun i hd q ks' h1 h2 h3=>by
   rw [hst] at h3 ⊢
   simp only [stF,h1,h2,h3]
  clear hst
  refine awp_hide fun Q1 hQ1=>?_
  refine awp_seq_k fun KL hKL=>?_
  refine awp_block ?_
  refine awp_up HS.length (fun i=>Env.ofL [(63,intV i),(62,intV (HS.length:Int)),(61,.slice (HS.map Nd.cells) none),(10,.ref (nid H.next 2) 0),(3,.ref (nid H.next 1) 0),(2,.ref (nid H.next 0) 0)]) (fun i=>HL (kH H km (st i)) [.cells [.ref g 0],.cells [.slice (p.map Nd.cells) none],.cells [.slice PT none]]) (fun i=>tryF (findF P rows dep n) p (k0::l) (HS.drop i) (st i)=some res) (by rw [hst0];exact weak_HL (hclm _) rfl (by simp [hgl,hlw]) (by simp [hgl,hlw])) (by rw [hst0];exact h) (fun i hi hvi=>?_) (fun hvi=>?_)
  rotate_left
  ·rw [List.drop_length,tryF] at hvi
   simp only [Option.some.injEq] at hvi
   repeat with_reducible refine awp_assoc ?_
   refine awp_sr fun K hK=>?_
   simp
   refine hK _ _ ?_
   clear hK K
   repeat with_reducible refine awp_assoc ?_
   refine awp_seq_k fun K hK=>?_
   refine awp_condF rfl (by simp) ?_
   refine awp_exit ?_
   simp
   refine hKL _ _ ?_
   clear hKL
   repeat with_reducible refine awp_assoc ?_
   refine awp_sr fun K hK=>?_
   simp
   refine hK _ _ ?_
   clear hK K
   refine awp_ret ?_
   refine hQ1 _ _ _ ?_
   rw [←hvi]
   simp
   exact ⟨Wk.tuple ⟨Wk.nilSlice,.refl _,trivial⟩,reset_all (hclm _)⟩
  obtain ⟨hd,hhd⟩:∃ hd,HS[i]?=some hd:=⟨_,List.getElem?_eq_getElem hi⟩
  have hdr:HS.drop i=hd::HS.drop (i+1):=by
   rw [List.drop_eq_getElem_cons hi]
   congr 1
   have:=List.getElem?_eq_getElem hi
   rw [this] at hhd;simpa using hhd
  rw [hdr,tryF] at hvi
  cases hq:putF p (k0::l) hd with
  | none=>rw [hq] at hvi;cases hvi
  | some q =>
  rw [hq] at hvi
  simp only at hvi
  cases hfq:findF P rows dep n q (st i) with
  | none=>rw [hfq] at hvi;cases hvi
  | some res2 =>
  rw [hfq] at hvi
  obtain ⟨r2,ks2⟩:=res2
  have hst2:=hst1 i hd q ks2 hhd hq
  have hpc:=fun H=>put_c (b:=1000) (by omega) hd (k0::l) p q hq hpl hps' (by simp only [List.length_cons];omega) H
  have hfc:=fun bs=>ih q (st i) (r2,ks2) hfq (HL (kH H km (st i)) bs) (htm _ bs) (gk _ bs) (by rw [get_lt (by exact hkl)];exact kH_get _ _ _)
  simp only [kH_HL (H:=kH H km (st i)) ks2 _ (by exact hkl),kH_kH] at hfc
  rw [hPT] at hpc
  generalize st i=si at *
  obtain ⟨ho,hs,hn,hl⟩:=hd
  have hhd':(HS.map Nd.cells)[i]?=some [intV ho,strV hs,intV hn,.slice (hl.map Nd.cells) none]:=by simp [hhd,Nd.cells]
  simp only [Nd.enc_mk] at hpc
  have hiI:(i:Int) < (HS.length:Int):=by omega
  repeat with_reducible refine awp_assoc ?_
  refine awp_sr fun K hK=>?_
  simp [hiI]
  refine hK _ _ ?_
  clear hK K
  repeat with_reducible refine awp_assoc ?_
  refine awp_seq_k fun K hK=>?_
  refine awp_condT rfl (by simp [hiI]) ?_
  refine awp_skip ?_
  refine hK _ _ ?_
  clear hK K
  refine awp_seq_k fun KD hKD=>?_
  refine awp_block ?_
  repeat with_reducible refine awp_assoc ?_
  refine awp_sr fun K hK=>?_
  simp [hhd']
  refine hK _ _ ?_
  clear hK K
  repeat with_reducible refine awp_assoc ?_
  refine awp_sdc [5] [[],[0],[0,1],[0,1,2],[0],[],[],[1,2,3],[1,2,3,7],[8],[]] (by kernel_rfl) (by rfl) fun K hK=>?_
  refine aCalm_pre 4 (by rfl) fun K hK=>?_
  simp
  refine hK _ _ ?_
  clear hK K
  refine aCalm_call0 (hpc _) (by first | rfl | simp) rfl rfl rfl (by first | (simp;done) | rfl) ?_
  refine aCalm_calle (hfc _) (by first | rfl | simp) rfl rfl rfl (by first | (simp;done) | rfl) ?_
  refine aCalm_pre 5 (by rfl) fun K hK=>?_
  simp
  refine hK _ _ ?_
  clear hK K
  refine aCalm_end ?_
  simp
  refine hK _ _ ?_
  clear hK K
  cases r2 with
  | some r =>
   simp only [Option.some.injEq] at hvi
   repeat with_reducible refine awp_assoc ?_
   refine awp_sr fun K hK=>?_
   simp
   refine hK _ _ ?_
   clear hK K
   refine awp_condT rfl (by simp) ?_
   repeat with_reducible refine awp_assoc ?_
   refine awp_sr fun K hK=>?_
   simp
   refine hK _ _ ?_
   clear hK K
   refine awp_ret ?_
   refine hQ1 _ _ _ ?_
   rw [←hvi]
   simp
   exact reset_all (hclm _)
  | none =>
   simp only at hvi
   have hst3:=hst2 hfq
   repeat with_reducible refine awp_assoc ?_
   refine awp_sr fun K hK=>?_
   simp
   refine hK _ _ ?_
   clear hK K
   refine awp_condF rfl (by simp) ?_
   refine awp_skip ?_
   refine hKD _ _ ?_
   clear hKD
   refine awp_region ?_
   simp [wrap_succ (show i < 4611686018427387904 by omega)]
   rw [hst3]
   exact ⟨hvi,weak_HL (hclm _) rfl (by simp [hgl,hlw]) (by simp [hgl,hlw])⟩
 obtain ⟨r,hr⟩:∃ r,rows[k]?=some r:=⟨_,List.getElem?_eq_getElem hk⟩
 have hrk:=hrs r (List.mem_of_getElem? hr)
 have hmc:=meetAll_c (b:=1000) (by omega) r hrk.1 hrk.2 p (hpr' r (List.mem_of_getElem? hr))
 have hmk1:mayK rows p (k+1)=mayK rows p k++if meetL r p=true then [(k:Int)] else []:=by rw [mayK];simp [List.getD,hr]
 have hmkl:=mayK_len rows p k
 have hr':(rows.map rowR)[k]?=some [.slice (r.map Nd.cells) none]:=by simp [hr,rowR]
 generalize mayK rows p k=MK at *
 generalize mayK rows p (k+1)=MK2 at *
 repeat with_reducible refine awp_assoc ?_
 refine awp_sr fun K hK=>?_
 simp [hk]
 refine hK _ _ ?_
 clear hK K
 repeat with_reducible refine awp_assoc ?_
 refine awp_seq_k fun K hK=>?_
 refine awp_condT rfl (by simp) ?_
 refine awp_skip ?_
 refine hK _ _ ?_
 clear hK K
 refine awp_seq_k fun KB hKB=>?_
 refine awp_block ?_
 repeat with_reducible refine awp_assoc ?_
 refine awp_sr fun K hK=>?_
 simp [hr']
 refine hK _ _ ?_
 clear hK K
 repeat with_reducible refine awp_assoc ?_
 refine awp_sr fun K hK=>?_
 refine aOps_split 2 fun K hK=>?_
 simp
 refine hK _ _ ?_
 clear hK K
 refine aOps_call (hmc _) (by first | rfl | simp) rfl rfl (by first | (simp;done) | rfl) ?_
 simp
 refine hK _ _ ?_
 clear hK K
 cases hme:meetL r p with
 | false =>
  rw [hme] at hmk1
  simp only [Bool.false_eq_true,if_false,List.append_nil] at hmk1
  refine awp_condF rfl (by simp) ?_
  refine awp_skip ?_
  subst hmk1
  refine hKB _ _ ?_
  clear hKB
  refine awp_region ?_
  simp [wrap_succ (show k < 4611686018427387904 by omega)]
  exact weak_HL hcl rfl (by simp [hgl]) (by simp [hgl])
 | true =>
  rw [hme] at hmk1
  simp only [if_true] at hmk1
  refine awp_condT rfl (by simp) ?_
  refine awp_region ?_
  simp
  refine ⟨by omega,?_⟩
  subst hmk1
  refine hKB _ _ ?_
  clear hKB
  refine awp_region ?_
  simp [wrap_succ (show k < 4611686018427387904 by omega)]
  exact weak_HL hcl rfl (by simp [hgl]) (by simp [hgl])
attribute [local simp] ConD.cells Dat.cells PredD.cells SigD.cells ClsD.cells InstD.cells DeclsD.cells DeclsD.enc Dat.enc low_datL low_conL low_predL low_sigL low_clsL low_instL
def zeroZ:List AV:=[intV 0,strV ByteArray.empty,intV 0,.v (.slice none 0 0)]
def anyZ:List AV:=[intV 1,strV ByteArray.empty,intV 0,.v (.slice none 0 0)]
def zsK (n k:Nat):List (List AV):=List.replicate k anyZ++List.replicate (n - k) zeroZ
theorem zsK_len {n k:Nat} (h:k≤n):(zsK n k).length=n:=by simp [zsK];omega
theorem zsK_at {n k:Nat} (h:k < n):(zsK n k)[k]?=some zeroZ:=by
 unfold zsK
 rw [List.getElem?_append_right (by simp)]
 have e:n - k=(n - (k+1))+1:=by omega
 simp [e,List.replicate_succ]
theorem zsK_set {n k:Nat} (h:k < n):(zsK n k).set k anyZ=zsK n (k+1):=by
 unfold zsK
 have e:n - k=(n - (k+1))+1:=by omega
 rw [List.set_append_right _ _ (by simp),e]
 simp only [List.length_replicate,Nat.sub_self,List.replicate_succ,List.set_cons_zero]
 rw [←List.replicate_succ,List.replicate_succ']
 simp
theorem zsK_row {n k:Nat}:∀ r∈zsK n k,r.length=4∧r.all (·.one)=true:=by
 intro r hr
 simp only [zsK,List.mem_append,List.mem_replicate] at hr
 rcases hr with ⟨_,rfl⟩ | ⟨_,rfl⟩ <;> exact ⟨rfl,rfl⟩
theorem low_zs (m n k:Nat):lowR m (zsK n k):=by
 have h:∀ l:List (List AV),(∀ r∈l,r=anyZ∨r=zeroZ)→lowR m l:=fun l=>by
  induction l with
  | nil=>intro _;trivial
  | cons r l ih =>
   intro h
   refine ⟨?_,ih fun x hx=>h x (by simp [hx])⟩
   rcases h r (by simp) with rfl | rfl <;> exact ⟨trivial,trivial,trivial,trivial,trivial⟩
 refine h _ fun r hr=>?_
 simp only [zsK,List.mem_append,List.mem_replicate] at hr
 rcases hr with ⟨_,rfl⟩ | ⟨_,rfl⟩
 ·exact .inl rfl
 ·exact .inr rfl
theorem wk_zs (n:Nat):WkR (zsK n n) ((List.replicate n anyN).map Nd.cells):=by
 have e:zsK n n=List.replicate n anyZ:=by simp [zsK]
 rw [e]
 induction n with
 | zero=>trivial
 | succ n ih =>
  simp only [List.replicate_succ,List.map_cons]
  exact ⟨⟨.refl _,.refl _,.refl _,Wk.nilSlice,trivial⟩,ih (by simp [zsK])⟩
set_option maxHeartbeats 2000000 in
theorem missing_c (d:DeclsD) {rows:List (List Nd)} {r0:List Nd} (hr0:rows[0]?=some r0) (hrl:rows.length < 1000000) (hrs:∀ r∈rows,r.length < 1000∧∀ t∈r,t.Sh 1000) {depth:Int} (h1:1≤depth) (h6:depth≤6)
  (hval:∀ H,ACalls Tryz.prog 18 [d.enc,.slice (rows.map rowR) none] H (intV 0) H)
  (hdl:d.datas.length < 1000000000000) (hcn:∀ x∈baseD++d.datas,x.cons.length < 4611686018427387904) (hnd:((entsL (baseD++d.datas)).map (·.1)).Nodup)
  {n:Nat} {res:Option (List Nd) × Ks} (hf:findF (entsL (baseD++d.datas)) rows depth n (List.replicate r0.length anyN) []=some res) (H:AHeap) :
  ACalls Tryz.prog 33 [d.enc,.slice (rows.map rowR) none,intV depth] H (.tuple [.slice ((res.1.getD []).map Nd.cells) none,boolV res.1.isSome,intV 0]) H:=by
 have hnt:=newTypes_c d hdl hcn hnd
 have hr0l:=(hrs r0 (List.mem_of_getElem? hr0)).1
 have hr':(rows.map rowR)[0]?=some [.slice (r0.map Nd.cells) none]:=by simp [hr0,rowR]
 generalize entsL (baseD++d.datas)=P at *
 simp only [DeclsD.enc,DeclsD.cells] at *
 refine acalls_walk (fun d=>if d=31 then .own else if d=51 then .frz else .imm) [0,1,2,3,6,7,8,9,10,11,12,13,14,19,26,33,34,35] Tryz.mixed Tryz.func33 rfl rfl rfl (by decide) (fun hcl hlow=>?_)
 repeat with_reducible refine awp_assoc ?_
 refine awp_sr fun K hK=>?_
 simp
 refine hK _ _ ?_
 clear hK K
 repeat with_reducible refine awp_assoc ?_
 refine awp_sr fun K hK=>?_
 refine aOps_split 2 fun K hK=>?_
 simp
 refine hK _ _ ?_
 clear hK K
 refine aOps_call (hval _) (by first | rfl | simp) rfl rfl (by first | (simp;done) | rfl) ?_
 simp
 refine hK _ _ ?_
 clear hK K
 repeat with_reducible refine awp_assoc ?_
 refine awp_sr fun K hK=>?_
 simp
 refine hK _ _ ?_
 clear hK K
 repeat with_reducible refine awp_assoc ?_
 refine awp_seq_k fun K hK=>?_
 refine awp_condF rfl (by simp) ?_
 refine awp_skip ?_
 refine hK _ _ ?_
 clear hK K
 have c1:¬ depth < 1:=by omega
 have c6:¬ 6 < depth:=by omega
 repeat with_reducible refine awp_assoc ?_
 refine awp_sr fun K hK=>?_
 simp [c1,c6]
 refine hK _ _ ?_
 clear hK K
 repeat with_reducible refine awp_assoc ?_
 refine awp_seq_k fun K hK=>?_
 refine awp_condF rfl (by simp) ?_
 refine awp_skip ?_
 refine hK _ _ ?_
 clear hK K
 have hsz:r0.length * 56≤70368744177664:=by omega
 have hsz2:(r0.length:Int) * 56≤70368744177664:=by omega
 repeat with_reducible refine awp_assoc ?_
 refine awp_sr fun K hK=>?_
 refine aOps_split 4 fun K hK=>?_
 simp [hr']
 refine hK _ _ ?_
 clear hK K
 refine aOps_split 1 fun K hK=>?_
 simp [aMakeSlice]
 refine ⟨by omega,by omega,hK _ _ ?_⟩
 clear hK K
 rw [show List.replicate r0.length [intV 0,strV ByteArray.empty,intV 0,.v (.slice none 0 0)]=zsK r0.length 0 by simp [zsK,zeroZ]]
 have hwk:=wk_zs r0.length
 generalize hn0:r0.length=n0 at *
 have hlz:=low_zs
 simp
 refine hK _ _ ?_
 clear hK K
 repeat with_reducible refine awp_assoc ?_
 refine awp_sr fun K hK=>?_
 simp
 refine hK _ _ ?_
 clear hK K
 repeat with_reducible refine awp_assoc ?_
 refine awp_seq_k fun K hK=>?_
 refine awp_block ?_
 refine awp_up n0 (fun k=>Env.ofL [(34,intV k),(33,intV (n0:Int)),(10,.vec (nid H.next 1) n0),(3,.ref (nid H.next 0) 0),(2,intV depth),(1,.slice (rows.map rowR) none)]) (fun k=>HL H [.cells [.slice (d.datas.map Dat.cells) none,.slice (d.classes.map ClsD.cells) none,.slice (d.insts.map InstD.cells) none],.tok n0 4 (some (zsK n0 k))]) (fun _=>True) (weak_HL hcl rfl (by simp [hlz,WkR.refl]) (by simp [hlz,WkR.refl])) (trivial) (fun k hk hvk=>?_) (fun hvk=>?_)
 ·have hzl:=zsK_len (Nat.le_of_lt hk)
  have hza:=zsK_at hk
  have hzs:=zsK_set hk
  have hzr:=fun r h=>zsK_row (n:=n0) (k:=k) r h
  generalize zsK n0 k=Z at *
  have hlz1':=fun m=>hlz m n0 (k+1)
  generalize zsK n0 (k+1)=Z2 at *
  repeat with_reducible refine awp_assoc ?_
  refine awp_sr fun K hK=>?_
  simp [hk]
  refine hK _ _ ?_
  clear hK K
  repeat with_reducible refine awp_assoc ?_
  refine awp_seq_k fun K hK=>?_
  refine awp_condT rfl (by simp) ?_
  refine awp_skip ?_
  refine hK _ _ ?_
  clear hK K
  refine awp_seq_k fun KB hKB=>?_
  refine awp_block ?_
  repeat with_reducible refine awp_assoc ?_
  refine awp_sr fun K hK=>?_
  simp
  refine hK _ _ ?_
  clear hK K
  refine awp_region ?_
  simp [hza,hk]
  refine ⟨fun r h=>(hzr r h).1,by decide,?_⟩
  rw [show intV 1::zeroZ.tail=anyZ from rfl,hzs]
  have hlz1:∀ m,lowR m Z2:=hlz1'
  refine hKB _ _ ?_
  clear hKB
  refine awp_region ?_
  simp [wrap_succ (show k < 4611686018427387904 by omega)]
  exact weak_HL hcl rfl (by simp [hlz1,WkR.refl]) (by simp [hlz1,WkR.refl])
 ·have hzl:=zsK_len (Nat.le_refl n0)
  have hzr:=fun r h=>zsK_row (n:=n0) (k:=n0) r h
  have hlz1:=fun m=>hlz m n0 n0
  generalize zsK n0 n0=Z at *
  have hnt2:=hnt (HL H [.cells [.slice (d.datas.map Dat.cells) none,.slice (d.classes.map ClsD.cells) none,.slice (d.insts.map InstD.cells) none],.tok n0 4 (some Z)])
  simp only [tyB,DeclsD.cells] at hnt2
  simp at hnt2
  clear hnt
  repeat with_reducible refine awp_assoc ?_
  refine awp_sr fun K hK=>?_
  simp
  refine hK _ _ ?_
  clear hK K
  repeat with_reducible refine awp_assoc ?_
  refine awp_seq_k fun K hK=>?_
  refine awp_condF rfl (by simp) ?_
  refine awp_exit ?_
  simp
  clear hK K
  refine hK _ _ ?_
  clear hK K
  repeat with_reducible refine awp_assoc ?_
  refine awp_sr fun K hK=>?_
  refine aOps_split 1 fun K hK=>?_
  simp
  refine hK _ _ ?_
  clear hK K
  refine aOps_call (hnt2) (by first | rfl | simp) rfl rfl (by first | (simp;done) | rfl) ?_
  refine aOps_split 5 fun K hK=>?_
  simp
  refine hK _ _ ?_
  clear hK K
  simp
  refine hK _ _ ?_
  clear hK K
  have hfc:=find_c (dep:=depth) (by omega) hrl hrs (g:=nid H.next 7) (tp:=nid H.next 5) (a:=nid H.next 3) (mb:=nid H.next 4) (km:=nid H.next 6) (by unfold nid;omega) (by unfold nid;omega) (by unfold nid;omega) (by unfold nid;omega) n _ [] res hf
   (HL H [.cells [.slice (d.datas.map Dat.cells) none,.slice (d.classes.map ClsD.cells) none,.slice (d.insts.map InstD.cells) none],.tok n0 4 none,.cells [.slice (d.datas.map Dat.cells) none,.slice (d.classes.map ClsD.cells) none,.slice (d.insts.map InstD.cells) none],.amap (tEs P) P.length,.amap (aEs P) P.length,.cells [.map (nid H.next 3),.map (nid H.next 4)],.amap [] 0,.cells [.ref (nid H.next 5) 0,.slice (rows.map rowR) none,intV depth,.map (nid H.next 6)]])
   ⟨by simp,by simp,by simp⟩ (by simp) (by simp [kEs])
  simp only [kH] at hfc
  simp at hfc
  have hww:Wk (.slice Z (some (nid H.next 1))) (.slice ((List.replicate n0 anyN).map Nd.cells) none):=Wk.slice hwk
  repeat with_reducible refine awp_assoc ?_
  refine awp_sr fun K hK=>?_
  refine aOps_split 1 fun K hK=>?_
  simp
  refine hK _ _ ?_
  clear hK K
  refine aOps_split 1 fun K hK=>?_
  simp
  refine ⟨hzl,fun r h=>⟨(hzr r h).1,fun x hx=>List.all_eq_true.1 (hzr r h).2 x hx⟩,hK _ _ ?_⟩
  clear hK K
  refine aOps_callW hfc (by first | rfl | simp) rfl rfl ⟨.refl _,by simpa using hww,trivial⟩ ?_
  simp
  refine hK _ _ ?_
  clear hK K
  repeat with_reducible refine awp_assoc ?_
  refine awp_sr fun K hK=>?_
  simp
  refine hK _ _ ?_
  clear hK K
  simp [reset_all hcl]
end Go.Proofs.YtdppfcbeiplckaaGreat
