/- Counting values: what the program computes, as a plain run. -/
import Derived.Test.YtlhoigpidpokfaaGreatMD9
import Derived.Laws.Cover4
import Derived.Test.YtlhoigpidpokfaaGreatME
set_option linter.unusedVariables false
set_option linter.unusedSimpArgs false
namespace Go.Proofs.YtlhoigpidpokfaaGreat
open Go Go.Abs Go.Proofs
attribute [local simp] low_take low_strs low_comp low_tcomp wkEs_refl'
def lpS:ByteArray:=⟨#[40]⟩
def rpS:ByteArray:=⟨#[41]⟩
mutual
def Ty.txt:Ty→ByteArray
 | .mk n l=>txtA (lpS++n) l++rpS
def txtA:ByteArray→List Ty→ByteArray
 | s,[]=>s
 | s,t::l=>txtA (s++t.txt) l
end
theorem txtA_append:∀ (l m:List Ty) (s:ByteArray),txtA s (l++m)=txtA (txtA s l) m
 | [],m,s=>by simp [txtA]
 | t::l,m,s=>by simp only [List.cons_append,txtA];exact txtA_append l m _
theorem txtA_take {l:List Ty} {k:Nat} {x:Ty} (s:ByteArray) (hx:l[k]?=some x):txtA s (l.take (k+1))=txtA s (l.take k)++x.txt:=by
 rw [List.take_add_one,hx,txtA_append]
 simp [txtA]
mutual
theorem txt_size:∀ t:Ty,t.txt.size+6≤t.wt
 | .mk n l=>by
  have:=txtA_size l (lpS++n)
  have h1:(lpS++n).size=1+n.size:=by rw [ByteArray.size_append];rfl
  have h2:rpS.size=1:=rfl
  simp only [Ty.txt,Ty.wt,ByteArray.size_append] at *
  omega
theorem txtA_size:∀ (l:List Ty) (s:ByteArray),(txtA s l).size≤s.size+wtL l
 | [],s=>by simp [txtA]
 | t::l,s=>by
  have h1:=txt_size t
  have h2:=txtA_size l (s++t.txt)
  simp only [txtA,wtL,ByteArray.size_append] at *
  omega
end
def idxN (l:List ByteArray) (n:ByteArray):Option Nat:=l.findIdx? fun s=>decide (s=n)
mutual
def Ty.putD (vs:List ByteArray) (ts:List Ty):Ty→Option Ty
 | .mk n l=>if dVarB (.mk n l)=true then (match idxN vs n with | some k=>ts[k]? | none=>some (.mk n [])) else (putDL vs ts l).map (Ty.mk n)
def putDL (vs:List ByteArray) (ts:List Ty):List Ty→Option (List Ty)
 | []=>some []
 | t::l=>match t.putD vs ts,putDL vs ts l with
  | some a,some b=>some (a::b)
  | _,_=>none
end
theorem putDL_len {vs:List ByteArray} {ts:List Ty}:∀ {l r:List Ty},putDL vs ts l=some r→r.length=l.length
 | [],r,h=>by simp only [putDL,Option.some.injEq] at h;rw [←h]
 | t::l,r,h=>by
  simp only [putDL] at h
  split at h
  ·rename_i a b h1 h2
   simp only [Option.some.injEq] at h
   rw [←h,List.length_cons,List.length_cons,putDL_len h2]
  ·cases h
theorem putDL_at {vs:List ByteArray} {ts:List Ty}:∀ {l r:List Ty} {k:Nat} {x:Ty},putDL vs ts l=some r→l[k]?=some x→∃ y,x.putD vs ts=some y∧r[k]?=some y
 | [],r,k,x,h,hx=>by cases hx
 | t::l,r,k,x,h,hx=>by
  simp only [putDL] at h
  split at h
  ·rename_i a b h1 h2
   simp only [Option.some.injEq] at h
   cases k with
   | zero =>
    simp only [List.getElem?_cons_zero,Option.some.injEq] at hx
    subst hx
    exact ⟨a,h1,by rw [←h];rfl⟩
   | succ k =>
    simp only [List.getElem?_cons_succ] at hx
    obtain ⟨y,hy1,hy2⟩:=putDL_at h2 hx
    exact ⟨y,hy1,by rw [←h];simpa using hy2⟩
  ·cases h
abbrev CM:=List (ByteArray × Nat)
def cmEs (m:CM):List (Value × AV):=m.map fun p=>(.string p.1,intV (p.2:Int))
def cmLook (m:CM) (k:ByteArray):Option Nat:=(m.find? fun p=>decide (k=p.1)).map (·.2)
def cmPut:CM→ByteArray→Nat→CM
 | [],k,n=>[(k,n)]
 | p::m,k,n=>if k=p.1 then (k,n)::m else p::cmPut m k n
theorem keys_cm (m:CM):keysOk .string (cmEs m):=by
 intro e he
 obtain ⟨p,_,rfl⟩:=List.mem_map.1 he
 rfl
theorem aLook_cm (m:CM) (k:ByteArray):aLook (cmEs m) (.string k)=(cmLook m k).map (fun n:Nat=>intV (n:Int)):=by
 unfold aLook cmLook cmEs
 rw [List.find?_map]
 simp only [Option.map_map]
 rfl
theorem aPut_cm (m:CM) (k:ByteArray) (n:Nat):aPut (cmEs m) (.string k) (intV (n:Int))=cmEs (cmPut m k n):=by
 induction m with
 | nil=>rfl
 | cons p m ih =>
  simp only [cmEs,List.map_cons,aPut,cmPut,keq] at ih ⊢
  by_cases h:k=p.1
  ·simp [h]
  ·simp [h,ih]
theorem cmPut_len (m:CM) (k:ByteArray) (n:Nat):(cmPut m k n).length=if (cmLook m k).isSome=true then m.length else m.length+1:=by
 induction m with
 | nil=>rfl
 | cons p m ih =>
  by_cases h:k=p.1
  ·simp [cmPut,cmLook,h]
  ·have e:cmLook (p::m) k=cmLook m k:=by unfold cmLook;rw [List.find?_cons_of_neg (by simpa using h)]
   rw [e]
   simp only [cmPut,if_neg h,List.length_cons,ih]
   split <;> rfl
theorem aVer_cm (m:CM) (k:ByteArray) (n:Nat):aVer (cmEs m) (.string k) m.length true=(cmPut m k n).length:=by
 rw [cmPut_len]
 unfold aVer
 rw [aLook_cm,Option.isSome_map]
 cases (cmLook m k).isSome <;> rfl
theorem low_cm (m:Nat) (l:CM):lowEs m (cmEs l):=by
 induction l with
 | nil=>trivial
 | cons x l ih=>exact ⟨trivial,ih⟩
def cap1:Nat:=1000000001
noncomputable def keyB (t:Ty) (s:Nat):ByteArray:=Utf8.encode (48+s:Int)++t.txt
def rowK (c:Ty→Nat→CM→Option (Nat × CM)) (rw:Nat→CM→Option (Nat × CM)) (t:Ty) (s:Nat) (m:CM):Nat→Option (Nat × CM)
 | 0=>some (0,m)
 | k+1=>match rowK c rw t s m k with
  | none=>none
  | some (n,m0)=>match c t (k+1) m0 with
   | none=>none
   | some (a,m1)=>if a=0 then some (n,m1) else if cap1 < a then none else match rw (s - (k+1)) m1 with
    | none=>none
    | some (b,m2)=>if cap1 < b then none else some (min (n+min (a * min b cap1) cap1) cap1,m2)
def rowF (c:Ty→Nat→CM→Option (Nat × CM)):List Ty→Nat→CM→Option (Nat × CM)
 | [],s,m=>some (if s=0 then 1 else 0,m)
 | t::l,s,m=>rowK c (rowF c l) t s m (s - l.length)
def conK (F:ConD→CM→Option (Nat × CM)) (cs:List ConD) (m:CM):Nat→Option (Nat × CM)
 | 0=>some (0,m)
 | k+1=>match conK F cs m k,cs[k]? with
  | some (n,m1),some c=>(match F c m1 with
   | some (b,m2)=>if cap1 < b then none else some (min (n+b) cap1,m2)
   | none=>none)
  | _,_=>none
noncomputable def cntF (d:DeclsD):Nat→Ty→Nat→CM→Option (Nat × CM)
 | 0,_,_,_=>none
 | f+1,t,s,m =>
  if 1000 < s∨1099511627776≤t.wt then none
  else if s=0 then some (0,m)
  else if t.name=intN then some (if s=1 then 1 else 2,m)
  else match cmLook m (keyB t s) with
   | some n=>some (n,m)
   | none =>
    let x:=(namedD d t.name).1
    match conK (fun c m=>match putDL x.vars t.args c.args with | none=>none | some l=>rowF (cntF d f) l (s - 1) m) x.cons (cmPut m (keyB t s) 0) x.cons.length with
    | none=>none
    | some (n,m2)=>some (n,cmPut m2 (keyB t s) n)
theorem rowK_le {c:Ty→Nat→CM→Option (Nat × CM)} {rw:Nat→CM→Option (Nat × CM)} {t:Ty} {s:Nat} {m:CM}:∀ {n:Nat} {r:Nat × CM},rowK c rw t s m n=some r→∀ k,k≤n→∃ q,rowK c rw t s m k=some q
 | 0,r,h,k,hk=>⟨r,by rw [show k=0 by omega];exact h⟩
 | n+1,r,h,k,hk=>by
  by_cases e:k=n+1
  ·exact ⟨r,by rw [e];exact h⟩
  ·cases h2:rowK c rw t s m n with
   | none=>simp only [rowK,h2] at h;cases h
   | some q=>exact rowK_le h2 k (by omega)
theorem conK_le {F:ConD→CM→Option (Nat × CM)} {cs:List ConD} {m:CM}:∀ {n:Nat} {r:Nat × CM},conK F cs m n=some r→∀ k,k≤n→∃ q,conK F cs m k=some q
 | 0,r,h,k,hk=>⟨r,by rw [show k=0 by omega];exact h⟩
 | n+1,r,h,k,hk=>by
  by_cases e:k=n+1
  ·exact ⟨r,by rw [e];exact h⟩
  ·cases h2:conK F cs m n with
   | none=>simp only [conK,h2] at h;cases h
   | some q=>exact conK_le h2 k (by omega)
end Go.Proofs.YtlhoigpidpokfaaGreat
namespace Go.Proofs.YtlhoigpidpokfaaGreat
open Go Go.Abs Go.Proofs
set_option maxRecDepth 20000
attribute [local simp] aOps wantedA aStep aop aLoad aStore aBin aUn aFieldAddr aField aIndexAddr aIndex aLen aBuild aFill aAlloc aAppend aAppendOwn aMin aMax aBuildSlice litRows newRows isMut isOwn isNilS nilsW bytesR tokW tokAV tokL ret readC splice aeval isLit isLate isCut aCut AV.celled AV.one AV.ofValue Value.oneCell' Value.cells intOp strOp get_nid upd_nid awp aEnd aResults aResult Det unord isCall isNext
attribute [local simp] low_take low_strs low_comp low_tcomp wkEs_refl' WkBs WkEnv WkB WkL WkE WkO ABlock.low lowO lowL lowR AV.low cellsL_eq Ty.low low_map Ty.cells_length Ty.cells_one
attribute [local simp] ConD.cells Dat.cells PredD.cells SigD.cells ClsD.cells InstD.cells DeclsD.cells DeclsD.enc Dat.enc low_datL low_conL low_predL low_sigL low_clsL low_instL
theorem dText_c:∀ (t:Ty),t.wt < 1152921504606846976→∀ H,ACalls Tryz.prog 124 [t.enc] H (strV t.txt) H:=by
 intro t
 induction t using Ty.ind with
 | h n l ih =>
 intro hwt H
 have hlw:=wtL_len l
 have hwl:=wtL_take l
 have hnl:n.size+8+wtL l=(Ty.mk n l).wt:=rfl
 have e0:(Ty.mk n l).txt=txtA (lpS++n) l++rpS:=by rw [Ty.txt]
 have hts:=fun k=>txtA_size (l.take k) (lpS++n)
 have hls:(lpS++n).size=1+n.size:=by rw [ByteArray.size_append];rfl
 generalize (Ty.mk n l).txt=T at e0 ⊢
 simp only [enc_mk]
 refine acalls_walk (fun _=>.imm) [0,1,2,3,5,10,11,12,13] Tryz.mixed Tryz.func124 rfl rfl rfl (by decide) (fun hcl hlow=>?_)
 repeat with_reducible refine awp_assoc ?_
 refine awp_sr fun K hK=>?_
 simp
 refine hK _ _ ?_
 clear hK K
 refine awp_sr fun K hK=>?_
 simp
 simp only [show (⟨#[40]⟩:ByteArray).size=1 from rfl]
 refine ⟨by omega,hK _ _ ?_⟩
 clear hK K
 repeat with_reducible refine awp_assoc ?_
 refine awp_sr fun K hK=>?_
 simp
 refine hK _ _ ?_
 clear hK K
 repeat with_reducible refine awp_assoc ?_
 refine awp_seq_k fun K hK=>?_
 refine awp_block ?_
 refine awp_up l.length (fun k=>Env.ofL [(1,.ref (nid H.next 0) 0),(3,strV (txtA (lpS++n) (l.take k))),(10,.slice (l.map Ty.cells) none),(11,intV (l.length:Int)),(12,intV k)]) (fun k=>HL H [.cells [strV n,.slice (l.map Ty.cells) none]]) (fun _=>True) (weak_HL hcl rfl (by simp [txtA,lpS]) (by simp [txtA,lpS])) (trivial) (fun k hk hvk=>?_) (fun hvk=>?_)
 ·obtain ⟨x,hx⟩:∃ x,l[k]?=some x:=⟨_,List.getElem?_eq_getElem hk⟩
  have hxw:=wtL_mem (List.mem_of_getElem? hx)
  have hc:=ih x (List.mem_of_getElem? hx) (by omega)
  have e1:=txtA_take (lpS++n) hx
  have h1:=hts k
  have h2:=txt_size x
  have h3:=hwl k
  obtain ⟨nx,lx⟩:=x
  simp only [enc_mk] at hc
  repeat with_reducible refine awp_assoc ?_
  refine awp_sr fun K hK=>?_
  simp [hk]
  refine hK _ _ ?_
  clear hK K
  repeat with_reducible refine awp_assoc ?_
  refine awp_seq_k fun K hK=>?_
  refine awp_condT rfl (by simp) ?_
  refine awp_skip ?_
  refine hK _ _ ?_
  clear hK K
  refine awp_seq_k fun KB hKB=>?_
  refine awp_block ?_
  repeat with_reducible refine awp_assoc ?_
  refine awp_sr fun K hK=>?_
  simp [hx,Ty.cells]
  refine hK _ _ ?_
  clear hK K
  refine awp_region ?_
  refine aOps_split 2 fun K hK=>?_
  simp
  refine hK _ _ ?_
  clear hK K
  refine aOps_call (hc _) (by first | rfl | simp) rfl rfl (by first | (simp;done) | rfl) ?_
  simp
  refine ⟨by omega,?_⟩
  refine hKB _ _ ?_
  clear hKB
  refine awp_region ?_
  simp [wrap_succ (show k < 4611686018427387904 by omega)]
  exact weak_HL hcl rfl (by simp [e1]) (by simp [e1])
 rw [List.take_length]
 repeat with_reducible refine awp_assoc ?_
 refine awp_sr fun K hK=>?_
 simp
 refine hK _ _ ?_
 clear hK K
 repeat with_reducible refine awp_assoc ?_
 refine awp_seq_k fun K hK=>?_
 refine awp_condF rfl (by simp) ?_
 refine awp_exit ?_
 simp
 clear hK K
 refine hK _ _ ?_
 clear hK K
 have h1:=txtA_size l (lpS++n)
 refine awp_sr fun K hK=>?_
 simp
 simp only [show (⟨#[41]⟩:ByteArray).size=1 from rfl]
 refine ⟨by omega,hK _ _ ?_⟩
 clear hK K
 rw [e0]
 simp [reset_all hcl,rpS]
theorem dKey_c (t:Ty) (hwt:t.wt < 1152921504606846976) (s:Nat) (hs:s≤1000) (H:AHeap):ACalls Tryz.prog 98 [t.enc,intV s] H (strV (keyB t s)) H:=by
 have hc:=dText_c t hwt
 have w1:IntKind.i64.wrap (48+(s:Int))=48+s:=wrap64 (by omega) (by omega)
 have w2:IntKind.i32.wrap (48+(s:Int))=48+s:=wrap32 (by omega) (by omega)
 have h1:=txt_size t
 have h2:=encode_size_le (48+(s:Int))
 have e0:keyB t s=Utf8.encode (48+s:Int)++t.txt:=rfl
 generalize keyB t s=kb at e0 ⊢
 obtain ⟨n,l⟩:=t
 simp only [enc_mk] at hc ⊢
 refine acalls_walk (fun _=>.imm) [0,1,2,4] Tryz.mixed Tryz.func98 rfl rfl rfl (by decide) (fun hcl hlow=>?_)
 repeat with_reducible refine awp_assoc ?_
 refine awp_sr fun K hK=>?_
 simp
 refine hK _ _ ?_
 clear hK K
 repeat with_reducible refine awp_assoc ?_
 refine awp_sr fun K hK=>?_
 refine aOps_split 5 fun K hK=>?_
 simp [w1,w2,aConv]
 refine hK _ _ ?_
 clear hK K
 refine aOps_call (hc _) (by first | rfl | simp) rfl rfl (by first | (simp;done) | rfl) ?_
 simp
 refine ⟨by omega,hK _ _ ?_⟩
 clear hK K
 rw [e0]
 simp [reset_all hcl]
theorem dPut_c (vs:List ByteArray) (hv:vs.length < 4611686018427387904) (ts:List Ty):∀ (t:Ty),t.cnt < 1099511627776→∀ r,t.putD vs ts=some r→∀ H,ACalls Tryz.prog 125 [t.enc,strs vs none,.slice (ts.map Ty.cells) none] H r.enc H:=by
 intro t
 induction t using Ty.ind with
 | h n l ih =>
 intro hsz r hr H
 have hcnt:(Ty.mk n l).cnt=(nodesL l).length+1:=by simp [Ty.cnt,Ty.nodes]
 have hll:=nodesL_len l
 have hvc:=dIsVar_c (.mk n l)
 have e0:(Ty.mk n l).putD vs ts=if dVarB (.mk n l)=true then (match idxN vs n with | some k=>ts[k]? | none=>some (.mk n [])) else (putDL vs ts l).map (Ty.mk n):=by first | (rw [Ty.putD];done) | (rw [Ty.putD];rfl)
 rw [e0] at hr
 clear e0
 simp only [enc_mk] at hvc
 simp only [enc_mk]
 refine acalls_walk (fun d=>if d=32 then .nilv 2 else if d=46 then .lit else .imm) [0,1,2,3,6,7,8,9,11,13,14,15,16,17,24,34,35,36,37] Tryz.mixed Tryz.func125 rfl rfl rfl (by decide) (fun hcl hlow=>?_)
 repeat with_reducible refine awp_assoc ?_
 refine awp_sr fun K hK=>?_
 simp
 refine hK _ _ ?_
 clear hK K
 repeat with_reducible refine awp_assoc ?_
 refine awp_sr fun K hK=>?_
 refine aOps_split 1 fun K hK=>?_
 simp
 refine hK _ _ ?_
 clear hK K
 refine aOps_call (hvc _) (by first | rfl | simp) rfl rfl (by first | (simp;done) | rfl) ?_
 simp
 refine hK _ _ ?_
 clear hK K
 cases hb:dVarB (.mk n l)
 rotate_left
 ·rw [if_pos hb] at hr
  have hl0:l=[]:=by
   unfold dVarB at hb
   rw [Bool.and_eq_true] at hb
   exact of_decide_eq_true hb.1
  subst hl0
  refine awp_seq_k fun KO hKO=>?_
  refine awp_condT rfl (by simp [hb]) ?_
  repeat with_reducible refine awp_assoc ?_
  refine awp_sr fun K hK=>?_
  simp [strs]
  refine hK _ _ ?_
  clear hK K
  refine awp_block ?_
  refine awp_up vs.length (fun k=>Env.ofL [(1,strs vs none),(2,.slice (ts.map Ty.cells) none),(3,.ref (nid H.next 0) 0),(6,.ref (nid H.next 1) 0),(14,strs vs none),(15,intV (vs.length:Int)),(16,intV k)]) (fun k=>HL H [.cells [strV n,.slice [] none],.cells [strV ByteArray.empty,.v (.slice none 0 0)]]) (fun k=>∀ s∈vs.take k,(decide (s=n))=false) (weak_HL hcl rfl (by simp [strs]) (by simp [strs])) (by simp) (fun k hk hvk=>?_) (fun hvk=>?_)
  ·obtain ⟨v,hv⟩:∃ v,vs[k]?=some v:=⟨_,List.getElem?_eq_getElem hk⟩
   repeat with_reducible refine awp_assoc ?_
   refine awp_sr fun K hK=>?_
   simp [hk]
   refine hK _ _ ?_
   clear hK K
   repeat with_reducible refine awp_assoc ?_
   refine awp_seq_k fun K hK=>?_
   refine awp_condT rfl (by simp) ?_
   refine awp_skip ?_
   refine hK _ _ ?_
   clear hK K
   refine awp_seq_k fun KB hKB=>?_
   refine awp_block ?_
   repeat with_reducible refine awp_assoc ?_
   refine awp_sr fun K hK=>?_
   simp [strs,hv]
   refine hK _ _ ?_
   clear hK K
   repeat with_reducible refine awp_assoc ?_
   refine awp_sr fun K hK=>?_
   simp
   refine hK _ _ ?_
   clear hK K
   by_cases hn:v=n
   ·have hk2:idxN vs n=some k:=ix_at hv (by simpa using hn) hvk
    rw [hk2] at hr
    simp only at hr
    refine awp_condT rfl (by simp [hn]) ?_
    obtain ⟨rn,rl⟩:=r
    repeat with_reducible refine awp_assoc ?_
    refine awp_sr fun K hK=>?_
    simp [hr,Ty.cells]
    refine hK _ _ ?_
    clear hK K
    simp [enc_mk,reset_all hcl]
   ·refine awp_condF rfl (by simp [hn]) ?_
    refine awp_skip ?_
    refine hKB _ _ ?_
    clear hKB
    refine awp_region ?_
    simp [wrap_succ (show k < 4611686018427387904 by omega)]
    refine ⟨?_,weak_HL hcl rfl (by simp [strs]) (by simp [strs])⟩
    simpa using take_all (p:=fun s:ByteArray=>(decide (s=n))=false) hv (by simpa using hn) hvk
  rw [List.take_length] at hvk
  have hk2:idxN vs n=none:=by unfold idxN;rw [List.findIdx?_eq_none_iff];exact hvk
  rw [hk2] at hr
  simp only [Option.some.injEq] at hr
  subst hr
  repeat with_reducible refine awp_assoc ?_
  refine awp_sr fun K hK=>?_
  simp
  refine hK _ _ ?_
  clear hK K
  repeat with_reducible refine awp_assoc ?_
  refine awp_seq_k fun K hK=>?_
  refine awp_condF rfl (by simp) ?_
  refine awp_exit ?_
  simp
  refine hKO _ _ ?_
  clear hKO
  repeat with_reducible refine awp_assoc ?_
  refine awp_sr fun K hK=>?_
  simp
  refine hK _ _ ?_
  clear hK K
  repeat with_reducible refine awp_assoc ?_
  refine awp_sr fun K hK=>?_
  simp
  refine hK _ _ ?_
  clear hK K
  repeat with_reducible refine awp_assoc ?_
  refine awp_seq_k fun K hK=>?_
  refine awp_block ?_
  refine awp_up 0 (fun k=>Env.ofL [(1,strs vs none),(2,.slice (ts.map Ty.cells) none),(3,.ref (nid H.next 0) 0),(6,.ref (nid H.next 1) 0),(9,.ref (nid H.next 3) 0),(34,.slice [] none),(35,intV 0),(36,intV k)]) (fun k=>HL H [.cells [strV n,.slice [] none],.cells [strV ByteArray.empty,.v (.slice none 0 0)],.tok 0 2 none,.cells [strV n,.slice [] (some (nid H.next 2))]]) (fun _=>True) (weak_HL hcl rfl (by simp) (by simp)) (trivial) (fun k hk hvk=>?_) (fun hvk=>?_)
  ·omega
  repeat with_reducible refine awp_assoc ?_
  refine awp_sr fun K hK=>?_
  simp
  refine hK _ _ ?_
  clear hK K
  repeat with_reducible refine awp_assoc ?_
  refine awp_seq_k fun K hK=>?_
  refine awp_condF rfl (by simp) ?_
  refine awp_exit ?_
  simp
  clear hK K
  refine hK _ _ ?_
  clear hK K
  repeat with_reducible refine awp_assoc ?_
  refine awp_sr fun K hK=>?_
  simp
  refine hK _ _ ?_
  clear hK K
  simp [enc_mk,reset_all hcl]
  exact Wk.agg ⟨.refl _,Wk.tok _ _,trivial⟩
 have hb2:¬ dVarB (Ty.mk n l)=true:=by rw [hb];decide
 rw [if_neg hb2] at hr
 cases hrl:putDL vs ts l with
 | none=>rw [hrl] at hr;cases hr
 | some rl =>
 rw [hrl] at hr
 simp only [Option.map_some,Option.some.injEq] at hr
 subst hr
 have hrlen:=putDL_len hrl
 simp only [enc_mk]
 repeat with_reducible refine awp_assoc ?_
 refine awp_seq_k fun K hK=>?_
 refine awp_condF rfl (by simp [hb]) ?_
 refine awp_skip ?_
 refine hK _ _ ?_
 clear hK K
 repeat with_reducible refine awp_assoc ?_
 refine awp_sr fun K hK=>?_
 simp
 refine hK _ _ ?_
 clear hK K
 repeat with_reducible refine awp_assoc ?_
 refine awp_sr fun K hK=>?_
 simp
 refine hK _ _ ?_
 clear hK K
 repeat with_reducible refine awp_assoc ?_
 refine awp_seq_k fun K hK=>?_
 refine awp_block ?_
 refine awp_up l.length (fun k=>Env.ofL [(1,strs vs none),(2,.slice (ts.map Ty.cells) none),(3,.ref (nid H.next 0) 0),(6,.ref (nid H.next 1) 0),(9,.ref (nid H.next 3) 0),(34,.slice (l.map Ty.cells) none),(35,intV (l.length:Int)),(36,intV k)]) (fun k=>HL H [.cells [strV n,.slice (l.map Ty.cells) none],.cells [strV ByteArray.empty,.v (.slice none 0 0)],.tok k 2 none,.cells [strV n,.slice ((rl.map Ty.cells).take k) (some (nid H.next 2))]]) (fun _=>True) (weak_HL hcl rfl (by simp [low_map,strs]) (by simp [low_map,strs])) (trivial) (fun k hk hvk=>?_) (fun hvk=>?_)
 ·obtain ⟨x,hx⟩:∃ x,l[k]?=some x:=⟨_,List.getElem?_eq_getElem hk⟩
  have hxc:=cnt_mem hx
  obtain ⟨y,hy1,hy2⟩:=putDL_at hrl hx
  have hc:=ih x (List.mem_of_getElem? hx) (by omega) y hy1
  obtain ⟨nx,lx⟩:=x
  obtain ⟨ny,ly⟩:=y
  simp only [enc_mk] at hc
  repeat with_reducible refine awp_assoc ?_
  refine awp_sr fun K hK=>?_
  simp [hk]
  refine hK _ _ ?_
  clear hK K
  repeat with_reducible refine awp_assoc ?_
  refine awp_seq_k fun K hK=>?_
  refine awp_condT rfl (by simp) ?_
  refine awp_skip ?_
  refine hK _ _ ?_
  clear hK K
  refine awp_seq_k fun KB hKB=>?_
  refine awp_block ?_
  repeat with_reducible refine awp_assoc ?_
  refine awp_sr fun K hK=>?_
  simp [hx,Ty.cells]
  refine hK _ _ ?_
  clear hK K
  refine awp_draw [6,7,9] [[],[],[0,1],[0,1,2],[0,1,2,3],[0,1],[0,1],[],[],[]] (by kernel_rfl) ?_
  refine aLex_read rfl rfl rfl rfl fun K hK=>?_
  simp
  refine hK _ _ _ ?_
  clear hK K
  refine aLex_read rfl rfl rfl rfl fun K hK=>?_
  simp
  refine hK _ _ _ ?_
  clear hK K
  refine aLex_read rfl rfl rfl rfl fun K hK=>?_
  simp
  refine hK _ _ _ ?_
  clear hK K
  refine aLex_read rfl rfl rfl rfl fun K hK=>?_
  simp
  refine hK _ _ _ ?_
  clear hK K
  refine aLex_read rfl rfl rfl rfl fun K hK=>?_
  simp
  refine hK _ _ _ ?_
  clear hK K
  refine aLex_call (v:=.agg [strV ny,.slice (ly.map Ty.cells) none]) rfl rfl ?_ (by simp) ?_
  ·simp
   exact hc _
  refine aLex_eff rfl rfl rfl rfl fun K hK=>?_
  simp
  refine hK _ _ ?_
  clear hK K
  refine aLex_eff rfl rfl rfl rfl fun K hK=>?_
  simp [Nat.min_eq_left (show k≤rl.length by omega)]
  refine ⟨by omega,fun r hr=>?_,hK _ _ ?_⟩
  ·obtain ⟨x,_,rfl⟩:=List.mem_map.1 (List.mem_of_mem_take hr)
   simp
  clear hK K
  refine aLex_read rfl rfl rfl rfl fun K hK=>?_
  simp
  refine hK _ _ _ ?_
  clear hK K
  refine aLex_eff rfl rfl rfl rfl fun K hK=>?_
  simp
  refine hK _ _ ?_
  clear hK K
  refine aLex_end ?_
  simp
  refine hKB _ _ ?_
  clear hKB
  refine awp_region ?_
  simp [wrap_succ (show k < 4611686018427387904 by omega)]
  have e1:(rl.map Ty.cells).take (k+1)=(rl.map Ty.cells).take k++[[AV.v (Value.string ny),AV.slice (List.map Ty.cells ly) none]] :=
   take_one (by simp [hy2,Ty.cells])
  rw [e1]
  exact weak_HL hcl rfl (by simp) (by simp [low_map,strs])
 have e2:(rl.map Ty.cells).take l.length=rl.map Ty.cells:=List.take_of_length_le (by simp;omega)
 rw [e2]
 repeat with_reducible refine awp_assoc ?_
 refine awp_sr fun K hK=>?_
 simp
 refine hK _ _ ?_
 clear hK K
 repeat with_reducible refine awp_assoc ?_
 refine awp_seq_k fun K hK=>?_
 refine awp_condF rfl (by simp) ?_
 refine awp_exit ?_
 simp
 clear hK K
 refine hK _ _ ?_
 clear hK K
 repeat with_reducible refine awp_assoc ?_
 refine awp_sr fun K hK=>?_
 simp
 refine hK _ _ ?_
 clear hK K
 simp [reset_all hcl]
 exact Wk.agg (by simp)
theorem dFields_c (d:DeclsD) (hsz:d.datas.length < 1000000000000) (si mi:Nat) (t:Ty) (c:ConD) (hc1:c.args.length < 1000000000000) (hc2:∀ a∈c.args,a.cnt < 1099511627776) (hv:(namedD d t.name).1.vars.length < 4611686018427387904) (r:List Ty) (hr:putDL (namedD d t.name).1.vars t.args c.args=some r) (H:AHeap)
  (hH:H.get si=some (.cells (d.cells++[.map mi]))):ACalls Tryz.prog 100 [.ref si 0,t.enc,.agg c.cells] H (.slice (r.map Ty.cells) none) H:=by
 have hnm:=named_c d hsz t.name
 have hrl:=putDL_len hr
 have hput:=fun (k:Nat) (x:Ty) (h:c.args[k]?=some x)=>putDL_at hr h
 have hpc:=fun (x:Ty) (h:x∈c.args) (y:Ty) (h2:x.putD (namedD d t.name).1.vars t.args=some y)=>dPut_c (namedD d t.name).1.vars hv t.args x (hc2 x h) y h2
 clear hr hc2
 generalize namedD d t.name=nd at *
 obtain ⟨⟨dn,dv,dc⟩,db⟩:=nd
 obtain ⟨ds,cs,is⟩:=d
 obtain ⟨tn,tl⟩:=t
 obtain ⟨cn,cl⟩:=c
 simp only [Dat.enc,Dat.cells,DeclsD.enc,DeclsD.cells,Ty.args,Ty.name] at *
 simp only [enc_mk]
 refine acalls_walk (fun d=>if d=9 then .nilv 2 else if d=36 then .lit else if d=7 then .late else .imm) [0,1,2,4,5,6,7,9,11,23,24,25,26] Tryz.mixed Tryz.func100 rfl rfl rfl (by decide) (fun hcl hlow=>?_)
 have hsl:si < H.next:=(hcl _ _ hH).1
 have gs:∀ bs,(HL H bs).get si=some (.cells [.slice (ds.map Dat.cells) none,.slice (cs.map ClsD.cells) none,.slice (is.map InstD.cells) none,.map mi]):=fun bs=>by rw [get_lt hsl];exact hH
 repeat with_reducible refine awp_assoc ?_
 refine awp_sr fun K hK=>?_
 simp
 refine hK _ _ ?_
 clear hK K
 have hF2:∀ i,i≠2→¬ nid H.next i=nid H.next 2:=fun i h=>by unfold nid;omega
 have hs2:¬ si=nid H.next 2:=by unfold nid;omega
 have hfa:fillAt (nid H.next 2) [strV ByteArray.empty,.v (.slice none 0 0),.v (.slice none 0 0)] (HL H [.cells [strV tn,.slice (tl.map Ty.cells) none],.cells [strV cn,.slice (cl.map Ty.cells) none],.hole])=HL H [.cells [strV tn,.slice (tl.map Ty.cells) none],.cells [strV cn,.slice (cl.map Ty.cells) none],.cells [strV ByteArray.empty,.v (.slice none 0 0),.v (.slice none 0 0)]]:=by simp [fillAt]
 repeat with_reducible refine awp_assoc ?_
 refine awp_sdf 1 10 (fillAt (nid H.next 2) [strV ByteArray.empty,.v (.slice none 0 0),.v (.slice none 0 0)]) [11] [[],[],[],[],[0,1,2,3],[0,1,2,3],[0],[0,1],[0,1,2,4],[0,1,2,4,8],[0,1,2,3,4,5,6,7,8,9],[9],[]] (by kernel_rfl) (by rfl) (by rfl) fun K hK=>?_
 simp only [holes,alloc_HL,List.cons_append,List.nil_append]
 refine fLex_pre (nid H.next 2) 6 (fun G i h=>fillAt_off G i h) (by rfl) fun K2 hK2=>?_
 simp [oOps,offs,AV.off,Op.operands,Call.operands,regM,litOp,isReg,isLit,noTok,gs,hs2,hF2]
 refine hK2 _ ?_
 clear hK2 K2
 refine fLex_call0 (hnm _) (hnm _) rfl rfl rfl rfl rfl (by simp) ?_
 refine fLex_pre (nid H.next 2) 3 (fun G i h=>fillAt_off G i h) (by rfl) fun K2 hK2=>?_
 simp [oOps,offs,AV.off,Op.operands,Call.operands,regM,litOp,isReg,isLit,noTok,hF2]
 refine hK2 _ ?_
 clear hK2 K2
 refine fLex_self (v:=.ref (nid H.next 2) 0) rfl rfl (det_late rfl rfl rfl (by simp;rfl) rfl (by simp)) (by simp) ?_
 refine fLex_effA rfl rfl rfl rfl rfl rfl fun K2 hK2=>?_
 simp [hfa]
 refine hK2 _ _ (by simp [fillAt]) (by simp [unord]) ?_
 clear hK2 K2
 refine fLex_pre (nid H.next 2) 1 (fun G i h=>fillAt_off G i h) (by rfl) fun K2 hK2=>?_
 simp [oOps,offs,AV.off,Op.operands,Call.operands,regM,litOp,isReg,isLit,noTok]
 refine hK2 _ ?_
 clear hK2 K2
 refine fLex_end ?_
 simp [fillAt]
 refine hK _ _ ?_
 clear hK K
 repeat with_reducible refine awp_assoc ?_
 refine awp_sr fun K hK=>?_
 simp
 refine hK _ _ ?_
 clear hK K
 repeat with_reducible refine awp_assoc ?_
 refine awp_sr fun K hK=>?_
 simp
 refine hK _ _ ?_
 clear hK K
 repeat with_reducible refine awp_assoc ?_
 refine awp_seq_k fun K hK=>?_
 refine awp_block ?_
 refine awp_up cl.length (fun k=>Env.ofL [(4,.ref (nid H.next 0) 0),(7,.ref (nid H.next 2) 0),(9,.slice ((r.map Ty.cells).take k) (some (nid H.next 3))),(23,.slice (cl.map Ty.cells) none),(24,intV (cl.length:Int)),(25,intV k)]) (fun k=>HL H [.cells [strV tn,.slice (tl.map Ty.cells) none],.cells [strV cn,.slice (cl.map Ty.cells) none],.cells [strV dn,strs dv none,.slice (dc.map ConD.cells) none],.tok k 2 none]) (fun _=>True) (weak_HL hcl rfl (by simp [low_map,strs]) (by simp [low_map,strs])) (trivial) (fun k hk hvk=>?_) (fun hvk=>?_)
 ·obtain ⟨x,hx⟩:∃ x,cl[k]?=some x:=⟨_,List.getElem?_eq_getElem hk⟩
  obtain ⟨y,hy1,hy2⟩:=hput k x hx
  have hc:=hpc x (List.mem_of_getElem? hx) y hy1
  obtain ⟨nx,lx⟩:=x
  obtain ⟨ny,ly⟩:=y
  simp only [enc_mk] at hc
  repeat with_reducible refine awp_assoc ?_
  refine awp_sr fun K hK=>?_
  simp [hk]
  refine hK _ _ ?_
  clear hK K
  repeat with_reducible refine awp_assoc ?_
  refine awp_seq_k fun K hK=>?_
  refine awp_condT rfl (by simp) ?_
  refine awp_skip ?_
  refine hK _ _ ?_
  clear hK K
  refine awp_seq_k fun KB hKB=>?_
  refine awp_block ?_
  repeat with_reducible refine awp_assoc ?_
  refine awp_sr fun K hK=>?_
  simp [hx,Ty.cells]
  refine hK _ _ ?_
  clear hK K
  refine awp_region ?_
  refine aOps_split 6 fun K hK=>?_
  simp
  refine hK _ _ ?_
  clear hK K
  refine aOps_call (hc _) (by first | rfl | simp) rfl rfl (by first | (simp;done) | rfl) ?_
  refine aOps_split 1 fun K2 hK2=>?_
  simp
  refine hK2 _ _ ?_
  clear hK2 K2
  simp [Nat.min_eq_left (show k≤r.length by omega)]
  refine ⟨by omega,fun q hq=>?_,?_⟩
  ·obtain ⟨x,_,rfl⟩:=List.mem_map.1 (List.mem_of_mem_take hq)
   simp
  refine hKB _ _ ?_
  clear hKB
  refine awp_region ?_
  simp [wrap_succ (show k < 4611686018427387904 by omega)]
  have e1:(r.map Ty.cells).take (k+1)=(r.map Ty.cells).take k++[[AV.v (Value.string ny),AV.slice (List.map Ty.cells ly) none]] :=
   take_one (by simp [hy2,Ty.cells])
  rw [e1]
  exact weak_HL hcl rfl (by simp) (by simp [low_map,strs])
 have e2:(r.map Ty.cells).take cl.length=r.map Ty.cells:=List.take_of_length_le (by simp;omega)
 rw [e2]
 repeat with_reducible refine awp_assoc ?_
 refine awp_sr fun K hK=>?_
 simp
 refine hK _ _ ?_
 clear hK K
 repeat with_reducible refine awp_assoc ?_
 refine awp_seq_k fun K hK=>?_
 refine awp_condF rfl (by simp) ?_
 refine awp_exit ?_
 simp
 clear hK K
 refine hK _ _ ?_
 clear hK K
 repeat with_reducible refine awp_assoc ?_
 refine awp_sr fun K hK=>?_
 simp
 refine hK _ _ ?_
 clear hK K
 simp [reset_all hcl]
end Go.Proofs.YtlhoigpidpokfaaGreat
