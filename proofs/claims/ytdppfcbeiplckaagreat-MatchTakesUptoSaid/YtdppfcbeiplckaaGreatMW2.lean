/- Substitutions put in; names; renamings. -/
import Derived.Test.YtdppfcbeiplckaaGreatMW1
import Derived.Test.YtdppfcbeiplckaaGreatMX1
set_option linter.unusedVariables false
set_option linter.unusedSimpArgs false
namespace Go.Proofs.YtdppfcbeiplckaaGreat
open Go Go.Abs Go.Proofs
set_option maxRecDepth 20000
attribute [local simp] aOps wantedA aStep aop aLoad aStore aBin aUn aFieldAddr aField aIndexAddr aIndex aLen aBuild aFill aAlloc aAppend aAppendOwn aMin aMax aBuildSlice litRows newRows isMut isOwn isNilS nilsW bytesR tokW tokAV tokL ret readC splice aeval isLit isLate isCut aCut AV.celled AV.one AV.ofValue Value.oneCell' Value.cells intOp strOp get_nid upd_nid awp aEnd aResults aResult Det unord isCall isNext
attribute [local simp] low_take low_strs low_comp low_tcomp wkEs_refl' WkBs WkEnv WkB WkL WkE WkO ABlock.low lowO lowL lowR AV.low cellsL_eq Ty.low low_map Ty.cells_length Ty.cells_one
abbrev TyM:=List (ByteArray × Ty)
theorem cnt_mem {l:List Ty} {k:Nat} {x:Ty} (hx:l[k]?=some x):x.cnt≤(nodesL l).length:=by
 have h1:=congrArg List.length (nodesL_take hx)
 have h2:nodesL l=nodesL (l.take (k+1))++nodesL (l.drop (k+1)):=by rw [←nodesL_append,List.take_append_drop]
 have h3:=congrArg List.length h2
 rw [List.length_append] at h1 h3;simp only [Ty.cnt];omega
theorem enc_mk (n:ByteArray) (l:List Ty):(Ty.mk n l).enc=.agg [strV n,.slice (l.map Ty.cells) none]:=by simp [Ty.enc,Ty.cells,cellsL_eq]
def memS (s:ByteArray) (l:List ByteArray):Bool:=l.any fun x=>decide (s=x)
theorem memS_iff {s:ByteArray} {l:List ByteArray}:memS s l=true↔s∈l:=by simp [memS]
def metEs (out:List ByteArray):List (Value × AV):=out.map fun s=>(.string s,boolV true)
theorem aLook_met (out:List ByteArray) (s:ByteArray):aLook (metEs out) (.string s)=if memS s out then some (boolV true) else none:=by
 induction out with
 | nil=>rfl
 | cons x out ih =>
  unfold aLook metEs at ih ⊢
  simp only [List.map_cons,List.find?_cons,keq]
  by_cases h:s=x
  ·simp [h,memS]
  ·simp only [h,decide_false,memS,List.any_cons,Bool.false_or] at ih ⊢;exact ih
theorem keys_met (out:List ByteArray):keysOk .string (metEs out):=by
 intro e he
 obtain ⟨p,_,rfl⟩:=List.mem_map.1 he
 rfl
theorem aPut_met {out:List ByteArray} {s:ByteArray} (h:memS s out=false):aPut (metEs out) (.string s) (boolV true)=metEs (out++[s]):=by
 induction out with
 | nil=>rfl
 | cons x out ih =>
  simp only [memS,List.any_cons,Bool.or_eq_false_iff,decide_eq_false_iff_not] at h
  have ih:=ih h.2
  simp only [metEs,List.map_cons,List.cons_append,aPut,keq,h.1,decide_false,Bool.false_eq_true,if_false] at ih ⊢
  rw [ih]
theorem low_met (n:Nat) (out:List ByteArray):lowEs n (metEs out):=by
 induction out with
 | nil=>trivial
 | cons x out ih=>exact ⟨trivial,ih⟩
def bindC (p:ByteArray × Ty):List AV:=strV p.1::p.2.cells
theorem low_bind (n:Nat) (l:TyM):lowR n (l.map bindC):=lowR_map fun p _=>⟨trivial,p.2.low n⟩
attribute [local simp] low_bind
end Go.Proofs.YtdppfcbeiplckaaGreat
namespace Go.Proofs.YtdppfcbeiplckaaGreat
open Go Go.Abs Go.Proofs
set_option maxRecDepth 20000
attribute [local simp] aOps wantedA aStep aop aLoad aStore aBin aUn aFieldAddr aField aIndexAddr aIndex aLen aBuild aFill aAlloc aAppend aAppendOwn aMin aMax aBuildSlice litRows newRows isMut isOwn isNilS nilsW bytesR tokW tokAV tokL ret readC splice aeval isLit isLate isCut aCut AV.celled AV.one AV.ofValue Value.oneCell' Value.cells intOp strOp get_nid upd_nid awp aEnd aResults aResult Det unord isCall isNext
attribute [local simp] low_take low_strs low_comp low_tcomp wkEs_refl' WkBs WkEnv WkB WkL WkE WkO ABlock.low lowO lowL lowR AV.low cellsL_eq Ty.low low_map Ty.cells_length Ty.cells_one
attribute [local simp] low_bind
def cntR (b:Bool × Nat):Int:=if b.1=true then -1 else 200 - (b.2:Int)
end Go.Proofs.YtdppfcbeiplckaaGreat
namespace Go.Proofs.YtdppfcbeiplckaaGreat
open Go Go.Abs Go.Proofs
set_option maxRecDepth 20000
attribute [local simp] aOps wantedA aStep aop aLoad aStore aBin aUn aFieldAddr aField aIndexAddr aIndex aLen aBuild aFill aAlloc aAppend aAppendOwn aMin aMax aBuildSlice litRows newRows isMut isOwn isNilS nilsW bytesR tokW tokAV tokL ret readC splice aeval isLit isLate isCut aCut AV.celled AV.one AV.ofValue Value.oneCell' Value.cells intOp strOp get_nid upd_nid awp aEnd aResults aResult Det unord isCall isNext
attribute [local simp] low_take low_strs low_comp low_tcomp wkEs_refl' WkBs WkEnv WkB WkL WkE WkO ABlock.low lowO lowL lowR AV.low cellsL_eq Ty.low low_map Ty.cells_length Ty.cells_one
theorem Ty.not_large {t:Ty} (h:t.valid=0):t.large=false:=by
 unfold Ty.valid at h
 cases hl:t.large
 ·rfl
 ·rw [hl] at h;simp at h
attribute [local simp] low_bind
end Go.Proofs.YtdppfcbeiplckaaGreat
namespace Go.Proofs.YtdppfcbeiplckaaGreat
open Go Go.Abs Go.Proofs
set_option maxRecDepth 20000
attribute [local simp] aOps wantedA aStep aop aLoad aStore aBin aUn aFieldAddr aField aIndexAddr aIndex aLen aBuild aFill aAlloc aAppend aAppendOwn aMin aMax aBuildSlice litRows newRows isMut isOwn isNilS nilsW bytesR tokW tokAV tokL ret readC splice aeval isLit isLate isCut aCut AV.celled AV.one AV.ofValue Value.oneCell' Value.cells intOp strOp get_nid upd_nid awp aEnd aResults aResult Det unord isCall isNext
attribute [local simp] low_take low_strs low_comp low_tcomp wkEs_refl' WkBs WkEnv WkB WkL WkE WkO ABlock.low lowO lowL lowR AV.low cellsL_eq Ty.low low_map Ty.cells_length Ty.cells_one
abbrev strs (l:List ByteArray) (t:Option Nat):AV:=.slice (l.map fun s=>[strV s]) t
attribute [local simp] low_bind
def aS:ByteArray:=⟨#[97]⟩
def bS:ByteArray:=⟨#[98]⟩
def listN:ByteArray:=⟨#[76,105,115,116]⟩
def intN:ByteArray:=⟨#[73,110,116]⟩
end Go.Proofs.YtdppfcbeiplckaaGreat
namespace Go.Proofs.YtdppfcbeiplckaaGreat
open Go Go.Abs Go.Proofs
structure ConD where
 name:ByteArray
 args:List Ty
structure Dat where
 name:ByteArray
 vars:List ByteArray
 cons:List ConD
structure PredD where
 cls:ByteArray
 t:Ty
structure SigD where
 name:ByteArray
 preds:List PredD
 t:Ty
structure ClsD where
 name:ByteArray
 supers:List ByteArray
 ops:List SigD
structure InstD where
 cls:ByteArray
 data:ByteArray
 preds:List PredD
 ra:Option Addr
 rl:Nat
 rc:Nat
structure DeclsD where
 datas:List Dat
 classes:List ClsD
 insts:List InstD
def ConD.cells (c:ConD):List AV:=[strV c.name,.slice (c.args.map Ty.cells) none]
def Dat.cells (d:Dat):List AV:=[strV d.name,strs d.vars none,.slice (d.cons.map ConD.cells) none]
def PredD.cells (p:PredD):List AV:=[strV p.cls,strV p.t.name,.slice (p.t.args.map Ty.cells) none]
def SigD.cells (s:SigD):List AV:=[strV s.name,.slice (s.preds.map PredD.cells) none,strV s.t.name,.slice (s.t.args.map Ty.cells) none]
def ClsD.cells (c:ClsD):List AV:=[strV c.name,strs c.supers none,.slice (c.ops.map SigD.cells) none]
def InstD.cells (i:InstD):List AV:=[strV i.cls,strV i.data,.slice (i.preds.map PredD.cells) none,.v (.slice i.ra i.rl i.rc)]
def DeclsD.cells (d:DeclsD):List AV:=[.slice (d.datas.map Dat.cells) none,.slice (d.classes.map ClsD.cells) none,.slice (d.insts.map InstD.cells) none]
def DeclsD.enc (d:DeclsD):AV:=.agg d.cells
def Dat.enc (d:Dat):AV:=.agg d.cells
theorem low_conC (n:Nat) (c:ConD):lowL n c.cells:=⟨trivial,⟨by simp,lowR_map fun t _=>Ty.low n t⟩,trivial⟩
theorem low_datC (n:Nat) (c:Dat):lowL n c.cells:=⟨trivial,⟨by simp,lowR_map fun _ _=>⟨trivial,trivial⟩⟩,⟨by simp,lowR_map fun t _=>low_conC n t⟩,trivial⟩
theorem low_predC (n:Nat) (c:PredD):lowL n c.cells:=⟨trivial,trivial,⟨by simp,lowR_map fun t _=>Ty.low n t⟩,trivial⟩
theorem low_sigC (n:Nat) (c:SigD):lowL n c.cells:=⟨trivial,⟨by simp,lowR_map fun t _=>low_predC n t⟩,trivial,⟨by simp,lowR_map fun t _=>Ty.low n t⟩,trivial⟩
theorem low_clsC (n:Nat) (c:ClsD):lowL n c.cells:=⟨trivial,⟨by simp,lowR_map fun _ _=>⟨trivial,trivial⟩⟩,⟨by simp,lowR_map fun t _=>low_sigC n t⟩,trivial⟩
theorem low_instC (n:Nat) (c:InstD):lowL n c.cells:=⟨trivial,trivial,⟨by simp,lowR_map fun t _=>low_predC n t⟩,trivial,trivial⟩
theorem low_decls (n:Nat) (d:DeclsD):lowL n d.cells:=⟨⟨by simp,lowR_map fun t _=>low_datC n t⟩,⟨by simp,lowR_map fun t _=>low_clsC n t⟩,⟨by simp,lowR_map fun t _=>low_instC n t⟩,trivial⟩
theorem low_datL (n:Nat) (l:List Dat):lowR n (l.map Dat.cells):=lowR_map fun t _=>low_datC n t
theorem low_conL (n:Nat) (l:List ConD):lowR n (l.map ConD.cells):=lowR_map fun t _=>low_conC n t
theorem low_predL (n:Nat) (l:List PredD):lowR n (l.map PredD.cells):=lowR_map fun t _=>low_predC n t
theorem low_sigL (n:Nat) (l:List SigD):lowR n (l.map SigD.cells):=lowR_map fun t _=>low_sigC n t
theorem low_clsL (n:Nat) (l:List ClsD):lowR n (l.map ClsD.cells):=lowR_map fun t _=>low_clsC n t
theorem low_instL (n:Nat) (l:List InstD):lowR n (l.map InstD.cells):=lowR_map fun t _=>low_instC n t
theorem wkR_append:∀ {a b c d:List (List AV)},WkR a b→WkR c d→WkR (a++c) (b++d)
 | [],[],_,_,_,h=>h
 | _::_,_::_,_,_,⟨h1,h2⟩,h=>⟨h1,wkR_append h2 h⟩
theorem Wk.sliceT {xs ys:List (List AV)} {t:Option Nat} (h:WkR xs ys):Wk (.slice xs t) (.slice ys t):=fun K w x ⟨a,len,cap,e,h1,h2,h3,h4,h5⟩ =>
 ⟨a,len,cap,e,by rw [←h.length];exact h1,h2,h3,fun t ht=>by rw [←h.length];exact h4 t ht,fun hne=>by
  have hne':xs≠[]:=fun e=>hne (by have:=h.length;rw [e] at this;exact List.length_eq_zero_iff.1 this.symm)
  obtain ⟨ad,esz,q1,q2,q3⟩:=h5 hne'
  exact ⟨ad,esz,q1,q2,q3.wkR h⟩⟩
def unitN:ByteArray:=⟨#[85,110,105,116]⟩
def boolN:ByteArray:=⟨#[66,111,111,108]⟩
def falseN:ByteArray:=⟨#[70,97,108,115,101]⟩
def trueN:ByteArray:=⟨#[84,114,117,101]⟩
def nilN:ByteArray:=⟨#[78,105,108]⟩
def consN:ByteArray:=⟨#[67,111,110,115]⟩
def pairN:ByteArray:=⟨#[80,97,105,114]⟩
def natN:ByteArray:=⟨#[78,97,116]⟩
def zeroN:ByteArray:=⟨#[90,101,114,111]⟩
def succN:ByteArray:=⟨#[83,117,99,99]⟩
def baseD:List Dat :=
 [⟨unitN,[],[⟨unitN,[]⟩]⟩,
 ⟨boolN,[],[⟨falseN,[]⟩,⟨trueN,[]⟩]⟩,
 ⟨listN,[aS],[⟨nilN,[]⟩,⟨consN,[.mk aS [],.mk listN [.mk aS []]]⟩]⟩,
 ⟨pairN,[aS,bS],[⟨pairN,[.mk aS [],.mk bS []]⟩]⟩,
 ⟨natN,[],[⟨zeroN,[]⟩,⟨succN,[.mk natN []]⟩]⟩]
def allD (d:DeclsD):List Dat:=baseD++d.datas
def ixI:Option Nat→Int | some i=>i | none=>-1
def placeI (l:List ByteArray) (s:ByteArray):Int:=ixI (l.findIdx? fun x=>decide (x=s))
def classI (l:List ClsD) (n:ByteArray):Int:=ixI (l.findIdx? fun x=>decide (x.name=n))
def instI (l:List InstD) (c n:ByteArray):Int:=ixI (l.findIdx? fun x=>decide (x.cls=c) && decide (x.data=n))
def zeroDat:Dat:=⟨⟨#[]⟩,[],[]⟩
def namedD (d:DeclsD) (n:ByteArray):Dat × Bool:=if n=intN then (⟨intN,[],[]⟩,true) else match (allD d).find? fun x=>decide (x.name=n) with | some x=>(x,true) | none=>(zeroDat,false)
theorem ix_at {α:Type} {p:α→Bool} {l:List α} {k:Nat} {x:α} (hk:l[k]?=some x) (hx:p x=true) (h:∀ y∈l.take k,p y=false):l.findIdx? p=some k:=by
 obtain ⟨hl,rfl⟩:=List.getElem?_eq_some_iff.1 hk
 rw [List.findIdx?_eq_some_iff_getElem]
 refine ⟨hl,hx,fun j hj=>?_⟩
 have:=h l[j] (List.mem_of_getElem? (i:=j) (by rw [List.getElem?_take_of_lt hj];exact List.getElem?_eq_getElem (by omega)))
 simp [this]
theorem ix_none {α:Type} {p:α→Bool} {l:List α} (h:∀ y∈l,p y=false):l.findIdx? p=none:=by
 rw [List.findIdx?_eq_none_iff];exact h
theorem find_at {α:Type} {p:α→Bool} {l:List α} {k:Nat} {x:α} (hk:l[k]?=some x) (hx:p x=true) (h:∀ y∈l.take k,p y=false):l.find? p=some x:=by
 obtain ⟨hl,rfl⟩:=List.getElem?_eq_some_iff.1 hk
 rw [List.find?_eq_some_iff_getElem]
 refine ⟨hx,k,hl,rfl,fun j hj=>?_⟩
 have:=h l[j] (List.mem_of_getElem? (i:=j) (by rw [List.getElem?_take_of_lt hj];exact List.getElem?_eq_getElem (by omega)))
 simp [this]
theorem find_none {α:Type} {p:α→Bool} {l:List α} (h:∀ y∈l,p y=false):l.find? p=none:=by
 rw [List.find?_eq_none];intro x hx;simp [h x hx]
theorem take_all {α:Type} {p:α→Prop} {l:List α} {k:Nat} {x:α} (hk:l[k]?=some x) (hx:p x) (h:∀ y∈l.take k,p y):∀ y∈l.take (k+1),p y:=by
 intro y hy
 rw [take_one hk,List.mem_append] at hy
 rcases hy with hy | hy
 ·exact h y hy
 ·simp only [List.mem_singleton] at hy;subst hy;exact hx
end Go.Proofs.YtdppfcbeiplckaaGreat
