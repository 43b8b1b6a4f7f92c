/- The order of texts; maps of types by names that ascend. -/
import Derived.Test.YtdppfcbeiplckaaGreatMW2
set_option linter.unusedVariables false
set_option linter.unusedSimpArgs false
namespace Go.Proofs.YtdppfcbeiplckaaGreat
open Go Go.Abs Go.Proofs
theorem bl_irrefl:∀ l:List UInt8,Op.bytesLess l l=false
 | []=>rfl
 | a::l=>by simp [Op.bytesLess,bl_irrefl l]
theorem bl_trans:∀ {a b c:List UInt8},Op.bytesLess a b=true→Op.bytesLess b c=true→Op.bytesLess a c=true
 | _,[],_,h,_=>by cases ‹List UInt8› <;> simp [Op.bytesLess] at h
 | _,_::_,[],_,h=>by simp [Op.bytesLess] at h
 | [],_::_,_::_,_,_=>rfl
 | x::a,y::b,z::c,h,k=>by
  simp only [Op.bytesLess,Bool.or_eq_true,decide_eq_true_eq,Bool.and_eq_true,beq_iff_eq] at h k ⊢
  rcases h with h | ⟨rfl,h⟩ <;> rcases k with k | ⟨rfl,k⟩
  ·exact .inl (UInt8.lt_trans h k)
  ·exact .inl h
  ·exact .inl k
  ·exact .inr ⟨rfl,bl_trans h k⟩
theorem bl_total:∀ (a b:List UInt8),Op.bytesLess a b=true∨a=b∨Op.bytesLess b a=true
 | [],[]=>.inr (.inl rfl)
 | [],_::_=>.inl rfl
 | _::_,[]=>.inr (.inr rfl)
 | x::a,y::b=>by
  simp only [Op.bytesLess,Bool.or_eq_true,decide_eq_true_eq,Bool.and_eq_true,beq_iff_eq,List.cons.injEq]
  rcases Nat.lt_trichotomy x.toNat y.toNat with h | h | h
  ·exact .inl (.inl h)
  ·obtain rfl:=UInt8.toNat_inj.1 h
   rcases bl_total a b with h | h | h
   ·exact .inl (.inr ⟨rfl,h⟩)
   ·exact .inr (.inl ⟨rfl,h⟩)
   ·exact .inr (.inr (.inr ⟨rfl,h⟩))
  ·exact .inr (.inr (.inl h))
def ltS (a b:ByteArray):Bool:=Op.bytesLess a.toList b.toList
theorem ltS_irrefl (a:ByteArray):ltS a a=false:=bl_irrefl _
theorem ltS_trans {a b c:ByteArray} (h:ltS a b=true) (k:ltS b c=true):ltS a c=true:=bl_trans h k
theorem ltS_total (a b:ByteArray):ltS a b=true∨a=b∨ltS b a=true:=by
 rcases bl_total a.toList b.toList with h | h | h
 ·exact .inl h
 ·refine .inr (.inl ?_)
  rw [ByteArray.toList_eq,ByteArray.toList_eq,Array.toList_inj] at h
  cases a;cases b;simpa using h
 ·exact .inr (.inr h)
abbrev Asc (l:TyM):Prop:=l.Pairwise fun p q=>ltS p.1 q.1=true
theorem asc_unique:∀ {a b:TyM},Asc a→Asc b→a.Perm b→a=b
 | [],b,_,_,h=>by simpa using h.symm.eq_nil
 | p::a,[],_,_,h=>by simpa using h.eq_nil
 | p::a,q::b,ha,hb,h=>by
  have hpq:p=q:=by
   rcases List.mem_cons.1 (h.subset (List.mem_cons_self ..)) with e | h1
   ·exact e
   ·rcases List.mem_cons.1 (h.symm.subset (List.mem_cons_self ..)) with e | h2
    ·exact e.symm
    ·have k1:=List.rel_of_pairwise_cons hb h1
     have k2:=List.rel_of_pairwise_cons ha h2
     have:=ltS_trans k1 k2
     rw [ltS_irrefl] at this;cases this
  subst hpq
  rw [asc_unique ha.of_cons hb.of_cons (List.Perm.cons_inv h)]
def insM (p:ByteArray × Ty):TyM→TyM
 | []=>[p]
 | q::l=>if ltS p.1 q.1 then p::q::l else q::insM p l
def sortM (l:TyM):TyM:=l.foldr insM []
theorem insM_perm (p:ByteArray × Ty):∀ l:TyM,(insM p l).Perm (p::l)
 | []=>.refl _
 | q::l=>by
  simp only [insM]
  split
  ·exact .refl _
  ·exact ((insM_perm p l).cons q).trans (.swap p q l)
theorem sortM_perm:∀ l:TyM,(sortM l).Perm l
 | []=>.refl _
 | p::l=>(insM_perm p _).trans ((sortM_perm l).cons p)
theorem insM_asc {p:ByteArray × Ty}:∀ {l:TyM},Asc l→(∀ q∈l,p.1≠q.1)→Asc (insM p l)
 | [],_,_=>by simp [insM]
 | q::l,h,hn=>by
  simp only [insM]
  split
  ·rename_i hlt
   refine List.Pairwise.cons (fun x hx=>?_) h
   rcases List.mem_cons.1 hx with rfl | hx
   ·exact hlt
   ·exact ltS_trans hlt (List.rel_of_pairwise_cons h hx)
  ·rename_i hlt
   refine List.Pairwise.cons (fun x hx=>?_) (insM_asc h.of_cons fun x hx=>hn x (by simp [hx]))
   rcases List.mem_cons.1 ((insM_perm p l).subset hx) with rfl | hx
   ·rcases ltS_total x.1 q.1 with h1 | h1 | h1
    ·exact absurd h1 hlt
    ·exact absurd h1 (hn q (by simp))
    ·exact h1
   ·exact List.rel_of_pairwise_cons h hx
theorem sortM_asc:∀ {l:TyM},(l.map (·.1)).Nodup→Asc (sortM l)
 | [],_=>.nil
 | p::l,h=>by
  simp only [List.map_cons,List.nodup_cons] at h
  refine insM_asc (sortM_asc h.2) fun q hq e=>h.1 ?_
  rw [e];exact List.mem_map_of_mem ((sortM_perm l).subset hq)
theorem sortM_eq {l r:TyM} (hn:(l.map (·.1)).Nodup) (hp:r.Perm l) (ha:Asc r):r=sortM l:=asc_unique ha (sortM_asc hn) (hp.trans (sortM_perm l).symm)
end Go.Proofs.YtdppfcbeiplckaaGreat
