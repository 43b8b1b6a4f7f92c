/- Types and substitutions that came in. -/
import Derived.Test.YtgeehnbbhnpimaaGreatMX
import Derived.Test.YtgeehnbbhnpimaaGreatMP2
import Derived.Deep.Slices
set_option linter.unusedVariables false
set_option linter.unusedSimpArgs false
namespace Go.Proofs.YtgeehnbbhnpimaaGreat
open Go Go.Abs Go.Proofs Go.ChangeShapes Go.WideShapes Go.Deep
set_option maxRecDepth 100000
theorem cellsTy:Tryz.prog.cellsOf 24=2:=by kernel_rfl
theorem cellsStr:Tryz.prog.cellsOf 9=1:=by kernel_rfl
theorem cellsTys:Tryz.prog.cellsOf 22=1:=by kernel_rfl
theorem cellsBind:Tryz.prog.cellsOf 48=3:=by kernel_rfl
section
variable {H:Type} {enc:TypeId × Value→H} {w:World} {spare:Nat→Bool} {held:Bool}
theorem read_ty:∀ (fuel:Nat) (cs:List Value) (x:DataW H × List MemPlace),DataW.trod enc Tryz.prog w 0 spare held fuel 24 cs=some x→∃ t:Ty,RepL (KW.all w) w t.cells cs∧∀ c∈cs,c.oneCell'=true:=by
 intro fuel
 induction fuel using Nat.strongRecOn with
 | _ fuel ih =>
 intro cs x h
 obtain ⟨xs,n,rfl,rfl,hl,hxs,hf⟩:=DataW.trod_struct Tryz.underlying24 h
 rw [cellsTy] at hl
 obtain ⟨c0,c1,rfl⟩:∃ c0 c1,cs=[c0,c1]:=by
  match cs,hl with
  | [a,b],_=>exact ⟨a,b,rfl⟩
 have h0:DataW.trod enc Tryz.prog w 0 spare held n 9 (([c0,c1].drop 0).take (Tryz.prog.cellsOf 9))=xs[0]?:=hf 0 _ rfl
 have h1:DataW.trod enc Tryz.prog w 0 spare held n 22 (([c0,c1].drop 1).take (Tryz.prog.cellsOf 22))=xs[1]?:=hf 1 _ rfl
 simp only [cellsStr,cellsTys,List.drop_zero,List.take_succ_cons,List.take_zero,List.drop_succ_cons] at h0 h1
 obtain ⟨y0,hy0⟩:∃ y,xs[0]?=some y:=⟨_,List.getElem?_eq_getElem (by rw [hxs];simp)⟩
 obtain ⟨y1,hy1⟩:∃ y,xs[1]?=some y:=⟨_,List.getElem?_eq_getElem (by rw [hxs];simp)⟩
 rw [hy0] at h0
 rw [hy1] at h1
 obtain ⟨s,hs,_,_⟩:=DataW.trod_string Tryz.underlying9 h0
 simp only [List.cons.injEq,and_true] at hs
 subst hs
 rcases DataW.trod_slice Tryz.underlying22 h1 with ⟨hc,_⟩ | ⟨a,len,cap,elems,rest,m,hm,hc,_,_,hlc,_,hel,hat,_,_⟩
 ·simp only [List.cons.injEq,and_true] at hc
  subst hc
  exact ⟨.mk s [],⟨_,_,rfl,rfl,_,_,rfl,rep_nil,rfl⟩,by simp [Value.oneCell']⟩
 ·simp only [List.cons.injEq,and_true] at hc
  subst hc
  have hex:∀ i,i < len→∃ t:Ty,∃ cs,w.cells? 0 (a.add (i * 2)) 2=some cs∧RepL (KW.all w) w t.cells cs∧∀ c∈cs,c.oneCell'=true:=by
   intro i hi
   have h2:=hat i hi
   rw [cellsTy] at h2
   have h3:elems[i]?=some elems[i]:=List.getElem?_eq_getElem (by omega)
   rw [h3] at h2
   cases hcs:w.cells? 0 (a.add (i * 2)) 2 with
   | none=>rw [hcs] at h2;cases h2
   | some cs =>
    rw [hcs] at h2
    obtain ⟨t,h4,h5⟩:=ih m (by omega) cs _ h2
    exact ⟨t,cs,rfl,h4,h5⟩
  have hfun:∃ T:Nat→Ty,∀ i,i < len→∃ cs,w.cells? 0 (a.add (i * 2)) 2=some cs∧RepL (KW.all w) w (T i).cells cs∧∀ c∈cs,c.oneCell'=true:=by
   classical
   exact ⟨fun i=>if hi:i < len then (hex i hi).choose else zeroTy,fun i hi=>by simp only [dif_pos hi];exact (hex i hi).choose_spec⟩
  obtain ⟨T,hT⟩:=hfun
  refine ⟨.mk s ((List.range len).map T),⟨_,_,rfl,rfl,_,_,rfl,?_,rfl⟩,by simp [Value.oneCell']⟩
  rw [cellsL_eq]
  refine rep_slice (esz:=2) (by simp) hlc (fun i r hr=>?_) (by omega)
  simp only [List.map_map,List.getElem?_map,Option.map_eq_some_iff] at hr
  obtain ⟨j,hj,rfl⟩:=hr
  have hil:i < len:=by
   rcases Nat.lt_or_ge i len with h | h
   ·exact h
   ·rw [List.getElem?_eq_none (by simpa using h)] at hj;cases hj
  rw [List.getElem?_range hil] at hj
  simp only [Option.some.injEq] at hj
  subst hj
  exact hT i hil
theorem read_bind (fuel:Nat) (cs:List Value) (x:DataW H × List MemPlace) (h:DataW.trod enc Tryz.prog w 0 spare held fuel 48 cs=some x):∃ p:ByteArray × Ty,RepL (KW.all w) w (bindC p) cs∧∀ c∈cs,c.oneCell'=true:=by
 obtain ⟨xs,n,rfl,rfl,hl,hxs,hf⟩:=DataW.trod_struct Tryz.underlying48 h
 rw [cellsBind] at hl
 obtain ⟨c0,c1,c2,rfl⟩:∃ c0 c1 c2,cs=[c0,c1,c2]:=by
  match cs,hl with
  | [a,b,c],_=>exact ⟨a,b,c,rfl⟩
 have h0:DataW.trod enc Tryz.prog w 0 spare held n 9 (([c0,c1,c2].drop 0).take (Tryz.prog.cellsOf 9))=xs[0]?:=hf 0 _ rfl
 have h1:DataW.trod enc Tryz.prog w 0 spare held n 24 (([c0,c1,c2].drop 1).take (Tryz.prog.cellsOf 24))=xs[1]?:=hf 1 _ rfl
 simp only [cellsStr,cellsTy,List.drop_zero,List.take_succ_cons,List.take_zero,List.drop_succ_cons] at h0 h1
 obtain ⟨y0,hy0⟩:∃ y,xs[0]?=some y:=⟨_,List.getElem?_eq_getElem (by rw [hxs];simp)⟩
 obtain ⟨y1,hy1⟩:∃ y,xs[1]?=some y:=⟨_,List.getElem?_eq_getElem (by rw [hxs];simp)⟩
 rw [hy0] at h0
 rw [hy1] at h1
 obtain ⟨s,hs,_,_⟩:=DataW.trod_string Tryz.underlying9 h0
 simp only [List.cons.injEq,and_true] at hs
 subst hs
 obtain ⟨t,ht,ho⟩:=read_ty n _ _ h1
 exact ⟨(s,t),⟨_,_,rfl,rfl,ht⟩,fun c hc=>by
  rcases List.mem_cons.1 hc with rfl | hc
  ·rfl
  ·exact ho c hc⟩
theorem read_binds {v:Value} {d:DataW H} {ps:List MemPlace} (h:DataW.Trod enc Tryz.prog w 0 spare held 25 v d ps) (a:Option Addr) (len cap:Nat) (hv:v=.slice a len cap):∃ l:TyM,(l=[]∨∃ elems rest,d=.slice elems rest∧l.length=elems.length)∧Rep (KW.all w) w (.slice (l.map bindC) none) v:=by
 subst hv
 obtain ⟨fuel,h⟩:=h
 rcases DataW.trod_slice Tryz.underlying25 h with ⟨hc,_⟩ | ⟨a',len',cap',elems,rest,m,hm,hc,hd,_,hlc,hcm,hel,hat,_,_⟩
 ·simp only [Value.cells,List.cons.injEq,and_true] at hc
  have:Value.slice a len cap=.slice none 0 0:=by simpa [Value.cells] using hc
  rw [this]
  exact ⟨[],.inl rfl,rep_nil⟩
 ·have hc':Value.slice a len cap=.slice (some a') len' cap':=by simpa [Value.cells] using hc
  rw [hc']
  have hex:∀ i,i < len'→∃ p:ByteArray × Ty,∃ cs,w.cells? 0 (a'.add (i * 3)) 3=some cs∧RepL (KW.all w) w (bindC p) cs∧∀ c∈cs,c.oneCell'=true:=by
   intro i hi
   have h2:=hat i hi
   rw [cellsBind] at h2
   have h3:elems[i]?=some elems[i]:=List.getElem?_eq_getElem (by omega)
   rw [h3] at h2
   cases hcs:w.cells? 0 (a'.add (i * 3)) 3 with
   | none=>rw [hcs] at h2;cases h2
   | some cs =>
    rw [hcs] at h2
    obtain ⟨t,h4,h5⟩:=read_bind m cs _ h2
    exact ⟨t,cs,rfl,h4,h5⟩
  have hfun:∃ T:Nat→ByteArray × Ty,∀ i,i < len'→∃ cs,w.cells? 0 (a'.add (i * 3)) 3=some cs∧RepL (KW.all w) w (bindC (T i)) cs∧∀ c∈cs,c.oneCell'=true:=by
   classical
   exact ⟨fun i=>if hi:i < len' then (hex i hi).choose else (ByteArray.empty,zeroTy),fun i hi=>by simp only [dif_pos hi];exact (hex i hi).choose_spec⟩
  obtain ⟨T,hT⟩:=hfun
  refine ⟨(List.range len').map T,?_,rep_slice (esz:=3) (by simp) hlc (fun i r hr=>?_) (by omega)⟩
  ·simp only [Prod.mk.injEq] at hd
   exact .inr ⟨_,_,hd.1,by simp [hel]⟩
  simp only [List.map_map,List.getElem?_map,Option.map_eq_some_iff] at hr
  obtain ⟨j,hj,rfl⟩:=hr
  have hil:i < len':=by
   rcases Nat.lt_or_ge i len' with h | h
   ·exact h
   ·rw [List.getElem?_eq_none (by simpa using h)] at hj;cases hj
  rw [List.getElem?_range hil] at hj
  simp only [Option.some.injEq] at hj
  subst hj
  exact hT i hil
theorem read_arg {r:Reach} {b0:Nat} {v:Value} {d:DataW H} {ps:List MemPlace} (hv:Value.okWide Tryz.prog w r b0 24 v) (h:DataW.Trod enc Tryz.prog w 0 spare held 24 v d ps):∃ t:Ty,Rep (KW.all w) w t.enc v:=by
 obtain ⟨cs,rfl,_⟩:=okWide_struct Tryz.underlying24 hv
 obtain ⟨fuel,h⟩:=h
 obtain ⟨t,ht,_⟩:=read_ty fuel _ _ h
 exact ⟨t,cs,rfl,ht⟩
end
end Go.Proofs.YtgeehnbbhnpimaaGreat
