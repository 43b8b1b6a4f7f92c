/- What came in, as a proof sees it: all that is there is settled; and what a call leaves of it. -/
import Derived.Test.YtdppfcbeiplckaaGreatMD
import Derived.Carry
import Derived.Below
import Derived.ChangeArms
import Derived.ProofKit
set_option linter.unusedVariables false
set_option linter.unusedSimpArgs false
namespace Go.Abs
open Go Go.ChangeShapes Go.WideShapes Go.ChangeAt Go.RowKit
def KW.all (w:World):KW:=⟨fun _=>none,fun b o=>(w.cell? ⟨b,o,none⟩).isSome=true,fun _ _=>none,fun _ _=>none⟩
def AHeap.none:AHeap:=⟨fun _=>Option.none,0⟩
theorem inv_all (w:World):Inv (KW.all w) w AHeap.none where
 ioLt:=fun _ _ h=>by cases h
 ioInj:=fun _ _ _ h=>by cases h
 ioIm:=fun _ _ _ h=>by cases h
 imLt:=fun b o h=>by
  simp only [KW.all,World.cell?] at h
  rcases Nat.lt_or_ge b w.heap.size with hb | hb
  ·exact hb
  ·have:w.heap[b]?=Option.none:=by simp [hb]
   simp [this] at h
 thLt:=fun _ _ _ h=>by cases h
 thLe:=fun _ _ _ _ h=>by cases h
 bnLt:=fun _ _ _ h=>by cases h
 blk:=fun _ _ h=>by cases h
 tokInj:=fun _ _ _ _ _ _ _ _ _ _ h=>by cases h
theorem below_all {w w':World} {K':KW} {H':AHeap} (h:Ext (KW.all w) w AHeap.none K' w' H'):Below w.heap.size w w' :=
 ⟨h.step.os,h.step.tape,h.step.output,h.step.size,fun k hk=>h.frame k hk fun ⟨i,B,h1,_⟩=>by cases h1⟩
theorem calls_top {P:Program} {f:FuncId} {as:List AV} {c:Value} (h:ACalls P f as AHeap.none (.v c) AHeap.none) (w:World) (cargs:Array Value) (hr:RepL (KW.all w) w as cargs.toList) :
  Calls P f cargs w fun e w'=>e=.returned c∧Below w.heap.size w w' :=
 (h.2 (KW.all w) w cargs (inv_all w) hr).mono fun e w' ⟨K',v,x,H',h1,h2,h3,h4,_⟩=>by
  subst h4
  have:x=c:=h3
  subst this
  exact ⟨h1,below_all h2⟩
theorem add_block (a:Addr) (i:Nat):(a.add i).block=a.block:=by unfold Addr.add;split <;> rfl
theorem add_off (a:Addr) (i:Nat):(a.add i).off=a.off+i:=by unfold Addr.add;split <;> simp_all
theorem repCells_all {w:World} {b:Nat}:∀ {as:List AV} {cs:List Value} {off:Nat},RepL (KW.all w) w as cs→(∀ c∈cs,c.oneCell'=true)→(∀ i c,cs[i]?=some c→w.cell? ⟨b,off+i,Option.none⟩=some c)→RepCells (KW.all w) w b off as
 | [],_,_,_,_,_=>trivial
 | a::as,_,off,⟨y,ys,rfl,h1,h2⟩,ho,hc=>by
  have h0:w.cell? ⟨b,off,Option.none⟩=some y:=hc 0 y rfl
  refine ⟨⟨y,h0,by simp only [KW.all,h0];rfl,ho y (by simp),h1⟩,repCells_all h2 (fun c hm=>ho c (by simp [hm])) fun i c hi=>?_⟩
  have:=hc (i+1) c (by simpa using hi)
  rwa [show off+(i+1)=off+1+i by omega] at this
theorem repRows_all {w:World} {b esz:Nat}:∀ {rows:List (List AV)} {off:Nat},(∀ i r,rows[i]?=some r→r.length=esz∧RepCells (KW.all w) w b (off+i * esz) r)→RepRows (KW.all w) w esz b off rows
 | [],_,_=>trivial
 | r::rs,off,h=>by
  have h0:=h 0 r rfl
  rw [Nat.zero_mul,Nat.add_zero] at h0
  refine ⟨h0.1,h0.2,repRows_all fun i q hq=>?_⟩
  have:=h (i+1) q (by simpa using hq)
  rwa [show off+(i+1) * esz=off+esz+i * esz by rw [Nat.add_mul];omega] at this
theorem rep_slice {w:World} {a:Addr} {len cap esz:Nat} {rows:List (List AV)} (hl:rows.length=len) (hc:len≤cap) (h:∀ i r,rows[i]?=some r→∃ cs,w.cells? 0 (a.add (i * esz)) esz=some cs∧RepL (KW.all w) w r cs∧∀ c∈cs,c.oneCell'=true) (hpos:0 < esz) :
  Rep (KW.all w) w (.slice rows Option.none) (.slice (some a) len cap):=by
 refine ⟨some a,len,cap,rfl,hl.symm,hc,fun h=>(by cases h),fun t h=>(by cases h),fun hne=>?_⟩
 have hat:∀ i r,rows[i]?=some r→∃ cs:List Value,cs.length=esz∧RepL (KW.all w) w r cs∧(∀ c∈cs,c.oneCell'=true)∧∀ j c,cs[j]?=some c→w.cell? ((a.add (i * esz)).add j)=some c:=by
  intro i r hr
  obtain ⟨cs,h1,h2,h3⟩:=h i r hr
  obtain ⟨_,h4,h5⟩:=World.cells?_some h1
  refine ⟨cs,h4,h2,h3,fun j c hj=>?_⟩
  have hjl:j < esz:=by
   rw [←h4]
   rcases Nat.lt_or_ge j cs.length with h' | h'
   ·exact h'
   ·simp [List.getElem?_eq_none h'] at hj
  rw [h5 j hjl,hj]
 have hspot:a.spot=Option.none:=by
  obtain ⟨r,hr⟩:∃ r,rows[0]?=some r:=by
   cases rows with
   | nil=>exact absurd rfl hne
   | cons r rs=>exact ⟨r,rfl⟩
  obtain ⟨cs,h1,_,_,h4⟩:=hat 0 r hr
  obtain ⟨c,hc0⟩:∃ c,cs[0]?=some c:=⟨_,List.getElem?_eq_getElem (by omega)⟩
  have:=World.cell?_spot (h4 0 c hc0)
  simpa [Addr.add] using this
 refine ⟨a,esz,rfl,hspot,repRows_all fun i r hr=>?_⟩
 obtain ⟨cs,h1,h2,h3,h4⟩:=hat i r hr
 refine ⟨by rw [h2.length,h1],repCells_all h2 h3 fun j c hj=>?_⟩
 have h5:=h4 j c hj
 have e:(a.add (i * esz)).add j=⟨a.block,a.off+i * esz+j,Option.none⟩:=by
  have e1:((a.add (i * esz)).add j).block=a.block:=by rw [add_block,add_block]
  have e2:((a.add (i * esz)).add j).off=a.off+i * esz+j:=by rw [add_off,add_off]
  have e3:=World.cell?_spot h5
  cases hq:(a.add (i * esz)).add j with
  | mk b o s=>rw [hq] at e1 e2 e3;simp only at e1 e2 e3;rw [e1,e2,e3]
 rw [e] at h5;exact h5
theorem rep_nil {w:World}:Rep (KW.all w) w (.slice [] Option.none) (.slice Option.none 0 0):=⟨Option.none,0,0,rfl,rfl,Nat.le_refl _,fun _=>rfl,fun _ h=>(by cases h),fun h=>absurd rfl h⟩
end Go.Abs
