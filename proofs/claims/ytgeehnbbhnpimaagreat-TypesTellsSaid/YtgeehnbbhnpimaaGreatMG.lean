/- For every input TypesTells returns true, and each argument reads behind the call as it read before; no conditions. -/
import Derived.Test.YtgeehnbbhnpimaaGreatRows
import Derived.Test.YtgeehnbbhnpimaaGreatMT
import Derived.Test.YtgeehnbbhnpimaaGreatMV8
import Derived.SizedLaws
import Derived.ChangeOld
import Derived.OpenShut
set_option linter.unusedVariables false
set_option linter.unusedSimpArgs false
namespace Go.Proofs.YtgeehnbbhnpimaaGreat
open Go Go.Abs Go.Proofs Go.ChangeShapes Go.WideShapes Go.ChangeAt Go.RowKit Go.Deep
theorem own:ownKnob Tryz.prog.godebug=none:=by kernel_rfl
theorem laidOut:laidOutB Tryz.prog=true:=by kernel_rfl
theorem bytesBind:Tryz.prog.bytesOf 48=56:=by kernel_rfl
theorem bytesStr:Tryz.prog.bytesOf 9=16:=by kernel_rfl
theorem bytesInt:Tryz.prog.bytesOf 3=8:=by kernel_rfl
theorem cellsInt:Tryz.prog.cellsOf 3=1:=by kernel_rfl
section
variable {H:Type} {enc:TypeId × Value→H} {w:World} {spare:Nat→Bool} {held:Bool}
theorem read_ones {α:Type} (f:α→AV) (d0:α) {st e:TypeId} (hu:Tryz.prog.underlying st=some (.slice e)) (hc1:Tryz.prog.cellsOf e=1)
  (hone:∀ fuel cs x,DataW.trod enc Tryz.prog w 0 spare held fuel e cs=some x→∃ s:α,RepL (KW.all w) w [f s] cs∧∀ c∈cs,c.oneCell'=true)
  {v:Value} {d:DataW H} {ps:List MemPlace} (h:DataW.Trod enc Tryz.prog w 0 spare held st v d ps) (a:Option Addr) (len cap:Nat) (hv:v=.slice a len cap):∃ l:List α,(l=[]∨∃ elems rest,d=.slice elems rest∧l.length=elems.length)∧Rep (KW.all w) w (.slice (l.map fun s=>[f s]) none) v:=by
 subst hv
 obtain ⟨fuel,h⟩:=h
 rcases DataW.trod_slice hu h with ⟨hc,_⟩ | ⟨a',len',cap',elems,rest,m,hm,hc,hd,_,hlc,hcm,hel,hat,_,_⟩
 ·simp only [Value.cells,List.cons.injEq,and_true] at hc
  have:Value.slice a len cap=.slice none 0 0:=by simpa [Value.cells] using hc
  rw [this]
  exact ⟨[],.inl rfl,rep_nil⟩
 ·have hc':Value.slice a len cap=.slice (some a') len' cap':=by simpa [Value.cells] using hc
  rw [hc']
  have hex:∀ i,i < len'→∃ p:α,∃ cs,w.cells? 0 (a'.add (i * 1)) 1=some cs∧RepL (KW.all w) w [f p] cs∧∀ c∈cs,c.oneCell'=true:=by
   intro i hi
   have h2:=hat i hi
   rw [hc1] at h2
   have h3:elems[i]?=some elems[i]:=List.getElem?_eq_getElem (by omega)
   rw [h3] at h2
   cases hcs:w.cells? 0 (a'.add (i * 1)) 1 with
   | none=>rw [hcs] at h2;cases h2
   | some cs =>
    rw [hcs] at h2
    obtain ⟨t,h4,h5⟩:=hone m cs _ h2
    exact ⟨t,cs,rfl,h4,h5⟩
  have hfun:∃ T:Nat→α,∀ i,i < len'→∃ cs,w.cells? 0 (a'.add (i * 1)) 1=some cs∧RepL (KW.all w) w [f (T i)] cs∧∀ c∈cs,c.oneCell'=true:=by
   classical
   exact ⟨fun i=>if hi:i < len' then (hex i hi).choose else d0,fun i hi=>by simp only [dif_pos hi];exact (hex i hi).choose_spec⟩
  obtain ⟨T,hT⟩:=hfun
  refine ⟨(List.range len').map T,?_,rep_slice (esz:=1) (by simp) hlc (fun i r hr=>?_) (by omega)⟩
  ·simp only [Prod.mk.injEq] at hd
   exact .inr ⟨_,_,hd.1,by simp [hel]⟩
  simp only [List.map_map,List.getElem?_map,Option.map_eq_some_iff] at hr
  obtain ⟨j,hj,rfl⟩:=hr
  have hil:i < len':=by
   rcases Nat.lt_or_ge i len' with h | h
   ·exact h
   ·rw [List.getElem?_eq_none (by simpa using h)] at hj;cases hj
  rw [List.getElem?_range hil] at hj
  simp only [Option.some.injEq] at hj
  subst hj
  exact hT i hil
theorem one_str (fuel:Nat) (cs:List Value) (x:DataW H × List MemPlace) (h:DataW.trod enc Tryz.prog w 0 spare held fuel 9 cs=some x):∃ s:ByteArray,RepL (KW.all w) w [strV s] cs∧∀ c∈cs,c.oneCell'=true:=by
 obtain ⟨s,rfl,_,_⟩:=DataW.trod_string Tryz.underlying9 h
 exact ⟨s,⟨_,_,rfl,rfl,rfl⟩,by simp [Value.oneCell']⟩
theorem one_int (fuel:Nat) (cs:List Value) (x:DataW H × List MemPlace) (h:DataW.trod enc Tryz.prog w 0 spare held fuel 3 cs=some x):∃ i:Int,RepL (KW.all w) w [intV i] cs∧∀ c∈cs,c.oneCell'=true:=by
 obtain ⟨s,rfl,_,_⟩:=DataW.trod_int Tryz.underlying3 h
 exact ⟨s,⟨_,_,rfl,rfl,rfl⟩,by simp [Value.oneCell']⟩
theorem read_text {s:ByteArray} {d:DataW H} {ps:List MemPlace} (h:DataW.Trod enc Tryz.prog w 0 spare held 9 (.string s) d ps):d=.lit (.string s.data.toList):=by
 obtain ⟨fuel,h⟩:=h
 obtain ⟨s',hs,hd,_⟩:=DataW.trod_string Tryz.underlying9 h
 simp only [Value.cells,List.cons.injEq,and_true] at hs
 have:s=s':=by simpa [Value.cells] using hs
 subst this
 simp only [Prod.mk.injEq] at hd
 exact hd.1
end
set_option maxRecDepth 100000 in
theorem tells_lifted (os:Os) (started:os.Started) (H:Type) (enc:TypeId × Value→H) :
  ReturnsInHanded {} Tryz.checked os 3 .any (Rows.typesTellsSpec.pre6 enc Tryz.prog Tryz.f3 Rows.typesTellsRow.domain false) (Rows.typesTellsSpec.post enc Tryz.prog Tryz.f3 false true false false):=by
 refine returnsInHanded_of_change_sized (C:=Tryz.checked) own started (by kernel_rfl) Tryz.func3
  (ChangeSpec.witness6 (enc:=enc) (C:=Tryz.checked) false ⟨#[],#[.agg #[.string ByteArray.empty,.slice none 0 0],.agg #[.string ByteArray.empty,.slice none 0 0],.slice none 0 0,.string ByteArray.empty,.slice none 0 0,.slice none 0 0],[]⟩ 8 (by kernel_rfl) (by kernel_rfl) (by kernel_rfl) (by kernel_rfl)) ?_
 intro W base args ds gs before hval0 hW hcnd hsz0 _
 have hval:∀ (j:Nat) t v,Tryz.f3.params[j]?=some t→args[j]?=some v→Value.okWide Tryz.prog W .any base t v:=hval0
 have hW':=hW
 obtain ⟨p,q,hA0,hV,rfl,hfz,hnd⟩:=hW
 have hA:DataW.TrodAll enc Tryz.prog W 0 (fun _=>true) true Tryz.f3.params.toList args.toList ds p:=hA0
 rw [Tryz.params3] at hA hval
 obtain ⟨v0,vs0,d0,ds0,p0,q0,hargs,rfl,rfl,h0,r0⟩:=trodAll_cons hA
 obtain ⟨v1,vs1,d1,ds1,p1,q1,rfl,rfl,rfl,h1,r1⟩:=trodAll_cons r0
 obtain ⟨v2,vs2,d2,ds2,p2,q2,rfl,rfl,rfl,h2,r2⟩:=trodAll_cons r1
 obtain ⟨v3,vs3,d3,ds3,p3,q3,rfl,rfl,rfl,h3,r3⟩:=trodAll_cons r2
 obtain ⟨v4,vs4,d4,ds4,p4,q4,rfl,rfl,rfl,h4,r4⟩:=trodAll_cons r3
 obtain ⟨v5,vs5,d5,ds5,p5,q5,rfl,rfl,rfl,h5,r5⟩:=trodAll_cons r4
 obtain ⟨rfl,rfl,rfl⟩:=trodAll_nil r5
 obtain rfl:args=#[v0,v1,v2,v3,v4,v5]:=Array.ext' hargs
 obtain ⟨rfl,rfl⟩:=trodVars_none hV
 obtain ⟨a,ha⟩:=read_arg (hval 0 24 v0 rfl rfl) h0
 obtain ⟨b,hb⟩:=read_arg (hval 1 24 v1 rfl rfl) h1
 obtain ⟨a2,len2,cap2,rfl⟩:=okWide_slice Tryz.underlying25 (hval 2 25 v2 rfl rfl)
 obtain ⟨x,rfl⟩:=okWide_string Tryz.underlying9 (hval 3 9 v3 rfl rfl)
 obtain ⟨a4,len4,cap4,rfl⟩:=okWide_slice Tryz.underlying26 (hval 4 26 v4 rfl rfl)
 obtain ⟨a5,len5,cap5,rfl⟩:=okWide_slice Tryz.underlying27 (hval 5 27 v5 rfl rfl)
 obtain ⟨l,hlen,hc⟩:=read_binds h2 a2 len2 cap2 rfl
 obtain ⟨fr,hlen4,hc4⟩:=read_ones strV ByteArray.empty Tryz.underlying26 cellsStr one_str h4 a4 len4 cap4 rfl
 obtain ⟨pd,hlen5,hc5⟩:=read_ones intV 0 Tryz.underlying27 cellsInt one_int h5 a5 len5 cap5 rfl
 obtain rfl:=read_text h3
 have hsz:(DataW.weightsEach Tryz.prog (Tryz.f3.params.toList++Rows.typesTellsSpec.plain.varTypes Tryz.prog) ([d0,d1,d2,.lit (.string x.data.toList),d4,d5]++[])).all (·≤reachBytes)=true:=hsz0
 rw [Tryz.params3] at hsz
 have hll:l.length < 4611686018427387904:=by
  rcases hlen with rfl | ⟨elems,rest,rfl,hl2⟩
  ·simp
  ·have:=sized_slice hsz (j:=2) (t:=25) (e:=48) rfl rfl Tryz.underlying25
   rw [bytesBind] at this
   simp only [reachBytes] at this
   omega
 have hx:x.size < 1152921504606846976:=by
  have:=sized_string hsz (j:=3) (t:=9) rfl rfl
  simp only [reachBytes] at this
  have e:x.data.toList.length=x.size:=rfl
  omega
 have hfl:fr.length < 4611686018427387904:=by
  rcases hlen4 with rfl | ⟨elems,rest,rfl,hl2⟩
  ·simp
  ·have:=sized_slice hsz (j:=4) (t:=26) (e:=9) rfl rfl Tryz.underlying26
   rw [bytesStr] at this
   simp only [reachBytes] at this
   omega
 have hpl:pd.length < 4611686018427387904:=by
  rcases hlen5 with rfl | ⟨elems,rest,rfl,hl2⟩
  ·simp
  ·have:=sized_slice hsz (j:=5) (t:=27) (e:=3) rfl rfl Tryz.underlying27
   rw [bytesInt] at this
   simp only [reachBytes] at this
   omega
 have lt0:∀ x∈p0,x.block < W.heap.size:=by obtain ⟨m,hm⟩:=h0;exact DataW.trod_lt m _ _ _ hm
 have lt1:∀ x∈p1,x.block < W.heap.size:=by obtain ⟨m,hm⟩:=h1;exact DataW.trod_lt m _ _ _ hm
 have lt2:∀ x∈p2,x.block < W.heap.size:=by obtain ⟨m,hm⟩:=h2;exact DataW.trod_lt m _ _ _ hm
 have lt3:∀ x∈p3,x.block < W.heap.size:=by obtain ⟨m,hm⟩:=h3;exact DataW.trod_lt m _ _ _ hm
 have lt4:∀ x∈p4,x.block < W.heap.size:=by obtain ⟨m,hm⟩:=h4;exact DataW.trod_lt m _ _ _ hm
 have lt5:∀ x∈p5,x.block < W.heap.size:=by obtain ⟨m,hm⟩:=h5;exact DataW.trod_lt m _ _ _ hm
 clear hA0 hval0
 refine (calls_top (tells_all a b l x fr pd hll hx hfl hpl AHeap.none) W #[v0,v1,.slice a2 len2 cap2,.string x,.slice a4 len4 cap4,.slice a5 len5 cap5] ⟨_,_,rfl,ha,_,_,rfl,hb,_,_,rfl,hc,_,_,rfl,rfl,_,_,rfl,hc4,_,_,rfl,hc5,rfl⟩).mono fun e W' ⟨he,bel⟩=>?_
 subst he
 exact ⟨_,rfl,_,_,_,[],_,[],hW',trodAll_mk1 (shut_bool Tryz.underlying4 _),(trodAll_cons_mk (Below.trod laidOut (by kernel_rfl) (of_decide_eq_true (by kernel_rfl)) h0 bel lt0) (trodAll_cons_mk (Below.trod laidOut (by kernel_rfl) (of_decide_eq_true (by kernel_rfl)) h1 bel lt1) (trodAll_cons_mk (Below.trod laidOut (by kernel_rfl) (of_decide_eq_true (by kernel_rfl)) h2 bel lt2) (trodAll_cons_mk (Below.trod laidOut (by kernel_rfl) (of_decide_eq_true (by kernel_rfl)) h3 bel lt3) (trodAll_cons_mk (Below.trod laidOut (by kernel_rfl) (of_decide_eq_true (by kernel_rfl)) h4 bel lt4) (trodAll_cons_mk (Below.trod laidOut (by kernel_rfl) (of_decide_eq_true (by kernel_rfl)) h5 bel lt5) trodAll_mk0)))))),rfl,bel.frame _,fun h=>by cases h⟩
theorem tells_holds:Rows.TypesTellsSaid :=
 OpenClaim.holds_of_wide 3 Tryz.f3 rfl rfl rfl rfl rfl rfl rfl ⟨rfl,rfl,rfl,rfl,rfl⟩ rfl rfl rfl rfl rfl (by kernel_rfl) Tryz.func3 (by kernel_rfl)
  (of_decide_eq_true (by kernel_rfl)) (by unfold Func.isWrapper;first | (rw [if_pos (by decide +kernel)];kernel_rfl) | (rw [if_neg (by decide +kernel)];exact ⟨rfl,rfl⟩))
  (fun os started H enc _=>tells_lifted os started H enc)
end Go.Proofs.YtgeehnbbhnpimaaGreat
