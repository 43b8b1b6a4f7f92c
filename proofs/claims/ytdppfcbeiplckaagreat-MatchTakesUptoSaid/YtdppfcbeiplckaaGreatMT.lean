/- Trees and values that came in, of bounded bulk. -/
import Derived.Test.YtdppfcbeiplckaaGreatRows
import Derived.Test.YtdppfcbeiplckaaGreatMX
import Derived.Test.YtdppfcbeiplckaaGreatMN1
import Derived.Deep.Slices
import Derived.ChangeArms
set_option linter.unusedVariables false
set_option linter.unusedSimpArgs false
namespace Go.Proofs.YtdppfcbeiplckaaGreat
open Go Go.Abs Go.Proofs Go.ChangeShapes Go.WideShapes Go.Deep
set_option maxRecDepth 100000
theorem cellsVal:Tryz.prog.cellsOf 51=4:=by kernel_rfl
theorem cellsVals:Tryz.prog.cellsOf 26=1:=by kernel_rfl
theorem cellsInt:Tryz.prog.cellsOf 3=1:=by kernel_rfl
theorem cellsInts:Tryz.prog.cellsOf 22=1:=by kernel_rfl
theorem cellsStr:Tryz.prog.cellsOf 9=1:=by kernel_rfl
theorem cellsDTr:Tryz.prog.cellsOf 25=4:=by kernel_rfl
theorem cellsDKd:Tryz.prog.cellsOf 94=6:=by kernel_rfl
theorem cellsDKs:Tryz.prog.cellsOf 23=1:=by kernel_rfl
def BB:Nat:=1048577
section
variable {H:Type} {enc:TypeId × Value→H} {w:World} {spare:Nat→Bool} {held:Bool}
theorem bulk_pos (d:DataW H):1≤Rows.uptoBulk d:=by
 cases d with
 | lit l=>cases l <;> simp [Rows.uptoBulk]
 | nil=>simp [Rows.uptoBulk]
 | ptr d=>simp [Rows.uptoBulk]
 | slice elems spare=>simp [Rows.uptoBulk]
 | agg parts=>simp [Rows.uptoBulk]
 | iface t d=>simp [Rows.uptoBulk]
 | map entries=>simp [Rows.uptoBulk]
 | held h=>simp [Rows.uptoBulk]
theorem bulk_part {d:DataW H} {l:List (DataW H)} (h:d∈l):Rows.uptoBulk d≤Rows.uptoBulkAll l:=by
 induction l with
 | nil=>cases h
 | cons x r ih =>
  simp only [Rows.uptoBulkAll]
  cases List.mem_cons.1 h with
  | inl e=>subst e;omega
  | inr e=>have:=ih e;omega
theorem bulk_len (l:List (DataW H)):l.length≤Rows.uptoBulkAll l:=by
 induction l with
 | nil=>simp [Rows.uptoBulkAll]
 | cons x r ih=>have:=bulk_pos x;simp only [Rows.uptoBulkAll,List.length_cons];omega
theorem readU_fields {t:TypeId} {fs:Array Field} (hu:Tryz.prog.underlying t=some (.struct fs)) {fuel:Nat} {cs:List Value} {x:DataW H × List MemPlace} (h:DataW.trod enc Tryz.prog w 0 spare held fuel t cs=some x) (hw:Rows.uptoBulk x.1≤1048576) :
  cs.length=Tryz.prog.cellsOf t∧∃ n,n < fuel∧∀ (i:Nat) (f:Field),fs[i]?=some f→∃ y,DataW.trod enc Tryz.prog w 0 spare held n f.type ((cs.drop f.offset).take (Tryz.prog.cellsOf f.type))=some y∧Rows.uptoBulk y.1≤1048576:=by
 obtain ⟨xs,n,rfl,rfl,hl,hxs,hf⟩:=DataW.trod_struct hu h
 refine ⟨hl,n,Nat.lt_succ_self n,fun i f hi=>?_⟩
 have hil:i < xs.length:=by rw [hxs];exact (Array.getElem?_eq_some_iff.1 hi).1
 have e:=hf i f hi
 rw [List.getElem?_eq_getElem hil] at e
 refine ⟨xs[i],e,?_⟩
 have:=bulk_part (List.mem_map.2 ⟨xs[i],List.getElem_mem hil,rfl⟩:xs[i].1∈xs.map (·.1))
 simp only [Rows.uptoBulk] at hw
 omega
theorem readU_row {α:Type} (C:α→List AV) (R:α→Prop) (d0:α) (esz:Nat) {st e:TypeId} (hu:Tryz.prog.underlying st=some (.slice e)) (hce:Tryz.prog.cellsOf e=esz) (hCl:∀ p,(C p).length=esz) (he0:0 < esz)
  (fuel:Nat) (hel:∀ m,m < fuel→∀ cs x,DataW.trod enc Tryz.prog w 0 spare held m e cs=some x→Rows.uptoBulk x.1≤1048576→∃ p:α,R p∧RepL (KW.all w) w (C p) cs∧∀ c∈cs,c.oneCell'=true)
  (c:Value) (x:DataW H × List MemPlace) (h:DataW.trod enc Tryz.prog w 0 spare held fuel st [c]=some x) (hw:Rows.uptoBulk x.1≤1048576) :
  ∃ l:List α,l.length < BB∧(∀ p∈l,R p)∧Rep (KW.all w) w (.slice (l.map C) none) c∧c.oneCell'=true:=by
 rcases DataW.trod_slice hu h with ⟨hc,_⟩ | ⟨a,len,cap,elems,rest,m,hm,hc,hx,_,hlc,_,hln,hat,_,_⟩
 ·simp only [List.cons.injEq,and_true] at hc
  subst hc
  exact ⟨[],by simp [BB],by simp,rep_nil,rfl⟩
 ·simp only [List.cons.injEq,and_true] at hc
  subst hc
  subst hx
  simp only [Rows.uptoBulk] at hw
  have hlen:len < BB:=by
   have:=bulk_len (elems.map (·.1))
   rw [List.length_map] at this
   unfold BB
   omega
  have hex:∀ i,i < len→∃ p:α,R p∧∃ cs,w.cells? 0 (a.add (i * esz)) esz=some cs∧RepL (KW.all w) w (C p) cs∧∀ c∈cs,c.oneCell'=true:=by
   intro i hi
   have h2:=hat i hi
   rw [hce] at h2
   have h3:elems[i]?=some elems[i]:=List.getElem?_eq_getElem (by omega)
   rw [h3] at h2
   cases hcs:w.cells? 0 (a.add (i * esz)) esz with
   | none=>rw [hcs] at h2;cases h2
   | some cs =>
    rw [hcs] at h2
    have:=bulk_part (List.mem_map.2 ⟨elems[i],List.getElem_mem _,rfl⟩:elems[i].1∈elems.map (·.1))
    obtain ⟨t,hR,h4,h5⟩:=hel m (by omega) cs _ h2 (by omega)
    exact ⟨t,hR,cs,rfl,h4,h5⟩
  have hfun:∃ T:Nat→α,∀ i,i < len→R (T i)∧∃ cs,w.cells? 0 (a.add (i * esz)) esz=some cs∧RepL (KW.all w) w (C (T i)) cs∧∀ c∈cs,c.oneCell'=true:=by
   classical
   exact ⟨fun i=>if hi:i < len then (hex i hi).choose else d0,fun i hi=>by simp only [dif_pos hi];exact (hex i hi).choose_spec⟩
  obtain ⟨T,hT⟩:=hfun
  refine ⟨(List.range len).map T,by simpa using hlen,fun p hp=>?_,rep_slice (esz:=esz) (by simp) hlc (fun i r hr=>?_) (by omega),rfl⟩
  ·obtain ⟨i,hi,rfl⟩:=List.mem_map.1 hp
   exact (hT i (by simpa using hi)).1
  simp only [List.map_map,List.getElem?_map,Option.map_eq_some_iff] at hr
  obtain ⟨j,hj,rfl⟩:=hr
  have hil:i < len:=by
   rcases Nat.lt_or_ge i len with h | h
   ·exact h
   ·rw [List.getElem?_eq_none (by simpa using h)] at hj;cases hj
  rw [List.getElem?_range hil] at hj
  simp only [Option.some.injEq] at hj
  subst hj
  exact (hT i hil).2
theorem readU_str {fuel:Nat} {c:Value} {x:DataW H × List MemPlace} (h:DataW.trod enc Tryz.prog w 0 spare held fuel 9 [c]=some x):∃ s:ByteArray,c=.string s:=by
 obtain ⟨s,hs,_,_⟩:=DataW.trod_string Tryz.underlying9 h
 simp only [List.cons.injEq,and_true] at hs
 exact ⟨s,hs⟩
theorem readU_int {fuel:Nat} {c:Value} {x:DataW H × List MemPlace} (h:DataW.trod enc Tryz.prog w 0 spare held fuel 3 [c]=some x):∃ n:Int,c=.int .i64 n:=by
 obtain ⟨n,hn,_,_⟩:=DataW.trod_int Tryz.underlying3 h
 simp only [List.cons.injEq,and_true] at hn
 exact ⟨n,hn⟩
theorem readU_ints (fuel:Nat) (c:Value) (x:DataW H × List MemPlace) (h:DataW.trod enc Tryz.prog w 0 spare held fuel 22 [c]=some x) (hw:Rows.uptoBulk x.1≤1048576) :
  ∃ l:List Int,l.length < BB∧Rep (KW.all w) w (.slice (l.map intR) none) c∧c.oneCell'=true:=by
 obtain ⟨l,h1,_,h2,h3⟩:=readU_row intR (fun _=>True) 0 1 Tryz.underlying22 cellsInt (fun _=>rfl) (by omega) fuel (fun _ _ cs x h _=>by
  obtain ⟨n,rfl,_,_⟩:=DataW.trod_int Tryz.underlying3 h
  exact ⟨n,trivial,⟨_,_,rfl,rfl,rfl⟩,by simp [Value.oneCell']⟩) c x h hw
 exact ⟨l,h1,h2,h3⟩
theorem readU_nd:∀ (fuel:Nat) (cs:List Value) (x:DataW H × List MemPlace),DataW.trod enc Tryz.prog w 0 spare held fuel 51 cs=some x→Rows.uptoBulk x.1≤1048576→∃ t:Nd,t.Sh BB∧RepL (KW.all w) w t.cells cs∧∀ c∈cs,c.oneCell'=true:=by
 intro fuel
 induction fuel using Nat.strongRecOn with
 | _ fuel ih =>
 intro cs x h hw
 obtain ⟨hl,n,hn,hf⟩:=readU_fields Tryz.underlying51 h hw
 rw [cellsVal] at hl
 obtain ⟨c0,c1,c2,c3,rfl⟩:∃ c0 c1 c2 c3,cs=[c0,c1,c2,c3]:=by
  match cs,hl with
  | [a,b,c,d],_=>exact ⟨a,b,c,d,rfl⟩
 obtain ⟨y0,h0,w0⟩:=hf 0 _ rfl
 replace h0:DataW.trod enc Tryz.prog w 0 spare held n 3 (([c0,c1,c2,c3].drop 0).take (Tryz.prog.cellsOf 3))=some y0:=h0
 obtain ⟨y1,h1,w1⟩:=hf 1 _ rfl
 replace h1:DataW.trod enc Tryz.prog w 0 spare held n 9 (([c0,c1,c2,c3].drop 1).take (Tryz.prog.cellsOf 9))=some y1:=h1
 obtain ⟨y2,h2,w2⟩:=hf 2 _ rfl
 replace h2:DataW.trod enc Tryz.prog w 0 spare held n 3 (([c0,c1,c2,c3].drop 2).take (Tryz.prog.cellsOf 3))=some y2:=h2
 obtain ⟨y3,h3,w3⟩:=hf 3 _ rfl
 replace h3:DataW.trod enc Tryz.prog w 0 spare held n 26 (([c0,c1,c2,c3].drop 3).take (Tryz.prog.cellsOf 26))=some y3:=h3
 simp only [cellsStr,cellsInt,cellsVals,List.drop_zero,List.take_succ_cons,List.take_zero,List.drop_succ_cons] at h0 h1 h2 h3
 obtain ⟨o,rfl⟩:=readU_int h0
 obtain ⟨s,rfl⟩:=readU_str h1
 obtain ⟨m,rfl⟩:=readU_int h2
 obtain ⟨l,hll,hls,hr,ho⟩:=readU_row Nd.cells (Nd.Sh BB) (.mk 0 ByteArray.empty 0 []) 4 Tryz.underlying26 cellsVal Nd.cells_length (by omega) n (fun m hm cs x h hw=>ih m (by omega) cs x h hw) c3 y3 h3 w3
 refine ⟨.mk o s m l,.mk hll hls,⟨_,_,rfl,rfl,_,_,rfl,rfl,_,_,rfl,rfl,_,_,rfl,?_,rfl⟩,?_⟩
 ·rw [cellsNd_eq];exact hr
 ·intro c hc
  simp only [List.mem_cons,List.not_mem_nil,or_false] at hc
  rcases hc with rfl | rfl | rfl | rfl
  ·rfl
  ·rfl
  ·rfl
  ·exact ho
theorem readU_dt:∀ (fuel:Nat) (s:ByteArray) (i:Int) (cs:List Value) (x:DataW H × List MemPlace),DataW.trod enc Tryz.prog w 0 spare held fuel 25 cs=some x→Rows.uptoBulk x.1≤1048576→∃ t:DT,(∃ k p r l,t=.mk s i k p r l)∧t.Sh BB∧RepL (KW.all w) w t.cells cs∧∀ c∈cs,c.oneCell'=true:=by
 intro fuel
 induction fuel using Nat.strongRecOn with
 | _ fuel ih =>
 intro s i cs x h hw
 obtain ⟨hl,n,hn,hf⟩:=readU_fields Tryz.underlying25 h hw
 rw [cellsDTr] at hl
 obtain ⟨c0,c1,c2,c3,rfl⟩:∃ c0 c1 c2 c3,cs=[c0,c1,c2,c3]:=by
  match cs,hl with
  | [a,b,c,d],_=>exact ⟨a,b,c,d,rfl⟩
 obtain ⟨y0,h0,w0⟩:=hf 0 _ rfl
 replace h0:DataW.trod enc Tryz.prog w 0 spare held n 3 (([c0,c1,c2,c3].drop 0).take (Tryz.prog.cellsOf 3))=some y0:=h0
 obtain ⟨y1,h1,w1⟩:=hf 1 _ rfl
 replace h1:DataW.trod enc Tryz.prog w 0 spare held n 22 (([c0,c1,c2,c3].drop 1).take (Tryz.prog.cellsOf 22))=some y1:=h1
 obtain ⟨y2,h2,w2⟩:=hf 2 _ rfl
 replace h2:DataW.trod enc Tryz.prog w 0 spare held n 22 (([c0,c1,c2,c3].drop 2).take (Tryz.prog.cellsOf 22))=some y2:=h2
 obtain ⟨y3,h3,w3⟩:=hf 3 _ rfl
 replace h3:DataW.trod enc Tryz.prog w 0 spare held n 23 (([c0,c1,c2,c3].drop 3).take (Tryz.prog.cellsOf 23))=some y3:=h3
 simp only [cellsInt,cellsInts,cellsDKs,List.drop_zero,List.take_succ_cons,List.take_zero,List.drop_succ_cons] at h0 h1 h2 h3
 obtain ⟨k,rfl⟩:=readU_int h0
 obtain ⟨p,hpl,hp,hpo⟩:=readU_ints n c1 y1 h1 w1
 obtain ⟨r,hrl,hr,hro⟩:=readU_ints n c2 y2 h2 w2
 obtain ⟨l,hll,hls,hk,hko⟩:=readU_row DT.kcells (DT.Sh BB) (.mk ByteArray.empty 0 0 [] [] []) 6 Tryz.underlying23 cellsDKd DT.kcells_length (by omega) n (fun m hm cs x h hw=>by
  obtain ⟨hl2,n2,hn2,hf2⟩:=readU_fields Tryz.underlying94 h hw
  rw [cellsDKd] at hl2
  obtain ⟨d0,d1,d2,d3,d4,d5,rfl⟩:∃ d0 d1 d2 d3 d4 d5,cs=[d0,d1,d2,d3,d4,d5]:=by
   match cs,hl2 with
   | [a,b,c,d,e,f],_=>exact ⟨a,b,c,d,e,f,rfl⟩
  obtain ⟨z0,g0,v0⟩:=hf2 0 _ rfl
  replace g0:DataW.trod enc Tryz.prog w 0 spare held n2 9 (([d0,d1,d2,d3,d4,d5].drop 0).take (Tryz.prog.cellsOf 9))=some z0:=g0
  obtain ⟨z1,g1,v1⟩:=hf2 1 _ rfl
  replace g1:DataW.trod enc Tryz.prog w 0 spare held n2 3 (([d0,d1,d2,d3,d4,d5].drop 1).take (Tryz.prog.cellsOf 3))=some z1:=g1
  obtain ⟨z2,g2,v2⟩:=hf2 2 _ rfl
  replace g2:DataW.trod enc Tryz.prog w 0 spare held n2 25 (([d0,d1,d2,d3,d4,d5].drop 2).take (Tryz.prog.cellsOf 25))=some z2:=g2
  simp only [cellsStr,cellsInt,cellsDTr,List.drop_zero,List.take_succ_cons,List.take_zero,List.drop_succ_cons] at g0 g1 g2
  obtain ⟨ks,rfl⟩:=readU_str g0
  obtain ⟨kn,rfl⟩:=readU_int g1
  obtain ⟨t,⟨k',p',r',l',rfl⟩,hsh,hrep,hone⟩:=ih n2 (by omega) ks kn _ _ g2 v2
  refine ⟨.mk ks kn k' p' r' l',hsh,⟨_,_,rfl,rfl,_,_,rfl,rfl,hrep⟩,?_⟩
  intro c hc
  simp only [List.mem_cons,List.not_mem_nil,or_false] at hc
  rcases hc with rfl | rfl | rfl | rfl | rfl | rfl
  ·rfl
  ·rfl
  ·exact hone _ (by simp)
  ·exact hone _ (by simp)
  ·exact hone _ (by simp)
  ·exact hone _ (by simp)) c3 y3 h3 w3
 refine ⟨.mk s i k p r l,⟨k,p,r,l,rfl⟩,.mk hpl hrl hll hls,⟨_,_,rfl,rfl,_,_,rfl,hp,_,_,rfl,hr,_,_,rfl,?_,rfl⟩,?_⟩
 ·rw [cellsDT_eq];exact hk
 ·intro c hc
  simp only [List.mem_cons,List.not_mem_nil,or_false] at hc
  rcases hc with rfl | rfl | rfl | rfl
  ·rfl
  ·exact hpo
  ·exact hro
  ·exact hko
theorem readU_argD {r:Reach} {b0:Nat} {v:Value} {d:DataW H} {ps:List MemPlace} (hv:Value.okWide Tryz.prog w r b0 25 v) (h:DataW.Trod enc Tryz.prog w 0 spare held 25 v d ps) (hw:Rows.uptoBulk d≤1048576):∃ t:DT,t.Sh BB∧Rep (KW.all w) w t.enc v:=by
 obtain ⟨cs,rfl,_⟩:=okWide_struct Tryz.underlying25 hv
 obtain ⟨fuel,h⟩:=h
 obtain ⟨t,_,hs,ht,_⟩:=readU_dt fuel ByteArray.empty 0 _ _ h hw
 exact ⟨t,hs,cs,rfl,ht⟩
theorem readU_argV {v:Value} {d:DataW H} {ps:List MemPlace} (h:DataW.Trod enc Tryz.prog w 0 spare held 26 v d ps) (hw:Rows.uptoBulk d≤1048576) (hv:v.cells=#[v]):∃ l:List Nd,(l.length < BB∧∀ x∈l,x.Sh BB)∧Rep (KW.all w) w (.slice (l.map Nd.cells) none) v:=by
 obtain ⟨fuel,h⟩:=h
 rw [hv] at h
 obtain ⟨l,hl,hs,hr,_⟩:=readU_row Nd.cells (Nd.Sh BB) (.mk 0 ByteArray.empty 0 []) 4 Tryz.underlying26 cellsVal Nd.cells_length (by omega) fuel (fun m hm cs x h hw=>readU_nd m cs x h hw) v (d,ps) h hw
 exact ⟨l,⟨hl,hs⟩,hr⟩
end
end Go.Proofs.YtdppfcbeiplckaaGreat
