/- Declarations that came in. -/
import Derived.Test.YtlhoigpidpokfaaGreatMX
import Derived.Test.YtlhoigpidpokfaaGreatMD2
import Derived.Deep.Slices
import Derived.SizedLaws
set_option linter.unusedVariables false
set_option linter.unusedSimpArgs false
namespace Go.Proofs.YtlhoigpidpokfaaGreat
open Go Go.Abs Go.Proofs Go.ChangeShapes Go.WideShapes Go.Deep
set_option maxRecDepth 100000
theorem cellsTy:Tryz.prog.cellsOf 37=2:=by kernel_rfl
theorem cellsStr:Tryz.prog.cellsOf 9=1:=by kernel_rfl
theorem cellsTys:Tryz.prog.cellsOf 35=1:=by kernel_rfl
theorem cellsStrs:Tryz.prog.cellsOf 48=1:=by kernel_rfl
theorem cellsCon:Tryz.prog.cellsOf 99=2:=by kernel_rfl
theorem cellsCons:Tryz.prog.cellsOf 67=1:=by kernel_rfl
theorem cellsDat:Tryz.prog.cellsOf 69=3:=by kernel_rfl
theorem cellsDats:Tryz.prog.cellsOf 22=1:=by kernel_rfl
theorem cellsPred:Tryz.prog.cellsOf 39=3:=by kernel_rfl
theorem cellsPreds:Tryz.prog.cellsOf 27=1:=by kernel_rfl
theorem cellsSig:Tryz.prog.cellsOf 101=4:=by kernel_rfl
theorem cellsSigs:Tryz.prog.cellsOf 49=1:=by kernel_rfl
theorem cellsCls:Tryz.prog.cellsOf 51=3:=by kernel_rfl
theorem cellsClss:Tryz.prog.cellsOf 23=1:=by kernel_rfl
theorem cellsInst:Tryz.prog.cellsOf 75=4:=by kernel_rfl
theorem cellsInsts:Tryz.prog.cellsOf 24=1:=by kernel_rfl
theorem cellsRules:Tryz.prog.cellsOf 73=1:=by kernel_rfl
theorem cellsDecls:Tryz.prog.cellsOf 26=3:=by kernel_rfl
theorem bytesTy:Tryz.prog.bytesOf 37=40:=by kernel_rfl
theorem bytesStr:Tryz.prog.bytesOf 9=16:=by kernel_rfl
theorem bytesCon:Tryz.prog.bytesOf 99=40:=by kernel_rfl
theorem bytesDat:Tryz.prog.bytesOf 69=64:=by kernel_rfl
theorem bytesPred:Tryz.prog.bytesOf 39=56:=by kernel_rfl
theorem bytesSig:Tryz.prog.bytesOf 101=80:=by kernel_rfl
theorem bytesCls:Tryz.prog.bytesOf 51=64:=by kernel_rfl
theorem bytesInst:Tryz.prog.bytesOf 75=80:=by kernel_rfl
def BL:Nat:=4611686018427387904
section
variable {H:Type} {enc:TypeId × Value→H} {w:World} {spare:Nat→Bool} {held:Bool}
theorem read_fields {t:TypeId} {fs:Array Field} (hu:Tryz.prog.underlying t=some (.struct fs)) {fuel:Nat} {cs:List Value} {x:DataW H × List MemPlace} (h:DataW.trod enc Tryz.prog w 0 spare held fuel t cs=some x) (hw:∀ n∈x.1.weights Tryz.prog t,n≤reachBytes) :
  cs.length=Tryz.prog.cellsOf t∧∃ n,n < fuel∧∀ (i:Nat) (f:Field),fs[i]?=some f→∃ y,DataW.trod enc Tryz.prog w 0 spare held n f.type ((cs.drop f.offset).take (Tryz.prog.cellsOf f.type))=some y∧∀ m∈y.1.weights Tryz.prog f.type,m≤reachBytes:=by
 obtain ⟨xs,n,rfl,rfl,hl,hxs,hf⟩:=DataW.trod_struct hu h
 refine ⟨hl,n,Nat.lt_succ_self n,fun i f hi=>?_⟩
 have hil:i < xs.length:=by rw [hxs];exact (Array.getElem?_eq_some_iff.1 hi).1
 have e:=hf i f hi
 rw [List.getElem?_eq_getElem hil] at e
 refine ⟨xs[i],e,fun m hm=>hw m ?_⟩
 simp only [DataW.weights,hu]
 exact DataW.weights_mem_each (j:=i) (t:=f.type) (by simp [hi]) (by simp [hil]) m hm
theorem all_mem {P:Program} {e:TypeId} {m:Nat}:∀ {l:List (DataW H)} {d:DataW H},d∈l→m∈d.weights P e→m∈DataW.weightsAll P e l
 | a::l,d,hd,hm=>by
  simp only [DataW.weightsAll,List.mem_append]
  rcases List.mem_cons.1 hd with rfl | hd
  ·exact .inl hm
  ·exact .inr (all_mem hd hm)
theorem read_row {α:Type} (C:α→List AV) (R:α→Prop) (d0:α) (esz:Nat) {st e:TypeId} (hu:Tryz.prog.underlying st=some (.slice e)) (hce:Tryz.prog.cellsOf e=esz) (hCl:∀ p,(C p).length=esz) (hpos:0 < Tryz.prog.bytesOf e) (he0:0 < esz)
  (fuel:Nat) (hel:∀ m,m < fuel→∀ cs x,DataW.trod enc Tryz.prog w 0 spare held m e cs=some x→(∀ n∈x.1.weights Tryz.prog e,n≤reachBytes)→∃ p:α,R p∧RepL (KW.all w) w (C p) cs∧∀ c∈cs,c.oneCell'=true)
  (c:Value) (x:DataW H × List MemPlace) (h:DataW.trod enc Tryz.prog w 0 spare held fuel st [c]=some x) (hw:∀ n∈x.1.weights Tryz.prog st,n≤reachBytes) :
  ∃ l:List α,l.length < BL∧(∀ p∈l,R p)∧Rep (KW.all w) w (.slice (l.map C) none) c∧c.oneCell'=true:=by
 rcases DataW.trod_slice hu h with ⟨hc,_⟩ | ⟨a,len,cap,elems,rest,m,hm,hc,hx,_,hlc,_,hln,hat,_,_⟩
 ·simp only [List.cons.injEq,and_true] at hc
  subst hc
  exact ⟨[],by simp [BL],by simp,rep_nil,rfl⟩
 ·simp only [List.cons.injEq,and_true] at hc
  subst hc
  subst hx
  simp only [DataW.weights,hu] at hw
  have hlen:len < BL:=by
   have h1:=hw _ (List.mem_cons_self ..)
   simp only [List.length_map,reachBytes] at h1
   have h2:elems.length * 1≤(elems.length+rest.length) * Tryz.prog.bytesOf e:=Nat.mul_le_mul (by omega) hpos
   unfold BL
   omega
  have hex:∀ i,i < len→∃ p:α,R p∧∃ cs,w.cells? 0 (a.add (i * esz)) esz=some cs∧RepL (KW.all w) w (C p) cs∧∀ c∈cs,c.oneCell'=true:=by
   intro i hi
   have h2:=hat i hi
   rw [hce] at h2
   have h3:elems[i]?=some elems[i]:=List.getElem?_eq_getElem (by omega)
   rw [h3] at h2
   cases hcs:w.cells? 0 (a.add (i * esz)) esz with
   | none=>rw [hcs] at h2;cases h2
   | some cs =>
    rw [hcs] at h2
    obtain ⟨t,hR,h4,h5⟩:=hel m (by omega) cs _ h2 (fun n hn=>hw n (by
     simp only [List.mem_cons,List.mem_append]
     exact .inr (.inl (all_mem (List.mem_map.2 ⟨_,List.getElem_mem _,rfl⟩) hn))))
    exact ⟨t,hR,cs,rfl,h4,h5⟩
  have hfun:∃ T:Nat→α,∀ i,i < len→R (T i)∧∃ cs,w.cells? 0 (a.add (i * esz)) esz=some cs∧RepL (KW.all w) w (C (T i)) cs∧∀ c∈cs,c.oneCell'=true:=by
   classical
   exact ⟨fun i=>if hi:i < len then (hex i hi).choose else d0,fun i hi=>by simp only [dif_pos hi];exact (hex i hi).choose_spec⟩
  obtain ⟨T,hT⟩:=hfun
  refine ⟨(List.range len).map T,by simpa using hlen,fun p hp=>?_,rep_slice (esz:=esz) (by simp) hlc (fun i r hr=>?_) (by omega),rfl⟩
  ·obtain ⟨i,hi,rfl⟩:=List.mem_map.1 hp
   exact (hT i (by simpa using hi)).1
  simp only [List.map_map,List.getElem?_map,Option.map_eq_some_iff] at hr
  obtain ⟨j,hj,rfl⟩:=hr
  have hil:i < len:=by
   rcases Nat.lt_or_ge i len with h | h
   ·exact h
   ·rw [List.getElem?_eq_none (by simpa using h)] at hj;cases hj
  rw [List.getElem?_range hil] at hj
  simp only [Option.some.injEq] at hj
  subst hj
  exact (hT i hil).2
theorem read_str {fuel:Nat} {c:Value} {x:DataW H × List MemPlace} (h:DataW.trod enc Tryz.prog w 0 spare held fuel 9 [c]=some x):∃ s:ByteArray,c=.string s:=by
 obtain ⟨s,hs,_,_⟩:=DataW.trod_string Tryz.underlying9 h
 simp only [List.cons.injEq,and_true] at hs
 exact ⟨s,hs⟩
theorem read_strs (fuel:Nat) (c:Value) (x:DataW H × List MemPlace) (h:DataW.trod enc Tryz.prog w 0 spare held fuel 48 [c]=some x) (hw:∀ n∈x.1.weights Tryz.prog 48,n≤reachBytes) :
  ∃ l:List ByteArray,l.length < BL∧Rep (KW.all w) w (strs l none) c∧c.oneCell'=true:=by
 obtain ⟨l,h1,_,h2,h3⟩:=read_row (fun s=>[strV s]) (fun _=>True) ByteArray.empty 1 Tryz.underlying48 cellsStr (fun _=>rfl) (by rw [bytesStr];omega) (by omega) fuel (fun _ _ cs x h _=>by
  obtain ⟨s,rfl,_,_⟩:=DataW.trod_string Tryz.underlying9 h
  exact ⟨s,trivial,⟨_,_,rfl,rfl,rfl⟩,by simp [Value.oneCell']⟩) c x h hw
 exact ⟨l,h1,h2,h3⟩
theorem read_ty:∀ (fuel:Nat) (cs:List Value) (x:DataW H × List MemPlace),DataW.trod enc Tryz.prog w 0 spare held fuel 37 cs=some x→(∀ n∈x.1.weights Tryz.prog 37,n≤reachBytes)→∃ t:Ty,True∧RepL (KW.all w) w t.cells cs∧∀ c∈cs,c.oneCell'=true:=by
 intro fuel
 induction fuel using Nat.strongRecOn with
 | _ fuel ih =>
 intro cs x h hw
 obtain ⟨hl,n,hn,hf⟩:=read_fields Tryz.underlying37 h hw
 rw [cellsTy] at hl
 obtain ⟨c0,c1,rfl⟩:∃ c0 c1,cs=[c0,c1]:=by
  match cs,hl with
  | [a,b],_=>exact ⟨a,b,rfl⟩
 obtain ⟨y0,h0,w0⟩:=hf 0 _ rfl
 replace h0:DataW.trod enc Tryz.prog w 0 spare held n 9 (([c0,c1].drop 0).take (Tryz.prog.cellsOf 9))=some y0:=h0
 replace w0:∀ m∈y0.1.weights Tryz.prog 9,m≤reachBytes:=w0
 obtain ⟨y1,h1,w1⟩:=hf 1 _ rfl
 replace h1:DataW.trod enc Tryz.prog w 0 spare held n 35 (([c0,c1].drop 1).take (Tryz.prog.cellsOf 35))=some y1:=h1
 replace w1:∀ m∈y1.1.weights Tryz.prog 35,m≤reachBytes:=w1
 simp only [cellsStr,cellsTys,List.drop_zero,List.take_succ_cons,List.take_zero,List.drop_succ_cons] at h0 h1
 obtain ⟨s,rfl⟩:=read_str h0
 obtain ⟨l,_,_,hr,ho⟩:=read_row Ty.cells (fun _=>True) (.mk ByteArray.empty []) 2 Tryz.underlying35 cellsTy Ty.cells_length (by rw [bytesTy];omega) (by omega) n (fun m hm cs x h hw=>ih m (by omega) cs x h hw) c1 y1 h1 w1
 refine ⟨.mk s l,trivial,⟨_,_,rfl,rfl,_,_,rfl,?_,rfl⟩,?_⟩
 ·rw [cellsL_eq];exact hr
 ·intro c hc
  simp only [List.mem_cons,List.not_mem_nil,or_false] at hc
  rcases hc with rfl | rfl
  ·rfl
  ·exact ho
theorem read_tys (fuel:Nat) (c:Value) (x:DataW H × List MemPlace) (h:DataW.trod enc Tryz.prog w 0 spare held fuel 35 [c]=some x) (hw:∀ n∈x.1.weights Tryz.prog 35,n≤reachBytes) :
  ∃ l:List Ty,l.length < BL∧Rep (KW.all w) w (.slice (l.map Ty.cells) none) c∧c.oneCell'=true:=by
 obtain ⟨l,h1,_,h2,h3⟩:=read_row Ty.cells (fun _=>True) (.mk ByteArray.empty []) 2 Tryz.underlying35 cellsTy Ty.cells_length (by rw [bytesTy];omega) (by omega) fuel (fun m _ cs x h hw=>read_ty m cs x h hw) c x h hw
 exact ⟨l,h1,h2,h3⟩
theorem read_con (fuel:Nat) (cs:List Value) (x:DataW H × List MemPlace) (h:DataW.trod enc Tryz.prog w 0 spare held fuel 99 cs=some x) (hw:∀ n∈x.1.weights Tryz.prog 99,n≤reachBytes):∃ p:ConD,(p.args.length < BL)∧RepL (KW.all w) w p.cells cs∧∀ c∈cs,c.oneCell'=true:=by
 obtain ⟨hl,n,hn,hf⟩:=read_fields Tryz.underlying99 h hw
 rw [cellsCon] at hl
 obtain ⟨c0,c1,rfl⟩:∃ c0 c1,cs=[c0,c1]:=by
  match cs,hl with
  | [a0,a1],_=>exact ⟨a0,a1,rfl⟩
 obtain ⟨y0,h0,w0⟩:=hf 0 _ rfl
 replace h0:DataW.trod enc Tryz.prog w 0 spare held n 9 (([c0,c1].drop 0).take (Tryz.prog.cellsOf 9))=some y0:=h0
 replace w0:∀ m∈y0.1.weights Tryz.prog 9,m≤reachBytes:=w0
 obtain ⟨y1,h1,w1⟩:=hf 1 _ rfl
 replace h1:DataW.trod enc Tryz.prog w 0 spare held n 35 (([c0,c1].drop 1).take (Tryz.prog.cellsOf 35))=some y1:=h1
 replace w1:∀ m∈y1.1.weights Tryz.prog 35,m≤reachBytes:=w1
 simp only [cellsStr,cellsStrs,cellsTys,cellsTy,cellsCons,cellsPreds,cellsSigs,cellsRules,cellsDats,cellsClss,cellsInsts,List.drop_zero,List.take_succ_cons,List.take_zero,List.drop_succ_cons] at h0 h1
 obtain ⟨s0,rfl⟩:=read_str h0
 obtain ⟨l1,b1,r1,o1⟩:=read_tys n c1 y1 h1 w1
 refine ⟨⟨s0,l1⟩,b1,⟨_,_,rfl,rfl,_,_,rfl,r1,rfl⟩,?_⟩
 intro c hc
 simp only [List.mem_cons,List.not_mem_nil,or_false] at hc
 rcases hc with rfl | rfl
 ·exact rfl
 ·exact o1
theorem read_dat (fuel:Nat) (cs:List Value) (x:DataW H × List MemPlace) (h:DataW.trod enc Tryz.prog w 0 spare held fuel 69 cs=some x) (hw:∀ n∈x.1.weights Tryz.prog 69,n≤reachBytes):∃ p:Dat,(p.vars.length < BL∧p.cons.length < BL∧∀ c∈p.cons,c.args.length < BL)∧RepL (KW.all w) w p.cells cs∧∀ c∈cs,c.oneCell'=true:=by
 obtain ⟨hl,n,hn,hf⟩:=read_fields Tryz.underlying69 h hw
 rw [cellsDat] at hl
 obtain ⟨c0,c1,c2,rfl⟩:∃ c0 c1 c2,cs=[c0,c1,c2]:=by
  match cs,hl with
  | [a0,a1,a2],_=>exact ⟨a0,a1,a2,rfl⟩
 obtain ⟨y0,h0,w0⟩:=hf 0 _ rfl
 replace h0:DataW.trod enc Tryz.prog w 0 spare held n 9 (([c0,c1,c2].drop 0).take (Tryz.prog.cellsOf 9))=some y0:=h0
 replace w0:∀ m∈y0.1.weights Tryz.prog 9,m≤reachBytes:=w0
 obtain ⟨y1,h1,w1⟩:=hf 1 _ rfl
 replace h1:DataW.trod enc Tryz.prog w 0 spare held n 48 (([c0,c1,c2].drop 1).take (Tryz.prog.cellsOf 48))=some y1:=h1
 replace w1:∀ m∈y1.1.weights Tryz.prog 48,m≤reachBytes:=w1
 obtain ⟨y2,h2,w2⟩:=hf 2 _ rfl
 replace h2:DataW.trod enc Tryz.prog w 0 spare held n 67 (([c0,c1,c2].drop 2).take (Tryz.prog.cellsOf 67))=some y2:=h2
 replace w2:∀ m∈y2.1.weights Tryz.prog 67,m≤reachBytes:=w2
 simp only [cellsStr,cellsStrs,cellsTys,cellsTy,cellsCons,cellsPreds,cellsSigs,cellsRules,cellsDats,cellsClss,cellsInsts,List.drop_zero,List.take_succ_cons,List.take_zero,List.drop_succ_cons] at h0 h1 h2
 obtain ⟨s0,rfl⟩:=read_str h0
 obtain ⟨l1,b1,r1,o1⟩:=read_strs n c1 y1 h1 w1
 obtain ⟨l2,b2,g2,r2,o2⟩:=read_row ConD.cells (fun p=>p.args.length < BL) (⟨ByteArray.empty,[]⟩) 2 Tryz.underlying67 cellsCon (fun _=>rfl) (by rw [bytesCon];omega) (by omega) n (fun m _ cs x h hw=>read_con m cs x h hw) c2 y2 h2 w2
 refine ⟨⟨s0,l1,l2⟩,⟨b1,b2,g2⟩,⟨_,_,rfl,rfl,_,_,rfl,r1,_,_,rfl,r2,rfl⟩,?_⟩
 intro c hc
 simp only [List.mem_cons,List.not_mem_nil,or_false] at hc
 rcases hc with rfl | rfl | rfl
 ·exact rfl
 ·exact o1
 ·exact o2
theorem read_pred (fuel:Nat) (cs:List Value) (x:DataW H × List MemPlace) (h:DataW.trod enc Tryz.prog w 0 spare held fuel 39 cs=some x) (hw:∀ n∈x.1.weights Tryz.prog 39,n≤reachBytes):∃ p:PredD,(True)∧RepL (KW.all w) w p.cells cs∧∀ c∈cs,c.oneCell'=true:=by
 obtain ⟨hl,n,hn,hf⟩:=read_fields Tryz.underlying39 h hw
 rw [cellsPred] at hl
 obtain ⟨c0,c1,c2,rfl⟩:∃ c0 c1 c2,cs=[c0,c1,c2]:=by
  match cs,hl with
  | [a0,a1,a2],_=>exact ⟨a0,a1,a2,rfl⟩
 obtain ⟨y0,h0,w0⟩:=hf 0 _ rfl
 replace h0:DataW.trod enc Tryz.prog w 0 spare held n 9 (([c0,c1,c2].drop 0).take (Tryz.prog.cellsOf 9))=some y0:=h0
 replace w0:∀ m∈y0.1.weights Tryz.prog 9,m≤reachBytes:=w0
 obtain ⟨y1,h1,w1⟩:=hf 1 _ rfl
 replace h1:DataW.trod enc Tryz.prog w 0 spare held n 37 (([c0,c1,c2].drop 1).take (Tryz.prog.cellsOf 37))=some y1:=h1
 replace w1:∀ m∈y1.1.weights Tryz.prog 37,m≤reachBytes:=w1
 simp only [cellsStr,cellsStrs,cellsTys,cellsTy,cellsCons,cellsPreds,cellsSigs,cellsRules,cellsDats,cellsClss,cellsInsts,List.drop_zero,List.take_succ_cons,List.take_zero,List.drop_succ_cons] at h0 h1
 obtain ⟨s0,rfl⟩:=read_str h0
 obtain ⟨⟨tn1,tl1⟩,_,r1,o1⟩:=read_ty n [c1,c2] y1 h1 w1
 obtain ⟨_,_,e1,q1,_,_,f1,g1,_⟩:=r1
 simp only [List.cons.injEq] at e1 f1
 obtain ⟨rfl,rfl⟩:=e1
 obtain ⟨rfl,rfl⟩:=f1
 rw [cellsL_eq] at g1
 refine ⟨⟨s0,.mk tn1 tl1⟩,trivial,⟨_,_,rfl,rfl,_,_,rfl,q1,_,_,rfl,g1,rfl⟩,?_⟩
 intro c hc
 simp only [List.mem_cons,List.not_mem_nil,or_false] at hc
 rcases hc with rfl | rfl | rfl
 ·exact rfl
 ·exact o1 _ (by simp)
 ·exact o1 _ (by simp)
theorem read_sig (fuel:Nat) (cs:List Value) (x:DataW H × List MemPlace) (h:DataW.trod enc Tryz.prog w 0 spare held fuel 101 cs=some x) (hw:∀ n∈x.1.weights Tryz.prog 101,n≤reachBytes):∃ p:SigD,(p.preds.length < BL)∧RepL (KW.all w) w p.cells cs∧∀ c∈cs,c.oneCell'=true:=by
 obtain ⟨hl,n,hn,hf⟩:=read_fields Tryz.underlying101 h hw
 rw [cellsSig] at hl
 obtain ⟨c0,c1,c2,c3,rfl⟩:∃ c0 c1 c2 c3,cs=[c0,c1,c2,c3]:=by
  match cs,hl with
  | [a0,a1,a2,a3],_=>exact ⟨a0,a1,a2,a3,rfl⟩
 obtain ⟨y0,h0,w0⟩:=hf 0 _ rfl
 replace h0:DataW.trod enc Tryz.prog w 0 spare held n 9 (([c0,c1,c2,c3].drop 0).take (Tryz.prog.cellsOf 9))=some y0:=h0
 replace w0:∀ m∈y0.1.weights Tryz.prog 9,m≤reachBytes:=w0
 obtain ⟨y1,h1,w1⟩:=hf 1 _ rfl
 replace h1:DataW.trod enc Tryz.prog w 0 spare held n 27 (([c0,c1,c2,c3].drop 1).take (Tryz.prog.cellsOf 27))=some y1:=h1
 replace w1:∀ m∈y1.1.weights Tryz.prog 27,m≤reachBytes:=w1
 obtain ⟨y2,h2,w2⟩:=hf 2 _ rfl
 replace h2:DataW.trod enc Tryz.prog w 0 spare held n 37 (([c0,c1,c2,c3].drop 2).take (Tryz.prog.cellsOf 37))=some y2:=h2
 replace w2:∀ m∈y2.1.weights Tryz.prog 37,m≤reachBytes:=w2
 simp only [cellsStr,cellsStrs,cellsTys,cellsTy,cellsCons,cellsPreds,cellsSigs,cellsRules,cellsDats,cellsClss,cellsInsts,List.drop_zero,List.take_succ_cons,List.take_zero,List.drop_succ_cons] at h0 h1 h2
 obtain ⟨s0,rfl⟩:=read_str h0
 obtain ⟨l1,b1,g1,r1,o1⟩:=read_row PredD.cells (fun _=>True) (⟨ByteArray.empty,.mk ByteArray.empty []⟩) 3 Tryz.underlying27 cellsPred (fun _=>rfl) (by rw [bytesPred];omega) (by omega) n (fun m _ cs x h hw=>read_pred m cs x h hw) c1 y1 h1 w1
 obtain ⟨⟨tn2,tl2⟩,_,r2,o2⟩:=read_ty n [c2,c3] y2 h2 w2
 obtain ⟨_,_,e2,q2,_,_,f2,g2,_⟩:=r2
 simp only [List.cons.injEq] at e2 f2
 obtain ⟨rfl,rfl⟩:=e2
 obtain ⟨rfl,rfl⟩:=f2
 rw [cellsL_eq] at g2
 refine ⟨⟨s0,l1,.mk tn2 tl2⟩,b1,⟨_,_,rfl,rfl,_,_,rfl,r1,_,_,rfl,q2,_,_,rfl,g2,rfl⟩,?_⟩
 intro c hc
 simp only [List.mem_cons,List.not_mem_nil,or_false] at hc
 rcases hc with rfl | rfl | rfl | rfl
 ·exact rfl
 ·exact o1
 ·exact o2 _ (by simp)
 ·exact o2 _ (by simp)
theorem read_cls (fuel:Nat) (cs:List Value) (x:DataW H × List MemPlace) (h:DataW.trod enc Tryz.prog w 0 spare held fuel 51 cs=some x) (hw:∀ n∈x.1.weights Tryz.prog 51,n≤reachBytes):∃ p:ClsD,(p.supers.length < BL∧p.ops.length < BL)∧RepL (KW.all w) w p.cells cs∧∀ c∈cs,c.oneCell'=true:=by
 obtain ⟨hl,n,hn,hf⟩:=read_fields Tryz.underlying51 h hw
 rw [cellsCls] at hl
 obtain ⟨c0,c1,c2,rfl⟩:∃ c0 c1 c2,cs=[c0,c1,c2]:=by
  match cs,hl with
  | [a0,a1,a2],_=>exact ⟨a0,a1,a2,rfl⟩
 obtain ⟨y0,h0,w0⟩:=hf 0 _ rfl
 replace h0:DataW.trod enc Tryz.prog w 0 spare held n 9 (([c0,c1,c2].drop 0).take (Tryz.prog.cellsOf 9))=some y0:=h0
 replace w0:∀ m∈y0.1.weights Tryz.prog 9,m≤reachBytes:=w0
 obtain ⟨y1,h1,w1⟩:=hf 1 _ rfl
 replace h1:DataW.trod enc Tryz.prog w 0 spare held n 48 (([c0,c1,c2].drop 1).take (Tryz.prog.cellsOf 48))=some y1:=h1
 replace w1:∀ m∈y1.1.weights Tryz.prog 48,m≤reachBytes:=w1
 obtain ⟨y2,h2,w2⟩:=hf 2 _ rfl
 replace h2:DataW.trod enc Tryz.prog w 0 spare held n 49 (([c0,c1,c2].drop 2).take (Tryz.prog.cellsOf 49))=some y2:=h2
 replace w2:∀ m∈y2.1.weights Tryz.prog 49,m≤reachBytes:=w2
 simp only [cellsStr,cellsStrs,cellsTys,cellsTy,cellsCons,cellsPreds,cellsSigs,cellsRules,cellsDats,cellsClss,cellsInsts,List.drop_zero,List.take_succ_cons,List.take_zero,List.drop_succ_cons] at h0 h1 h2
 obtain ⟨s0,rfl⟩:=read_str h0
 obtain ⟨l1,b1,r1,o1⟩:=read_strs n c1 y1 h1 w1
 obtain ⟨l2,b2,g2,r2,o2⟩:=read_row SigD.cells (fun p=>p.preds.length < BL) (⟨ByteArray.empty,[],.mk ByteArray.empty []⟩) 4 Tryz.underlying49 cellsSig (fun _=>rfl) (by rw [bytesSig];omega) (by omega) n (fun m _ cs x h hw=>read_sig m cs x h hw) c2 y2 h2 w2
 refine ⟨⟨s0,l1,l2⟩,⟨b1,b2⟩,⟨_,_,rfl,rfl,_,_,rfl,r1,_,_,rfl,r2,rfl⟩,?_⟩
 intro c hc
 simp only [List.mem_cons,List.not_mem_nil,or_false] at hc
 rcases hc with rfl | rfl | rfl
 ·exact rfl
 ·exact o1
 ·exact o2
theorem read_inst (fuel:Nat) (cs:List Value) (x:DataW H × List MemPlace) (h:DataW.trod enc Tryz.prog w 0 spare held fuel 75 cs=some x) (hw:∀ n∈x.1.weights Tryz.prog 75,n≤reachBytes):∃ p:InstD,(p.preds.length < BL)∧RepL (KW.all w) w p.cells cs∧∀ c∈cs,c.oneCell'=true:=by
 obtain ⟨hl,n,hn,hf⟩:=read_fields Tryz.underlying75 h hw
 rw [cellsInst] at hl
 obtain ⟨c0,c1,c2,c3,rfl⟩:∃ c0 c1 c2 c3,cs=[c0,c1,c2,c3]:=by
  match cs,hl with
  | [a0,a1,a2,a3],_=>exact ⟨a0,a1,a2,a3,rfl⟩
 obtain ⟨y0,h0,w0⟩:=hf 0 _ rfl
 replace h0:DataW.trod enc Tryz.prog w 0 spare held n 9 (([c0,c1,c2,c3].drop 0).take (Tryz.prog.cellsOf 9))=some y0:=h0
 replace w0:∀ m∈y0.1.weights Tryz.prog 9,m≤reachBytes:=w0
 obtain ⟨y1,h1,w1⟩:=hf 1 _ rfl
 replace h1:DataW.trod enc Tryz.prog w 0 spare held n 9 (([c0,c1,c2,c3].drop 1).take (Tryz.prog.cellsOf 9))=some y1:=h1
 replace w1:∀ m∈y1.1.weights Tryz.prog 9,m≤reachBytes:=w1
 obtain ⟨y2,h2,w2⟩:=hf 2 _ rfl
 replace h2:DataW.trod enc Tryz.prog w 0 spare held n 27 (([c0,c1,c2,c3].drop 2).take (Tryz.prog.cellsOf 27))=some y2:=h2
 replace w2:∀ m∈y2.1.weights Tryz.prog 27,m≤reachBytes:=w2
 obtain ⟨y3,h3,w3⟩:=hf 3 _ rfl
 replace h3:DataW.trod enc Tryz.prog w 0 spare held n 73 (([c0,c1,c2,c3].drop 3).take (Tryz.prog.cellsOf 73))=some y3:=h3
 replace w3:∀ m∈y3.1.weights Tryz.prog 73,m≤reachBytes:=w3
 simp only [cellsStr,cellsStrs,cellsTys,cellsTy,cellsCons,cellsPreds,cellsSigs,cellsRules,cellsDats,cellsClss,cellsInsts,List.drop_zero,List.take_succ_cons,List.take_zero,List.drop_succ_cons] at h0 h1 h2 h3
 obtain ⟨s0,rfl⟩:=read_str h0
 obtain ⟨s1,rfl⟩:=read_str h1
 obtain ⟨l2,b2,g2,r2,o2⟩:=read_row PredD.cells (fun _=>True) (⟨ByteArray.empty,.mk ByteArray.empty []⟩) 3 Tryz.underlying27 cellsPred (fun _=>rfl) (by rw [bytesPred];omega) (by omega) n (fun m _ cs x h hw=>read_pred m cs x h hw) c2 y2 h2 w2
 obtain ⟨ra,rl,rc,rfl⟩:∃ ra rl rc,c3=.slice ra rl rc:=by
  rcases DataW.trod_slice Tryz.underlying73 h3 with ⟨hc,_⟩ | ⟨a,len,cap,_,_,_,_,hc,_⟩
  ·simp only [List.cons.injEq,and_true] at hc;exact ⟨_,_,_,hc⟩
  ·simp only [List.cons.injEq,and_true] at hc;exact ⟨_,_,_,hc⟩
 refine ⟨⟨s0,s1,l2,ra,rl,rc⟩,b2,⟨_,_,rfl,rfl,_,_,rfl,rfl,_,_,rfl,r2,_,_,rfl,rfl,rfl⟩,?_⟩
 intro c hc
 simp only [List.mem_cons,List.not_mem_nil,or_false] at hc
 rcases hc with rfl | rfl | rfl | rfl
 ·exact rfl
 ·exact rfl
 ·exact o2
 ·exact rfl
theorem read_decls (fuel:Nat) (cs:List Value) (x:DataW H × List MemPlace) (h:DataW.trod enc Tryz.prog w 0 spare held fuel 26 cs=some x) (hw:∀ n∈x.1.weights Tryz.prog 26,n≤reachBytes):∃ p:DeclsD,(RawD p)∧RepL (KW.all w) w p.cells cs∧∀ c∈cs,c.oneCell'=true:=by
 obtain ⟨hl,n,hn,hf⟩:=read_fields Tryz.underlying26 h hw
 rw [cellsDecls] at hl
 obtain ⟨c0,c1,c2,rfl⟩:∃ c0 c1 c2,cs=[c0,c1,c2]:=by
  match cs,hl with
  | [a0,a1,a2],_=>exact ⟨a0,a1,a2,rfl⟩
 obtain ⟨y0,h0,w0⟩:=hf 0 _ rfl
 replace h0:DataW.trod enc Tryz.prog w 0 spare held n 22 (([c0,c1,c2].drop 0).take (Tryz.prog.cellsOf 22))=some y0:=h0
 replace w0:∀ m∈y0.1.weights Tryz.prog 22,m≤reachBytes:=w0
 obtain ⟨y1,h1,w1⟩:=hf 1 _ rfl
 replace h1:DataW.trod enc Tryz.prog w 0 spare held n 23 (([c0,c1,c2].drop 1).take (Tryz.prog.cellsOf 23))=some y1:=h1
 replace w1:∀ m∈y1.1.weights Tryz.prog 23,m≤reachBytes:=w1
 obtain ⟨y2,h2,w2⟩:=hf 2 _ rfl
 replace h2:DataW.trod enc Tryz.prog w 0 spare held n 24 (([c0,c1,c2].drop 2).take (Tryz.prog.cellsOf 24))=some y2:=h2
 replace w2:∀ m∈y2.1.weights Tryz.prog 24,m≤reachBytes:=w2
 simp only [cellsStr,cellsStrs,cellsTys,cellsTy,cellsCons,cellsPreds,cellsSigs,cellsRules,cellsDats,cellsClss,cellsInsts,List.drop_zero,List.take_succ_cons,List.take_zero,List.drop_succ_cons] at h0 h1 h2
 obtain ⟨l0,b0,g0,r0,o0⟩:=read_row Dat.cells (fun p=>p.vars.length < BL∧p.cons.length < BL∧∀ c∈p.cons,c.args.length < BL) (⟨ByteArray.empty,[],[]⟩) 3 Tryz.underlying22 cellsDat (fun _=>rfl) (by rw [bytesDat];omega) (by omega) n (fun m _ cs x h hw=>read_dat m cs x h hw) c0 y0 h0 w0
 obtain ⟨l1,b1,g1,r1,o1⟩:=read_row ClsD.cells (fun p=>p.supers.length < BL∧p.ops.length < BL) (⟨ByteArray.empty,[],[]⟩) 3 Tryz.underlying23 cellsCls (fun _=>rfl) (by rw [bytesCls];omega) (by omega) n (fun m _ cs x h hw=>read_cls m cs x h hw) c1 y1 h1 w1
 obtain ⟨l2,b2,g2,r2,o2⟩:=read_row InstD.cells (fun p=>p.preds.length < BL) (⟨ByteArray.empty,ByteArray.empty,[],none,0,0⟩) 4 Tryz.underlying24 cellsInst (fun _=>rfl) (by rw [bytesInst];omega) (by omega) n (fun m _ cs x h hw=>read_inst m cs x h hw) c2 y2 h2 w2
 refine ⟨⟨l0,l1,l2⟩,⟨b0,b1,b2,fun x hx=>(g0 x hx).1,fun x hx=>(g0 x hx).2.1,fun x hx=>(g0 x hx).2.2,fun x hx=>(g1 x hx).1,fun x hx=>(g1 x hx).2,fun x hx=>g2 x hx⟩,⟨_,_,rfl,r0,_,_,rfl,r1,_,_,rfl,r2,rfl⟩,?_⟩
 intro c hc
 simp only [List.mem_cons,List.not_mem_nil,or_false] at hc
 rcases hc with rfl | rfl | rfl
 ·exact o0
 ·exact o1
 ·exact o2
end
end Go.Proofs.YtlhoigpidpokfaaGreat
