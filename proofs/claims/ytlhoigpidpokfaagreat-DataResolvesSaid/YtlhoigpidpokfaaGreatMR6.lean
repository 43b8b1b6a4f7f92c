/- The library's sort of predicates. -/
import Derived.Shelf.SlSortCmp.WholeK
import Derived.Shelf.SlSortCmp.NoneTotal
import Derived.Laws.Cover1
import Derived.Test.YtlhoigpidpokfaaGreatMR1
set_option linter.unusedVariables false
set_option linter.unusedSimpArgs false
namespace Go.Proofs
open Go Go.Abs Go.Shelf Go.RowKit Go.Lib Go.Sort Go.Proofs.YtlhoigpidpokfaaGreat
def sortLay_ren:Go.Shelf.Ren:=⟨fun | 6=>44 | 15=>81 | 14=>80 | 28=>118 | 29=>119 | 20=>110 | 21=>111 | 22=>112 | 23=>113 | 24=>114 | 25=>115 | 26=>116 | 27=>117 | 46=>137 | 47=>138 | 48=>139 | 49=>140 | 50=>141 | 57=>151 | n=>n,fun | 22=>27 | 24=>39 | 25=>81 | 3=>3 | 39=>112 | 0=>0 | 53=>143 | 55=>145 | 4=>4 | 46=>137 | 45=>136 | 50=>126 | 5=>5 | 9=>9 | 66=>155 | 70=>159 | 76=>163 | 77=>164 | n=>n,fun | n=>n⟩
theorem sortLay:Go.Proofs.SlLaysF0.n6 Tryz.prog sortLay_ren where
 mixed:=by kernel_rfl
 f6 := ⟨ "slices.SortFunc[[]searchlight/api.Pred,searchlight/api.Pred]", by decide, Tryz.func44.trans (congrArg some (by kernel_rfl))⟩
 f14 := ⟨ "slices.pdqsortCmpFunc[searchlight/api.Pred]", by decide, Tryz.func80.trans (congrArg some (by kernel_rfl))⟩
 f15:=Tryz.func81.trans (congrArg some (by kernel_rfl))
 f20 := ⟨ "slices.insertionSortCmpFunc[searchlight/api.Pred]", by decide, Tryz.func110.trans (congrArg some (by kernel_rfl))⟩
 f21 := ⟨ "slices.heapSortCmpFunc[searchlight/api.Pred]", by decide, Tryz.func111.trans (congrArg some (by kernel_rfl))⟩
 f22 := ⟨ "slices.breakPatternsCmpFunc[searchlight/api.Pred]", by decide, Tryz.func112.trans (congrArg some (by kernel_rfl))⟩
 f23 := ⟨ "slices.choosePivotCmpFunc[searchlight/api.Pred]", by decide, Tryz.func113.trans (congrArg some (by kernel_rfl))⟩
 f24 := ⟨ "slices.reverseRangeCmpFunc[searchlight/api.Pred]", by decide, Tryz.func114.trans (congrArg some (by kernel_rfl))⟩
 f25 := ⟨ "slices.partialInsertionSortCmpFunc[searchlight/api.Pred]", by decide, Tryz.func115.trans (congrArg some (by kernel_rfl))⟩
 f26 := ⟨ "slices.partitionEqualCmpFunc[searchlight/api.Pred]", by decide, Tryz.func116.trans (congrArg some (by kernel_rfl))⟩
 f27 := ⟨ "slices.partitionCmpFunc[searchlight/api.Pred]", by decide, Tryz.func117.trans (congrArg some (by kernel_rfl))⟩
 f28:=Tryz.func118.trans (congrArg some (by kernel_rfl))
 f29:=Tryz.func119.trans (congrArg some (by kernel_rfl))
 f46 := ⟨ "slices.siftDownCmpFunc[searchlight/api.Pred]", by decide, Tryz.func137.trans (congrArg some (by kernel_rfl))⟩
 f47:=Tryz.func138.trans (congrArg some (by kernel_rfl))
 f48:=Tryz.func139.trans (congrArg some (by kernel_rfl))
 f49 := ⟨ "slices.medianAdjacentCmpFunc[searchlight/api.Pred]", by decide, Tryz.func140.trans (congrArg some (by kernel_rfl))⟩
 f50 := ⟨ "slices.medianCmpFunc[searchlight/api.Pred]", by decide, Tryz.func141.trans (congrArg some (by kernel_rfl))⟩
 f57 := ⟨ "slices.order2CmpFunc[searchlight/api.Pred]", by decide, Tryz.func151.trans (congrArg some (by kernel_rfl))⟩
 t0:=Tryz.underlying0
 a0:=Tryz.isAgg0
 z0:=Tryz.sizeOf0
 v0:=Tryz.zeroValue0
 t3:=Tryz.underlying3
 a3:=Tryz.isAgg3
 z3:=Tryz.sizeOf3
 v3:=Tryz.zeroValue3
 t4:=Tryz.underlying4
 a4:=Tryz.isAgg4
 z4:=Tryz.sizeOf4
 v4:=Tryz.zeroValue4
 t5:=Tryz.underlying5
 a5:=Tryz.isAgg5
 z5:=Tryz.sizeOf5
 v5:=Tryz.zeroValue5
 t9:=Tryz.underlying9
 a9:=Tryz.isAgg9
 z9:=Tryz.sizeOf9
 v9:=Tryz.zeroValue9
 t22:=Tryz.underlying27
 a22:=Tryz.isAgg27
 z22:=Tryz.sizeOf27
 v22:=Tryz.zeroValue27
 t25:=Tryz.underlying81
 a25:=Tryz.isAgg81
 z25:=Tryz.sizeOf81
 v25:=Tryz.zeroValue81
 t39:=Tryz.underlying112
 a39:=Tryz.isAgg112
 z39:=Tryz.sizeOf112
 v39:=Tryz.zeroValue112
 t45:=Tryz.underlying136
 a45:=Tryz.isAgg136
 z45:=Tryz.sizeOf136
 v45:=Tryz.zeroValue136
 t46:=Tryz.underlying137
 a46:=Tryz.isAgg137
 z46:=Tryz.sizeOf137
 v46:=Tryz.zeroValue137
 t50:=Tryz.underlying126
 a50:=Tryz.isAgg126
 z50:=Tryz.sizeOf126
 v50:=Tryz.zeroValue126
 t53:=Tryz.underlying143
 a53:=Tryz.isAgg143
 z53:=Tryz.sizeOf143
 v53:=Tryz.zeroValue143
 t55:=Tryz.underlying145
 a55:=Tryz.isAgg145
 z55:=Tryz.sizeOf145
 v55:=Tryz.zeroValue145
 t66:=Tryz.underlying155
 a66:=Tryz.isAgg155
 z66:=Tryz.sizeOf155
 v66:=Tryz.zeroValue155
 t70:=Tryz.underlying159
 a70:=Tryz.isAgg159
 z70:=Tryz.sizeOf159
 v70:=Tryz.zeroValue159
 t76:=Tryz.underlying163
 a76:=Tryz.isAgg163
 z76:=Tryz.sizeOf163
 v76:=Tryz.zeroValue163
 t77:=Tryz.underlying164
 a77:=Tryz.isAgg164
 z77:=Tryz.sizeOf164
 v77:=Tryz.zeroValue164
def cmpS (a b:ByteArray):Int:=if ltS a b=true then -1 else if ltS b a=true then 1 else 0
def cmpP (x y:VP):Int:=if x.1=y.1 then cmpS x.2 y.2 else cmpS x.1 y.1
def encP (x:VP):List Value:=[.string x.1,.string x.2,.slice none 0 0]
theorem compare_calls (a b:ByteArray) (w:World):Calls Tryz.prog 46 #[.string a,.string b] w fun e w'=>e=.returned (.int .i64 (cmpS a b))∧w'=w:=by
 go_enter Tryz.func46,Tryz.ntmps46
 go_wp2
 ·have h1:Op.bytesLess a.toList b.toList=true:=by assumption
  have hc:cmpS a b=-1:=by unfold cmpS;rw [if_pos (show ltS a b=true from h1)]
  rw [hc]
  go_ret
  exact ⟨rfl,rfl⟩
 ·have h1:Op.bytesLess a.toList b.toList=false:=by assumption
  have h2:(!a.toList == b.toList)=true:=by assumption
  have hab:a≠b:=fun e=>by rw [e] at h2;simp at h2
  have h3:ltS b a=true:=by
   rcases ltS_total a b with h | h | h
   ·rw [show ltS a b=false from h1] at h;cases h
   ·exact absurd h hab
   ·exact h
  have hc:cmpS a b=1:=by unfold cmpS;rw [if_neg (by rw [show ltS a b=false from h1];decide),if_pos h3]
  rw [hc]
  go_ret
  exact ⟨rfl,rfl⟩
 ·have h1:Op.bytesLess a.toList b.toList=false:=by assumption
  have h2:(!a.toList == b.toList)=false:=by assumption
  have hab:a=b:=by
   rcases ltS_total a b with h | h | h
   ·rw [show ltS a b=false from h1] at h;cases h
   ·exact h
   ·have h4:a.toList=b.toList:=by simpa using h2
    have h5:ltS b a=false:=by
     unfold ltS;rw [←h4];exact bl_irrefl _
    rw [h5] at h;cases h
  have hc:cmpS a b=0:=by subst hab;unfold cmpS;rw [if_neg (by rw [ltS_irrefl];decide),if_neg (by rw [ltS_irrefl];decide)]
  rw [hc]
  go_ret
  exact ⟨rfl,rfl⟩
set_option maxRecDepth 100000 in
set_option maxHeartbeats 1000000 in
theorem closure_calls (x y:VP) (W:World):Calls Tryz.prog 45 #[.agg #[.string x.1,.string x.2,.slice none 0 0],.agg #[.string y.1,.string y.2,.slice none 0 0]] W fun e w'=>e=.returned (.int .i64 (cmpP x y))∧∃ q os',w'=grow (W.drewN q) os':=by
 obtain ⟨x1,x2⟩:=x
 obtain ⟨y1,y2⟩:=y
 simp only
 go_enter Tryz.func45,Tryz.ntmps45
 go_wp2_with (go_at_call 46;refine (compare_calls _ _ _).mono ?_;rintro e w' ⟨rfl,rfl⟩)
 ·have h2:(!x1.toList == y1.toList)=true:=by assumption
  have hne:x1≠y1:=fun e=>by rw [e] at h2;simp at h2
  have hc:cmpP (x1,x2) (y1,y2)=cmpS x1 y1:=if_neg hne
  rw [hc]
  go_ret
  exact ⟨rfl,0,_,by rw [alloc_eq_grow,alloc_eq_grow,grow_grow];rfl⟩
 ·have h2:(!x1.toList == y1.toList)=false:=by assumption
  have he:x1=y1:=by
   have h4:x1.toList=y1.toList:=by simpa using h2
   rcases ltS_total x1 y1 with h | h | h
   ·unfold ltS at h;rw [h4,bl_irrefl] at h;cases h
   ·exact h
   ·unfold ltS at h;rw [h4,bl_irrefl] at h;cases h
  have hc:cmpP (x1,x2) (y1,y2)=cmpS x2 y2:=if_pos he
  rw [hc]
  go_ret
  exact ⟨rfl,0,_,by rw [alloc_eq_grow,alloc_eq_grow,grow_grow];rfl⟩
theorem cmpS_neg (a b:ByteArray):decide (cmpS a b < 0)=ltS a b:=by
 unfold cmpS
 cases h:ltS a b
 ·cases ltS b a <;> simp
 ·simp
theorem ltOf_cmpP (x y:VP):ltOf cmpP x y=ltP x y:=by
 unfold ltOf cmpP ltP
 by_cases h:x.1=y.1
 ·rw [if_pos h,if_pos h,cmpS_neg]
 ·rw [if_neg h,if_neg h,cmpS_neg]
theorem swoP:SWO (ltOf cmpP) where
 irrefl x:=by rw [ltOf_cmpP];exact ltP_irrefl x
 trans x y z h1 h2:=by rw [ltOf_cmpP] at *;exact ltP_trans h1 h2
 ntrans x y z h1 h2:=by
  rw [ltOf_cmpP] at *
  cases h3:ltP x z with
  | false=>rfl
  | true =>
   rcases ltP_total x y with h | h | h
   ·rw [h1] at h;cases h
   ·subst h;rw [h2] at h3;cases h3
   ·have:=ltP_trans h h3;rw [h2] at this;cases this
theorem enc_rep {K:KW} {w:World}:∀ {l:List VP} {pre:List Value},RepL K w (l.map vpC).flatten pre→pre=l.flatMap encP
 | [],pre,h=>h
 | p::l,pre,h=>by
  simp only [List.map_cons,List.flatten_cons,vpC,List.cons_append,List.nil_append] at h
  obtain ⟨y,ys,rfl,hy,h⟩:=h
  obtain ⟨y2,ys2,rfl,hy2,h⟩:=h
  obtain ⟨y3,ys3,rfl,hy3,h⟩:=h
  have:=enc_rep h
  simp only [Rep] at hy hy2 hy3
  subst hy hy2 hy3 this
  rfl
theorem rep_enc {K:KW} {w:World}:∀ (l:List VP),RepL K w (l.map vpC).flatten (l.flatMap encP)
 | []=>rfl
 | p::l=>⟨_,_,rfl,rfl,_,_,rfl,rfl,_,_,rfl,rfl,rep_enc l⟩
theorem flat_at:∀ (l:List VP) (t:Nat),t < l.length * 3→(l.flatMap encP)[t]?=some ((encP l.toArray[t / 3]!)[t % 3]!)
 | [],t,h=>by simp at h
 | p::l,t,h=>by
  by_cases ht:t < 3
  ·have h1:t / 3=0:=by omega
   have h2:t % 3=t:=by omega
   rw [h1,h2,List.flatMap_cons,List.getElem?_append_left (by simpa [encP] using ht)]
   have:t=0∨t=1∨t=2:=by omega
   rcases this with rfl | rfl | rfl <;> rfl
  ·have ih:=flat_at l (t - 3) (by simp at h;omega)
   have h1:t / 3=(t - 3) / 3+1:=by omega
   have h2:t % 3=(t - 3) % 3:=by omega
   rw [h1,h2,List.flatMap_cons,List.getElem?_append_right (by simp [encP];omega)]
   have e:(encP p).length=3:=rfl
   rw [e,ih]
   congr 3
   simp
theorem flatK_list (d:Array VP):(flatK encP 3 d).toList=d.toList.flatMap encP:=by
 have hl:(d.toList.flatMap encP).length=d.size * 3:=by
  have:∀ l:List VP,(l.flatMap encP).length=l.length * 3:=fun l=>by
   induction l with
   | nil=>rfl
   | cons p l ih=>rw [List.flatMap_cons,List.length_append,ih,List.length_cons];show 3+_=_;omega
  rw [this];simp
 refine List.ext_getElem? fun t=>?_
 by_cases ht:t < d.size * 3
 ·rw [flat_at d.toList t (by simpa using ht)]
  have h1:=get_flatK encP 3 d t ht
  rw [getElem!_pos _ t (by simpa using ht)] at h1
  rw [Array.getElem?_toList,Array.getElem?_eq_getElem (by simpa using ht),h1]
 ·rw [List.getElem?_eq_none (by simpa using ht),List.getElem?_eq_none (by omega)]
theorem put_list (F c:Array Value) (pre rest:List Value) (hc:c.toList=pre++rest) (hp:pre.length=F.size):(putCells id 0 F c).toList=F.toList++rest:=by
 have hcs:c.size=pre.length+rest.length:=by rw [←Array.length_toList,hc,List.length_append]
 refine List.ext_getElem? fun t=>?_
 rw [Array.getElem?_toList]
 unfold putCells
 rw [Array.getElem?_mapIdx]
 by_cases ht:t < F.size
 ·rw [List.getElem?_append_left (by simpa using ht),Array.getElem?_eq_getElem (by omega)]
  simp [ht]
 ·rw [List.getElem?_append_right (by simp;omega)]
  have h2:c[t]?=rest[t - F.size]?:=by
   rw [←Array.getElem?_toList,hc,List.getElem?_append_right (by omega),hp]
  rw [h2]
  have h3:¬ (0≤t∧t < 0+F.size):=by omega
  cases h:rest[t - F.size]? with
  | none=>simp [h]
  | some v=>simp [h,h3,ht]
theorem Ext.more {K:KW} {w w':World} {H:AHeap} (hI:Inv K w H) (hs:w.heap.size≤w'.heap.size) (hh:∀ b,b < w.heap.size→w'.heap[b]?=w.heap[b]?) (ho:w'.os=w.os) (ht:w'.tape=w.tape) (hp:w'.output=w.output):Ext K w H K w' H:=by
 have st:Step K w K w':=⟨.refl K,fun b o hb=>cell_of_heap (hh b (hI.imLt b o hb)) _ _,hs,fun b hb=>shape_of_heap (hh b hb),ho,ht,hp⟩
 refine ⟨st,Nat.le_refl _,fun b hb _=>hh b hb,fun b hb=>.inl hb,?_⟩
 exact {
     ioLt:=fun i b h=>⟨(hI.ioLt i b h).1,Nat.lt_of_lt_of_le (hI.ioLt i b h).2 hs⟩,ioInj:=hI.ioInj,ioIm:=hI.ioIm,imLt:=fun b o h=>Nat.lt_of_lt_of_le (hI.imLt b o h) hs,
     thLt:=fun t e r h=>⟨(hI.thLt t e r h).1,fun ad had=>Nat.lt_of_lt_of_le ((hI.thLt t e r h).2 ad had) hs⟩,thLe:=hI.thLe,bnLt:=hI.bnLt,
     blk:=fun i B hB=>⟨(hI.blk i B hB).1,BlkOk.keep st (fun b hb=>hh b (hI.ioLt i b hb).2) (fun _ _ h=>h) (fun h=>h) (fun len esz x ad cap e hth=>by
      subst e
      obtain ⟨a0,cap0,q1,q2,q3,q4⟩:=(hI.blk i _ hB).2
      obtain ⟨rfl,rfl⟩:a0=some ad∧cap0=cap:=by rw [hth] at q1;simpa [eq_comm] using q1
      exact ⟨hh _ ((hI.thLt i len _ hth).2 ad rfl),fun _ _ h=>h,(q4 ad rfl).2.2.2.2⟩) (hI.blk i B hB).2⟩,
     tokInj:=hI.tokInj }
theorem sort_eq {l:List VP} (hn:l.Nodup) {d':Array VP} (hp:PermIn 0 l.toArray.size l.toArray d') (hs:SortedIn (ltOf cmpP) 0 l.toArray.size d'):d'.toList=sortP l:=by
 have hsz:d'.size=l.length:=by have:=hp.1;simpa using this
 have hperm:d'.toList.Perm l:=by
  have h:=hp.2.2
  have e1:(d'.extract 0 l.toArray.size).toList=d'.toList:=by
   have h5:d'.toList.length≤l.length:=by simp [hsz]
   simpa using List.take_of_length_le h5
  have e2:(l.toArray.extract 0 l.toArray.size).toList=l:=by simp
  rwa [e1,e2] at h
 refine sortP_eq hn hperm ?_
 have hnd:d'.toList.Nodup:=hperm.nodup_iff.2 hn
 rw [AscP,List.pairwise_iff_getElem]
 intro i j hi hj hij
 have h:=hs i j (Nat.zero_le _) hij (by simp at hj ⊢;omega)
 rw [ltOf_cmpP,getElem!_pos _ j (by simpa using hj),getElem!_pos _ i (by simpa using hi)] at h
 simp only [Array.getElem_toList]
 rcases ltP_total d'[i] d'[j] with h1 | h1 | h1
 ·exact h1
 ·exfalso
  have:=(List.pairwise_iff_getElem.1 hnd) i j hi hj hij
  simp only [Array.getElem_toList] at this
  exact this h1
 ·rw [h] at h1;cases h1
theorem sortOk:SortOk:=by
 intro l hn hl H i hH
 refine ⟨⟨_,Tryz.func44,by decide,rfl⟩,fun K w cargs hI ha=>?_⟩
 obtain ⟨x,xs,e,hx,hxs⟩:=ha
 obtain ⟨y,ys,e2,hy,hys⟩:=hxs
 have hys0:ys=[]:=hys
 subst hys0 e2
 obtain ⟨a,cap,rfl,hcap,hnil,hth,hsp⟩:=hx
 obtain ⟨cs,rfl,hcs⟩:=hy
 have hcs0:cs=#[]:=by
  have:cs.toList=[]:=hcs
  exact Array.ext' (by simpa using this)
 subst hcs0
 have hca:cargs=#[.slice a l.length cap,.func (.func 45) #[] #[]]:=Array.ext' (by simpa using e)
 subst hca
 obtain ⟨a1,cap1,q1,q2,q3,q4⟩:=(hI.blk _ _ hH).2
 obtain ⟨rfl,rfl⟩:a1=a∧cap1=cap:=by rw [hth] at q1;simpa [eq_comm] using q1
 cases a1 with
 | none =>
  obtain ⟨rfl,hw⟩:=q3 rfl
  have hl0:l=[]:=by simpa [ownNil] using hw
  subst hl0
  have hcon:=AnyF.slices_SortFunc_none sortLay none 0 (.func (.func 45) #[] #[]) w
  refine Calls.mono hcon ?_
  rintro e w' ⟨rfl,rfl⟩
  refine ⟨K,.tuple [],_,H,rfl,.refl hI,⟨_,rfl,rfl⟩,rfl,?_⟩
  refine AHeap.ext (fun j=>?_) rfl
  show H.get j=if j=i then some _ else H.get j
  by_cases hj:j=i
  ·rw [if_pos hj,hj,hH];rfl
  ·rw [if_neg hj]
 | some ad =>
  obtain ⟨p1,p2,⟨c,et,h2,p4,pre,rest,h3,h4⟩,p7,p8⟩:=q4 ad rfl
  have hpre:=enc_rep h4
  subst hpre
  obtain ⟨blk,off,spot⟩:=ad
  simp only at p1 h2 p4
  have hoff:off=0:=p2
  subst p1 hoff
  have hF:(flatK encP 3 l.toArray).toList=l.flatMap encP:=by rw [flatK_list]
  have hFs:(l.flatMap encP).length=l.length * 3:=by rw [←hF,Array.length_toList,size_flatK];simp
  have hHolds:HoldsK encP 3 w blk 0 l.toArray:=by
   intro j hj
   have hj2:j < (l.flatMap encP).length:=by rw [hFs];simpa using hj
   constructor
   ·have h5:c[0+j]?=(l.flatMap encP)[j]?:=by rw [Nat.zero_add,←Array.getElem?_toList,h3,List.getElem?_append_left hj2]
    have h6:(flatK encP 3 l.toArray)[j]! = (l.flatMap encP)[j]:=by
     rw [getElem!_pos _ j (by rw [←Array.length_toList,hF];exact hj2),←Array.getElem_toList]
     simp only [hF]
    simp only [World.cell?,h2,h5,h6]
    simp [hj2]
   ·simp [World.frozen?,h2]
  have hblk:blk < w.heap.size:=(Array.getElem?_eq_some_iff.1 h2).1
  have eg:∀ args w,(callFunc 45 args).run Tryz.prog w=.ok (.enter 45 args) w:=enters_of Tryz.func45 (by kernel_rfl) rfl
  have hcon:=AnyQ.slices_SortFunc sortLay 3 Tryz.isAgg39 Tryz.sizeOf39 encP (fun _=>rfl) (fun x v hv=>by simp only [encP,List.mem_cons,List.not_mem_nil,or_false] at hv;rcases hv with rfl | rfl | rfl <;> rfl) cmpP swoP 45 #[] blk 0 cap1 l.toArray w eg (fun _ _ _ _ x y=>closure_calls x y _) hHolds hblk (by simp;omega)
  simp only [List.size_toArray] at hcon
  refine Calls.mono hcon ?_
  rintro e w' ⟨rfl,d',n,os,hp,hs,rfl⟩
  have hd:=sort_eq hn (by simpa using hp) (by simpa using hs)
  have hsl:(sortP l).length=l.length:=(sortP_perm l).length_eq
  have hF2:(flatK encP 3 d').toList=(sortP l).flatMap encP:=by rw [flatK_list,hd]
  have hF2s:(flatK encP 3 d').size=(l.flatMap encP).length:=by
   rw [size_flatK,hFs,←hsl,←hd];simp
  obtain ⟨w1,hw1⟩:∃ w1,w1=putRowK encP 3 (Sort.ahead w n) blk 0 d':=⟨_,rfl⟩
  have hheap:w1.heap=w.heap.modify blk (onCells (putCells id 0 (flatK encP 3 d'))):=by rw [hw1];rfl
  have hat:w1.heap[blk]?=some (.cells (putCells id 0 (flatK encP 3 d') c) et (0,0)):=by
   rw [hheap,Array.getElem?_modify,if_pos rfl,h2];rfl
  have hchg:Chg w w1 blk (.cells (putCells id 0 (flatK encP 3 d') c) et (0,0)) :=
   ⟨by rw [hheap];simp,hat,fun k hk=>by rw [hheap,Array.getElem?_modify,if_neg (fun e=>hk e.symm)],by rw [hw1];rfl,by rw [hw1];rfl,by rw [hw1];rfl⟩
  have hsz:(putCells id 0 (flatK encP 3 d') c).size=c.size:=by simp [putCells]
  have hE1:=Ext.vecWrite (c:=putCells id 0 (flatK encP 3 d') c) (e:=et) (l':=(sortP l).map vpC) hI hH hth h2 hchg (shape_cells h2 hat hsz) hsz ⟨(sortP l).flatMap encP,rest,by rw [put_list _ c _ rest h3 hF2s.symm,hF2],rep_enc _⟩
  have hE2:Ext K w1 (H.upd i (.tok l.length 3 (some ((sortP l).map vpC)))) K (grow w1 os) (H.upd i (.tok l.length 3 (some ((sortP l).map vpC)))) :=
   Ext.more hE1.inv (by simp [grow]) (fun b hb=>by simp only [grow];rw [Array.getElem?_append_left hb]) rfl rfl rfl
  refine ⟨K,.tuple [],_,_,rfl,?_,⟨_,rfl,rfl⟩,rfl,rfl⟩
  have:sortWorldK encP 3 w blk 0 n d' os=grow w1 os:=by rw [hw1];rfl
  rw [this]
  exact hE1.trans hE2
end Go.Proofs
