/- The library's sort and compact, out of the kit's shelf. -/
import Derived.Shelf.SortG.Plain
import Derived.Shelf.SortG.SortNone
import Derived.Shelf.SlicesG.CompactI
import Derived.Shelf.SlicesG.CompactS
import Derived.Test.YtdppfcbeiplckaaGreatMM7
import Derived.Test.YtdppfcbeiplckaaGreatMM5
set_option linter.unusedVariables false
set_option linter.unusedSimpArgs false
namespace Go.Proofs
open Go Go.Abs Go.Shelf Go.RowKit Go.Lib Go.Sort Go.Proofs.YtdppfcbeiplckaaGreat
def sortILay_ren:Go.Shelf.Ren:=⟨fun | 53=>25 | 64=>59 | 63=>58 | 78=>126 | 79=>127 | 70=>117 | 71=>118 | 72=>119 | 73=>120 | 74=>121 | 75=>122 | 59=>123 | 76=>124 | 77=>125 | 88=>193 | 89=>194 | 90=>195 | 91=>196 | 92=>197 | 68=>198 | 96=>233 | n=>n,fun | 22=>22 | 23=>3 | 3=>3 | 51=>112 | 0=>0 | 67=>167 | 69=>169 | 4=>4 | 61=>160 | 60=>159 | 44=>88 | 5=>5 | 9=>9 | 75=>227 | 79=>105 | 83=>254 | 84=>188 | n=>n,fun | n=>n⟩
theorem sortILay:Go.Proofs.SlLaysN.n53 Tryz.prog sortILay_ren where
 mixed:=by kernel_rfl
 f53 := ⟨"slices.Sort[[]int,int]", by decide, Tryz.func25.trans (congrArg some (by kernel_rfl))⟩
 f59 := ⟨"cmp.Less[int]", by decide, Tryz.func123.trans (congrArg some (by kernel_rfl))⟩
 f63 := ⟨"slices.pdqsortOrdered[int]", by decide, Tryz.func58.trans (congrArg some (by kernel_rfl))⟩
 f64:=Tryz.func59.trans (congrArg some (by kernel_rfl))
 f68 := ⟨"cmp.isNaN[int]", by decide, Tryz.func198.trans (congrArg some (by kernel_rfl))⟩
 f70 := ⟨"slices.insertionSortOrdered[int]", by decide, Tryz.func117.trans (congrArg some (by kernel_rfl))⟩
 f71 := ⟨"slices.heapSortOrdered[int]", by decide, Tryz.func118.trans (congrArg some (by kernel_rfl))⟩
 f72 := ⟨"slices.breakPatternsOrdered[int]", by decide, Tryz.func119.trans (congrArg some (by kernel_rfl))⟩
 f73 := ⟨"slices.choosePivotOrdered[int]", by decide, Tryz.func120.trans (congrArg some (by kernel_rfl))⟩
 f74 := ⟨"slices.reverseRangeOrdered[int]", by decide, Tryz.func121.trans (congrArg some (by kernel_rfl))⟩
 f75 := ⟨"slices.partialInsertionSortOrdered[int]", by decide, Tryz.func122.trans (congrArg some (by kernel_rfl))⟩
 f76 := ⟨"slices.partitionEqualOrdered[int]", by decide, Tryz.func124.trans (congrArg some (by kernel_rfl))⟩
 f77 := ⟨"slices.partitionOrdered[int]", by decide, Tryz.func125.trans (congrArg some (by kernel_rfl))⟩
 f78:=Tryz.func126.trans (congrArg some (by kernel_rfl))
 f79:=Tryz.func127.trans (congrArg some (by kernel_rfl))
 f88 := ⟨"slices.siftDownOrdered[int]", by decide, Tryz.func193.trans (congrArg some (by kernel_rfl))⟩
 f89:=Tryz.func194.trans (congrArg some (by kernel_rfl))
 f90:=Tryz.func195.trans (congrArg some (by kernel_rfl))
 f91 := ⟨"slices.medianAdjacentOrdered[int]", by decide, Tryz.func196.trans (congrArg some (by kernel_rfl))⟩
 f92 := ⟨"slices.medianOrdered[int]", by decide, Tryz.func197.trans (congrArg some (by kernel_rfl))⟩
 f96 := ⟨"slices.order2Ordered[int]", by decide, Tryz.func233.trans (congrArg some (by kernel_rfl))⟩
 t0:=Tryz.underlying0
 a0:=Tryz.isAgg0
 z0:=Tryz.sizeOf0
 v0:=Tryz.zeroValue0
 t3:=Tryz.underlying3
 a3:=Tryz.isAgg3
 z3:=Tryz.sizeOf3
 v3:=Tryz.zeroValue3
 t4:=Tryz.underlying4
 a4:=Tryz.isAgg4
 z4:=Tryz.sizeOf4
 v4:=Tryz.zeroValue4
 t5:=Tryz.underlying5
 a5:=Tryz.isAgg5
 z5:=Tryz.sizeOf5
 v5:=Tryz.zeroValue5
 t9:=Tryz.underlying9
 a9:=Tryz.isAgg9
 z9:=Tryz.sizeOf9
 v9:=Tryz.zeroValue9
 t22:=Tryz.underlying22
 a22:=Tryz.isAgg22
 z22:=Tryz.sizeOf22
 v22:=Tryz.zeroValue22
 t23:=Tryz.underlying3
 a23:=Tryz.isAgg3
 z23:=Tryz.sizeOf3
 v23:=Tryz.zeroValue3
 t44:=Tryz.underlying88
 a44:=Tryz.isAgg88
 z44:=Tryz.sizeOf88
 v44:=Tryz.zeroValue88
 t51:=Tryz.underlying112
 a51:=Tryz.isAgg112
 z51:=Tryz.sizeOf112
 v51:=Tryz.zeroValue112
 t60:=Tryz.underlying159
 a60:=Tryz.isAgg159
 z60:=Tryz.sizeOf159
 v60:=Tryz.zeroValue159
 t61:=Tryz.underlying160
 a61:=Tryz.isAgg160
 z61:=Tryz.sizeOf160
 v61:=Tryz.zeroValue160
 t67:=Tryz.underlying167
 a67:=Tryz.isAgg167
 z67:=Tryz.sizeOf167
 v67:=Tryz.zeroValue167
 t69:=Tryz.underlying169
 a69:=Tryz.isAgg169
 z69:=Tryz.sizeOf169
 v69:=Tryz.zeroValue169
 t75:=Tryz.underlying227
 a75:=Tryz.isAgg227
 z75:=Tryz.sizeOf227
 v75:=Tryz.zeroValue227
 t79:=Tryz.underlying105
 a79:=Tryz.isAgg105
 z79:=Tryz.sizeOf105
 v79:=Tryz.zeroValue105
 t83:=Tryz.underlying254
 a83:=Tryz.isAgg254
 z83:=Tryz.sizeOf254
 v83:=Tryz.zeroValue254
 t84:=Tryz.underlying188
 a84:=Tryz.isAgg188
 z84:=Tryz.sizeOf188
 v84:=Tryz.zeroValue188
def sortSLay_ren:Go.Shelf.Ren:=⟨fun | 54=>87 | 64=>59 | 65=>155 | 78=>126 | 79=>127 | 80=>206 | 81=>207 | 82=>208 | 83=>209 | 84=>210 | 85=>211 | 61=>212 | 86=>213 | 87=>214 | 93=>245 | 89=>194 | 90=>195 | 94=>246 | 95=>247 | 69=>248 | 97=>262 | n=>n,fun | 25=>95 | 26=>9 | 3=>3 | 51=>112 | 0=>0 | 67=>167 | 69=>169 | 4=>4 | 61=>160 | 60=>159 | 44=>88 | 5=>5 | 9=>9 | 75=>227 | 79=>105 | 83=>254 | 84=>188 | n=>n,fun | n=>n⟩
theorem sortSLay:Go.Proofs.SlLaysN.n54 Tryz.prog sortSLay_ren where
 mixed:=by kernel_rfl
 f54 := ⟨"slices.Sort[[]string,string]", by decide, Tryz.func87.trans (congrArg some (by kernel_rfl))⟩
 f61 := ⟨"cmp.Less[string]", by decide, Tryz.func212.trans (congrArg some (by kernel_rfl))⟩
 f64:=Tryz.func59.trans (congrArg some (by kernel_rfl))
 f65 := ⟨"slices.pdqsortOrdered[string]", by decide, Tryz.func155.trans (congrArg some (by kernel_rfl))⟩
 f69 := ⟨"cmp.isNaN[string]", by decide, Tryz.func248.trans (congrArg some (by kernel_rfl))⟩
 f78:=Tryz.func126.trans (congrArg some (by kernel_rfl))
 f79:=Tryz.func127.trans (congrArg some (by kernel_rfl))
 f80 := ⟨"slices.insertionSortOrdered[string]", by decide, Tryz.func206.trans (congrArg some (by kernel_rfl))⟩
 f81 := ⟨"slices.heapSortOrdered[string]", by decide, Tryz.func207.trans (congrArg some (by kernel_rfl))⟩
 f82 := ⟨"slices.breakPatternsOrdered[string]", by decide, Tryz.func208.trans (congrArg some (by kernel_rfl))⟩
 f83 := ⟨"slices.choosePivotOrdered[string]", by decide, Tryz.func209.trans (congrArg some (by kernel_rfl))⟩
 f84 := ⟨"slices.reverseRangeOrdered[string]", by decide, Tryz.func210.trans (congrArg some (by kernel_rfl))⟩
 f85 := ⟨"slices.partialInsertionSortOrdered[string]", by decide, Tryz.func211.trans (congrArg some (by kernel_rfl))⟩
 f86 := ⟨"slices.partitionEqualOrdered[string]", by decide, Tryz.func213.trans (congrArg some (by kernel_rfl))⟩
 f87 := ⟨"slices.partitionOrdered[string]", by decide, Tryz.func214.trans (congrArg some (by kernel_rfl))⟩
 f89:=Tryz.func194.trans (congrArg some (by kernel_rfl))
 f90:=Tryz.func195.trans (congrArg some (by kernel_rfl))
 f93 := ⟨"slices.siftDownOrdered[string]", by decide, Tryz.func245.trans (congrArg some (by kernel_rfl))⟩
 f94 := ⟨"slices.medianAdjacentOrdered[string]", by decide, Tryz.func246.trans (congrArg some (by kernel_rfl))⟩
 f95 := ⟨"slices.medianOrdered[string]", by decide, Tryz.func247.trans (congrArg some (by kernel_rfl))⟩
 f97 := ⟨"slices.order2Ordered[string]", by decide, Tryz.func262.trans (congrArg some (by kernel_rfl))⟩
 t0:=Tryz.underlying0
 a0:=Tryz.isAgg0
 z0:=Tryz.sizeOf0
 v0:=Tryz.zeroValue0
 t3:=Tryz.underlying3
 a3:=Tryz.isAgg3
 z3:=Tryz.sizeOf3
 v3:=Tryz.zeroValue3
 t4:=Tryz.underlying4
 a4:=Tryz.isAgg4
 z4:=Tryz.sizeOf4
 v4:=Tryz.zeroValue4
 t5:=Tryz.underlying5
 a5:=Tryz.isAgg5
 z5:=Tryz.sizeOf5
 v5:=Tryz.zeroValue5
 t9:=Tryz.underlying9
 a9:=Tryz.isAgg9
 z9:=Tryz.sizeOf9
 v9:=Tryz.zeroValue9
 t25:=Tryz.underlying95
 a25:=Tryz.isAgg95
 z25:=Tryz.sizeOf95
 v25:=Tryz.zeroValue95
 t26:=Tryz.underlying9
 a26:=Tryz.isAgg9
 z26:=Tryz.sizeOf9
 v26:=Tryz.zeroValue9
 t44:=Tryz.underlying88
 a44:=Tryz.isAgg88
 z44:=Tryz.sizeOf88
 v44:=Tryz.zeroValue88
 t51:=Tryz.underlying112
 a51:=Tryz.isAgg112
 z51:=Tryz.sizeOf112
 v51:=Tryz.zeroValue112
 t60:=Tryz.underlying159
 a60:=Tryz.isAgg159
 z60:=Tryz.sizeOf159
 v60:=Tryz.zeroValue159
 t61:=Tryz.underlying160
 a61:=Tryz.isAgg160
 z61:=Tryz.sizeOf160
 v61:=Tryz.zeroValue160
 t67:=Tryz.underlying167
 a67:=Tryz.isAgg167
 z67:=Tryz.sizeOf167
 v67:=Tryz.zeroValue167
 t69:=Tryz.underlying169
 a69:=Tryz.isAgg169
 z69:=Tryz.sizeOf169
 v69:=Tryz.zeroValue169
 t75:=Tryz.underlying227
 a75:=Tryz.isAgg227
 z75:=Tryz.sizeOf227
 v75:=Tryz.zeroValue227
 t79:=Tryz.underlying105
 a79:=Tryz.isAgg105
 z79:=Tryz.sizeOf105
 v79:=Tryz.zeroValue105
 t83:=Tryz.underlying254
 a83:=Tryz.isAgg254
 z83:=Tryz.sizeOf254
 v83:=Tryz.zeroValue254
 t84:=Tryz.underlying188
 a84:=Tryz.isAgg188
 z84:=Tryz.sizeOf188
 v84:=Tryz.zeroValue188
def compILay_ren:Go.Shelf.Ren:=⟨fun | 43=>26 | n=>n,fun | 22=>22 | 23=>3 | 3=>3 | 4=>4 | 0=>0 | n=>n,fun | n=>n⟩
theorem compILay:Go.Proofs.SlLaysN.n43 Tryz.prog compILay_ren where
 mixed:=by kernel_rfl
 f43 := ⟨"slices.Compact[[]int,int]", by decide, Tryz.func26.trans (congrArg some (by kernel_rfl))⟩
 t0:=Tryz.underlying0
 a0:=Tryz.isAgg0
 z0:=Tryz.sizeOf0
 v0:=Tryz.zeroValue0
 t3:=Tryz.underlying3
 a3:=Tryz.isAgg3
 z3:=Tryz.sizeOf3
 v3:=Tryz.zeroValue3
 t4:=Tryz.underlying4
 a4:=Tryz.isAgg4
 z4:=Tryz.sizeOf4
 v4:=Tryz.zeroValue4
 t22:=Tryz.underlying22
 a22:=Tryz.isAgg22
 z22:=Tryz.sizeOf22
 v22:=Tryz.zeroValue22
 t23:=Tryz.underlying3
 a23:=Tryz.isAgg3
 z23:=Tryz.sizeOf3
 v23:=Tryz.zeroValue3
 i23:=by kernel_rfl
def compSLay_ren:Go.Shelf.Ren:=⟨fun | 44=>88 | n=>n,fun | 25=>95 | 26=>9 | 3=>3 | 4=>4 | 0=>0 | n=>n,fun | n=>n⟩
theorem compSLay:Go.Proofs.SlLaysN.n44 Tryz.prog compSLay_ren where
 mixed:=by kernel_rfl
 f44 := ⟨"slices.Compact[[]string,string]", by decide, Tryz.func88.trans (congrArg some (by kernel_rfl))⟩
 t0:=Tryz.underlying0
 a0:=Tryz.isAgg0
 z0:=Tryz.sizeOf0
 v0:=Tryz.zeroValue0
 t3:=Tryz.underlying3
 a3:=Tryz.isAgg3
 z3:=Tryz.sizeOf3
 v3:=Tryz.zeroValue3
 t4:=Tryz.underlying4
 a4:=Tryz.isAgg4
 z4:=Tryz.sizeOf4
 v4:=Tryz.zeroValue4
 t25:=Tryz.underlying95
 a25:=Tryz.isAgg95
 z25:=Tryz.sizeOf95
 v25:=Tryz.zeroValue95
 t26:=Tryz.underlying9
 a26:=Tryz.isAgg9
 z26:=Tryz.sizeOf9
 v26:=Tryz.zeroValue9
 i26:=by kernel_rfl
def rowE {α:Type} (en:α→Value) (x:α):List AV:=[.v (en x)]
theorem repE {α:Type} (en:α→Value) {K:KW} {w:World}:∀ {l:List α} {pre:List Value},RepL K w (l.map (rowE en)).flatten pre→pre=l.map en
 | [],pre,h=>h
 | p::l,pre,h=>by
  simp only [List.map_cons,List.flatten_cons,rowE,List.cons_append,List.nil_append] at h
  obtain ⟨y,ys,rfl,hy,h⟩:=h
  have:=repE en h
  simp only [Rep] at hy
  subst hy this
  rfl
theorem eRep {α:Type} (en:α→Value) {K:KW} {w:World}:∀ (l:List α),RepL K w (l.map (rowE en)).flatten (l.map en)
 | []=>rfl
 | p::l=>⟨_,_,rfl,rfl,eRep en l⟩
section
variable {P:Program} {α:Type} [Inhabited α] (en:α→Value)
theorem put_list1 (d:Array α) (c:Array Value) (pre rest:List Value) (hc:c.toList=pre++rest) (hp:pre.length=d.size):(putCells en 0 d c).toList=d.toList.map en++rest:=by
 have hcs:c.size=pre.length+rest.length:=by rw [←Array.length_toList,hc,List.length_append]
 refine List.ext_getElem? fun t=>?_
 rw [Array.getElem?_toList]
 unfold putCells
 rw [Array.getElem?_mapIdx]
 by_cases ht:t < d.size
 ·rw [List.getElem?_append_left (by simpa using ht),Array.getElem?_eq_getElem (by omega)]
  simp [ht]
 ·rw [List.getElem?_append_right (by simp;omega)]
  have h2:c[t]?=rest[t - d.size]?:=by
   rw [←Array.getElem?_toList,hc,List.getElem?_append_right (by omega),hp]
  rw [h2]
  have h3:¬ (0≤t∧t < 0+d.size):=by omega
  cases h:rest[t - d.size]? with
  | none=>simp [h]
  | some v=>simp [h,h3,ht]
theorem Ext.moreE {K:KW} {w w':World} {H:AHeap} (hI:Inv K w H) (hs:w.heap.size≤w'.heap.size) (hh:∀ b,b < w.heap.size→w'.heap[b]?=w.heap[b]?) (ho:w'.os=w.os) (ht:w'.tape=w.tape) (hp:w'.output=w.output):Ext K w H K w' H:=Ext.free hI hs hh ho ht hp
theorem sort_bridge {f : FuncId} (srt : List α → List α) (hlen : ∀ l, (srt l).length = l.length) (hf : ∃ fn, P.funcs[f]? = some fn ∧ fn.name ≠ "runtime.NumGoroutine" ∧ fn.body.isSome = true)
  (hnone:∀ cap w,Calls P f #[.slice none 0 cap] w fun e w'=>e=.returned (.tuple #[])∧w'=w)
  (hcall:∀ blk cap zs w,Holds en w blk 0 zs.toArray→blk < w.heap.size→zs.length < 4611686018427387904→Calls P f #[.slice (some ⟨blk,0,none⟩) zs.length cap] w fun e w'=>e=.returned (.tuple #[])∧∃ n os,w'=grow (putRow en (Sort.ahead w n) blk 0 (srt zs).toArray) os)
  (l:List α) (hl:l.length < 1099511627776) (H:AHeap) (i:Nat) (hH:H.get i=some (.tok l.length 1 (some (l.map (rowE en))))) :
  ACalls P f [.vec i l.length] H (.tuple []) (H.upd i (.tok l.length 1 (some ((srt l).map (rowE en))))):=by
 refine ⟨hf,fun K w cargs hI ha=>?_⟩
 obtain ⟨x,xs,e,hx,hxs⟩:=ha
 have hxs0:xs=[]:=hxs
 subst hxs0
 obtain ⟨a,cap,rfl,hcap,hnil,hth,hsp⟩:=hx
 have hca:cargs=#[.slice a l.length cap]:=Array.ext' (by simpa using e)
 subst hca
 obtain ⟨a1,cap1,q1,q2,q3,q4⟩:=(hI.blk _ _ hH).2
 obtain ⟨rfl,rfl⟩:a1=a∧cap1=cap:=by rw [hth] at q1;simpa [eq_comm] using q1
 cases a1 with
 | none =>
  obtain ⟨rfl,hw⟩:=q3 rfl
  have hl0:l=[]:=by simpa [ownNil] using hw
  subst hl0
  have hs0:srt []=[]:=List.length_eq_zero_iff.1 (hlen [])
  refine Calls.mono (hnone 0 w) ?_
  rintro e w' ⟨rfl,rfl⟩
  refine ⟨K,.tuple [],_,H,rfl,.refl hI,⟨_,rfl,rfl⟩,rfl,?_⟩
  rw [hs0]
  exact (upd_same hH).symm
 | some ad =>
  obtain ⟨p1,p2,⟨c,et,h2,p4,pre,rest,h3,h4⟩,p7,p8⟩:=q4 ad rfl
  have hpre:=repE en h4
  subst hpre
  obtain ⟨blk,off,spot⟩:=ad
  simp only at p1 h2 p4
  have hoff:off=0:=p2
  subst p1 hoff
  have hHolds:Holds en w blk 0 l.toArray:=by
   intro j hj
   have hj2:j < (l.map en).length:=by simpa using hj
   constructor
   ·have h5:c[0+j]?=(l.map en)[j]?:=by rw [Nat.zero_add,←Array.getElem?_toList,h3,List.getElem?_append_left hj2]
    have hj3:j < l.length:=by simpa using hj
    simp only [World.cell?,h2,h5]
    rw [getElem!_pos _ j hj]
    simp [hj3]
   ·simp [World.frozen?,h2]
  have hblk:blk < w.heap.size:=(Array.getElem?_eq_some_iff.1 h2).1
  refine Calls.mono (hcall blk cap1 l w hHolds hblk (by omega)) ?_
  rintro e w' ⟨rfl,n,os,rfl⟩
  obtain ⟨w1,hw1⟩:∃ w1,w1=putRow en (Sort.ahead w n) blk 0 (srt l).toArray:=⟨_,rfl⟩
  have hheap:w1.heap=w.heap.modify blk (onCells (putCells en 0 (srt l).toArray)):=by rw [hw1];rfl
  have hat:w1.heap[blk]?=some (.cells (putCells en 0 (srt l).toArray c) et (0,0)):=by
   rw [hheap,Array.getElem?_modify,if_pos rfl,h2];rfl
  have hchg:Chg w w1 blk (.cells (putCells en 0 (srt l).toArray c) et (0,0)) :=
   ⟨by rw [hheap];simp,hat,fun k hk=>by rw [hheap,Array.getElem?_modify,if_neg (fun e=>hk e.symm)],by rw [hw1];rfl,by rw [hw1];rfl,by rw [hw1];rfl⟩
  have hsz:(putCells en 0 (srt l).toArray c).size=c.size:=by simp [putCells]
  have hE1:=Ext.vecWrite (c:=putCells en 0 (srt l).toArray c) (e:=et) (l':=(srt l).map (rowE en)) hI hH hth h2 hchg (shape_cells h2 hat hsz) hsz ⟨(srt l).map en,rest,by rw [put_list1 en _ c _ rest h3 (by simp [hlen])],eRep en _⟩
  have hE2:Ext K w1 (H.upd i (.tok l.length 1 (some ((srt l).map (rowE en))))) K (grow w1 os) (H.upd i (.tok l.length 1 (some ((srt l).map (rowE en))))) :=
   Ext.moreE hE1.inv (by simp [grow]) (fun b hb=>by simp only [grow];rw [Array.getElem?_append_left hb]) rfl rfl rfl
  refine ⟨K,.tuple [],_,_,rfl,?_,⟨_,rfl,rfl⟩,rfl,rfl⟩
  rw [←hw1]
  exact hE1.trans hE2
end
end Go.Proofs
namespace Go.Proofs
open Go Go.Abs Go.Shelf Go.RowKit Go.Lib Go.Sort Go.Proofs.YtdppfcbeiplckaaGreat
section
variable {P:Program} {α:Type} [Inhabited α] (en:α→Value)
theorem compact_bridge {f : FuncId} (cmp : List α → List α) (z : α) (hone : ∀ x, (en x).oneCell' = true) (hlen : ∀ l, (cmp l).length ≤ l.length) (hf : ∃ fn, P.funcs[f]? = some fn ∧ fn.name ≠ "runtime.NumGoroutine" ∧ fn.body.isSome = true)
  (hnone:∀ cap w,Calls P f #[.slice none 0 cap] w fun e w'=>e=.returned (.slice none 0 cap)∧w'=w)
  (hcall:∀ blk cap zs w,Holds en w blk 0 zs.toArray→zs.length≤9223372036854775807→zs.length≤cap→Calls P f #[.slice (some ⟨blk,0,none⟩) zs.length cap] w fun e w' =>
   e=.returned (.slice (some ⟨blk,0,none⟩) (cmp zs).length cap)∧∃ n,w'=putRow en (Sort.ahead w n) blk 0 (cmp zs++List.replicate (zs.length - (cmp zs).length) z).toArray)
  (l:List α) (hl:l.length < 1099511627776) (H:AHeap) (i:Nat) (hH:H.get i=some (.tok l.length 1 (some (l.map (rowE en))))) :
  ACalls P f [.vec i l.length] H (.slice ((cmp l).map (rowE en)) none) (H.upd i (.tok l.length 1 none)):=by
 refine ⟨hf,fun K w cargs hI ha=>?_⟩
 obtain ⟨x,xs,e,hx,hxs⟩:=ha
 have hxs0:xs=[]:=hxs
 subst hxs0
 obtain ⟨a,cap,rfl,hcap,hnil,hth,hsp⟩:=hx
 have hca:cargs=#[.slice a l.length cap]:=Array.ext' (by simpa using e)
 subst hca
 obtain ⟨a1,cap1,q1,q2,q3,q4⟩:=(hI.blk _ _ hH).2
 obtain ⟨rfl,rfl⟩:a1=a∧cap1=cap:=by rw [hth] at q1;simpa [eq_comm] using q1
 cases a1 with
 | none =>
  obtain ⟨rfl,hw⟩:=q3 rfl
  have hl0:l=[]:=by simpa [ownNil] using hw
  subst hl0
  have hs0:cmp []=[]:=List.length_eq_zero_iff.1 (Nat.le_zero.1 (hlen []))
  refine Calls.mono (hnone 0 w) ?_
  rintro e w' ⟨rfl,rfl⟩
  have hX:=Ext.freeze hI hH hth
  rw [hs0]
  exact ⟨_,.slice [] none,_,_,rfl,hX,⟨none,0,0,rfl,rfl,Nat.le_refl _,(fun _=>rfl),(fun _ h=>nomatch h),(fun h=>absurd rfl h)⟩,rfl,rfl⟩
 | some ad =>
  obtain ⟨p1,p2,⟨c,et,h2,p4,pre,rest,h3,h4⟩,p7,p8⟩:=q4 ad rfl
  have hpre:=repE en h4
  subst hpre
  obtain ⟨blk,off,spot⟩:=ad
  simp only at p1 h2 p4
  have hoff:off=0:=p2
  subst p1 hoff
  have hHolds:Holds en w blk 0 l.toArray:=by
   intro j hj
   have hj2:j < (l.map en).length:=by simpa using hj
   constructor
   ·have h5:c[0+j]?=(l.map en)[j]?:=by rw [Nat.zero_add,←Array.getElem?_toList,h3,List.getElem?_append_left hj2]
    have hj3:j < l.length:=by simpa using hj
    simp only [World.cell?,h2,h5]
    rw [getElem!_pos _ j hj]
    simp [hj3]
   ·simp [World.frozen?,h2]
  have hlc:=hlen l
  refine Calls.mono (hcall blk cap1 l w hHolds (by omega) q2) ?_
  rintro e w' ⟨rfl,n,rfl⟩
  obtain ⟨L,hL⟩:∃ L,L=cmp l++List.replicate (l.length - (cmp l).length) z:=⟨_,rfl⟩
  have hLl:L.length=l.length:=by rw [hL,List.length_append,List.length_replicate];omega
  rw [←hL]
  obtain ⟨w1,hw1⟩:∃ w1,w1=putRow en (Sort.ahead w n) blk 0 L.toArray:=⟨_,rfl⟩
  rw [←hw1]
  have hheap:w1.heap=w.heap.modify blk (onCells (putCells en 0 L.toArray)):=by rw [hw1];rfl
  have hat:w1.heap[blk]?=some (.cells (putCells en 0 L.toArray c) et (0,0)):=by
   rw [hheap,Array.getElem?_modify,if_pos rfl,h2];rfl
  have hchg:Chg w w1 blk (.cells (putCells en 0 L.toArray c) et (0,0)) :=
   ⟨by rw [hheap];simp,hat,fun k hk=>by rw [hheap,Array.getElem?_modify,if_neg (fun e=>hk e.symm)],by rw [hw1];rfl,by rw [hw1];rfl,by rw [hw1];rfl⟩
  have hsz:(putCells en 0 L.toArray c).size=c.size:=by simp [putCells]
  have hlist:(putCells en 0 L.toArray c).toList=L.map en++rest:=by rw [put_list1 en _ c _ rest h3 (by simp [hLl])]
  have hE1:=Ext.vecWrite (c:=putCells en 0 L.toArray c) (e:=et) (l':=L.map (rowE en)) hI hH hth h2 hchg (shape_cells h2 hat hsz) hsz ⟨L.map en,rest,hlist,eRep en _⟩
  have hX:=Ext.freeze hE1.inv (show (H.upd i (.tok l.length 1 (some (L.map (rowE en))))).get i=some (.tok l.length 1 (some (L.map (rowE en)))) from by simp [AHeap.upd]) hth
  rw [show (H.upd i (.tok l.length 1 (some (L.map (rowE en))))).upd i (.tok l.length 1 none)=H.upd i (.tok l.length 1 none) from upd_upd] at hX
  refine ⟨_,.slice ((cmp l).map (rowE en)) none,_,_,rfl,hE1.trans hX,⟨some ⟨blk,0,none⟩,(cmp l).length,cap1,rfl,by simp,by omega,(fun h=>nomatch h),(fun _ h=>nomatch h),(fun _=>⟨_,1,rfl,rfl,?_⟩)⟩,rfl,rfl⟩
  refine RepRows.of_flat (fun r hr=>by obtain ⟨y,_,rfl⟩:=List.mem_map.1 hr;rfl) ?_
  have hcs:=CellsAt.of_block hat 0
  rw [List.drop_zero,hlist,hL,List.map_append,List.append_assoc] at hcs
  refine RepCells.of hcs.pre (eRep en _) (fun x hx=>?_) (fun o ho1 ho2=>?_)
  ·obtain ⟨y,_,rfl⟩:=List.mem_map.1 hx;exact hone y
  ·have hfl:(((cmp l).map (rowE en)).flatten).length=(cmp l).length:=by rw [flat_len (z:=1) (fun r hr=>by obtain ⟨y,_,rfl⟩:=List.mem_map.1 hr;rfl)];simp
   have ho3:o < 0+(cmp l).length:=by rw [←hfl];exact ho2
   exact .inr ⟨rfl,Nat.zero_le _,by omega⟩
end
theorem compact_le {α:Type} [DecidableEq α] [Inhabited α] (l:List α):(Lib.compact l).length≤l.length:=by
 unfold Lib.compact compactUpTo
 rw [List.length_map]
 have:=List.length_filter_le (keeps l.toArray) (List.range l.length)
 simpa using this
theorem rowE_int:rowE (Value.int .i64)=intR:=rfl
theorem sortI_ok:SortIOk sortI:=by
 refine ⟨fun l=>(List.mergeSort_perm l _).length_eq,fun l hl H i hH=>?_⟩
 have:=sort_bridge (P:=Tryz.prog) (f:=25) (Value.int .i64) sortI (fun l=>(List.mergeSort_perm l _).length_eq) ⟨_,Tryz.func25,by decide,rfl⟩
  (fun cap w=>AnyG.slices_Sort_int_none sortILay none cap w) (fun blk cap zs w h1 h2 h3=>AnyG.slices_Sort_int sortILay blk 0 cap zs w h1 h2 h3) l hl H i (by rw [rowE_int];exact hH)
 rwa [rowE_int] at this
theorem compI_ok:CompIOk Lib.compact:=by
 intro l hl H i hH
 have:=compact_bridge (P:=Tryz.prog) (f:=26) (Value.int .i64) Lib.compact 0 (fun _=>rfl) compact_le ⟨_,Tryz.func26,by decide,rfl⟩
  (fun cap w=>AnyG.slices_Compact_int_empty compILay none cap w) (fun blk cap zs w h1 h2 h3=>AnyG.slices_Compact_int compILay blk 0 cap zs w h1 h2 h3) l hl H i (by rw [rowE_int];exact hH)
 rwa [rowE_int] at this
def toB (x:List UInt8):ByteArray:=⟨x.toArray⟩
def ofB (s:ByteArray):List UInt8:=s.data.toList
def sortB (l:List ByteArray):List ByteArray:=((l.map ofB).mergeSort fun x y=>decide (x≤y)).map toB
def compB (l:List ByteArray):List ByteArray:=(Lib.compact (l.map ofB)).map toB
theorem rows_B (l:List ByteArray):(l.map ofB).map (rowE encStr)=l.map strR:=by
 rw [List.map_map];rfl
theorem rows_B' (l:List (List UInt8)):l.map (rowE encStr)=(l.map toB).map strR:=by
 rw [List.map_map];rfl
theorem sortB_ok (l:List ByteArray) (hl:l.length < 1099511627776) (H:AHeap) (i:Nat) (hH:H.get i=some (.tok l.length 1 (some (l.map strR)))) :
  ACalls Tryz.prog 87 [.vec i l.length] H (.tuple []) (H.upd i (.tok l.length 1 (some ((sortB l).map strR)))):=by
 have:=sort_bridge (P:=Tryz.prog) (f:=87) encStr (fun l=>l.mergeSort fun x y=>decide (x≤y)) (fun l=>(List.mergeSort_perm l _).length_eq) ⟨_,Tryz.func87,by decide,rfl⟩
  (fun cap w=>AnyG.slices_Sort_string_none sortSLay none cap w) (fun blk cap zs w h1 h2 h3=>AnyG.slices_Sort_string sortSLay blk 0 cap zs w h1 h2 h3) (l.map ofB) (by simpa using hl) H i (by rw [rows_B,List.length_map];exact hH)
 rw [List.length_map,rows_B'] at this
 exact this
theorem compB_ok (l:List ByteArray) (hl:l.length < 1099511627776) (H:AHeap) (i:Nat) (hH:H.get i=some (.tok l.length 1 (some (l.map strR)))) :
  ACalls Tryz.prog 88 [.vec i l.length] H (.slice ((compB l).map strR) none) (H.upd i (.tok l.length 1 none)):=by
 have:=compact_bridge (P:=Tryz.prog) (f:=88) encStr Lib.compact [] (fun _=>rfl) compact_le ⟨_,Tryz.func88,by decide,rfl⟩
  (fun cap w=>AnyG.slices_Compact_string_empty compSLay none cap w) (fun blk cap zs w h1 h2 h3=>AnyG.slices_Compact_string compSLay blk 0 cap zs w h1 h2 h3) (l.map ofB) (by simpa using hl) H i (by rw [rows_B,List.length_map];exact hH)
 rw [List.length_map,rows_B'] at this
 exact this
end Go.Proofs
namespace Go.Proofs.YtdppfcbeiplckaaGreat
open Go Go.Abs Go.Proofs Go.Lib
theorem compact_upTo {d:Array Int} (h:∀ i j,i≤j→j < d.size→d[i]!≤d[j]!):∀ m,m≤d.size →
  AscI (compactUpTo d m)∧(∀ x∈compactUpTo d m,∃ j,j < m∧d[j]! = x)∧(∀ j,j < m→d[j]!∈compactUpTo d m)
 | 0,_=>⟨List.Pairwise.nil,by simp [compactUpTo],by simp⟩
 | m+1,hm=>by
  obtain ⟨h1,h2,h3⟩:=compact_upTo h m (by omega)
  rw [compactUpTo_succ]
  by_cases hk:keeps d m=true
  ·rw [if_pos hk]
   refine ⟨?_,fun x hx=>?_,fun j hj=>?_⟩
   ·unfold AscI
    rw [List.pairwise_append]
    refine ⟨h1,by simp,fun a ha b hb=>?_⟩
    simp only [List.mem_singleton] at hb
    subst hb
    obtain ⟨j,hj,rfl⟩:=h2 a ha
    have hle:=h j m (by omega) (by omega)
    rcases Int.lt_or_eq_of_le hle with h5 | h5
    ·exact h5
    ·exfalso
     simp only [keeps,decide_eq_true_eq] at hk
     rcases hk with hk | hk
     ·omega
     ·have h6:=h j (m - 1) (by omega) (by omega)
      have h7:=h (m - 1) m (by omega) (by omega)
      omega
   ·rw [List.mem_append,List.mem_singleton] at hx
    rcases hx with hx | rfl
    ·obtain ⟨j,hj,e⟩:=h2 x hx;exact ⟨j,by omega,e⟩
    ·exact ⟨m,by omega,rfl⟩
   ·rw [List.mem_append,List.mem_singleton]
    by_cases e:j=m
    ·subst e;exact .inr rfl
    ·exact .inl (h3 j (by omega))
  ·rw [if_neg hk,List.append_nil]
   refine ⟨h1,fun x hx=>?_,fun j hj=>?_⟩
   ·obtain ⟨j,hj,e⟩:=h2 x hx;exact ⟨j,by omega,e⟩
   ·by_cases e:j=m
    ·subst e
     simp only [keeps,decide_eq_true_eq,not_or,Decidable.not_not] at hk
     rw [hk.2]
     exact h3 (j - 1) (by omega)
    ·exact h3 j (by omega)
theorem compact_sorted {l:List Int} (h:l.Pairwise (·≤·)):AscI (compact l)∧∀ x,x∈compact l↔x∈l:=by
 have hle:∀ i j,i≤j→j < l.toArray.size→l.toArray[i]!≤l.toArray[j]!:=fun i j hij hj=>by
  have hj':j < l.length:=by simpa using hj
  rw [getElem!_pos l.toArray i (by simp;omega),getElem!_pos l.toArray j hj]
  rcases Nat.lt_or_eq_of_le hij with e | e
  ·have:=(List.pairwise_iff_getElem.1 h) i j (by omega) hj' e;simpa using this
  ·subst e;exact Int.le_refl _
 obtain ⟨h1,h2,h3⟩:=compact_upTo hle l.length (by simp)
 refine ⟨h1,fun x=>⟨fun hx=>?_,fun hx=>?_⟩⟩
 ·obtain ⟨j,hj,e⟩:=h2 x hx
  rw [getElem!_pos l.toArray j (by simpa using hj)] at e
  rw [←e];simp
 ·obtain ⟨j,hj,e⟩:=List.getElem_of_mem hx
  have:=h3 j hj
  rw [getElem!_pos l.toArray j (by simpa using hj)] at this
  show x∈compactUpTo l.toArray l.length
  simpa [e] using this
theorem sortI_le (l:List Int):(sortI l).Pairwise (·≤·):=by
 have h1:(sortI l).Pairwise fun x y=>decide (x≤y)=true:=List.pairwise_mergeSort (fun a b c h1 h2=>by simp at *;omega) (fun a b=>by simp;omega) l
 exact h1.imp fun h=>by simpa using h
theorem take_same (t:DT) (args:List Nd):takeV sortI compact t args=rTakeV t args:=by
 unfold takeV rTakeV
 obtain ⟨h1,h2⟩:=tk_same args t []
 rw [h1]
 split
 ·rfl
 split
 ·rfl
 split
 ·rfl
 ·rename_i _ _ h3
  have h4:(t.tk args).1=true:=by simpa using h3
  rw [h2 h4]
  have hs:=compact_sorted (sortI_le (t.tk args).2)
  congr 1
  refine ascI_unique hs.1 (sortI_asc (nodup_putsN List.nodup_nil)) fun x=>?_
  rw [hs.2,mem_sortI,mem_sortI,mem_putsN]
  simp
end Go.Proofs.YtdppfcbeiplckaaGreat
