/- The program: declarations by the names of constructors. -/
import Derived.Test.YtdppfcbeiplckaaGreatMM8
import Derived.Test.YtdppfcbeiplckaaGreatMD1
set_option linter.unusedVariables false
set_option linter.unusedSimpArgs false
namespace Go.Proofs.YtdppfcbeiplckaaGreat
open Go Go.Abs Go.Proofs
set_option maxRecDepth 20000
attribute [local simp] aOps wantedA aStep aop aLoad aStore aBin aUn aFieldAddr aField aIndexAddr aIndex aLen aBuild aFill aAlloc aAppend aAppendOwn aMin aMax aBuildSlice litRows newRows isMut isOwn isNilS nilsW bytesR tokW tokAV tokL ret readC splice aeval isLit isLate isCut aCut AV.celled AV.one AV.ofValue Value.oneCell' Value.cells intOp strOp get_nid upd_nid awp aEnd aResults aResult Det unord isCall isNext
attribute [local simp] low_take low_strs low_comp low_tcomp wkEs_refl' WkBs WkEnv WkB WkL WkE WkO ABlock.low lowO lowL lowR AV.low cellsL_eq Ty.low low_map Ty.cells_length Ty.cells_one
attribute [local simp] ConD.cells Dat.cells PredD.cells SigD.cells ClsD.cells InstD.cells DeclsD.cells DeclsD.enc Dat.enc low_datL low_conL low_predL low_sigL low_clsL low_instL
attribute [local simp] cellsNd_eq low_nds Nd.cells_length Nd.cells_one low_ints low_rows low_strs low_strR low_rowR
abbrev Ent:=ByteArray × Dat × Nat
def entX (x:Dat):List Ent:=x.cons.zipIdx.map fun p=>(p.1.name,x,p.2)
def entC (x:Dat) (j:Nat):List Ent:=(x.cons.take j).zipIdx.map fun p=>(p.1.name,x,p.2)
def entsL (l:List Dat):List Ent:=l.flatMap entX
theorem entC_all (x:Dat):entC x x.cons.length=entX x:=by unfold entC entX;rw [List.take_length]
theorem entsL_nil:entsL []=[]:=rfl
theorem entC_zero (x:Dat):entC x 0=[]:=rfl
theorem entC_at {x:Dat} {j:Nat} {c:ConD} (h:x.cons[j]?=some c):entC x (j+1)=entC x j++[(c.name,x,j)]:=by
 unfold entC
 have hj:j < x.cons.length:=(List.getElem?_eq_some_iff.1 h).1
 rw [take_one h,List.zipIdx_append,List.map_append]
 have:(x.cons.take j).length=j:=by rw [List.length_take];omega
 simp [this]
theorem entsL_at {l:List Dat} {k:Nat} {x:Dat} (h:l[k]?=some x):entsL (l.take (k+1))=entsL (l.take k)++entX x:=by
 unfold entsL
 rw [take_one h,List.flatMap_append];simp
def tEs (P:List Ent):List (Value × AV):=P.map fun e=>(.string e.1,.agg e.2.1.cells)
def aEs (P:List Ent):List (Value × AV):=P.map fun e=>(.string e.1,intV e.2.2)
theorem tEs_nil:tEs []=[]:=rfl
theorem aEs_nil:aEs []=[]:=rfl
theorem keys_tEs (P:List Ent):keysOk .string (tEs P):=by
 intro e he
 obtain ⟨p,_,rfl⟩:=List.mem_map.1 he
 rfl
theorem keys_aEs (P:List Ent):keysOk .string (aEs P):=by
 intro e he
 obtain ⟨p,_,rfl⟩:=List.mem_map.1 he
 rfl
theorem look_tEs (P:List Ent) (n:ByteArray):aLook (tEs P) (.string n)=(P.find? fun e=>decide (n=e.1)).map fun e=>.agg e.2.1.cells:=by
 unfold aLook tEs
 rw [List.find?_map,Option.map_map];rfl
theorem look_aEs (P:List Ent) (n:ByteArray):aLook (aEs P) (.string n)=(P.find? fun e=>decide (n=e.1)).map fun e=>intV (e.2.2:Int):=by
 unfold aLook aEs
 rw [List.find?_map,Option.map_map];rfl
theorem entFind_none {P:List Ent} {n:ByteArray} (h:n ∉ P.map (·.1)):(P.find? fun e=>decide (n=e.1))=none:=by
 rw [List.find?_eq_none]
 intro e he
 simp only [decide_eq_true_eq]
 rintro rfl
 exact h (List.mem_map_of_mem he)
theorem low_tEs (n:Nat) (P:List Ent):lowEs n (tEs P):=by
 induction P with
 | nil=>trivial
 | cons e P ih=>exact ⟨low_datC n e.2.1,ih⟩
theorem low_aEs (n:Nat) (P:List Ent):lowEs n (aEs P):=by
 induction P with
 | nil=>trivial
 | cons e P ih=>exact ⟨trivial,ih⟩
theorem aMapEntry_at {P:Program} {H:AHeap} {Kn:AV→AHeap→Prop} {t:TypeId} {d:TypeDesc} {z key:Value} {id v:Nat} {es:List (Value × AV)} (hm:mapT P t=some (d,z)) (hk:keyOk d key=true) (hg:H.get id=some (.amap es v)) (hks:keysOk d es) (hl:aLook es key=none)
  (h:Kn (.tuple [.ofValue z,.stm id es.length (v+1)]) (H.upd id (.amap (aPut es key (.ofValue z)) (v+1)))):aMapEntry P H Kn t (.map id) (.v key):=by
 unfold aMapEntry
 rw [hm]
 refine ⟨hk,?_⟩
 rw [hg]
 refine ⟨hks,?_⟩
 rw [hl]
 exact h
theorem aEntryStore_at {H:AHeap} {Kn:AV→AHeap→Prop} {id v j:Nat} {es:List (Value × AV)} {e:Value × AV} {x:AV} (hg:H.get id=some (.amap es v)) (he:es[j]?=some e) (h:Kn .undef (H.upd id (.amap (es.set j (e.1,x)) v))):aEntryStore H Kn (.map id) (.stm id j v) x:=by
 unfold aEntryStore
 refine ⟨rfl,?_⟩
 rw [hg]
 refine ⟨rfl,?_⟩
 rw [he]
 exact h
theorem fresh_at {all:List Dat} {x:Dat} {c:ConD} {k j:Nat} (hx:all[k]?=some x) (hc:x.cons[j]?=some c) (hnd:((entsL all).map (·.1)).Nodup):c.name ∉ (entsL (all.take k)++entC x j).map (·.1):=by
 have h1:entsL all=entsL (all.take k)++entX x++entsL (all.drop (k+1)):=by
  rw [←entsL_at hx];unfold entsL;rw [←List.flatMap_append,List.take_append_drop]
 have h2:entX x=entC x j++(c.name,x,j)::(entX x).drop (j+1):=by
  have hj:(entX x)[j]?=some (c.name,x,j):=by unfold entX;simp [hc]
  have h3:entC x j=(entX x).take j:=by
   apply List.ext_getElem?
   intro i
   unfold entC entX
   simp only [List.getElem?_map,List.getElem?_zipIdx,List.getElem?_take]
   by_cases hi:i < j <;> simp [hi]
  rw [h3]
  obtain ⟨hl,he⟩:=List.getElem?_eq_some_iff.1 hj
  conv=>lhs;rw [←List.take_append_drop j (entX x),List.drop_eq_getElem_cons hl,he]
 rw [h1,h2,←List.append_assoc,List.append_assoc,List.map_append,List.nodup_append] at hnd
 intro hm
 exact hnd.2.2 _ hm _ (by simp) rfl
attribute [local simp] low_tEs low_aEs
def tyB (d:DeclsD) (n:Nat) (P:List Ent):List ABlock:=[.cells d.cells,.amap (tEs P) P.length,.amap (aEs P) P.length,.cells [.map (nid n 1),.map (nid n 2)]]
set_option maxHeartbeats 2000000 in
theorem newTypes_c (d:DeclsD) (hl:d.datas.length < 1000000000000) (hcn:∀ x∈baseD++d.datas,x.cons.length < 4611686018427387904) (hnd:((entsL (baseD++d.datas)).map (·.1)).Nodup) (H:AHeap) :
  ACalls Tryz.prog 34 [d.enc] H (.ref (nid H.next 3) 0) (HL H (tyB d H.next (entsL (baseD++d.datas)))):=by
 have hb:=base_c
 have e1:(baseD++d.datas).map Dat.cells=baseD.map Dat.cells++d.datas.map Dat.cells:=List.map_append
 have hbl:(baseD.map Dat.cells).length=5:=rfl
 have hb3:∀ r∈baseD.map Dat.cells,r.length=3:=by simp [Dat.cells]
 have hlB:∀ n,lowR n (baseD.map Dat.cells):=fun n=>low_datL n _
 have hall:(baseD++d.datas).length < 4611686018427387904:=by simp only [List.length_append];have:baseD.length=5:=rfl;omega
 have halln:((baseD++d.datas).length:Int)=5+d.datas.length:=by simp only [List.length_append];have:baseD.length=5:=rfl;omega
 generalize baseD++d.datas=all at *
 generalize baseD.map Dat.cells=B at *
 simp only [DeclsD.enc,DeclsD.cells]
 refine acalls_walk (fun _=>.imm) [0,1,2,3,5,6,7,15,16,17,18,22,23,24,25] Tryz.mixed Tryz.func34 rfl rfl rfl (by decide) (fun hcl hlow=>?_)
 repeat with_reducible refine awp_assoc ?_
 refine awp_sr fun K hK=>?_
 simp
 refine hK _ _ ?_
 clear hK K
 repeat with_reducible refine awp_assoc ?_
 refine awp_sr fun K hK=>?_
 simp
 refine hK _ _ ?_
 clear hK K
 repeat with_reducible refine awp_assoc ?_
 refine awp_sd [0,3] [[],[0],[0],[],[],[0,1,2,3,4]] (by kernel_rfl) fun K hK=>?_
 refine aLex_calleA (hb _) rfl rfl rfl rfl rfl (by simp) ?_
 refine aLex_read rfl rfl rfl rfl fun K hK=>?_
 simp
 refine hK _ _ _ ?_
 clear hK K
 refine aLex_read rfl rfl rfl rfl fun K hK=>?_
 simp
 refine hK _ _ _ ?_
 clear hK K
 have hKL:∀ (env:Env) (T:List ABlock),env 3=.ref (nid H.next 3) 0→env 15=.slice (all.map Dat.cells) (some (nid H.next 7))→env 16=intV (all.length:Int)→env 17=intV 0→K env (HL H ([.cells [.slice (d.datas.map Dat.cells) none,.slice (d.classes.map ClsD.cells) none,.slice (d.insts.map InstD.cells) none],.amap [] 0,.amap [] 0,.cells [.map (nid H.next 1),.map (nid H.next 2)]]++T)):=by
  intro env T e3 e15 e16 e17
  refine hK _ _ ?_
  clear hK K
  repeat with_reducible refine awp_assoc ?_
  refine awp_seq_k fun K hK=>?_
  refine awp_block ?_
  refine awp_up all.length (fun k=>Env.ofL [(17,intV k),(16,intV all.length),(15,.slice (all.map Dat.cells) none),(3,.ref (nid H.next 3) 0)]) (fun k=>HL H [.cells [.slice (d.datas.map Dat.cells) none,.slice (d.classes.map ClsD.cells) none,.slice (d.insts.map InstD.cells) none],.amap (tEs (entsL (all.take k))) (entsL (all.take k)).length,.amap (aEs (entsL (all.take k))) (entsL (all.take k)).length,.cells [.map (nid H.next 1),.map (nid H.next 2)]]) (fun _=>True) (weak_HL hcl rfl (by simp [entsL_nil,tEs_nil,aEs_nil,WkEs,lowEs,low_tEs,low_aEs,e3,e15,e16,e17,Wk.tok]) (by simp [entsL_nil,tEs_nil,aEs_nil,WkEs,lowEs,low_tEs,low_aEs,e3,e15,e16,e17,Wk.tok])) (trivial) (fun k hk hvk=>?_) (fun hvk=>?_)
  rotate_left
  ·repeat with_reducible refine awp_assoc ?_
   refine awp_sr fun K hK=>?_
   simp
   refine hK _ _ ?_
   clear hK K
   repeat with_reducible refine awp_assoc ?_
   refine awp_seq_k fun K hK=>?_
   refine awp_condF rfl (by simp) ?_
   refine awp_exit ?_
   simp
   clear hK K
   refine hK _ _ ?_
   clear hK K
   repeat with_reducible refine awp_assoc ?_
   refine awp_sr fun K hK=>?_
   simp
   refine hK _ _ ?_
   clear hK K
   simp [tyB,DeclsD.cells]
   exact ⟨reset_HL hcl (by simp [WkEs.refl,low_tEs,low_aEs]),le_nid⟩
  obtain ⟨x,hx⟩:∃ x,all[k]?=some x:=⟨_,List.getElem?_eq_getElem hk⟩
  repeat with_reducible refine awp_assoc ?_
  refine awp_sr fun K hK=>?_
  simp [hk]
  refine hK _ _ ?_
  clear hK K
  repeat with_reducible refine awp_assoc ?_
  refine awp_seq_k fun K hK=>?_
  refine awp_condT rfl (by simp) ?_
  refine awp_skip ?_
  refine hK _ _ ?_
  clear hK K
  refine awp_seq_k fun KB hKB=>?_
  refine awp_block ?_
  repeat with_reducible refine awp_assoc ?_
  refine awp_sr fun K hK=>?_
  simp [hx]
  refine hK _ _ ?_
  clear hK K
  repeat with_reducible refine awp_assoc ?_
  refine awp_sr fun K hK=>?_
  simp
  refine hK _ _ ?_
  clear hK K
  refine awp_block ?_
  refine awp_up x.cons.length (fun j=>Env.ofL [(24,intV j),(23,intV x.cons.length),(22,.slice (x.cons.map ConD.cells) none),(5,.ref (nid H.next 4) 0),(17,intV k),(16,intV all.length),(15,.slice (all.map Dat.cells) none),(3,.ref (nid H.next 3) 0)]) (fun j=>HL H [.cells [.slice (d.datas.map Dat.cells) none,.slice (d.classes.map ClsD.cells) none,.slice (d.insts.map InstD.cells) none],.amap (tEs (entsL (all.take k)++entC x j)) (entsL (all.take k)++entC x j).length,.amap (aEs (entsL (all.take k)++entC x j)) (entsL (all.take k)++entC x j).length,.cells [.map (nid H.next 1),.map (nid H.next 2)],.cells x.cells]) (fun _=>True) (weak_HL hcl rfl (by simp [entC_zero,WkEs.refl,low_tEs,low_aEs]) (by simp [entC_zero,WkEs.refl,low_tEs,low_aEs])) (trivial) (fun j hj hvj=>?_) (fun hvj=>?_)
  rotate_left
  ·rw [entC_all,←entsL_at hx]
   repeat with_reducible refine awp_assoc ?_
   refine awp_sr fun K hK=>?_
   simp
   refine hK _ _ ?_
   clear hK K
   repeat with_reducible refine awp_assoc ?_
   refine awp_seq_k fun K hK=>?_
   refine awp_condF rfl (by simp) ?_
   refine awp_exit ?_
   simp
   refine hKB _ _ ?_
   clear hKB
   refine awp_region ?_
   simp [wrap_succ (show k < 4611686018427387904 by omega)]
   exact weak_HL hcl rfl (by simp [WkEs.refl,low_tEs,low_aEs]) (by simp)
  obtain ⟨c,hc⟩:∃ c,x.cons[j]?=some c:=⟨_,List.getElem?_eq_getElem hj⟩
  repeat with_reducible refine awp_assoc ?_
  refine awp_sr fun K hK=>?_
  simp [hj]
  refine hK _ _ ?_
  clear hK K
  repeat with_reducible refine awp_assoc ?_
  refine awp_seq_k fun K hK=>?_
  refine awp_condT rfl (by simp) ?_
  refine awp_skip ?_
  refine hK _ _ ?_
  clear hK K
  refine awp_seq_k fun KC hKC=>?_
  refine awp_block ?_
  repeat with_reducible refine awp_assoc ?_
  refine awp_sr fun K hK=>?_
  simp [hc]
  refine hK _ _ ?_
  clear hK K
  have hfr:=fresh_at hx hc hnd
  refine awp_draw [14,16,17,19] [[],[],[],[],[],[],[],[],[],[],[],[],[],[],[0,6,10,11,12,13],[],[6,10,11,13],[6,13],[],[]] (by kernel_rfl) ?_
  refine aLex_read rfl rfl rfl rfl fun K hK=>?_
  simp
  refine hK _ _ _ ?_
  clear hK K
  refine aLex_read rfl rfl rfl rfl fun K hK=>?_
  simp
  refine hK _ _ _ ?_
  clear hK K
  refine aLex_read rfl rfl rfl rfl fun K hK=>?_
  simp
  refine hK _ _ _ ?_
  clear hK K
  refine aLex_read rfl rfl rfl rfl fun K hK=>?_
  simp
  refine hK _ _ _ ?_
  clear hK K
  refine aLex_read rfl rfl rfl rfl fun K hK=>?_
  simp
  refine hK _ _ _ ?_
  clear hK K
  refine aLex_read rfl rfl rfl rfl fun K hK=>?_
  simp
  refine hK _ _ _ ?_
  clear hK K
  refine aLex_read rfl rfl rfl rfl fun K hK=>?_
  simp
  refine hK _ _ _ ?_
  clear hK K
  refine aLex_read rfl rfl rfl rfl fun K hK=>?_
  simp
  refine hK _ _ _ ?_
  clear hK K
  refine aLex_read rfl rfl rfl rfl fun K hK=>?_
  simp
  refine hK _ _ _ ?_
  clear hK K
  refine aLex_read rfl rfl rfl rfl fun K hK=>?_
  simp
  refine hK _ _ _ ?_
  clear hK K
  refine aLex_read rfl rfl rfl rfl fun K hK=>?_
  simp
  refine hK _ _ _ ?_
  clear hK K
  refine aLex_read rfl rfl rfl rfl fun K hK=>?_
  simp
  refine hK _ _ _ ?_
  clear hK K
  refine aLex_read rfl rfl rfl rfl fun K hK=>?_
  simp
  refine hK _ _ _ ?_
  clear hK K
  refine aLex_read rfl rfl rfl rfl fun K hK=>?_
  simp
  refine hK _ _ _ ?_
  clear hK K
  refine aLex_eff rfl rfl rfl rfl fun K hK=>?_
  simp
  refine aMapEntry_at (es:=tEs (entsL (all.take k)++entC x j)) (v:=(entsL (all.take k)).length+(entC x j).length) rfl rfl (by simp) (keys_tEs _) (by rw [look_tEs,entFind_none hfr];rfl) ?_
  rw [aPut_fresh (by rw [look_tEs,entFind_none hfr];rfl)]
  simp
  refine hK _ _ ?_
  clear hK K
  refine aLex_read rfl rfl rfl rfl fun K hK=>?_
  simp
  refine hK _ _ _ ?_
  clear hK K
  refine aLex_eff rfl rfl rfl rfl fun K hK=>?_
  simp
  refine aEntryStore_at (es:=tEs (entsL (all.take k)++entC x j)++[(.string c.name,.agg [.v (.string ⟨#[]⟩),.v (.slice none 0 0),.v (.slice none 0 0)])]) (v:=(entsL (all.take k)).length+(entC x j).length+1) (by simp) (List.getElem?_concat_length ..) ?_
  simp
  refine hK _ _ ?_
  clear hK K
  refine aLex_eff rfl rfl rfl rfl fun K hK=>?_
  simp
  refine aMapEntry_at (es:=aEs (entsL (all.take k)++entC x j)) (v:=(entsL (all.take k)).length+(entC x j).length) rfl rfl (by simp) (keys_aEs _) (by rw [look_aEs,entFind_none hfr];rfl) ?_
  rw [aPut_fresh (by rw [look_aEs,entFind_none hfr];rfl)]
  simp
  refine hK _ _ ?_
  clear hK K
  refine aLex_read rfl rfl rfl rfl fun K hK=>?_
  simp
  refine hK _ _ _ ?_
  clear hK K
  refine aLex_eff rfl rfl rfl rfl fun K hK=>?_
  simp
  refine aEntryStore_at (es:=aEs (entsL (all.take k)++entC x j)++[(.string c.name,intV 0)]) (v:=(entsL (all.take k)).length+(entC x j).length+1) (by simp) (List.getElem?_concat_length ..) ?_
  simp
  refine hK _ _ ?_
  clear hK K
  refine aLex_end ?_
  simp
  refine hKC _ _ ?_
  clear hKC
  refine awp_region ?_
  simp [wrap_succ (show j < 4611686018427387904 by have:=hcn x (List.mem_of_getElem? hx);omega)]
  have hT:tEs (entsL (all.take k)++entC x j)++[(.string c.name,.agg [strV x.name,strs x.vars none,.slice (x.cons.map ConD.cells) none])]=tEs (entsL (all.take k)++entC x (j+1)):=by rw [entC_at hc];simp [tEs]
  have hA:aEs (entsL (all.take k)++entC x j)++[(.string c.name,intV j)]=aEs (entsL (all.take k)++entC x (j+1)):=by rw [entC_at hc];simp [aEs]
  have hL:(entC x (j+1)).length=(entC x j).length+1:=by rw [entC_at hc];simp
  rw [hT,hA]
  exact weak_HL hcl rfl (by simp [WkEs.refl,low_tEs,low_aEs,hL];omega) (by simp)
 clear hK
 by_cases hd:d.datas=[]
 ·have hd':=eq_true hd
  have hdl:d.datas.length=0:=by rw [hd];rfl
  refine aLex_eff rfl rfl rfl rfl fun K hK=>?_
  simp [hbl,hd']
  refine ⟨by omega,hb3,hK _ _ ?_⟩
  clear hK K
  refine aLex_read rfl rfl rfl rfl fun K hK=>?_
  simp [hbl]
  refine hK _ _ _ ?_
  clear hK K
  refine aLex_read rfl rfl rfl rfl fun K hK=>?_
  simp
  refine hK _ _ _ ?_
  clear hK K
  refine aLex_end ?_
  simp
  refine hKL _ [.cells [strV aS,.slice [] none],.cells [strV bS,.slice [] none],.cells [strV listN,.slice [[strV aS,.slice [] none]] none],.tok 5 3 none] ?_ ?_ ?_ ?_
  ·rfl
  ·show AV.slice B (some (nid H.next 7))=_
   rw [e1,hd];simp
  ·show AV.v (.int .i64 5)=_
   rw [halln,hdl];rfl
  ·rfl
 refine aLex_eff rfl rfl rfl rfl fun K hK=>?_
 simp [hbl,hd]
 refine ⟨by omega,hb3,hK _ _ ?_⟩
 clear hK K
 refine aLex_read rfl rfl rfl rfl fun K hK=>?_
 simp [hbl]
 refine hK _ _ _ ?_
 clear hK K
 refine aLex_read rfl rfl rfl rfl fun K hK=>?_
 simp
 refine hK _ _ _ ?_
 clear hK K
 refine aLex_end ?_
 simp
 refine hKL _ [.cells [strV aS,.slice [] none],.cells [strV bS,.slice [] none],.cells [strV listN,.slice [[strV aS,.slice [] none]] none],.tok (5+d.datas.length) 3 none] ?_ ?_ ?_ ?_
 ·rfl
 ·rw [e1];rfl
 ·rw [halln];rfl
 ·rfl
end Go.Proofs.YtdppfcbeiplckaaGreat
