/- The errors of types in declarations (texts); the types that stand in declarations. -/
import Derived.Test.YtdppfcbeiplckaaGreatMD2
set_option linter.unusedVariables false
set_option linter.unusedSimpArgs false
namespace Go.Proofs.YtdppfcbeiplckaaGreat
open Go Go.Abs Go.Proofs
set_option maxRecDepth 20000
attribute [local simp] aOps wantedA aStep aop aLoad aStore aBin aUn aFieldAddr aField aIndexAddr aIndex aLen aBuild aFill aAlloc aAppend aAppendOwn aMin aMax aBuildSlice litRows newRows isMut isOwn isNilS nilsW bytesR tokW tokAV tokL ret readC splice aeval isLit isLate isCut aCut AV.celled AV.one AV.ofValue Value.oneCell' Value.cells intOp strOp get_nid upd_nid awp aEnd aResults aResult Det unord isCall isNext
attribute [local simp] low_take low_strs low_comp low_tcomp wkEs_refl' WkBs WkEnv WkB WkL WkE WkO ABlock.low lowO lowL lowR AV.low cellsL_eq Ty.low low_map Ty.cells_length Ty.cells_one
attribute [local simp] ConD.cells Dat.cells PredD.cells SigD.cells ClsD.cells InstD.cells DeclsD.cells DeclsD.enc Dat.enc low_datL low_conL low_predL low_sigL low_clsL low_instL
theorem allV_app {a b:List Ty} (h:allV a=0):allV (a++b)=allV b:=by
 induction a with
 | nil=>rfl
 | cons t ts ih =>
  simp only [allV] at h
  split at h
  ·rename_i h1;simp only [List.cons_append,allV,if_pos h1];exact ih h
  ·rename_i h1;exact absurd h h1
theorem allV_one (t:Ty):allV [t]=t.valid:=by
 simp only [allV];split
 ·rename_i h;rw [h]
 ·rfl
theorem allV_bad {a b:List Ty} {t:Ty} (h:allV a=0) (ht:¬ t.valid=0):allV (a++t::b)=t.valid:=by rw [allV_app h];simp [allV,ht]
def datTys (x:Dat):List Ty:=x.cons.flatMap ConD.args
def clsTys (x:ClsD):List Ty:=x.ops.map SigD.t
def writtenD (d:DeclsD):List Ty:=d.datas.flatMap datTys++d.classes.flatMap clsTys
theorem fm_take {α β:Type} {f:α→List β} {l:List α} {k:Nat} {x:α} (h:l[k]?=some x):(l.take (k+1)).flatMap f=(l.take k).flatMap f++f x:=by rw [take_one h];simp
theorem fm_split {α β:Type} {f:α→List β} {l:List α} {k:Nat} {x:α} (h:l[k]?=some x):l.flatMap f=(l.take k).flatMap f++(f x++(l.drop (k+1)).flatMap f):=by
 conv=>lhs;rw [←List.take_append_drop (k+1) l,List.flatMap_append,fm_take h,List.append_assoc]
theorem mp_take {α β:Type} {f:α→β} {l:List α} {k:Nat} {x:α} (h:l[k]?=some x):(l.take (k+1)).map f=(l.take k).map f++[f x]:=by rw [take_one h];simp
theorem sp {α:Type} {l:List α} {k:Nat} {x:α} (h:l[k]?=some x):l=l.take k++x::l.drop (k+1):=by
 obtain ⟨hl,rfl⟩:=List.getElem?_eq_some_iff.1 h
 simp
set_option maxHeartbeats 2000000 in
theorem texts_c (d:DeclsD) (hr:RawD d) (H:AHeap):ACalls Tryz.prog 98 [d.enc] H (intV (allV (writtenD d))) H:=by
 have h1:=hr.datas
 have h2:=hr.classes
 have h5:=hr.cons
 have h6:=hr.cargs
 have h7:=hr.ops
 have e0:writtenD d=d.datas.flatMap datTys++d.classes.flatMap clsTys:=rfl
 generalize writtenD d=W at e0 ⊢
 clear hr
 obtain ⟨ds,cs,is⟩:=d
 simp only at e0 h1 h2 h5 h6 h7
 refine acalls_walk (fun _=>.imm) [0,1,2,4,6,8,9,11,13,14,16,17,18,19,23,24,25,26,30,31,32,33,39,45,46,47,48,52,53,54,55,62] Tryz.mixed Tryz.func98 rfl rfl rfl (by decide) (fun hcl hlow=>?_)
 repeat with_reducible refine awp_assoc ?_
 refine awp_sr fun K hK=>?_
 simp
 refine hK _ _ ?_
 clear hK K
 repeat with_reducible refine awp_assoc ?_
 refine awp_sr fun K hK=>?_
 simp
 refine hK _ _ ?_
 clear hK K
 repeat with_reducible refine awp_assoc ?_
 refine awp_seq_k fun K hK=>?_
 refine awp_block ?_
 refine awp_up ds.length (fun k=>Env.ofL [(1,.ref (nid H.next 0) 0),(2,intV 0),(16,.slice (ds.map Dat.cells) none),(17,intV (ds.length:Int)),(18,intV k)]) (fun k=>HL H [.cells [.slice (ds.map Dat.cells) none,.slice (cs.map ClsD.cells) none,.slice (is.map InstD.cells) none]]) (fun k=>allV ((ds.take k).flatMap datTys)=0) (weak_HL hcl rfl (by simp) (by simp)) (rfl) (fun k hk hvk=>?_) (fun hvk=>?_)
 ·obtain ⟨x,hx⟩:∃ x,ds[k]?=some x:=⟨_,List.getElem?_eq_getElem hk⟩
  have g5:=h5 x (List.mem_of_getElem? hx)
  have g6:=h6 x (List.mem_of_getElem? hx)
  have ew:W=(ds.take k).flatMap datTys++(datTys x++((ds.drop (k+1)).flatMap datTys++cs.flatMap clsTys)):=by rw [e0,fm_split hx];simp only [List.append_assoc]
  repeat with_reducible refine awp_assoc ?_
  refine awp_sr fun K hK=>?_
  simp [hk]
  refine hK _ _ ?_
  clear hK K
  repeat with_reducible refine awp_assoc ?_
  refine awp_seq_k fun K hK=>?_
  refine awp_condT rfl (by simp) ?_
  refine awp_skip ?_
  refine hK _ _ ?_
  clear hK K
  refine awp_seq_k fun KB hKB=>?_
  refine awp_block ?_
  repeat with_reducible refine awp_assoc ?_
  refine awp_sr fun K hK=>?_
  simp [hx]
  refine hK _ _ ?_
  clear hK K
  repeat with_reducible refine awp_assoc ?_
  refine awp_sr fun K hK=>?_
  simp
  refine hK _ _ ?_
  clear hK K
  refine awp_block ?_
  refine awp_up x.cons.length (fun j=>Env.ofL [(1,.ref (nid H.next 0) 0),(2,intV 0),(4,.ref (nid H.next 1) 0),(16,.slice (ds.map Dat.cells) none),(17,intV (ds.length:Int)),(18,intV k),(23,.slice (x.cons.map ConD.cells) none),(24,intV (x.cons.length:Int)),(25,intV j)]) (fun j=>HL H [.cells [.slice (ds.map Dat.cells) none,.slice (cs.map ClsD.cells) none,.slice (is.map InstD.cells) none],.cells x.cells]) (fun j=>allV ((x.cons.take j).flatMap ConD.args)=0) (weak_HL hcl rfl (by simp) (by simp)) (rfl) (fun j hj hvj=>?_) (fun hvj=>?_)
  ·obtain ⟨c,hc⟩:∃ c,x.cons[j]?=some c:=⟨_,List.getElem?_eq_getElem hj⟩
   have g7:=g6 c (List.mem_of_getElem? hc)
   have ew2:W=((ds.take k).flatMap datTys++(x.cons.take j).flatMap ConD.args)++(c.args++((x.cons.drop (j+1)).flatMap ConD.args++((ds.drop (k+1)).flatMap datTys++cs.flatMap clsTys))):=by rw [ew];unfold datTys;rw [fm_split hc];simp only [List.append_assoc]
   repeat with_reducible refine awp_assoc ?_
   refine awp_sr fun K hK=>?_
   simp [hj]
   refine hK _ _ ?_
   clear hK K
   repeat with_reducible refine awp_assoc ?_
   refine awp_seq_k fun K hK=>?_
   refine awp_condT rfl (by simp) ?_
   refine awp_skip ?_
   refine hK _ _ ?_
   clear hK K
   refine awp_seq_k fun KC hKC=>?_
   refine awp_block ?_
   repeat with_reducible refine awp_assoc ?_
   refine awp_sr fun K hK=>?_
   simp [hc]
   refine hK _ _ ?_
   clear hK K
   repeat with_reducible refine awp_assoc ?_
   refine awp_sr fun K hK=>?_
   simp
   refine hK _ _ ?_
   clear hK K
   refine awp_block ?_
   refine awp_up c.args.length (fun m=>Env.ofL [(1,.ref (nid H.next 0) 0),(2,intV 0),(4,.ref (nid H.next 1) 0),(6,.ref (nid H.next 2) 0),(16,.slice (ds.map Dat.cells) none),(17,intV (ds.length:Int)),(18,intV k),(23,.slice (x.cons.map ConD.cells) none),(24,intV (x.cons.length:Int)),(25,intV j),(30,.slice (c.args.map Ty.cells) none),(31,intV (c.args.length:Int)),(32,intV m)]) (fun m=>HL H [.cells [.slice (ds.map Dat.cells) none,.slice (cs.map ClsD.cells) none,.slice (is.map InstD.cells) none],.cells x.cells,.cells c.cells]) (fun m=>allV (c.args.take m)=0) (weak_HL hcl rfl (by simp) (by simp)) (rfl) (fun m hm hvm=>?_) (fun hvm=>?_)
   ·obtain ⟨t,ht⟩:∃ t,c.args[m]?=some t:=⟨_,List.getElem?_eq_getElem hm⟩
    have hvc:=validate_c t
    have ew3:W=((ds.take k).flatMap datTys++(x.cons.take j).flatMap ConD.args++c.args.take m)++t::(c.args.drop (m+1)++((x.cons.drop (j+1)).flatMap ConD.args++((ds.drop (k+1)).flatMap datTys++cs.flatMap clsTys))):=by
     rw [ew2];conv=>lhs;rw [sp ht]
     simp only [List.append_assoc,List.cons_append]
    have hz:allV ((ds.take k).flatMap datTys++(x.cons.take j).flatMap ConD.args++c.args.take m)=0:=by rw [allV_app (by rw [allV_app hvk];exact hvj)];exact hvm
    have hn:allV (c.args.take (m+1))=t.valid:=by rw [take_one ht,allV_app hvm];exact allV_one t
    obtain ⟨tn,tl⟩:=t
    simp only [enc_mk] at hvc
    repeat with_reducible refine awp_assoc ?_
    refine awp_sr fun K hK=>?_
    simp [hm]
    refine hK _ _ ?_
    clear hK K
    repeat with_reducible refine awp_assoc ?_
    refine awp_seq_k fun K hK=>?_
    refine awp_condT rfl (by simp) ?_
    refine awp_skip ?_
    refine hK _ _ ?_
    clear hK K
    refine awp_seq_k fun KD hKD=>?_
    refine awp_block ?_
    repeat with_reducible refine awp_assoc ?_
    refine awp_sr fun K hK=>?_
    simp [ht,Ty.cells]
    refine hK _ _ ?_
    clear hK K
    repeat with_reducible refine awp_assoc ?_
    refine awp_sr fun K hK=>?_
    refine aOps_split 1 fun K hK=>?_
    simp
    refine hK _ _ ?_
    clear hK K
    refine aOps_call (hvc _) (by first | rfl | simp) rfl rfl (by first | (simp;done) | rfl) ?_
    simp
    refine hK _ _ ?_
    clear hK K
    repeat with_reducible refine awp_assoc ?_
    refine awp_sr fun K hK=>?_
    simp
    refine hK _ _ ?_
    clear hK K
    by_cases hb:(Ty.mk tn tl).valid=0
    ·refine awp_condF rfl (by simp [hb]) ?_
     refine awp_skip ?_
     refine hKD _ _ ?_
     clear hKD
     refine awp_region ?_
     simp [wrap_succ (show m < 4611686018427387904 by omega)]
     refine ⟨?_,weak_HL hcl rfl (by simp) (by simp)⟩
     rw [hn,hb]
    ·refine awp_condT rfl (by simp [hb]) ?_
     repeat with_reducible refine awp_assoc ?_
     refine awp_sr fun K hK=>?_
     simp
     refine hK _ _ ?_
     clear hK K
     rw [ew3,allV_bad hz hb]
     simp [reset_all hcl]
   have hn:allV ((x.cons.take (j+1)).flatMap ConD.args)=0:=by rw [fm_take hc,allV_app hvj,←hvm,List.take_length]
   repeat with_reducible refine awp_assoc ?_
   refine awp_sr fun K hK=>?_
   simp
   refine hK _ _ ?_
   clear hK K
   repeat with_reducible refine awp_assoc ?_
   refine awp_seq_k fun K hK=>?_
   refine awp_condF rfl (by simp) ?_
   refine awp_exit ?_
   simp
   refine hKC _ _ ?_
   clear hKC
   refine awp_region ?_
   simp [wrap_succ (show j < 4611686018427387904 by omega)]
   exact ⟨hn,weak_HL hcl rfl (by simp) (by simp)⟩
  have hn:allV ((ds.take (k+1)).flatMap datTys)=0:=by rw [fm_take hx,allV_app hvk];unfold datTys;rw [←hvj,List.take_length]
  repeat with_reducible refine awp_assoc ?_
  refine awp_sr fun K hK=>?_
  simp
  refine hK _ _ ?_
  clear hK K
  repeat with_reducible refine awp_assoc ?_
  refine awp_seq_k fun K hK=>?_
  refine awp_condF rfl (by simp) ?_
  refine awp_exit ?_
  simp
  refine hKB _ _ ?_
  clear hKB
  refine awp_region ?_
  simp [wrap_succ (show k < 4611686018427387904 by omega)]
  exact ⟨hn,weak_HL hcl rfl (by simp) (by simp)⟩
 rw [List.take_length] at hvk
 repeat with_reducible refine awp_assoc ?_
 refine awp_sr fun K hK=>?_
 simp
 refine hK _ _ ?_
 clear hK K
 repeat with_reducible refine awp_assoc ?_
 refine awp_seq_k fun K hK=>?_
 refine awp_condF rfl (by simp) ?_
 refine awp_exit ?_
 simp
 clear hK K
 refine hK _ _ ?_
 clear hK K
 repeat with_reducible refine awp_assoc ?_
 refine awp_sr fun K hK=>?_
 simp
 refine hK _ _ ?_
 clear hK K
 repeat with_reducible refine awp_assoc ?_
 refine awp_seq_k fun K hK=>?_
 refine awp_block ?_
 refine awp_up cs.length (fun k=>Env.ofL [(1,.ref (nid H.next 0) 0),(2,intV 0),(45,.slice (cs.map ClsD.cells) none),(46,intV (cs.length:Int)),(47,intV k)]) (fun k=>HL H [.cells [.slice (ds.map Dat.cells) none,.slice (cs.map ClsD.cells) none,.slice (is.map InstD.cells) none]]) (fun k=>allV ((cs.take k).flatMap clsTys)=0) (weak_HL hcl rfl (by simp) (by simp)) (rfl) (fun k hk hvk=>?_) (fun hvk=>?_)
 ·obtain ⟨x,hx⟩:∃ x,cs[k]?=some x:=⟨_,List.getElem?_eq_getElem hk⟩
  have g7:=h7 x (List.mem_of_getElem? hx)
  have ew:W=(ds.flatMap datTys++(cs.take k).flatMap clsTys)++(clsTys x++(cs.drop (k+1)).flatMap clsTys):=by rw [e0,fm_split (f:=clsTys) hx];simp only [List.append_assoc]
  rename allV (ds.flatMap datTys)=0=>hv0
  rename allV ((cs.take k).flatMap clsTys)=0=>hv1
  repeat with_reducible refine awp_assoc ?_
  refine awp_sr fun K hK=>?_
  simp [hk]
  refine hK _ _ ?_
  clear hK K
  repeat with_reducible refine awp_assoc ?_
  refine awp_seq_k fun K hK=>?_
  refine awp_condT rfl (by simp) ?_
  refine awp_skip ?_
  refine hK _ _ ?_
  clear hK K
  refine awp_seq_k fun KB hKB=>?_
  refine awp_block ?_
  repeat with_reducible refine awp_assoc ?_
  refine awp_sr fun K hK=>?_
  simp [hx]
  refine hK _ _ ?_
  clear hK K
  repeat with_reducible refine awp_assoc ?_
  refine awp_sr fun K hK=>?_
  simp
  refine hK _ _ ?_
  clear hK K
  refine awp_block ?_
  refine awp_up x.ops.length (fun j=>Env.ofL [(1,.ref (nid H.next 0) 0),(2,intV 0),(11,.ref (nid H.next 1) 0),(45,.slice (cs.map ClsD.cells) none),(46,intV (cs.length:Int)),(47,intV k),(52,.slice (x.ops.map SigD.cells) none),(53,intV (x.ops.length:Int)),(54,intV j)]) (fun j=>HL H [.cells [.slice (ds.map Dat.cells) none,.slice (cs.map ClsD.cells) none,.slice (is.map InstD.cells) none],.cells x.cells]) (fun j=>allV ((x.ops.take j).map SigD.t)=0) (weak_HL hcl rfl (by simp) (by simp)) (rfl) (fun j hj hvj=>?_) (fun hvj=>?_)
  ·obtain ⟨o,ho⟩:∃ o,x.ops[j]?=some o:=⟨_,List.getElem?_eq_getElem hj⟩
   have hvc:=validate_c o.t
   have ew3:W=(ds.flatMap datTys++(cs.take k).flatMap clsTys++(x.ops.take j).map SigD.t)++o.t::((x.ops.drop (j+1)).map SigD.t++(cs.drop (k+1)).flatMap clsTys):=by
    rw [ew];unfold clsTys;conv=>lhs;rw [sp ho]
    simp only [List.append_assoc,List.map_append,List.map_cons,List.cons_append]
   have hz:allV (ds.flatMap datTys++(cs.take k).flatMap clsTys++(x.ops.take j).map SigD.t)=0:=by rw [allV_app (by rw [allV_app hv0];exact hv1)];exact hvj
   have hn:allV ((x.ops.take (j+1)).map SigD.t)=o.t.valid:=by rw [mp_take ho,allV_app hvj];exact allV_one _
   obtain ⟨on,op,tn,tl⟩:=o
   simp only [enc_mk] at hvc hz hn ew3
   repeat with_reducible refine awp_assoc ?_
   refine awp_sr fun K hK=>?_
   simp [hj]
   refine hK _ _ ?_
   clear hK K
   repeat with_reducible refine awp_assoc ?_
   refine awp_seq_k fun K hK=>?_
   refine awp_condT rfl (by simp) ?_
   refine awp_skip ?_
   refine hK _ _ ?_
   clear hK K
   refine awp_seq_k fun KC hKC=>?_
   refine awp_block ?_
   repeat with_reducible refine awp_assoc ?_
   refine awp_sr fun K hK=>?_
   simp [ho]
   refine hK _ _ ?_
   clear hK K
   repeat with_reducible refine awp_assoc ?_
   refine awp_sr fun K hK=>?_
   refine aOps_split 2 fun K hK=>?_
   simp
   refine hK _ _ ?_
   clear hK K
   refine aOps_call (hvc _) (by first | rfl | simp) rfl rfl (by first | (simp;done) | rfl) ?_
   simp
   refine hK _ _ ?_
   clear hK K
   repeat with_reducible refine awp_assoc ?_
   refine awp_sr fun K hK=>?_
   simp
   refine hK _ _ ?_
   clear hK K
   by_cases hb:(Ty.mk tn tl).valid=0
   ·refine awp_condF rfl (by simp [hb]) ?_
    refine awp_skip ?_
    refine hKC _ _ ?_
    clear hKC
    refine awp_region ?_
    simp [wrap_succ (show j < 4611686018427387904 by omega)]
    refine ⟨?_,weak_HL hcl rfl (by simp) (by simp)⟩
    rw [←List.map_take,hn,hb]
   ·refine awp_condT rfl (by simp [hb]) ?_
    repeat with_reducible refine awp_assoc ?_
    refine awp_sr fun K hK=>?_
    simp
    refine hK _ _ ?_
    clear hK K
    rw [ew3,allV_bad hz hb]
    simp [reset_all hcl]
  have hn:allV ((cs.take (k+1)).flatMap clsTys)=0:=by rw [fm_take hx,allV_app hv1];unfold clsTys;rw [←hvj,List.take_length]
  repeat with_reducible refine awp_assoc ?_
  refine awp_sr fun K hK=>?_
  simp
  refine hK _ _ ?_
  clear hK K
  repeat with_reducible refine awp_assoc ?_
  refine awp_seq_k fun K hK=>?_
  refine awp_condF rfl (by simp) ?_
  refine awp_exit ?_
  simp
  refine hKB _ _ ?_
  clear hKB
  refine awp_region ?_
  simp [wrap_succ (show k < 4611686018427387904 by omega)]
  exact ⟨hn,weak_HL hcl rfl (by simp) (by simp)⟩
 rename allV ((cs.take cs.length).flatMap clsTys)=0=>hv1
 rename allV (ds.flatMap datTys)=0=>hv0
 rw [List.take_length] at hv1
 have hz:allV W=0:=by rw [e0,allV_app hv0,hv1]
 repeat with_reducible refine awp_assoc ?_
 refine awp_sr fun K hK=>?_
 simp
 refine hK _ _ ?_
 clear hK K
 repeat with_reducible refine awp_assoc ?_
 refine awp_seq_k fun K hK=>?_
 refine awp_condF rfl (by simp) ?_
 refine awp_exit ?_
 simp
 clear hK K
 refine hK _ _ ?_
 clear hK K
 repeat with_reducible refine awp_assoc ?_
 refine awp_sr fun K hK=>?_
 simp
 refine hK _ _ ?_
 clear hK K
 simp [hz,reset_all hcl]
def kindB (d:DeclsD) (want:Int) (n:Ty):Bool:=!(dVarB n || decide (n.name=arrowN)) && ((!(namedD d n.name).2 && decide (want=4)) || ((namedD d n.name).2 && decide (want=8) && !decide (n.args.length=(namedD d n.name).1.vars.length)))
def kindsV (d:DeclsD) (want:Int) (t:Ty):Int:=if t.nodes.any (kindB d want)=true then want else 0
theorem any_at {α:Type} {p:α→Bool} {l:List α} {k:Nat} {x:α} (hx:l[k]?=some x) (h:p x=true):l.any p=true:=List.any_eq_true.2 ⟨x,List.mem_of_getElem? hx,h⟩
set_option maxHeartbeats 2000000 in
theorem kinds_c (d:DeclsD) (hsz:d.datas.length < 1000000000000) (t:Ty) (ht:t.cnt < 1000000000000) (want:Int) (H:AHeap):ACalls Tryz.prog 169 [d.enc,t.enc,intV want] H (intV (kindsV d want t)) H:=by
 have hnd:=nodes_c t ht
 have hnm:=named_c d hsz
 have e0:kindsV d want t=if t.nodes.any (kindB d want)=true then want else 0:=rfl
 have hnl:t.nodes.length < 4611686018427387904:=by unfold Ty.cnt at ht;omega
 have ek:∀ n,kindB d want n=(!(dVarB n || decide (n.name=arrowN)) && ((!(namedD d n.name).2 && decide (want=4)) || ((namedD d n.name).2 && decide (want=8) && !decide (n.args.length=(namedD d n.name).1.vars.length)))):=fun _=>rfl
 generalize kindsV d want t=kv at e0 ⊢
 generalize kindB d want=kB at *
 generalize t.nodes=l at *
 generalize namedD d=nm at *
 obtain ⟨tn,tl⟩:=t
 simp only [enc_mk] at hnd ⊢
 clear ht hsz
 refine acalls_walk (fun _=>.imm) [0,1,2,3,4,6,8,9,10,12,13,14,15,24,53] Tryz.mixed Tryz.func169 rfl rfl rfl (by decide) (fun hcl hlow=>?_)
 repeat with_reducible refine awp_assoc ?_
 refine awp_sr fun K hK=>?_
 simp
 refine hK _ _ ?_
 clear hK K
 repeat with_reducible refine awp_assoc ?_
 refine awp_sr fun K hK=>?_
 refine aOps_split 1 fun K hK=>?_
 simp
 refine hK _ _ ?_
 clear hK K
 refine aOps_call (hnd _) (by first | rfl | simp) rfl rfl (by first | (simp;done) | rfl) ?_
 simp
 refine hK _ _ ?_
 clear hK K
 repeat with_reducible refine awp_assoc ?_
 refine awp_seq_k fun K hK=>?_
 refine awp_block ?_
 refine awp_up l.length (fun k=>Env.ofL [(2,intV want),(3,.ref (nid H.next 0) 0),(6,intV 0),(12,.slice (l.map Ty.cells) none),(13,intV (l.length:Int)),(14,intV k)]) (fun k=>HL H [.cells d.cells,.cells [strV tn,.slice (tl.map Ty.cells) none]]) (fun k=>∀ y∈l.take k,kB y=false) (weak_HL hcl rfl (by simp) (by simp)) (by simp) (fun k hk hvk=>?_) (fun hvk=>?_)
 ·obtain ⟨x,hx⟩:∃ x,l[k]?=some x:=⟨_,List.getElem?_eq_getElem hk⟩
  have hv:=dIsVar_c x
  have hn:=hnm x.name
  have ekx:=ek x
  obtain ⟨xn,xl⟩:=x
  simp only [enc_mk,Ty.name,Ty.args] at hv hn ekx
  rcases hy:nm xn with ⟨⟨yn,yv,yc⟩,y2⟩
  simp only [hy] at hn ekx
  repeat with_reducible refine awp_assoc ?_
  refine awp_sr fun K hK=>?_
  simp [hk]
  refine hK _ _ ?_
  clear hK K
  repeat with_reducible refine awp_assoc ?_
  refine awp_seq_k fun K hK=>?_
  refine awp_condT rfl (by simp) ?_
  refine awp_skip ?_
  refine hK _ _ ?_
  clear hK K
  refine awp_seq_k fun KB hKB=>?_
  refine awp_block ?_
  repeat with_reducible refine awp_assoc ?_
  refine awp_sr fun K hK=>?_
  simp [hx,Ty.cells]
  refine hK _ _ ?_
  clear hK K
  have hskip:kB (.mk xn xl)=false→∀ y∈l.take (k+1),kB y=false:=fun h=>take_all (p:=fun y=>kB y=false) hx h hvk
  cases hdv:dVarB (.mk xn xl)
  rotate_left
  ·have hf:kB (.mk xn xl)=false:=by rw [ekx,hdv];rfl
   repeat with_reducible refine awp_assoc ?_
   refine awp_sr fun K hK=>?_
   refine aOps_split 1 fun K hK=>?_
   simp
   refine hK _ _ ?_
   clear hK K
   refine aOps_call (hv _) (by first | rfl | simp) rfl rfl (by first | (simp;done) | rfl) ?_
   refine aOps_split 3 fun K hK=>?_
   simp [hdv]
   refine hK _ _ ?_
   clear hK K
   simp [hdv]
   refine hK _ _ ?_
   clear hK K
   repeat with_reducible refine awp_assoc ?_
   refine awp_seq_k fun K hK=>?_
   refine awp_condT rfl (by simp) ?_
   refine awp_exit ?_
   simp
   refine hKB _ _ ?_
   clear hK hKB
   refine awp_region ?_
   simp [wrap_succ (show k < 4611686018427387904 by omega)]
   exact ⟨hskip hf,weak_HL hcl rfl (by simp) (by simp)⟩
  by_cases ha:xn=arrowN
  ·have hf:kB (.mk xn xl)=false:=by rw [ekx,hdv,ha];rfl
   have ha':xn=⟨#[45,62]⟩:=ha
   repeat with_reducible refine awp_assoc ?_
   refine awp_sr fun K hK=>?_
   refine aOps_split 1 fun K hK=>?_
   simp
   refine hK _ _ ?_
   clear hK K
   refine aOps_call (hv _) (by first | rfl | simp) rfl rfl (by first | (simp;done) | rfl) ?_
   refine aOps_split 3 fun K hK=>?_
   simp [hdv]
   refine hK _ _ ?_
   clear hK K
   simp [hdv,ha']
   refine hK _ _ ?_
   clear hK K
   repeat with_reducible refine awp_assoc ?_
   refine awp_seq_k fun K hK=>?_
   refine awp_condT rfl (by simp) ?_
   refine awp_exit ?_
   simp
   refine hKB _ _ ?_
   clear hK hKB
   refine awp_region ?_
   simp [wrap_succ (show k < 4611686018427387904 by omega)]
   exact ⟨hskip hf,weak_HL hcl rfl (by simp) (by simp)⟩
  have ha':¬ xn=⟨#[45,62]⟩:=ha
  have ekx2:kB (.mk xn xl)=((!y2 && decide (want=4)) || (y2 && decide (want=8) && !decide (xl.length=yv.length))):=by rw [ekx,hdv];simp [ha]
  clear ekx
  repeat with_reducible refine awp_assoc ?_
  refine awp_sr fun K hK=>?_
  refine aOps_split 1 fun K hK=>?_
  simp
  refine hK _ _ ?_
  clear hK K
  refine aOps_call (hv _) (by first | rfl | simp) rfl rfl (by first | (simp;done) | rfl) ?_
  refine aOps_split 3 fun K hK=>?_
  simp [hdv]
  refine hK _ _ ?_
  clear hK K
  simp [hdv,ha']
  refine hK _ _ ?_
  clear hK K
  repeat with_reducible refine awp_assoc ?_
  refine awp_seq_k fun K hK=>?_
  refine awp_condF rfl (by simp) ?_
  refine awp_skip ?_
  refine hK _ _ ?_
  clear hK K
  repeat with_reducible refine awp_assoc ?_
  refine awp_sr fun K hK=>?_
  refine aOps_split 3 fun K hK=>?_
  simp
  refine hK _ _ ?_
  clear hK K
  refine aOps_call (hn _) (by first | rfl | simp) rfl rfl (by first | (simp;done) | rfl) ?_
  simp
  refine hK _ _ ?_
  clear hK K
  refine awp_sr fun K hK=>?_
  suffices hE:∀ b,b=kB (.mk xn xl)→K (Env.ofL [(0,.undef),(1,.undef),(2,intV want),(3,.ref (nid H.next 0) 0),(4,.undef),(6,intV 0),(8,.ref (nid H.next 2) 0),(9,.ref (nid H.next 3) 0),(10,boolV y2),(12,.slice (l.map Ty.cells) none),(13,intV (l.length:Int)),(14,intV k),(15,boolV true),(24,boolV false),(53,boolV b)]) (HL H [.cells d.cells,.cells [strV tn,.slice (tl.map Ty.cells) none],.cells [strV xn,.slice (xl.map Ty.cells) none],.cells [strV yn,strs yv none,.slice (yc.map ConD.cells) none]]) by
   clear hK
   cases y2 with
   | false =>
    by_cases w4:want=4
    ·refine aOps_split 6 fun K hK=>?_
     simp [w4]
     refine hK _ _ ?_
     clear hK K
     refine aOps_split 6 fun K hK=>?_
     simp [w4]
     refine hK _ _ ?_
     clear hK K
     refine aOps_split 6 fun K hK=>?_
     simp [w4]
     refine hK _ _ ?_
     clear hK K
     simp [w4]
     simpa [w4] using hE true (by rw [ekx2];simp [w4])
    ·refine aOps_split 6 fun K hK=>?_
     simp [w4]
     refine hK _ _ ?_
     clear hK K
     refine aOps_split 6 fun K hK=>?_
     simp [w4]
     refine hK _ _ ?_
     clear hK K
     refine aOps_split 6 fun K hK=>?_
     simp [w4]
     refine hK _ _ ?_
     clear hK K
     simp [w4]
     exact hE _ (by rw [ekx2];simp [w4])
   | true =>
    by_cases w8:want=8
    ·refine aOps_split 6 fun K hK=>?_
     simp [w8]
     refine hK _ _ ?_
     clear hK K
     refine aOps_split 6 fun K hK=>?_
     simp [w8]
     refine hK _ _ ?_
     clear hK K
     by_cases hll:xl.length=yv.length
     ·have hll':(xl.length:Int)=yv.length:=by omega
      refine aOps_split 6 fun K hK=>?_
      simp [w8,hll']
      refine hK _ _ ?_
      clear hK K
      simp [w8,hll']
      simpa [w8] using hE false (by rw [ekx2];simp [w8,hll])
     ·have hll':¬ (xl.length:Int)=yv.length:=by omega
      refine aOps_split 6 fun K hK=>?_
      simp [w8,hll']
      refine hK _ _ ?_
      clear hK K
      simp [w8,hll']
      simpa [w8] using hE true (by rw [ekx2];simp [w8,hll])
    ·refine aOps_split 6 fun K hK=>?_
     simp [w8]
     refine hK _ _ ?_
     clear hK K
     refine aOps_split 6 fun K hK=>?_
     simp [w8]
     refine hK _ _ ?_
     clear hK K
     refine aOps_split 6 fun K hK=>?_
     simp [w8]
     refine hK _ _ ?_
     clear hK K
     simp [w8]
     exact hE _ (by rw [ekx2];simp [w8])
  intro b hb
  refine hK _ _ ?_
  clear hK K
  cases b with
  | true =>
   refine awp_condT rfl (by simp) ?_
   repeat with_reducible refine awp_assoc ?_
   refine awp_sr fun K hK=>?_
   simp
   refine hK _ _ ?_
   clear hK K
   have e1:l.any kB=true:=any_at hx hb.symm
   rw [e0,if_pos e1]
   simp [reset_all hcl]
  | false =>
   refine awp_condF rfl (by simp) ?_
   refine awp_skip ?_
   refine hKB _ _ ?_
   clear hKB
   refine awp_region ?_
   simp [wrap_succ (show k < 4611686018427387904 by omega)]
   refine ⟨?_,weak_HL hcl rfl (by simp) (by simp)⟩
   exact hskip hb.symm
 rw [List.take_length] at hvk
 repeat with_reducible refine awp_assoc ?_
 refine awp_sr fun K hK=>?_
 simp
 refine hK _ _ ?_
 clear hK K
 repeat with_reducible refine awp_assoc ?_
 refine awp_seq_k fun K hK=>?_
 refine awp_condF rfl (by simp) ?_
 refine awp_exit ?_
 simp
 clear hK K
 refine hK _ _ ?_
 clear hK K
 repeat with_reducible refine awp_assoc ?_
 refine awp_sr fun K hK=>?_
 simp
 refine hK _ _ ?_
 clear hK K
 have e1:¬ l.any kB=true:=by simp only [List.any_eq_true,not_exists,not_and];intro y hy;simp [hvk y hy]
 rw [e0,if_neg e1]
 simp [reset_all hcl]
set_option maxHeartbeats 2000000 in
theorem allTypes_c (d:DeclsD) (hr:RawD d) (hsz:(writtenD d).length < 1000000000000) (H:AHeap):ACalls Tryz.prog 168 [d.enc] H (.slice ((writtenD d).map Ty.cells) none) H:=by
 have h1:=hr.datas
 have h2:=hr.classes
 have h5:=hr.cons
 have h7:=hr.ops
 have e0:writtenD d=d.datas.flatMap datTys++d.classes.flatMap clsTys:=rfl
 generalize writtenD d=W at e0 hsz ⊢
 clear hr
 obtain ⟨ds,cs,is⟩:=d
 simp only at e0 h1 h2 h5 h7
 refine acalls_walk (fun t=>if t=3 then .nilv 2 else if t=49 then .lit else .imm) [0,1,2,3,5,7,9,11,13,14,15,16,20,21,22,23,33,34,35,36,40,41,42,43] Tryz.mixed Tryz.func168 rfl rfl rfl (by decide) (fun hcl hlow=>?_)
 repeat with_reducible refine awp_assoc ?_
 refine awp_sr fun K hK=>?_
 simp
 refine hK _ _ ?_
 clear hK K
 repeat with_reducible refine awp_assoc ?_
 refine awp_sr fun K hK=>?_
 simp
 refine hK _ _ ?_
 clear hK K
 repeat with_reducible refine awp_assoc ?_
 refine awp_sr fun K hK=>?_
 simp
 refine hK _ _ ?_
 clear hK K
 repeat with_reducible refine awp_assoc ?_
 refine awp_seq_k fun K hK=>?_
 refine awp_block ?_
 refine awp_up ds.length (fun k=>Env.ofL [(1,.ref (nid H.next 0) 0),(3,.slice (((ds.take k).flatMap datTys).map Ty.cells) (some (nid H.next 1))),(13,.slice (ds.map Dat.cells) none),(14,intV (ds.length:Int)),(15,intV k)]) (fun k=>HL H [.cells [.slice (ds.map Dat.cells) none,.slice (cs.map ClsD.cells) none,.slice (is.map InstD.cells) none],.tok ((ds.take k).flatMap datTys).length 2 none]) (fun _=>True) (weak_HL hcl rfl (by simp [low_map]) (by simp [low_map])) (trivial) (fun k hk hvk=>?_) (fun hvk=>?_)
 ·obtain ⟨x,hx⟩:∃ x,ds[k]?=some x:=⟨_,List.getElem?_eq_getElem hk⟩
  have g5:=h5 x (List.mem_of_getElem? hx)
  have ew:W=(ds.take k).flatMap datTys++(datTys x++((ds.drop (k+1)).flatMap datTys++cs.flatMap clsTys)):=by rw [e0,fm_split hx];simp only [List.append_assoc]
  have en:(ds.take (k+1)).flatMap datTys=(ds.take k).flatMap datTys++x.cons.flatMap ConD.args:=fm_take hx
  rw [en]
  generalize (ds.take k).flatMap datTys=P at *
  repeat with_reducible refine awp_assoc ?_
  refine awp_sr fun K hK=>?_
  simp [hk]
  refine hK _ _ ?_
  clear hK K
  repeat with_reducible refine awp_assoc ?_
  refine awp_seq_k fun K hK=>?_
  refine awp_condT rfl (by simp) ?_
  refine awp_skip ?_
  refine hK _ _ ?_
  clear hK K
  refine awp_seq_k fun KB hKB=>?_
  refine awp_block ?_
  repeat with_reducible refine awp_assoc ?_
  refine awp_sr fun K hK=>?_
  simp [hx]
  refine hK _ _ ?_
  clear hK K
  repeat with_reducible refine awp_assoc ?_
  refine awp_sr fun K hK=>?_
  simp
  refine hK _ _ ?_
  clear hK K
  refine awp_block ?_
  refine awp_up x.cons.length (fun j=>Env.ofL [(1,.ref (nid H.next 0) 0),(3,.slice ((P++(x.cons.take j).flatMap ConD.args).map Ty.cells) (some (nid H.next 1))),(5,.ref (nid H.next 2) 0),(13,.slice (ds.map Dat.cells) none),(14,intV (ds.length:Int)),(15,intV k),(20,.slice (x.cons.map ConD.cells) none),(21,intV (x.cons.length:Int)),(22,intV j)]) (fun j=>HL H [.cells [.slice (ds.map Dat.cells) none,.slice (cs.map ClsD.cells) none,.slice (is.map InstD.cells) none],.tok (P++(x.cons.take j).flatMap ConD.args).length 2 none,.cells x.cells]) (fun _=>True) (weak_HL hcl rfl (by simp [low_map]) (by simp [low_map])) (trivial) (fun j hj hvj=>?_) (fun hvj=>?_)
  ·obtain ⟨c,hc⟩:∃ c,x.cons[j]?=some c:=⟨_,List.getElem?_eq_getElem hj⟩
   have ew2:W=(P++(x.cons.take j).flatMap ConD.args)++(c.args++((x.cons.drop (j+1)).flatMap ConD.args++((ds.drop (k+1)).flatMap datTys++cs.flatMap clsTys))):=by rw [ew];unfold datTys;rw [fm_split hc];simp only [List.append_assoc]
   have hbd:(P++(x.cons.take j).flatMap ConD.args).length+c.args.length < 1000000000000:=by
    have:=congrArg List.length ew2
    simp only [List.length_append] at this ⊢
    omega
   rw [fm_take hc,←List.append_assoc]
   generalize P++(x.cons.take j).flatMap ConD.args=Q at hbd ⊢
   repeat with_reducible refine awp_assoc ?_
   refine awp_sr fun K hK=>?_
   simp [hj]
   refine hK _ _ ?_
   clear hK K
   repeat with_reducible refine awp_assoc ?_
   refine awp_seq_k fun K hK=>?_
   refine awp_condT rfl (by simp) ?_
   refine awp_skip ?_
   refine hK _ _ ?_
   clear hK K
   refine awp_seq_k fun KC hKC=>?_
   refine awp_block ?_
   repeat with_reducible refine awp_assoc ?_
   refine awp_sr fun K hK=>?_
   simp [hc]
   refine hK _ _ ?_
   clear hK K
   refine awp_region ?_
   refine aOps_split 3 fun K hK=>?_
   simp
   refine hK _ _ ?_
   clear hK K
   by_cases hca:c.args=[]
   ·simp [hca]
    refine ⟨by omega,?_⟩
    refine hKC _ _ ?_
    clear hKC
    refine awp_region ?_
    simp [wrap_succ (show j < 4611686018427387904 by omega)]
    exact weak_HL hcl rfl (by simp [low_map,hca]) (by simp [low_map,hca])
   simp [hca]
   refine ⟨fun a _=>by obtain ⟨_,_⟩:=a;simp [Ty.cells],by omega,?_⟩
   refine hKC _ _ ?_
   clear hKC
   refine awp_region ?_
   simp [wrap_succ (show j < 4611686018427387904 by omega)]
   exact weak_HL hcl rfl (by simp [low_map]) (by simp [low_map])
  repeat with_reducible refine awp_assoc ?_
  refine awp_sr fun K hK=>?_
  simp
  refine hK _ _ ?_
  clear hK K
  repeat with_reducible refine awp_assoc ?_
  refine awp_seq_k fun K hK=>?_
  refine awp_condF rfl (by simp) ?_
  refine awp_exit ?_
  simp
  refine hKB _ _ ?_
  clear hKB
  refine awp_region ?_
  simp [wrap_succ (show k < 4611686018427387904 by omega)]
  exact weak_HL hcl rfl (by simp) (by simp [low_map])
 repeat with_reducible refine awp_assoc ?_
 refine awp_sr fun K hK=>?_
 simp
 refine hK _ _ ?_
 clear hK K
 repeat with_reducible refine awp_assoc ?_
 refine awp_seq_k fun K hK=>?_
 refine awp_condF rfl (by simp) ?_
 refine awp_exit ?_
 simp
 clear hK K
 refine hK _ _ ?_
 clear hK K
 repeat with_reducible refine awp_assoc ?_
 refine awp_sr fun K hK=>?_
 simp
 refine hK _ _ ?_
 clear hK K
 rw [←List.length_flatMap]
 generalize ds.flatMap datTys=P0 at *
 repeat with_reducible refine awp_assoc ?_
 refine awp_seq_k fun K hK=>?_
 refine awp_block ?_
 refine awp_up cs.length (fun k=>Env.ofL [(1,.ref (nid H.next 0) 0),(3,.slice ((P0++(cs.take k).flatMap clsTys).map Ty.cells) (some (nid H.next 1))),(33,.slice (cs.map ClsD.cells) none),(34,intV (cs.length:Int)),(35,intV k)]) (fun k=>HL H [.cells [.slice (ds.map Dat.cells) none,.slice (cs.map ClsD.cells) none,.slice (is.map InstD.cells) none],.tok (P0++(cs.take k).flatMap clsTys).length 2 none]) (fun _=>True) (weak_HL hcl rfl (by simp [low_map]) (by simp [low_map])) (trivial) (fun k hk hvk=>?_) (fun hvk=>?_)
 ·obtain ⟨x,hx⟩:∃ x,cs[k]?=some x:=⟨_,List.getElem?_eq_getElem hk⟩
  have g7:=h7 x (List.mem_of_getElem? hx)
  have ew:W=(P0++(cs.take k).flatMap clsTys)++(clsTys x++(cs.drop (k+1)).flatMap clsTys):=by rw [e0,fm_split (f:=clsTys) hx];simp only [List.append_assoc]
  have en:P0++(cs.take (k+1)).flatMap clsTys=(P0++(cs.take k).flatMap clsTys)++x.ops.map SigD.t:=by rw [fm_take hx,List.append_assoc];rfl
  rw [en]
  generalize P0++(cs.take k).flatMap clsTys=P at *
  repeat with_reducible refine awp_assoc ?_
  refine awp_sr fun K hK=>?_
  simp [hk]
  refine hK _ _ ?_
  clear hK K
  repeat with_reducible refine awp_assoc ?_
  refine awp_seq_k fun K hK=>?_
  refine awp_condT rfl (by simp) ?_
  refine awp_skip ?_
  refine hK _ _ ?_
  clear hK K
  refine awp_seq_k fun KB hKB=>?_
  refine awp_block ?_
  repeat with_reducible refine awp_assoc ?_
  refine awp_sr fun K hK=>?_
  simp [hx]
  refine hK _ _ ?_
  clear hK K
  repeat with_reducible refine awp_assoc ?_
  refine awp_sr fun K hK=>?_
  simp
  refine hK _ _ ?_
  clear hK K
  refine awp_block ?_
  refine awp_up x.ops.length (fun j=>Env.ofL [(1,.ref (nid H.next 0) 0),(3,.slice ((P++(x.ops.take j).map SigD.t).map Ty.cells) (some (nid H.next 1))),(9,.ref (nid H.next 2) 0),(33,.slice (cs.map ClsD.cells) none),(34,intV (cs.length:Int)),(35,intV k),(40,.slice (x.ops.map SigD.cells) none),(41,intV (x.ops.length:Int)),(42,intV j)]) (fun j=>HL H [.cells [.slice (ds.map Dat.cells) none,.slice (cs.map ClsD.cells) none,.slice (is.map InstD.cells) none],.tok (P++(x.ops.take j).map SigD.t).length 2 none,.cells x.cells]) (fun _=>True) (weak_HL hcl rfl (by simp [low_map]) (by simp [low_map])) (trivial) (fun j hj hvj=>?_) (fun hvj=>?_)
  ·obtain ⟨o,ho⟩:∃ o,x.ops[j]?=some o:=⟨_,List.getElem?_eq_getElem hj⟩
   have hbd:(P++(x.ops.take j).map SigD.t).length+1 < 1000000000000:=by
    have h1:=congrArg List.length ew
    have h2:(clsTys x).length=x.ops.length:=by simp [clsTys]
    simp only [List.length_append,h2] at h1
    simp only [List.length_append,List.length_map,List.length_take]
    omega
   rw [mp_take ho,←List.append_assoc]
   generalize P++(x.ops.take j).map SigD.t=Q at hbd ⊢
   repeat with_reducible refine awp_assoc ?_
   refine awp_sr fun K hK=>?_
   simp [hj]
   refine hK _ _ ?_
   clear hK K
   repeat with_reducible refine awp_assoc ?_
   refine awp_seq_k fun K hK=>?_
   refine awp_condT rfl (by simp) ?_
   refine awp_skip ?_
   refine hK _ _ ?_
   clear hK K
   refine awp_seq_k fun KC hKC=>?_
   refine awp_block ?_
   repeat with_reducible refine awp_assoc ?_
   refine awp_sr fun K hK=>?_
   simp [ho]
   refine hK _ _ ?_
   clear hK K
   refine awp_region ?_
   refine aOps_split 4 fun K hK=>?_
   simp
   refine hK _ _ ?_
   clear hK K
   obtain ⟨on,op,tn,tl⟩:=o
   simp [Ty.name,Ty.args]
   refine ⟨by omega,?_⟩
   refine hKC _ _ ?_
   clear hKC
   refine awp_region ?_
   simp [wrap_succ (show j < 4611686018427387904 by omega)]
   refine weak_HL hcl rfl (by simp) ?_
   simp [low_map,Ty.cells,cellsL_eq]
  repeat with_reducible refine awp_assoc ?_
  refine awp_sr fun K hK=>?_
  simp
  refine hK _ _ ?_
  clear hK K
  repeat with_reducible refine awp_assoc ?_
  refine awp_seq_k fun K hK=>?_
  refine awp_condF rfl (by simp) ?_
  refine awp_exit ?_
  simp
  refine hKB _ _ ?_
  clear hKB
  refine awp_region ?_
  simp [wrap_succ (show k < 4611686018427387904 by omega)]
  exact weak_HL hcl rfl (by simp) (by simp [low_map])
 repeat with_reducible refine awp_assoc ?_
 refine awp_sr fun K hK=>?_
 simp
 refine hK _ _ ?_
 clear hK K
 repeat with_reducible refine awp_assoc ?_
 refine awp_seq_k fun K hK=>?_
 refine awp_condF rfl (by simp) ?_
 refine awp_exit ?_
 simp
 clear hK K
 refine hK _ _ ?_
 clear hK K
 repeat with_reducible refine awp_assoc ?_
 refine awp_sr fun K hK=>?_
 simp
 refine hK _ _ ?_
 clear hK K
 rw [←List.map_append,←e0]
 simp [reset_all hcl]
end Go.Proofs.YtdppfcbeiplckaaGreat
