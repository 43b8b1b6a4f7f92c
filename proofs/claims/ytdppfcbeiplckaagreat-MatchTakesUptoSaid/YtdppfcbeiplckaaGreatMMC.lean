/- The program: match.Validate. -/
import Derived.Test.YtdppfcbeiplckaaGreatMMB
import Derived.Test.YtdppfcbeiplckaaGreatMM8
import Derived.Test.YtdppfcbeiplckaaGreatMD9
set_option linter.unusedVariables false
set_option linter.unusedSimpArgs false
namespace Go.Proofs.YtdppfcbeiplckaaGreat
open Go Go.Abs Go.Proofs
set_option maxRecDepth 20000
attribute [local simp] aOps wantedA aStep aop aLoad aStore aBin aUn aFieldAddr aField aIndexAddr aIndex aLen aBuild aFill aAlloc aAppend aAppendOwn aMin aMax aBuildSlice litRows newRows isMut isOwn isNilS nilsW bytesR tokW tokAV tokL ret readC splice aeval isLit isLate isCut aCut AV.celled AV.one AV.ofValue Value.oneCell' Value.cells intOp strOp get_nid upd_nid awp aEnd aResults aResult Det unord isCall isNext
attribute [local simp] low_take low_strs low_comp low_tcomp wkEs_refl' WkBs WkEnv WkB WkL WkE WkO ABlock.low lowO lowL lowR AV.low cellsL_eq Ty.low low_map Ty.cells_length Ty.cells_one
attribute [local simp] ConD.cells Dat.cells PredD.cells SigD.cells ClsD.cells InstD.cells DeclsD.cells DeclsD.enc Dat.enc low_datL low_conL low_predL low_sigL low_clsL low_instL
attribute [local simp] cellsNd_eq low_nds Nd.cells_length Nd.cells_one low_ints low_rows low_strs low_strR low_rowR low_tEs low_aEs
def badC (P:List Ent) (w:Int) (c:Nd):Bool:=decide (w=4) && !(arF P c.name).2 || decide (w=8) && !decide ((arF P c.name).1=(c.kids.length:Int))
def badP (P:List Ent) (w:Int) (p:Nd):Bool:=p.conL.any (badC P w)
def badRw (P:List Ent) (w:Int) (r:List Nd):Bool:=r.any (badP P w)
def badW (P:List Ent) (rows:List (List Nd)) (w:Int):Bool:=rows.any (badRw P w)
def clashR (P:List Ent) (rows:List (List Nd)):Bool:=rows.zipIdx.any fun x=>(rows.take x.2).any fun r=>clashL P x.1 r
def mvalV (ev sv:Int) (P:List Ent) (rows:List (List Nd)):Int :=
 if ev≠0 then ev else if sv≠0 then sv else if badW P rows 4=true then 4 else if badW P rows 8=true then 8 else if clashR P rows=true then 6 else 0
theorem feed_unit {α:Type} (f:α→Bool):∀ l:List α,feed (fun (_:Unit) c=>(!f c,())) () l=(!l.any f,())
 | []=>rfl
 | x::l=>by
  cases h:f x <;> simp [feed,h,feed_unit f l]
theorem arOk_of {P:List Ent} {rows:List (List Nd)} (h4:badW P rows 4=false) (h8:badW P rows 8=false):∀ r∈rows,∀ t∈r,arOk P t:=by
 intro r hr t ht c hc
 have f:∀ w,badW P rows w=false→badC P w c=false:=by
  intro w h
  cases hb:badC P w c with
  | false=>rfl
  | true =>
   have:badW P rows w=true:=List.any_eq_true.2 ⟨r,hr,List.any_eq_true.2 ⟨t,ht,List.any_eq_true.2 ⟨c,hc,hb⟩⟩⟩
   rw [h] at this;cases this
 have a:=f 4 h4
 have b:=f 8 h8
 simp [badC] at a b
 exact Prod.ext b a
def vB (n:Nat) (P:List Ent) (W:Int) (q:ALoop) (ok:Bool) (_:Unit):List (Nat × ABlock) :=
 [(nid n 10,.lrec q (if ok=true then .ready else .ret)),(nid n 1,.cells [if ok=true then intV 0 else intV W]),(nid n 3,.amap (tEs P) P.length),(nid n 4,.amap (aEs P) P.length),(nid n 5,.cells [.map (nid n 3),.map (nid n 4)]),(nid n 6,.cells [.ref (nid n 5) 0]),(nid n 7,.cells [intV W])]
set_option maxHeartbeats 4000000 in
theorem mValidate_c (d:DeclsD) {b:Nat} (hb:b≤4611686018427387904) (rows:List (List Nd)) (hl:rows.length < b) (hs:∀ r∈rows,r.length < b∧∀ p∈r,p.Sh b) {ev sv:Int} (hdv:∀ H,ACalls Tryz.prog 45 [d.enc] H (intV ev) H)
  (hev:ev=0→d.datas.length < 1000000000000∧(∀ x∈baseD++d.datas,x.cons.length < 4611686018427387904)∧((entsL (baseD++d.datas)).map (·.1)).Nodup)
  (hsh:∀ H,ACalls Tryz.prog 39 [.slice (rows.map rowR) none] H (intV sv) H) (hsv:sv=0→∀ r∈rows,∀ r'∈rows,r.length=r'.length) (H:AHeap) :
  ACalls Tryz.prog 18 [d.enc,.slice (rows.map rowR) none] H (intV (mvalV ev sv (entsL (baseD++d.datas)) rows)) H:=by
 obtain ⟨V,hV⟩:∃ V,mvalV ev sv (entsL (baseD++d.datas)) rows=V:=⟨_,rfl⟩
 rw [hV]
 unfold mvalV at hV
 have hlen:rows.length < 4611686018427387904:=by omega
 have hP:=entsL_ok (baseD++d.datas)
 have hnt:ev=0→∀ H,ACalls Tryz.prog 34 [d.enc] H (.ref (nid H.next 3) 0) (HL H (tyB d H.next (entsL (baseD++d.datas)))):=fun h H=>newTypes_c d (hev h).1 (hev h).2.1 (hev h).2.2 H
 clear hev
 generalize entsL (baseD++d.datas)=P at *
 simp only [DeclsD.enc,DeclsD.cells] at *
 refine acalls_walk (fun t=>if t=31 then .lit else .imm) [0,1,2,4,5,6,7,9,11,13,14,15,16,17,18,22,27,31,32,33,34,37,38,39,40,43,44,45,46,50,51,75,81,82,83,85,86,87,98] Tryz.mixed Tryz.func18 rfl rfl rfl (by decide) (fun hcl hlow=>?_)
 repeat with_reducible refine awp_assoc ?_
 refine awp_sr fun K hK=>?_
 simp
 refine hK _ _ ?_
 clear hK K
 repeat with_reducible refine awp_assoc ?_
 refine awp_sr fun K hK=>?_
 refine aOps_split 1 fun K hK=>?_
 simp
 refine hK _ _ ?_
 clear hK K
 refine aOps_call (hdv _) (by first | rfl | simp) rfl rfl (by first | (simp;done) | rfl) ?_
 simp
 refine hK _ _ ?_
 clear hK K
 by_cases h1:ev=0
 rotate_left
 ·repeat with_reducible refine awp_assoc ?_
  refine awp_sr fun K hK=>?_
  simp [h1]
  refine hK _ _ ?_
  clear hK K
  repeat with_reducible refine awp_assoc ?_
  refine awp_seq_k fun K hK=>?_
  refine awp_condT rfl (by simp) ?_
  repeat with_reducible refine awp_assoc ?_
  refine awp_sr fun K hK=>?_
  simp
  refine hK _ _ ?_
  clear hK K
  rw [if_pos h1] at hV
  subst hV
  simp [reset_all hcl]
 rw [if_neg (by simpa using h1)] at hV
 have hnt:=hnt h1
 repeat with_reducible refine awp_assoc ?_
 refine awp_sr fun K hK=>?_
 simp [h1]
 refine hK _ _ ?_
 clear hK K
 repeat with_reducible refine awp_assoc ?_
 refine awp_seq_k fun K hK=>?_
 refine awp_condF rfl (by simp) ?_
 refine awp_skip ?_
 refine hK _ _ ?_
 clear hK K
 repeat with_reducible refine awp_assoc ?_
 refine awp_sr fun K hK=>?_
 refine aOps_split 1 fun K hK=>?_
 simp
 refine hK _ _ ?_
 clear hK K
 refine aOps_call (hsh _) (by first | rfl | simp) rfl rfl (by first | (simp;done) | rfl) ?_
 simp
 refine hK _ _ ?_
 clear hK K
 by_cases h2:sv=0
 rotate_left
 ·repeat with_reducible refine awp_assoc ?_
  refine awp_sr fun K hK=>?_
  simp [h2]
  refine hK _ _ ?_
  clear hK K
  repeat with_reducible refine awp_assoc ?_
  refine awp_seq_k fun K hK=>?_
  refine awp_condT rfl (by simp) ?_
  repeat with_reducible refine awp_assoc ?_
  refine awp_sr fun K hK=>?_
  simp
  refine hK _ _ ?_
  clear hK K
  rw [if_pos h2] at hV
  subst hV
  simp [reset_all hcl]
 rw [if_neg (by simpa using h2)] at hV
 repeat with_reducible refine awp_assoc ?_
 refine awp_sr fun K hK=>?_
 simp [h2]
 refine hK _ _ ?_
 clear hK K
 repeat with_reducible refine awp_assoc ?_
 refine awp_seq_k fun K hK=>?_
 refine awp_condF rfl (by simp) ?_
 refine awp_skip ?_
 refine hK _ _ ?_
 clear hK K
 have hnt2:=hnt (HL H [.cells [.slice (d.datas.map Dat.cells) none,.slice (d.classes.map ClsD.cells) none,.slice (d.insts.map InstD.cells) none],.cells [intV 0]])
 simp only [tyB,DeclsD.cells,next_HL,HL_HL,nid_nid,List.length_cons,List.length_nil,List.cons_append,List.nil_append] at hnt2
 repeat with_reducible refine awp_assoc ?_
 refine awp_sr fun K hK=>?_
 refine aOps_split 1 fun K hK=>?_
 simp
 refine hK _ _ ?_
 clear hK K
 refine aOps_call (hnt2) (by first | rfl | simp) rfl rfl (by first | (simp;done) | rfl) ?_
 simp
 refine hK _ _ ?_
 clear hK K
 repeat with_reducible refine awp_assoc ?_
 refine awp_sr fun K hK=>?_
 simp
 refine hK _ _ ?_
 clear hK K
 obtain ⟨ws,hws⟩:∃ ws:List Int,ws=[4,8]:=⟨_,rfl⟩
 have hmap:(ws.map fun x=>[intV x])=[[intV 4],[intV 8]]:=by rw [hws];rfl
 have hwl:(ws.length:Int)=2:=by rw [hws];rfl
 have hwb:ws.length < 4611686018427387904:=by rw [hws];decide
 have h48:∀ W∈ws,W=4∨W=8:=by rw [hws];simp
 have hyes:∀ (w:Nat) (W:Int),ws[w]?=some W→(ws.take w).any (badW P rows)=false→badW P rows W=true→V=W:=by
  intro w W hw hn hy
  subst hws
  match w,hw with
  | 0,hw=>cases hw;rw [if_pos hy] at hV;exact hV.symm
  | 1,hw =>
   cases hw
   have h4:badW P rows 4=false:=by simpa using hn
   rw [if_neg (by simp [h4]),if_pos hy] at hV;exact hV.symm
 have hno:ws.any (badW P rows)=false→V=(if clashR P rows=true then 6 else 0)∧badW P rows 4=false∧badW P rows 8=false:=by
  intro h
  subst hws
  simp only [List.any_cons,List.any_nil,Bool.or_false,Bool.or_eq_false_iff] at h
  rw [if_neg (by simp [h.1]),if_neg (by simp [h.2])] at hV
  exact ⟨hV.symm,h⟩
 clear hV hws
 repeat with_reducible refine awp_assoc ?_
 refine awp_seq_k fun K hK=>?_
 refine awp_block ?_
 refine awp_up ws.length (fun w=>Env.ofL [(33,intV w),(32,intV (ws.length:Int)),(31,.slice (ws.map fun x=>[intV x]) none),(7,.ref (nid H.next 6) 0),(4,.ref (nid H.next 1) 0),(1,.slice (rows.map rowR) none)]) (fun w=>HL H [.cells [.slice (d.datas.map Dat.cells) none,.slice (d.classes.map ClsD.cells) none,.slice (d.insts.map InstD.cells) none],.cells [intV 0],.cells [.slice (d.datas.map Dat.cells) none,.slice (d.classes.map ClsD.cells) none,.slice (d.insts.map InstD.cells) none],.amap (tEs P) P.length,.amap (aEs P) P.length,.cells [.map (nid H.next 3),.map (nid H.next 4)],.cells [.ref (nid H.next 5) 0]]) (fun w=>(ws.take w).any (badW P rows)=false) (weak_HL hcl rfl (by simp [hmap,hwl,low_tEs,low_aEs,WkEs.refl]) (by simp [hmap,hwl,low_tEs,low_aEs,WkEs.refl])) (by simp) (fun w hw hvw=>?_) (fun hvw=>?_)
 rotate_left
 ·rw [List.take_length] at hvw
  obtain ⟨eV,b4,b8⟩:=hno hvw
  have har:=arOk_of b4 b8
  have hsv:=hsv h2
  clear hno hyes
  obtain ⟨cV,hcV⟩:∃ cV,clashR P rows=cV:=⟨_,rfl⟩
  rw [hcV] at eV
  unfold clashR at hcV
  repeat with_reducible refine awp_assoc ?_
  refine awp_sr fun K hK=>?_
  simp
  refine hK _ _ ?_
  clear hK K
  repeat with_reducible refine awp_assoc ?_
  refine awp_seq_k fun K hK=>?_
  refine awp_condF rfl (by simp) ?_
  refine awp_exit ?_
  simp
  clear hK K
  refine hK _ _ ?_
  clear hK K
  repeat with_reducible refine awp_assoc ?_
  refine awp_sr fun K hK=>?_
  simp
  refine hK _ _ ?_
  clear hK K
  repeat with_reducible refine awp_assoc ?_
  refine awp_seq_k fun K hK=>?_
  refine awp_block ?_
  refine awp_up rows.length (fun k=>Env.ofL [(82,intV k),(81,intV (rows.length:Int)),(7,.ref (nid H.next 6) 0),(4,.ref (nid H.next 1) 0),(1,.slice (rows.map rowR) none)]) (fun k=>HL H [.cells [.slice (d.datas.map Dat.cells) none,.slice (d.classes.map ClsD.cells) none,.slice (d.insts.map InstD.cells) none],.cells [intV 0],.cells [.slice (d.datas.map Dat.cells) none,.slice (d.classes.map ClsD.cells) none,.slice (d.insts.map InstD.cells) none],.amap (tEs P) P.length,.amap (aEs P) P.length,.cells [.map (nid H.next 3),.map (nid H.next 4)],.cells [.ref (nid H.next 5) 0]]) (fun k=>(rows.zipIdx.take k).any (fun x=>(rows.take x.2).any fun r=>clashL P x.1 r)=false) (weak_HL hcl rfl (by simp [low_tEs,low_aEs,WkEs.refl]) (by simp [low_tEs,low_aEs,WkEs.refl])) (by simp) (fun k hk hvk=>?_) (fun hvk=>?_)
  rotate_left
  ·rw [List.take_of_length_le (by simp)] at hvk
   rw [hvk] at hcV
   subst hcV
   rw [if_neg (by simp)] at eV
   subst eV
   repeat with_reducible refine awp_assoc ?_
   refine awp_sr fun K hK=>?_
   simp
   refine hK _ _ ?_
   clear hK K
   repeat with_reducible refine awp_assoc ?_
   refine awp_seq_k fun K hK=>?_
   refine awp_condF rfl (by simp) ?_
   refine awp_exit ?_
   simp
   clear hK K
   refine hK _ _ ?_
   clear hK K
   repeat with_reducible refine awp_assoc ?_
   refine awp_sr fun K hK=>?_
   simp
   refine hK _ _ ?_
   clear hK K
   simp [reset_all hcl]
  obtain ⟨r,hr⟩:∃ r,rows[k]?=some r:=⟨_,List.getElem?_eq_getElem hk⟩
  have hz:rows.zipIdx[k]?=some (r,k):=by simp [hr]
  have hms:=miss (p:=fun x:List Nd × Nat=>(rows.take x.2).any fun r=>clashL P x.1 r) hz hvk
  have hyk:=any_at (p:=fun x:List Nd × Nat=>(rows.take x.2).any fun r=>clashL P x.1 r) hz
  rw [hcV] at hyk
  clear hcV
  simp only at hms hyk
  obtain ⟨hrl,hrs⟩:=hs r (List.mem_of_getElem? hr)
  have hck:=clash_c hb hP (.mk 0 ⟨#[]⟩ 0 r) (.mk hrl hrs) (har r (List.mem_of_getElem? hr))
  simp only [Nd.kids] at hck
  obtain ⟨rk,hrk⟩:∃ rk,rows.take k=rk:=⟨_,rfl⟩
  have hlk:rk.length=k:=by rw [←hrk,List.length_take];omega
  rw [hrk] at hms hyk
  repeat with_reducible refine awp_assoc ?_
  refine awp_sr fun K hK=>?_
  simp [hk]
  refine hK _ _ ?_
  clear hK K
  repeat with_reducible refine awp_assoc ?_
  refine awp_seq_k fun K hK=>?_
  refine awp_condT rfl (by simp) ?_
  refine awp_skip ?_
  refine hK _ _ ?_
  clear hK K
  refine awp_seq_k fun KK hKK=>?_
  refine awp_block ?_
  repeat with_reducible refine awp_assoc ?_
  refine awp_sr fun K hK=>?_
  simp
  refine hK _ _ ?_
  clear hK K
  repeat with_reducible refine awp_assoc ?_
  refine awp_sr fun K hK=>?_
  simp
  refine hK _ _ ?_
  clear hK K
  refine awp_hide fun Q1 hQ1=>?_
  refine awp_block ?_
  refine awp_up rk.length (fun j=>Env.ofL [(86,intV j),(85,intV k),(17,intV k),(82,intV k),(81,intV (rows.length:Int)),(7,.ref (nid H.next 6) 0),(4,.ref (nid H.next 1) 0),(1,.slice (rows.map rowR) none)]) (fun j=>HL H [.cells [.slice (d.datas.map Dat.cells) none,.slice (d.classes.map ClsD.cells) none,.slice (d.insts.map InstD.cells) none],.cells [intV 0],.cells [.slice (d.datas.map Dat.cells) none,.slice (d.classes.map ClsD.cells) none,.slice (d.insts.map InstD.cells) none],.amap (tEs P) P.length,.amap (aEs P) P.length,.cells [.map (nid H.next 3),.map (nid H.next 4)],.cells [.ref (nid H.next 5) 0]]) (fun j=>(rk.take j).any (fun r'=>clashL P r r')=false) (weak_HL hcl rfl (by simp [low_tEs,low_aEs,WkEs.refl]) (by simp [low_tEs,low_aEs,WkEs.refl])) (by simp) (fun j hj hvj=>?_) (fun hvj=>?_)
  rotate_left
  ·rw [List.take_length] at hvj
   rw [hlk]
   repeat with_reducible refine awp_assoc ?_
   refine awp_sr fun K hK=>?_
   simp
   refine hK _ _ ?_
   clear hK K
   repeat with_reducible refine awp_assoc ?_
   refine awp_seq_k fun K hK=>?_
   refine awp_condF rfl (by simp) ?_
   refine awp_exit ?_
   simp
   refine hQ1 _ _ _ ?_
   clear hQ1
   simp
   refine hKK _ _ ?_
   clear hKK
   refine awp_region ?_
   simp [wrap_succ (show k < 4611686018427387904 by omega)]
   exact ⟨by simpa using hms hvj,weak_HL hcl rfl (by simp [low_tEs,low_aEs,WkEs.refl]) (by simp)⟩
  obtain ⟨r',hr'⟩:∃ r',rk[j]?=some r':=⟨_,List.getElem?_eq_getElem hj⟩
  rw [hlk] at hj
  have hr2:rows[j]?=some r':=by rw [←hrk,List.getElem?_take_of_lt hj] at hr';exact hr'
  have hms2:=miss (p:=fun r'=>clashL P r r') hr' hvj
  have hyj:=any_at (p:=fun r'=>clashL P r r') hr'
  have hm2:=List.mem_of_getElem? hr2
  have hcc:=fun bs=>hck r' (har r' hm2) (by rw [hsv r (List.mem_of_getElem? hr) r' hm2];exact Nat.le_refl _) (H:=HL H ([.cells [.slice (d.datas.map Dat.cells) none,.slice (d.classes.map ClsD.cells) none,.slice (d.insts.map InstD.cells) none],.cells [intV 0],.cells [.slice (d.datas.map Dat.cells) none,.slice (d.classes.map ClsD.cells) none,.slice (d.insts.map InstD.cells) none],.amap (tEs P) P.length,.amap (aEs P) P.length,.cells [.map (nid H.next 3),.map (nid H.next 4)],.cells [.ref (nid H.next 5) 0]]++bs)) (p:=nid H.next 5) (a:=nid H.next 3) (b:=nid H.next 4) ⟨by simp,by simp,by simp⟩
  have hcc:=hcc []
  simp only [List.append_nil] at hcc
  have hrow:(rows.map rowR)[k]?=some [.slice (r.map Nd.cells) none]:=by simp [hr,rowR]
  have hrow2:(rows.map rowR)[j]?=some [.slice (r'.map Nd.cells) none]:=by simp [hr2,rowR]
  repeat with_reducible refine awp_assoc ?_
  refine awp_sr fun K hK=>?_
  simp [hj,hlk]
  refine hK _ _ ?_
  clear hK K
  repeat with_reducible refine awp_assoc ?_
  refine awp_seq_k fun K hK=>?_
  refine awp_condT rfl (by simp) ?_
  refine awp_skip ?_
  refine hK _ _ ?_
  clear hK K
  refine awp_seq_k fun KJ hKJ=>?_
  refine awp_block ?_
  repeat with_reducible refine awp_assoc ?_
  refine awp_sr fun K hK=>?_
  simp
  refine hK _ _ ?_
  clear hK K
  repeat with_reducible refine awp_assoc ?_
  refine awp_sdc [] [[],[0],[0,1],[0],[0],[0,1,2,3,4],[0,1,2,3,4,5],[0,1,2,3,4],[0,1,2,3,4],[]] (by kernel_rfl) (by rfl) fun K hK=>?_
  refine aCalm_pre 5 (by rfl) fun K hK=>?_
  simp [hrow]
  refine hK _ _ ?_
  clear hK K
  refine aCalm_pre 4 (by rfl) fun K hK=>?_
  simp [hrow2]
  refine hK _ _ ?_
  clear hK K
  refine aCalm_call0 (hcc) (by first | rfl | simp) rfl rfl rfl (by first | (simp;done) | rfl) ?_
  refine aCalm_end ?_
  simp
  refine hK _ _ ?_
  clear hK K
  cases hcl2:clashL P r r' with
  | true =>
   refine awp_condT rfl (by simp) ?_
   repeat with_reducible refine awp_assoc ?_
   refine awp_sr fun K hK=>?_
   simp
   refine hK _ _ ?_
   clear hK K
   refine hQ1 _ _ _ ?_
   clear hQ1
   rw [hyk (hyj hcl2),if_pos rfl] at eV
   subst eV
   simp [reset_all hcl]
  | false =>
   refine awp_condF rfl (by simp) ?_
   refine awp_skip ?_
   refine hKJ _ _ ?_
   clear hKJ
   refine awp_region ?_
   simp [wrap_succ (show j < 4611686018427387904 by omega)]
   refine ⟨?_,weak_HL hcl rfl (by simp [low_tEs,low_aEs,WkEs.refl]) (by simp [low_tEs,low_aEs,WkEs.refl])⟩
   simpa using hms2 hcl2
 obtain ⟨W,hW⟩:∃ W,ws[w]?=some W:=⟨_,List.getElem?_eq_getElem hw⟩
 have hW48:=h48 W (List.mem_of_getElem? hW)
 have hms:=miss (p:=badW P rows) hW hvw
 have hyes:=hyes w W hW hvw
 repeat with_reducible refine awp_assoc ?_
 refine awp_sr fun K hK=>?_
 simp [hw]
 refine hK _ _ ?_
 clear hK K
 repeat with_reducible refine awp_assoc ?_
 refine awp_seq_k fun K hK=>?_
 refine awp_condT rfl (by simp) ?_
 refine awp_skip ?_
 refine hK _ _ ?_
 clear hK K
 refine awp_seq_k fun KW hKW=>?_
 refine awp_block ?_
 repeat with_reducible refine awp_assoc ?_
 refine awp_sr fun K hK=>?_
 simp [hW]
 refine hK _ _ ?_
 clear hK K
 repeat with_reducible refine awp_assoc ?_
 refine awp_sr fun K hK=>?_
 simp
 refine hK _ _ ?_
 clear hK K
 refine awp_hide fun Q1 hQ1=>?_
 refine awp_block ?_
 refine awp_up rows.length (fun k=>Env.ofL [(9,.ref (nid H.next 7) 0),(39,intV k),(38,intV (rows.length:Int)),(37,.slice (rows.map rowR) none),(33,intV w),(32,intV (ws.length:Int)),(31,.slice (ws.map fun x=>[intV x]) none),(7,.ref (nid H.next 6) 0),(4,.ref (nid H.next 1) 0),(1,.slice (rows.map rowR) none)]) (fun k=>HL H [.cells [.slice (d.datas.map Dat.cells) none,.slice (d.classes.map ClsD.cells) none,.slice (d.insts.map InstD.cells) none],.cells [intV 0],.cells [.slice (d.datas.map Dat.cells) none,.slice (d.classes.map ClsD.cells) none,.slice (d.insts.map InstD.cells) none],.amap (tEs P) P.length,.amap (aEs P) P.length,.cells [.map (nid H.next 3),.map (nid H.next 4)],.cells [.ref (nid H.next 5) 0],.cells [intV W]]) (fun k=>(rows.take k).any (badRw P W)=false) (weak_HL hcl rfl (by simp [low_tEs,low_aEs,WkEs.refl]) (by simp [low_tEs,low_aEs,WkEs.refl])) (by simp) (fun k hk hvk=>?_) (fun hvk=>?_)
 rotate_left
 ·rw [List.take_length] at hvk
  repeat with_reducible refine awp_assoc ?_
  refine awp_sr fun K hK=>?_
  simp
  refine hK _ _ ?_
  clear hK K
  repeat with_reducible refine awp_assoc ?_
  refine awp_seq_k fun K hK=>?_
  refine awp_condF rfl (by simp) ?_
  refine awp_exit ?_
  simp
  refine hQ1 _ _ _ ?_
  clear hQ1
  simp
  refine hKW _ _ ?_
  clear hKW
  refine awp_region ?_
  simp [wrap_succ (show w < 4611686018427387904 by omega)]
  exact ⟨by simpa using hms hvk,weak_HL hcl rfl (by simp [low_tEs,low_aEs,WkEs.refl]) (by simp)⟩
 obtain ⟨r,hr⟩:∃ r,rows[k]?=some r:=⟨_,List.getElem?_eq_getElem hk⟩
 have hms2:=miss (p:=badRw P W) hr hvk
 have hyr:=any_at (p:=badRw P W) hr
 obtain ⟨hrl,hrs⟩:=hs r (List.mem_of_getElem? hr)
 repeat with_reducible refine awp_assoc ?_
 refine awp_sr fun K hK=>?_
 simp [hk]
 refine hK _ _ ?_
 clear hK K
 repeat with_reducible refine awp_assoc ?_
 refine awp_seq_k fun K hK=>?_
 refine awp_condT rfl (by simp) ?_
 refine awp_skip ?_
 refine hK _ _ ?_
 clear hK K
 refine awp_seq_k fun KK hKK=>?_
 refine awp_block ?_
 repeat with_reducible refine awp_assoc ?_
 refine awp_sr fun K hK=>?_
 simp [hr,rowR]
 refine hK _ _ ?_
 clear hK K
 repeat with_reducible refine awp_assoc ?_
 refine awp_sr fun K hK=>?_
 simp
 refine hK _ _ ?_
 clear hK K
 refine awp_hide fun Q2 hQ2=>?_
 refine awp_block ?_
 refine awp_up r.length (fun j=>Env.ofL [(45,intV j),(44,intV (r.length:Int)),(43,.slice (r.map Nd.cells) none),(9,.ref (nid H.next 7) 0),(39,intV k),(38,intV (rows.length:Int)),(37,.slice (rows.map rowR) none),(33,intV w),(32,intV (ws.length:Int)),(31,.slice (ws.map fun x=>[intV x]) none),(7,.ref (nid H.next 6) 0),(4,.ref (nid H.next 1) 0),(1,.slice (rows.map rowR) none)]) (fun j=>HL H [.cells [.slice (d.datas.map Dat.cells) none,.slice (d.classes.map ClsD.cells) none,.slice (d.insts.map InstD.cells) none],.cells [intV 0],.cells [.slice (d.datas.map Dat.cells) none,.slice (d.classes.map ClsD.cells) none,.slice (d.insts.map InstD.cells) none],.amap (tEs P) P.length,.amap (aEs P) P.length,.cells [.map (nid H.next 3),.map (nid H.next 4)],.cells [.ref (nid H.next 5) 0],.cells [intV W]]) (fun j=>(r.take j).any (badP P W)=false) (weak_HL hcl rfl (by simp [low_tEs,low_aEs,WkEs.refl]) (by simp [low_tEs,low_aEs,WkEs.refl])) (by simp) (fun j hj hvj=>?_) (fun hvj=>?_)
 rotate_left
 ·rw [List.take_length] at hvj
  repeat with_reducible refine awp_assoc ?_
  refine awp_sr fun K hK=>?_
  simp
  refine hK _ _ ?_
  clear hK K
  repeat with_reducible refine awp_assoc ?_
  refine awp_seq_k fun K hK=>?_
  refine awp_condF rfl (by simp) ?_
  refine awp_exit ?_
  simp
  refine hQ2 _ _ _ ?_
  clear hQ2
  simp
  refine hKK _ _ ?_
  clear hKK
  refine awp_region ?_
  simp [wrap_succ (show k < 4611686018427387904 by omega)]
  exact ⟨by simpa using hms2 hvj,weak_HL hcl rfl (by simp [low_tEs,low_aEs,WkEs.refl]) (by simp)⟩
 obtain ⟨p,hp⟩:∃ p,r[j]?=some p:=⟨_,List.getElem?_eq_getElem hj⟩
 have hms3:=miss (p:=badP P W) hp hvj
 have hyp:=any_at (p:=badP P W) hp
 have hps:=hrs p (List.mem_of_getElem? hp)
 have hcc:ACalls Tryz.prog 46 [p.enc] (HL H [.cells [.slice (d.datas.map Dat.cells) none,.slice (d.classes.map ClsD.cells) none,.slice (d.insts.map InstD.cells) none],.cells [intV 0],.cells [.slice (d.datas.map Dat.cells) none,.slice (d.classes.map ClsD.cells) none,.slice (d.insts.map InstD.cells) none],.amap (tEs P) P.length,.amap (aEs P) P.length,.cells [.map (nid H.next 3),.map (nid H.next 4)],.cells [.ref (nid H.next 5) 0],.cells [intV W],.cells p.cells]) (.fn 104 [.ref (nid H.next 9) 0]) (HL H [.cells [.slice (d.datas.map Dat.cells) none,.slice (d.classes.map ClsD.cells) none,.slice (d.insts.map InstD.cells) none],.cells [intV 0],.cells [.slice (d.datas.map Dat.cells) none,.slice (d.classes.map ClsD.cells) none,.slice (d.insts.map InstD.cells) none],.amap (tEs P) P.length,.amap (aEs P) P.length,.cells [.map (nid H.next 3),.map (nid H.next 4)],.cells [.ref (nid H.next 5) 0],.cells [intV W],.cells p.cells,.cells p.cells]):=by
  have:=cons_c p (HL H [.cells [.slice (d.datas.map Dat.cells) none,.slice (d.classes.map ClsD.cells) none,.slice (d.insts.map InstD.cells) none],.cells [intV 0],.cells [.slice (d.datas.map Dat.cells) none,.slice (d.classes.map ClsD.cells) none,.slice (d.insts.map InstD.cells) none],.amap (tEs P) P.length,.amap (aEs P) P.length,.cells [.map (nid H.next 3),.map (nid H.next 4)],.cells [.ref (nid H.next 5) 0],.cells [intV W],.cells p.cells])
  simpa using this
 have hit:∀ (i:Nat) (B:Bool→Unit→List (Nat × ABlock)) (ids:List Nat),Names B ids→Eats Tryz.prog Nd.enc i B (fun _ c=>(!badC P W c,())) p.conL→∀ (G:AHeap) (j:Nat),G.get j=some (.cells p.cells)→j ∉ ids→Holds G (B true ()) →
   ACalls Tryz.prog 104 [.yld i,.ref j 0] G (.tuple []) (puts G (B (!badP P W p) ())):=by
  intro i B ids hN hE G j hj hji hB
  have h:=cons_it hb p hps i B (fun _ c=>(!badC P W c,())) ids hN hE () G j hj hji hB
  rw [feed_unit] at h
  exact h
 obtain ⟨po,pn,pm,pl⟩:=p
 simp only [Nd.enc_mk,Nd.cells,cellsNd_eq] at hcc hit
 repeat with_reducible refine awp_assoc ?_
 refine awp_sr fun K hK=>?_
 simp [hj]
 refine hK _ _ ?_
 clear hK K
 repeat with_reducible refine awp_assoc ?_
 refine awp_seq_k fun K hK=>?_
 refine awp_condT rfl (by simp) ?_
 refine awp_skip ?_
 refine hK _ _ ?_
 clear hK K
 refine awp_seq_k fun KP hKP=>?_
 refine awp_block ?_
 refine awp_hide fun Q3 hQ3=>?_
 repeat with_reducible refine awp_assoc ?_
 refine awp_sr fun K hK=>?_
 simp [hp,Nd.cells]
 refine hK _ _ ?_
 clear hK K
 repeat with_reducible refine awp_assoc ?_
 refine awp_sr fun K hK=>?_
 refine aOps_split 1 fun K hK=>?_
 simp
 refine hK _ _ ?_
 clear hK K
 refine aOps_call (hcc) (by first | rfl | simp) rfl rfl (by first | (simp;done) | rfl) ?_
 simp
 refine hK _ _ ?_
 clear hK K
 refine awp_block ?_
 refine awp_range' (n:=H.next) (by simp) rfl fun q he hqs hra hrb=>⟨_,hit (nid H.next 10) (vB H.next P W q) [nid H.next 10,nid H.next 1,nid H.next 3,nid H.next 4,nid H.next 5,nid H.next 6,nid H.next 7] ?_ ?_ _ (nid H.next 9) ?_ ?_ ?_,?_⟩
 ·exact ⟨by simp,fun ok s'=>by simp [vB]⟩
 ·intro s' v hv' G2 hG2
  obtain ⟨g10,g1,g3,g4,g5,g6,g7,_⟩:=hG2
  refine ⟨fun hc2 p hp=>?_,?_⟩
  ·simp only [vB,List.mem_cons,List.not_mem_nil,or_false] at hp
   rcases hp with rfl | rfl | rfl | rfl | rfl | rfl | rfl
   ·have:=(hc2 _ _ g10).2
    simpa [ABlock.low] using this
   ·have:∀ z:Int,lowL G2.next [intV z]:=fun z=>⟨trivial,trivial⟩
    show lowL G2.next _
    split <;> exact this _
   ·exact (hc2 _ _ g3).2
   ·exact (hc2 _ _ g4).2
   ·exact (hc2 _ _ g5).2
   ·exact (hc2 _ _ g6).2
   ·exact (hc2 _ _ g7).2
  ·refine ayield_walk (fun t=>if t=31 then .lit else .imm) [0,1,2,4,5,6,7,9,11,13,14,15,16,17,18,22,27,31,32,33,34,37,38,39,40,43,44,45,46,50,51,75,81,82,83,85,86,87,98] Tryz.mixed g10 (by rw [hqs];rfl) fun hc2 hcb hlow2=>?_
   have gg:∀ (m:Nat) (B:ABlock),G2.get (nid H.next m)=some B→m≠10→∀ bs,(HL (G2.upd (nid H.next 10) (.lrec q .busy)) bs).get (nid H.next m)=some B:=fun m B hB hm bs=>by
    rw [get_lt (by exact (hc2 _ _ hB).1),get_upd_ne (by simpa using hm)];exact hB
   have k1:=gg 1 _ g1 (by decide)
   have k3:=gg 3 _ g3 (by decide)
   have k4:=gg 4 _ g4 (by decide)
   have k5:=gg 5 _ g5 (by decide)
   have k6:=gg 6 _ g6 (by decide)
   have k7:=gg 7 _ g7 (by decide)
   have hgb:(G2.upd (nid H.next 10) (.lrec q .busy)).get (nid H.next 10)=some (.lrec q .busy):=get_upd_self
   have hX:∀ st (B:ABlock),puts G2 [(nid H.next 10,.lrec q st),(nid H.next 1,B),(nid H.next 3,.amap (tEs P) P.length),(nid H.next 4,.amap (aEs P) P.length),(nid H.next 5,.cells [.map (nid H.next 3),.map (nid H.next 4)]),(nid H.next 6,.cells [.ref (nid H.next 5) 0]),(nid H.next 7,.cells [intV W])]=(G2.upd (nid H.next 10) (.lrec q st)).upd (nid H.next 1) B:=fun st B=>by
    have gs:∀ (m:Nat) (C:ABlock),G2.get (nid H.next m)=some C→m≠10→m≠1→((G2.upd (nid H.next 10) (.lrec q st)).upd (nid H.next 1) B).upd (nid H.next m) C=(G2.upd (nid H.next 10) (.lrec q st)).upd (nid H.next 1) B:=fun m C hC h1 h2=>by
     refine upd_same ?_
     rw [get_upd_ne (by simpa using h2),get_upd_ne (by simpa using h1)];exact hC
    simp only [puts]
    rw [gs 3 _ g3 (by decide) (by decide),gs 4 _ g4 (by decide) (by decide),gs 5 _ g5 (by decide) (by decide),gs 6 _ g6 (by decide) (by decide),gs 7 _ g7 (by decide) (by decide)]
   have heN:(G2.upd (nid H.next 10) (.lrec q .busy)).upd (nid H.next 10) (.lrec q .ready)=puts G2 (vB H.next P W q true ()):=by
    rw [show vB H.next P W q true ()=[(nid H.next 10,.lrec q .ready),(nid H.next 1,.cells [intV 0]),(nid H.next 3,.amap (tEs P) P.length),(nid H.next 4,.amap (aEs P) P.length),(nid H.next 5,.cells [.map (nid H.next 3),.map (nid H.next 4)]),(nid H.next 6,.cells [.ref (nid H.next 5) 0]),(nid H.next 7,.cells [intV W])] from rfl,hX,upd_upd,upd_same (c:=nid H.next 1) (by rw [get_upd_ne (by simp)];exact g1)]
   have heR:((G2.upd (nid H.next 10) (.lrec q .busy)).upd (nid H.next 1) (.cells [intV W])).upd (nid H.next 10) (.lrec q .ret)=puts G2 (vB H.next P W q false ()):=by
    rw [show vB H.next P W q false ()=[(nid H.next 10,.lrec q .ret),(nid H.next 1,.cells [intV W]),(nid H.next 3,.amap (tEs P) P.length),(nid H.next 4,.amap (aEs P) P.length),(nid H.next 5,.cells [.map (nid H.next 3),.map (nid H.next 4)]),(nid H.next 6,.cells [.ref (nid H.next 5) 0]),(nid H.next 7,.cells [intV W])] from rfl,hX,upd_comm (by simp),upd_upd]
   have hcf:((G2.upd (nid H.next 10) (.lrec q .busy)).upd (nid H.next 1) (.cells [intV W])).Closed:=closed_upd hcb (by exact (hc2 _ _ g1).1) ⟨trivial,trivial⟩
   have hgb2:((G2.upd (nid H.next 10) (.lrec q .busy)).upd (nid H.next 1) (.cells [intV W])).get (nid H.next 10)=some (.lrec q .busy):=by rw [get_upd_ne (by simp)];exact hgb
   obtain ⟨vo,vs,vn,vl⟩:=v
   have hbc:badC P W (.mk vo vs vn vl)=(decide (W=4) && !(arF P vs).2 || decide (W=8) && !decide ((arF P vs).1=(vl.length:Int))):=rfl
   simp only [Nd.enc_mk] at hlow2 ⊢
   rw [hra]
   have hr0:q.round [.agg [intV vo,strV vs,intV vn,.slice (vl.map Nd.cells) none]]=Env.put q.env (some 51) (.agg [intV vo,strV vs,intV vn,.slice (vl.map Nd.cells) none]):=by
    simp only [ALoop.round,hqs];rfl
   rw [hr0,he]
   refine awp_region ?_
   simp
   refine ⟨_,rfl,?_⟩
   rw [hrb]
   refine awp_block ?_
   have hac:=fun bs=>arity_c hP (H:=HL (G2.upd (nid H.next 10) (.lrec q .busy)) bs) ⟨k5 bs,k3 bs,k4 bs⟩ vs
   repeat with_reducible refine awp_assoc ?_
   refine awp_sr fun K hK=>?_
   refine aOps_split 3 fun K hK=>?_
   simp [k6]
   refine hK _ _ ?_
   clear hK K
   refine aOps_call (hac _) (by first | rfl | simp) rfl rfl (by first | (simp;done) | rfl) ?_
   simp
   refine hK _ _ ?_
   clear hK K
   rcases hW48 with rfl | rfl
   ·cases hq:(arF P vs).2 with
    | false =>
     repeat with_reducible refine awp_assoc ?_
     refine awp_sr fun K hK=>?_
     refine aOps_split 6 fun K hK=>?_
     simp [k7,hq]
     refine hK _ _ ?_
     clear hK K
     refine aOps_split 6 fun K hK=>?_
     simp [k7,hq]
     refine hK _ _ ?_
     clear hK K
     simp [k7,hq]
     refine hK _ _ ?_
     clear hK K
     refine awp_condT rfl (by simp) ?_
     repeat with_reducible refine awp_assoc ?_
     refine awp_sr fun K hK=>?_
     simp [k7,k1]
     refine hK _ _ ?_
     clear hK K
     refine awp_ret ?_
     rw [upd_lt (by exact (hc2 _ _ g1).1)]
     exact ⟨_,reset_all hcf,by simp,hgb2,by rw [hbc];simp [hq,AExit.on],by rw [hbc];simp only [hq];exact heR⟩
    | true =>
     repeat with_reducible refine awp_assoc ?_
     refine awp_sr fun K hK=>?_
     refine aOps_split 6 fun K hK=>?_
     simp [k7,hq]
     refine hK _ _ ?_
     clear hK K
     refine aOps_split 6 fun K hK=>?_
     simp [k7,hq]
     refine hK _ _ ?_
     clear hK K
     simp [k7,hq]
     refine hK _ _ ?_
     clear hK K
     refine awp_condF rfl (by simp) ?_
     refine awp_skip ?_
     exact ⟨_,reset_all hcb,by simp,hgb,by rw [hbc];simp [hq,AExit.on],by rw [hbc];simp only [hq];exact heN⟩
   ·by_cases hq:(arF P vs).1=(vl.length:Int)
    ·skip
     repeat with_reducible refine awp_assoc ?_
     refine awp_sr fun K hK=>?_
     refine aOps_split 6 fun K hK=>?_
     simp [k7,hq]
     refine hK _ _ ?_
     clear hK K
     refine aOps_split 6 fun K hK=>?_
     simp [k7,hq]
     refine hK _ _ ?_
     clear hK K
     simp [k7,hq]
     refine hK _ _ ?_
     clear hK K
     refine awp_condF rfl (by simp) ?_
     refine awp_skip ?_
     exact ⟨_,reset_all hcb,by simp,hgb,by rw [hbc];simp [hq,AExit.on],by rw [hbc];simp only [hq];exact heN⟩
    ·skip
     repeat with_reducible refine awp_assoc ?_
     refine awp_sr fun K hK=>?_
     refine aOps_split 6 fun K hK=>?_
     simp [k7,hq]
     refine hK _ _ ?_
     clear hK K
     refine aOps_split 6 fun K hK=>?_
     simp [k7,hq]
     refine hK _ _ ?_
     clear hK K
     simp [k7,hq]
     refine hK _ _ ?_
     clear hK K
     refine awp_condT rfl (by simp) ?_
     repeat with_reducible refine awp_assoc ?_
     refine awp_sr fun K hK=>?_
     simp [k7,k1]
     refine hK _ _ ?_
     clear hK K
     refine awp_ret ?_
     rw [upd_lt (by exact (hc2 _ _ g1).1)]
     exact ⟨_,reset_all hcf,by simp,hgb2,by rw [hbc];simp [hq,AExit.on],by rw [hbc];simp only [hq];exact heR⟩
 ·simp
 ·simp
 ·simp [vB,Holds]
 ·rintro v H' ⟨rfl,rfl⟩
  generalize badP P W (Nd.mk po pn pm pl)=bp at *
  cases bp with
  | false =>
   simp [vB,puts]
   refine hQ3 _ _ _ ?_
   clear hQ3
   simp
   refine hKP _ _ ?_
   clear hKP
   refine awp_region ?_
   simp [wrap_succ (show j < 4611686018427387904 by omega)]
   exact ⟨by simpa using hms3 rfl,weak_HL hcl rfl (by simp [low_tEs,low_aEs,WkEs.refl]) (by simp)⟩
  | true =>
   simp [vB,puts]
   refine hQ3 _ _ _ ?_
   simp
   refine hQ2 _ _ _ ?_
   simp
   refine hQ1 _ _ _ ?_
   clear hQ1 hQ2 hQ3
   rw [hyes (hyr (hyp rfl))]
   simp [reset_all hcl]
end Go.Proofs.YtdppfcbeiplckaaGreat
