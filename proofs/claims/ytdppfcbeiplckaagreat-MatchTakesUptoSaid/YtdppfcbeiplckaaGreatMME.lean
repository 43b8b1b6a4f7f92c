/- The program: the open places of a row of patterns; places as keys. -/
import Derived.Test.YtdppfcbeiplckaaGreatMMD
import Derived.Test.YtdppfcbeiplckaaGreatMMB
import Derived.Test.YtdppfcbeiplckaaGreatMD6
set_option linter.unusedVariables false
set_option linter.unusedSimpArgs false
namespace Go.Proofs.YtdppfcbeiplckaaGreat
open Go Go.Abs Go.Proofs
set_option maxRecDepth 20000
attribute [local simp] aOps wantedA aStep aop aLoad aStore aBin aUn aFieldAddr aField aIndexAddr aIndex aLen aBuild aFill aAlloc aAppend aAppendOwn aMin aMax aBuildSlice litRows newRows isMut isOwn isNilS nilsW bytesR tokW tokAV tokL ret readC splice aeval isLit isLate isCut aCut AV.celled AV.one AV.ofValue Value.oneCell' Value.cells intOp strOp get_nid upd_nid awp aEnd aResults aResult Det unord isCall isNext
attribute [local simp] low_take low_strs low_comp low_tcomp wkEs_refl' WkBs WkEnv WkB WkL WkE WkO ABlock.low lowO lowL lowR AV.low cellsL_eq Ty.low low_map Ty.cells_length Ty.cells_one
attribute [local simp] cellsNd_eq low_nds Nd.cells_length Nd.cells_one low_ints low_rows low_strs low_strR low_rowR low_pls low_pths Nd.drop4
mutual
def opN (dep:Int):Nd→List Int→List (List Int)
 | .mk o _ _ l,path=>if o=1 then [path] else if (path.length:Int) < dep then opL dep l path 0 else []
def opL (dep:Int):List Nd→List Int→Nat→List (List Int)
 | [],_,_=>[]
 | t::l,ahead,i=>opN dep t (ahead++[(i:Int)])++opL dep l ahead (i+1)
end
theorem opL_snoc (dep:Int) (a:List Int) (t:Nd):∀ (l:List Nd) (i:Nat),opL dep (l++[t]) a i=opL dep l a i++opN dep t (a++[((i+l.length:Nat):Int)])
 | [],i=>by simp [opL]
 | x::l,i=>by
  have h:i+1+l.length=i+(l.length+1):=by omega
  simp [opL,opL_snoc dep a t l (i+1),h]
theorem opL_take {dep:Int} {a:List Int} {l:List Nd} {k:Nat} {t:Nd} (h:l[k]?=some t):opL dep (l.take (k+1)) a 0=opL dep (l.take k) a 0++opN dep t (a++[(k:Int)]):=by
 have hk:k < l.length:=(List.getElem?_eq_some_iff.1 h).1
 have e:(l.take k).length=k:=by rw [List.length_take];omega
 rw [take_one h,opL_snoc,e,Nat.zero_add]
theorem opL_le (dep:Int) (a:List Int):∀ (l:List Nd) (k i:Nat),(opL dep (l.take k) a i).length≤(opL dep l a i).length
 | [],k,i=>by simp
 | x::l,0,i=>by simp [opL]
 | x::l,k+1,i=>by simp only [List.take_succ_cons,opL,List.length_append];have:=opL_le dep a l k (i+1);omega
set_option maxHeartbeats 1000000 in
theorem opens_c {b:Nat} (hb:b≤4611686018427387904) (dep:Int) (hdep:dep≤1000) {g:Nat} {tp km:AV} {rows:List (List AV)}:∀ t:Nd,t.Sh b→∀ ahead:List Int,ahead.length≤1000→(opL dep t.kids ahead 0).length < 1000000000→∀ H:AHeap,H.get g=some (.cells [tp,.slice rows none,intV dep,km]) →
  ACalls Tryz.prog 132 [.ref g 0,.slice (t.kids.map Nd.cells) none,.slice (ahead.map intR) none] H (.slice ((opL dep t.kids ahead 0).map pthR) none) H:=by
 refine Nd.ind fun o0 s0 n0 l ih hs ahead hal hsz H hg=>?_
 have hi:=hs.inv
 simp only [Nd.kids] at hsz ⊢
 have hlen:l.length < 4611686018427387904:=by omega
 have hcl0:=iClone_c ahead (by omega)
 have hcp:∀ B1 B2,ACalls Tryz.prog 73 [.slice (ahead.map intR) none] (HL H [B1,B2]) (.vec (nid H.next 3) ahead.length) (HL H [B1,B2,.tok 0 1 (some []),.tok ahead.length 1 (some (ahead.map intR))]):=fun B1 B2=>by
  have:=hcl0 (HL H [B1,B2])
  simpa using this
 refine acalls_walk (fun d=>if d=7 then .nilv 1 else if d=10 then .frz else if d=21 then .lit else if d=28 then .lit else .imm) [0,1,2,6,7,8,9,10,11,12,13,14,25,36] Tryz.mixed Tryz.func132 rfl rfl rfl (by decide) (fun hcl hlow=>?_)
 have gp:∀ bs,(HL H bs).get g=some (.cells [tp,.slice rows none,intV dep,km]):=fun bs=>by rw [get_lt (hcl _ _ hg).1];exact hg
 have hgl:∀ m,g < nid H.next m:=fun m=>by have:=(hcl _ _ hg).1;unfold nid;omega
 repeat with_reducible refine awp_assoc ?_
 refine awp_sr fun K hK=>?_
 simp
 refine hK _ _ ?_
 clear hK K
 repeat with_reducible refine awp_assoc ?_
 refine awp_sr fun K hK=>?_
 simp
 refine hK _ _ ?_
 clear hK K
 repeat with_reducible refine awp_assoc ?_
 refine awp_sr fun K hK=>?_
 simp
 refine hK _ _ ?_
 clear hK K
 repeat with_reducible refine awp_assoc ?_
 refine awp_seq_k fun K hK=>?_
 refine awp_block ?_
 refine awp_up l.length (fun k=>Env.ofL [(13,intV k),(12,intV (l.length:Int)),(11,.slice (l.map Nd.cells) none),(7,.slice ((opL dep (l.take k) ahead 0).map pthR) (some (nid H.next 0))),(2,.slice (ahead.map intR) none),(0,.ref g 0)]) (fun k=>HL H [.tok (opL dep (l.take k) ahead 0).length 1 none]) (fun _=>True) (weak_HL hcl rfl (by simp [opL,hgl]) (by simp [opL,hgl])) (trivial) (fun k hk hvk=>?_) (fun hvk=>?_)
 rotate_left
 ·rw [List.take_length]
  repeat with_reducible refine awp_assoc ?_
  refine awp_sr fun K hK=>?_
  simp
  refine hK _ _ ?_
  clear hK K
  repeat with_reducible refine awp_assoc ?_
  refine awp_seq_k fun K hK=>?_
  refine awp_condF rfl (by simp) ?_
  refine awp_exit ?_
  simp
  clear hK K
  refine hK _ _ ?_
  clear hK K
  repeat with_reducible refine awp_assoc ?_
  refine awp_sr fun K hK=>?_
  simp
  refine hK _ _ ?_
  clear hK K
  simp [reset_all hcl,Wk.tok]
 obtain ⟨t,ht⟩:∃ t,l[k]?=some t:=⟨_,List.getElem?_eq_getElem hk⟩
 have htk:=opL_take (dep:=dep) (a:=ahead) ht
 have hle:=opL_le dep ahead l (k+1) 0
 have hq:=hi.2 t (List.mem_of_getElem? ht)
 have iht:=ih t (List.mem_of_getElem? ht) hq
 rw [htk,List.length_append] at hle
 generalize hOL:opL dep (l.take k) ahead 0=OL at *
 obtain ⟨o,s,n,tl⟩:=t
 simp only [Nd.kids] at iht
 rw [opN] at htk hle
 have ht':(l.map Nd.cells)[k]?=some [intV o,strV s,intV n,.slice (tl.map Nd.cells) none]:=by simp [ht,Nd.cells]
 have hs8:(ahead.length+1) * 8≤70368744177664:=by omega
 have ihp:=iht (ahead++[(k:Int)])
 have hmap:(ahead++[(k:Int)]).map intR=ahead.map intR++[intR k]:=by simp
 have hpl3:(ahead++[(k:Int)]).length=ahead.length+1:=by simp
 have hlw:∀ m,lowR m ((ahead++[(k:Int)]).map intR):=fun m=>low_ints m _
 have hpR:pthR (ahead++[(k:Int)])=[AV.slice ((ahead++[(k:Int)]).map intR) none]:=rfl
 have hPL:((ahead++[(k:Int)]).map intR).length=ahead.length+1:=by simp
 rw [hmap] at hlw hpR hPL ihp
 repeat with_reducible refine awp_assoc ?_
 refine awp_sr fun K hK=>?_
 simp [hk]
 refine hK _ _ ?_
 clear hK K
 repeat with_reducible refine awp_assoc ?_
 refine awp_seq_k fun K hK=>?_
 refine awp_condT rfl (by simp) ?_
 refine awp_skip ?_
 refine hK _ _ ?_
 clear hK K
 refine awp_seq_k fun KB hKB=>?_
 refine awp_block ?_
 repeat with_reducible refine awp_assoc ?_
 refine awp_sr fun K hK=>?_
 simp [ht']
 refine hK _ _ ?_
 clear hK K
 repeat with_reducible refine awp_assoc ?_
 refine awp_sr fun K hK=>?_
 refine aOps_split 1 fun K hK=>?_
 simp
 refine hK _ _ ?_
 clear hK K
 refine aOps_call (hcp _ _) (by first | rfl | simp) rfl rfl (by first | (simp;done) | rfl) ?_
 refine aOps_split 2 fun K hK=>?_
 simp
 refine hK _ _ ?_
 clear hK K
 refine aOps_split 1 fun K hK=>?_
 simp
 refine ⟨hs8,hK _ _ ?_⟩
 clear hK K
 simp
 refine ⟨?_,hK _ _ ?_⟩
 ·intro r hr
  rcases hr with ⟨x,_,rfl⟩ | rfl
  ·exact ⟨rfl,by simp [intR]⟩
  ·exact ⟨rfl,by simp [intR]⟩
 clear hK K
 generalize hPW:ahead.map intR++[intR (k:Int)]=PW at *
 generalize hPT:ahead++[(k:Int)]=PT at *
 have hlp:∀ m,lowL m (pthR PT):=fun m=>(low_pths m [PT]).1
 have hOL:∀ x∈OL,(pthR x).length=1:=fun _ _=>rfl
 repeat with_reducible refine awp_assoc ?_
 refine awp_sr fun K hK=>?_
 simp
 refine hK _ _ ?_
 clear hK K
 by_cases h1:o=1
 ·rw [if_pos h1] at htk hle
  simp only [List.length_singleton] at hle
  refine awp_condT rfl (by simp [h1]) ?_
  refine awp_region ?_
  simp
  refine ⟨by omega,hOL,?_⟩
  refine hKB _ _ ?_
  clear hKB
  refine awp_region ?_
  simp [wrap_succ (show k < 4611686018427387904 by omega)]
  rw [htk]
  have hw3:Wk (.slice (OL.map pthR++[[.slice PW (some (nid H.next 3))]]) (some (nid H.next 0))) (.slice (OL.map pthR++[pthR PT]) (some (nid H.next 0))):=by
   exact Wk.sliceT (wkR_append (WkR.refl _) ⟨by rw [hpR];exact ⟨Wk.tok _ _,trivial⟩,trivial⟩)
  exact weak_HL hcl rfl (by simp) (by simp [hw3,hgl,hlp])
 rw [if_neg h1] at htk hle
 refine awp_condF rfl (by simp [h1]) ?_
 repeat with_reducible refine awp_assoc ?_
 by_cases h2:(PT.length:Int) < dep
 ·rw [if_pos h2] at htk hle
  have h2':((ahead.length:Int)+1) < dep:=by omega
  repeat with_reducible refine awp_assoc ?_
  refine awp_sr fun K hK=>?_
  simp [gp,hPL,h2']
  refine hK _ _ ?_
  clear hK K
  refine awp_condT rfl (by simp [h2']) ?_
  have hc:=ihp (by omega) (by omega)
  generalize opL dep tl PT 0=Q at *
  refine awp_region ?_
  refine aOps_split 5 fun K hK=>?_
  simp
  refine hK _ _ ?_
  clear hK K
  refine aOps_callW (hc _ (gp _)) (by first | rfl | simp) rfl rfl (by simp) ?_
  refine aOps_split 1 fun K hK=>?_
  simp
  refine ⟨fun a _=>⟨rfl,by simp [pthR]⟩,by omega,hOL,?_⟩
  by_cases hQ:Q=[]
  ·subst hQ
   simp
   refine hK _ _ ?_
   clear hK K
   simp
   refine hKB _ _ ?_
   clear hKB
   refine awp_region ?_
   simp [wrap_succ (show k < 4611686018427387904 by omega)]
   rw [htk]
   exact weak_HL hcl rfl (by simp) (by simp [hgl])
  ·rw [if_neg hQ]
   refine hK _ _ ?_
   clear hK K
   simp
   refine hKB _ _ ?_
   clear hKB
   refine awp_region ?_
   simp [wrap_succ (show k < 4611686018427387904 by omega)]
   rw [htk]
   exact weak_HL hcl rfl (by simp) (by simp [hgl])
 rw [if_neg h2] at htk hle
 have h2':¬ ((ahead.length:Int)+1) < dep:=by omega
 repeat with_reducible refine awp_assoc ?_
 refine awp_sr fun K hK=>?_
 simp [gp,hPL,h2']
 refine hK _ _ ?_
 clear hK K
 refine awp_condF rfl (by simp [h2']) ?_
 refine awp_skip ?_
 refine hKB _ _ ?_
 clear hKB
 refine awp_region ?_
 simp [wrap_succ (show k < 4611686018427387904 by omega)]
 rw [htk,List.append_nil]
 exact weak_HL hcl rfl (by simp) (by simp [hgl])
section
variable {b:Nat} {dep:Int} {g cg cp:Nat} {tp km:AV} {rows:List (List Nd)} {H:AHeap}
theorem fcov_c (hb:b≤4611686018427387904) {i:Nat} {r p:List Nd} (hi:rows[i]?=some r) (hl:r.length < b) (hsh:∀ t∈r,t.Sh b) (hck:cvkL r p=true) (hcg:H.get cg=some (.cells [.ref g 0])) (hcp:H.get cp=some (.cells [.slice (p.map Nd.cells) none])) (hg:H.get g=some (.cells [tp,.slice (rows.map rowR) none,intV dep,km])) :
  ACalls Tryz.prog 130 [intV i,.ref cg 0,.ref cp 0] H (boolV (covL r p)) H:=by
 have hc:=fun H=>covers_c hb (.mk 0 ⟨#[]⟩ 0 r) (.mk hl hsh) p hck H
 simp only [Nd.kids] at hc
 refine acalls_walk (fun _=>.imm) [0,1,2,4] Tryz.mixed Tryz.func130 rfl rfl rfl (by decide) (fun hcl hlow=>?_)
 have g1:∀ bs,(HL H bs).get cg=some (.cells [.ref g 0]):=fun bs=>by rw [get_lt (hcl _ _ hcg).1];exact hcg
 have g2:∀ bs,(HL H bs).get cp=some (.cells [.slice (p.map Nd.cells) none]):=fun bs=>by rw [get_lt (hcl _ _ hcp).1];exact hcp
 have g3:∀ bs,(HL H bs).get g=some (.cells [tp,.slice (rows.map rowR) none,intV dep,km]):=fun bs=>by rw [get_lt (hcl _ _ hg).1];exact hg
 have hi':(rows.map rowR)[i]?=some [.slice (r.map Nd.cells) none]:=by simp [hi,rowR]
 repeat with_reducible refine awp_assoc ?_
 refine awp_sr fun K hK=>?_
 simp
 refine hK _ _ ?_
 clear hK K
 repeat with_reducible refine awp_assoc ?_
 refine awp_sdc [] [[],[],[],[],[0,1,2,3],[0],[0,1],[0,1,2,3,4,5,6],[0,1,2],[]] (by kernel_rfl) (by rfl) fun K hK=>?_
 refine aCalm_pre 6 (by rfl) fun K hK=>?_
 simp [g1,g2,g3,hi']
 refine hK _ _ ?_
 clear hK K
 refine aCalm_pre 2 (by rfl) fun K hK=>?_
 simp [g1,g2,g3,hi']
 refine hK _ _ ?_
 clear hK K
 refine aCalm_call0 (hc _) (by first | rfl | simp) rfl rfl rfl (by first | (simp;done) | rfl) ?_
 refine aCalm_pre 1 (by rfl) fun K hK=>?_
 simp
 refine hK _ _ ?_
 clear hK K
 refine aCalm_end ?_
 simp
 refine hK _ _ ?_
 clear hK K
 simp [reset_all hcl]
theorem fask_c (hb:b≤4611686018427387904) {i:Nat} {r:List Nd} {k0:Int} {l:List Int} {p0:Nd} (hi:rows[i]?=some r) (h0:0≤k0) (hp:r[k0.toNat]?=some p0) (hsh:p0.Sh b) (hl:l.length < 4611686018427387904) (hpos:∀ k∈l,0≤k) (hcg:H.get cg=some (.cells [.ref g 0])) (hcp:H.get cp=some (.cells [.slice ((k0::l).map intR) none])) (hg:H.get g=some (.cells [tp,.slice (rows.map rowR) none,intV dep,km])) :
  ACalls Tryz.prog 133 [intV i,.ref cg 0,.ref cp 0] H (boolV (decide (3≤(atN r (k0::l)).op))) H:=by
 have hc:=asks_c hb r k0 l h0 p0 hp hsh hl hpos
 have hlw:=low_ints
 generalize (k0::l).map intR=pth at *
 refine acalls_walk (fun _=>.imm) [0,1,2,4] Tryz.mixed Tryz.func133 rfl rfl rfl (by decide) (fun hcl hlow=>?_)
 have g1:∀ bs,(HL H bs).get cg=some (.cells [.ref g 0]):=fun bs=>by rw [get_lt (hcl _ _ hcg).1];exact hcg
 have g2:∀ bs,(HL H bs).get cp=some (.cells [.slice pth none]):=fun bs=>by rw [get_lt (hcl _ _ hcp).1];exact hcp
 have g3:∀ bs,(HL H bs).get g=some (.cells [tp,.slice (rows.map rowR) none,intV dep,km]):=fun bs=>by rw [get_lt (hcl _ _ hg).1];exact hg
 have hi':(rows.map rowR)[i]?=some [.slice (r.map Nd.cells) none]:=by simp [hi,rowR]
 repeat with_reducible refine awp_assoc ?_
 refine awp_sr fun K hK=>?_
 simp
 refine hK _ _ ?_
 clear hK K
 repeat with_reducible refine awp_assoc ?_
 refine awp_sdc [] [[],[],[],[],[0,1,2,3],[0],[0,1],[0,1,2,3,4,5,6],[0,1,2],[]] (by kernel_rfl) (by rfl) fun K hK=>?_
 refine aCalm_pre 6 (by rfl) fun K hK=>?_
 simp [g1,g2,g3,hi']
 refine hK _ _ ?_
 clear hK K
 refine aCalm_pre 2 (by rfl) fun K hK=>?_
 simp [g1,g2,g3,hi']
 refine hK _ _ ?_
 clear hK K
 refine aCalm_call0 (hc _) (by first | rfl | simp) rfl rfl rfl (by first | (simp;done) | rfl) ?_
 refine aCalm_pre 1 (by rfl) fun K hK=>?_
 simp
 refine hK _ _ ?_
 clear hK K
 refine aCalm_end ?_
 simp
 refine hK _ _ ?_
 clear hK K
 simp [reset_all hcl]
end
def keyA (p:List Int):List Int:=p++List.replicate (8 - p.length) (-1)
def kC (k:Nat):List AV:=(List.replicate k (-1:Int)++List.replicate (8 - k) 0).map intV
theorem kC_len {k:Nat} (h:k≤8):(kC k).length=8:=by simp [kC];omega
theorem kC_put {k:Nat} (h:k < 8):splice (kC k) k [intV (-1)]=kC (k+1):=by
 match k,h with
 | 0,_=>rfl
 | 1,_=>rfl
 | 2,_=>rfl
 | 3,_=>rfl
 | 4,_=>rfl
 | 5,_=>rfl
 | 6,_=>rfl
 | 7,_=>rfl
theorem low_kC (n k:Nat):lowL n (kC k):=by
 unfold kC
 generalize (List.replicate k (-1:Int)++List.replicate (8 - k) 0)=l
 induction l with
 | nil=>trivial
 | cons a l ih=>exact ⟨trivial,ih⟩
theorem key_c (k0:Int) (l:List Int) (hl:l.length < 8) (H:AHeap):ACalls Tryz.prog 134 [.slice ((k0::l).map intR) none] H (.agg ((keyA (k0::l)).map intV)) H:=by
 have hpl:((k0::l).map intR).length=l.length+1:=by simp
 have hlw:∀ m,lowR m ((k0::l).map intR):=fun m=>low_ints m _
 have hp1:∀ r∈(k0::l).map intR,r.length=1:=by simp [intR]
 have hp0:(k0::l).map intR≠[]:=by simp
 have hpt:∀ j,l.length+1≤j→((k0::l).map intR).take j=(k0::l).map intR:=fun j h=>List.take_of_length_le (by simp;omega)
 have hpf:splice (kC 8) 0 ((k0::l).map intR).flatten=(keyA (k0::l)).map intV:=by
  have e:∀ m:List Int,(m.map intR).flatten=m.map intV:=fun m=>by
   induction m with
   | nil=>rfl
   | cons a m ih=>simp only [List.map_cons,List.flatten_cons,ih];rfl
  rw [e]
  have e2:kC 8=(List.replicate 8 (-1:Int)).map intV:=rfl
  rw [e2]
  simp only [splice,keyA,List.take_zero,List.nil_append,Nat.zero_add,List.length_map,←List.map_drop,List.drop_replicate,List.map_append]
 generalize (k0::l).map intR=pth at *
 have hkl:(keyA (k0::l)).length=8:=by simp [keyA];omega
 generalize keyA (k0::l)=R at *
 obtain ⟨a0,a1,a2,a3,a4,a5,a6,a7,rfl⟩:∃ a0 a1 a2 a3 a4 a5 a6 a7,R=[a0,a1,a2,a3,a4,a5,a6,a7]:=by
  match R,hkl with
  | [a0,a1,a2,a3,a4,a5,a6,a7],_=>exact ⟨a0,a1,a2,a3,a4,a5,a6,a7,rfl⟩
 simp only [List.map_cons,List.map_nil] at *
 refine acalls_walk (fun _=>.imm) [0,2,3,4,5,6] Tryz.mixed Tryz.func134 rfl rfl rfl (by decide) (fun hcl hlow=>?_)
 repeat with_reducible refine awp_assoc ?_
 refine awp_sr fun K hK=>?_
 simp
 refine hK _ _ ?_
 clear hK K
 repeat with_reducible refine awp_assoc ?_
 refine awp_sr fun K hK=>?_
 simp
 refine hK _ _ ?_
 clear hK K
 repeat with_reducible refine awp_assoc ?_
 refine awp_sr fun K hK=>?_
 simp
 refine hK _ _ ?_
 clear hK K
 repeat with_reducible refine awp_assoc ?_
 refine awp_seq_k fun K hK=>?_
 refine awp_block ?_
 refine awp_up 8 (fun k=>Env.ofL [(5,intV k),(3,.ref (nid H.next 1) 0),(2,.ref (nid H.next 0) 0),(0,.slice pth none)]) (fun k=>HL H [.cells [intV 0,intV 0,intV 0,intV 0,intV 0,intV 0,intV 0,intV 0],.cells (kC k)]) (fun _=>True) (weak_HL hcl rfl (by simp [kC,WkL.refl,hlw]) (by simp [kC,WkL.refl,hlw])) (trivial) (fun k hk hvk=>?_) (fun hvk=>?_)
 ·have h1:=kC_len (Nat.le_of_lt hk)
  have h2:=kC_put hk
  have h3:∀ n,lowL n (kC k):=fun n=>low_kC n k
  have h4:∀ n,lowL n (kC (k+1)):=fun n=>low_kC n (k+1)
  generalize kC k=A at *
  generalize kC (k+1)=B at *
  have hki:(k:Int) < 8:=by omega
  have h5:A.take k++intV (-1)::A.drop (k+1)=B:=by rw [←h2];simp [splice]
  repeat with_reducible refine awp_assoc ?_
  refine awp_sr fun K hK=>?_
  simp [hki]
  refine hK _ _ ?_
  clear hK K
  repeat with_reducible refine awp_assoc ?_
  refine awp_seq_k fun K hK=>?_
  refine awp_condT rfl (by simp [hki]) ?_
  refine awp_skip ?_
  refine hK _ _ ?_
  clear hK K
  refine awp_seq_k fun KC hKC=>?_
  refine awp_block ?_
  repeat with_reducible refine awp_assoc ?_
  refine awp_sr fun K hK=>?_
  simp
  refine hK _ _ ?_
  clear hK K
  refine awp_region ?_
  simp [h1,hki]
  refine ⟨by omega,by omega,hKC _ _ ?_⟩
  clear hKC
  rw [h5]
  refine awp_region ?_
  simp [wrap_succ (show k < 4611686018427387904 by omega)]
  exact weak_HL hcl rfl (by simp [h4,WkL.refl]) (by simp [hlw,h4])
 ·have h3:∀ n,lowL n (kC 8):=fun n=>low_kC n 8
  have h1:=kC_len (Nat.le_refl 8)
  generalize kC 8=A at *
  have hmin:min pth.length 8=pth.length:=by omega
  repeat with_reducible refine awp_assoc ?_
  refine awp_sr fun K hK=>?_
  simp
  refine hK _ _ ?_
  clear hK K
  repeat with_reducible refine awp_assoc ?_
  refine awp_seq_k fun K hK=>?_
  refine awp_condF rfl (by simp) ?_
  refine awp_exit ?_
  simp
  clear hK K
  refine hK _ _ ?_
  clear hK K
  repeat with_reducible refine awp_assoc ?_
  refine awp_sr fun K hK=>?_
  refine aOps_split 2 fun K hK=>?_
  simp [aSlice]
  refine hK _ _ ?_
  clear hK K
  refine aOps_split 1 fun K hK=>?_
  simp [aCopy,-splice,hmin,h1]
  rw [hpf]
  refine ⟨hp0,hp1,by omega,hK _ _ ?_⟩
  clear hK K
  simp
  refine hK _ _ ?_
  clear hK K
  clear hpf hkl h3
  repeat with_reducible refine awp_assoc ?_
  refine awp_sr fun K hK=>?_
  simp
  refine hK _ _ ?_
  clear hK K
  simp [reset_all hcl]
end Go.Proofs.YtdppfcbeiplckaaGreat
namespace Go.Proofs.YtdppfcbeiplckaaGreat
open Go Go.Abs Go.Proofs
set_option maxRecDepth 20000
attribute [local simp] aOps wantedA aStep aop aLoad aStore aBin aUn aFieldAddr aField aIndexAddr aIndex aLen aBuild aFill aAlloc aAppend aAppendOwn aMin aMax aBuildSlice litRows newRows isMut isOwn isNilS nilsW bytesR tokW tokAV tokL ret readC splice aeval isLit isLate isCut aCut AV.celled AV.one AV.ofValue Value.oneCell' Value.cells intOp strOp get_nid upd_nid awp aEnd aResults aResult Det unord isCall isNext
attribute [local simp] low_take low_strs low_comp low_tcomp wkEs_refl' WkBs WkEnv WkB WkL WkE WkO ABlock.low lowO lowL lowR AV.low cellsL_eq Ty.low low_map Ty.cells_length Ty.cells_one
attribute [local simp] ConD.cells Dat.cells low_datL low_conL
attribute [local simp] cellsNd_eq low_nds Nd.cells_length Nd.cells_one low_ints low_rows low_strs low_strR low_rowR low_pls low_pths
def headC (c:ConD):Nd:=.mk 3 c.name 0 (List.replicate c.args.length anyN)
theorem headC_cells (c:ConD):(headC c).cells=[intV 3,strV c.name,intV 0,.slice ((List.replicate c.args.length anyN).map Nd.cells) none]:=by simp [headC,Nd.cells]
set_option maxHeartbeats 2000000 in
theorem heads_c {b:Nat} (hb:b≤4611686018427387904) {g p a mb:Nat} {P:List Ent} {dep:Int} {km:AV} {rows:List (List Nd)} {i:Nat} {may:List Int} {r:List Nd} {k0:Int} {l:List Int} {p0:Nd} {s nm:ByteArray} {n:Int} {ks:List Nd} {x:Dat} {j:Nat}
  (hml:may.length < 4611686018427387903) (hi:rows[i]?=some r) (h0:0≤k0) (hp0:r[k0.toNat]?=some p0) (hsh:p0.Sh b) (hl:l.length < 4611686018427387904) (hpos:∀ k∈l,0≤k) (hat:atN r (k0::l)=.mk 3 s n ks) (he:entF P s=some (nm,x,j))
  (hxl:x.cons.length < 1000000) (hxa:∀ c∈x.cons,c.args.length < 1000000) {H:AHeap} (hT:TabAt H p a mb P) (hg:H.get g=some (.cells [.ref p 0,.slice (rows.map rowR) none,intV dep,km])) :
  ACalls Tryz.prog 135 [.ref g 0,.slice (((i:Int)::may).map intR) none,.slice ((k0::l).map intR) none] H (.slice ((x.cons.map headC).map Nd.cells) none) H:=by
 have hc:=at_c hb r k0 l h0 p0 hp0 hsh hl hpos
 rw [hat] at hc
 simp only [Nd.enc_mk] at hc
 obtain ⟨t1,t2,t3⟩:=hT
 have hm0:(((i:Int)::may).map intR)[0]?=some [intV i]:=by simp [intR]
 have hml2:(((i:Int)::may).map intR).length=may.length+1:=by simp
 have hlw:∀ m,lowR m (((i:Int)::may).map intR):=fun m=>low_ints m _
 have hlw2:∀ m,lowR m ((k0::l).map intR):=fun m=>low_ints m _
 generalize ((i:Int)::may).map intR=mr at *
 generalize (k0::l).map intR=pth at *
 refine acalls_walk (fun d=>if d=11 then .nilv 4 else if d=55 then .nilv 4 else if d=64 then .lit else if d=70 then .lit else .imm) [0,1,2,6,7,9,10,11,13,14,15,17,18,19,20,21,22,36,47,48,49,50,58,59,60,76,87,88,89,90,102] Tryz.mixed Tryz.func135 rfl rfl rfl (by decide) (fun hcl hlow=>?_)
 have gp:∀ bs,(HL H bs).get p=some (.cells [.map a,.map mb]):=fun bs=>by rw [get_lt (hcl _ _ t1).1];exact t1
 have ga:∀ bs,(HL H bs).get a=some (.amap (tEs P) P.length):=fun bs=>by rw [get_lt (hcl _ _ t2).1];exact t2
 have gg:∀ bs,(HL H bs).get g=some (.cells [.ref p 0,.slice (rows.map rowR) none,intV dep,km]):=fun bs=>by rw [get_lt (hcl _ _ hg).1];exact hg
 have hpl:∀ m,p < nid H.next m:=fun m=>by have:=(hcl _ _ t1).1;unfold nid;omega
 have hgl:∀ m,g < nid H.next m:=fun m=>by have:=(hcl _ _ hg).1;unfold nid;omega
 have hi':(rows.map rowR)[i]?=some [.slice (r.map Nd.cells) none]:=by simp [hi,rowR]
 repeat with_reducible refine awp_assoc ?_
 refine awp_sr fun K hK=>?_
 simp
 refine hK _ _ ?_
 clear hK K
 repeat with_reducible refine awp_assoc ?_
 refine awp_sr fun K hK=>?_
 simp
 refine hK _ _ ?_
 clear hK K
 repeat with_reducible refine awp_assoc ?_
 refine awp_sr fun K hK=>?_
 simp [hml2]
 refine hK _ _ ?_
 clear hK K
 repeat with_reducible refine awp_assoc ?_
 refine awp_seq_k fun K hK=>?_
 refine awp_block ?_
 refine awp_up (may.length+1) (fun k=>Env.ofL [(21,intV k),(20,intV ((may.length+1:Nat):Int)),(19,.slice mr none),(2,.slice pth none),(0,.ref g 0)]) (fun k=>HL H []) (fun k=>k=0) (weak_HL hcl rfl (by simp [hlw,hlw2,hgl]) (by simp [hlw,hlw2,hgl])) (rfl) (fun k hk hvk=>?_) (fun hvk=>?_)
 rotate_left
 ·omega
 subst hvk
 have hpos1:(0:Int) < (may.length:Int)+1:=by omega
 repeat with_reducible refine awp_assoc ?_
 refine awp_sr fun K hK=>?_
 simp [hpos1]
 refine hK _ _ ?_
 clear hK K
 repeat with_reducible refine awp_assoc ?_
 refine awp_seq_k fun K hK=>?_
 refine awp_condT rfl (by simp [hpos1]) ?_
 refine awp_skip ?_
 refine hK _ _ ?_
 clear hK K
 refine awp_seq_k fun KB hKB=>?_
 refine awp_block ?_
 repeat with_reducible refine awp_assoc ?_
 refine awp_sr fun K hK=>?_
 simp [hm0]
 refine hK _ _ ?_
 clear hK K
 repeat with_reducible refine awp_assoc ?_
 refine awp_sr fun K hK=>?_
 refine aOps_split 6 fun K hK=>?_
 simp [gg,hi']
 refine hK _ _ ?_
 clear hK K
 refine aOps_split 2 fun K hK=>?_
 simp [gg,hi']
 refine hK _ _ ?_
 clear hK K
 refine aOps_call (hc _) (by first | rfl | simp) rfl rfl (by first | (simp;done) | rfl) ?_
 simp
 refine hK _ _ ?_
 clear hK K
 repeat with_reducible refine awp_assoc ?_
 refine awp_sr fun K hK=>?_
 simp
 refine hK _ _ ?_
 clear hK K
 refine awp_seq_k fun KC hKC=>?_
 refine awp_condT rfl (by simp) ?_
 repeat with_reducible refine awp_assoc ?_
 refine awp_sr fun K hK=>?_
 simp
 refine hK _ _ ?_
 clear hK K
 repeat with_reducible refine awp_assoc ?_
 refine awp_sdc [] [[],[],[],[],[0],[0,1],[0,1,2],[0,1,2,3,4,5,6],[0,1,2,3,4,5,6],[0,1,2,3],[0,1,2,3,4],[0,1,2,3,4,5,7],[0,1,2,3,4,5,6,7,8,9,10,11]] (by kernel_rfl) (by rfl) fun K hK=>?_
 refine aCalm_pre 4 (by rfl) fun K hK=>?_
 simp [gg]
 refine hK _ _ ?_
 clear hK K
 refine aCalm_pre 5 (by rfl) fun K hK=>?_
 simp [gp]
 refine hK _ _ ?_
 clear hK K
 refine aCalm_pre 4 (by rfl) fun K hK=>?_
 simp [aLookup,ga,keys_tEs,keyOk,lk_t,he]
 refine hK _ _ ?_
 clear hK K
 refine aCalm_end ?_
 simp
 refine hK _ _ ?_
 clear hK K
 have hkl:x.cons.length < 4611686018427387904:=by omega
 obtain ⟨dk,hdk⟩:∃ dk:Nat→List (List AV),∀ j,dk j=((x.cons.take j).map headC).map Nd.cells:=⟨_,fun _=>rfl⟩
 have dk0:dk 0=[]:=by rw [hdk];rfl
 have dkn:dk x.cons.length=(x.cons.map headC).map Nd.cells:=by rw [hdk,List.take_length]
 have dks:∀ j c,x.cons[j]?=some c→dk (j+1)=dk j++[[intV 3,strV c.name,intV 0,.slice ((List.replicate c.args.length anyN).map Nd.cells) none]]:=fun j c h=>by
  rw [hdk,hdk,take_one h,List.map_append,List.map_append];simp [headC_cells]
 have dkl:∀ j,j≤x.cons.length→(dk j).length=j:=fun j h=>by rw [hdk,List.length_map,List.length_map,List.length_take];omega
 have dk4:∀ j,∀ r∈dk j,r.length=4:=fun j r h=>by
  rw [hdk] at h
  obtain ⟨y,_,rfl⟩:=List.mem_map.1 h
  exact Nd.cells_length y
 have dkw:∀ n j,lowR n (dk j):=fun n j=>by rw [hdk];exact low_nds _ _
 rw [←dkn]
 clear hdk dkn
 have dka:anyN.cells=[intV 1,strV ByteArray.empty,intV 0,.slice [] none]:=rfl
 refine awp_hide fun Q1 hQ1=>?_
 repeat with_reducible refine awp_assoc ?_
 refine awp_seq_k fun K hK=>?_
 refine awp_block ?_
 refine awp_up x.cons.length (fun j'=>Env.ofL [(49,intV j'),(48,intV (x.cons.length:Int)),(47,.slice (x.cons.map ConD.cells) none),(11,.slice (dk j') (some (nid H.next 1)))]) (fun j'=>HL H [.cells [intV 3,strV s,intV n,.slice (ks.map Nd.cells) none],.tok j' 4 none]) (fun _=>True) (weak_HL hcl rfl (by simp [dk0,dkw]) (by simp [dk0,dkw])) (trivial) (fun j' hj' hvj'=>?_) (fun hvj'=>?_)
 rotate_left
 ·repeat with_reducible refine awp_assoc ?_
  refine awp_sr fun K hK=>?_
  simp
  refine hK _ _ ?_
  clear hK K
  repeat with_reducible refine awp_assoc ?_
  refine awp_seq_k fun K hK=>?_
  refine awp_condF rfl (by simp) ?_
  refine awp_exit ?_
  simp
  clear hK K
  refine hK _ _ ?_
  clear hK K
  repeat with_reducible refine awp_assoc ?_
  refine awp_sr fun K hK=>?_
  simp
  refine hK _ _ ?_
  clear hK K
  refine awp_ret ?_
  refine hQ1 _ _ _ ?_
  simp [dkw,Wk.tok]
  exact reset_all hcl
 obtain ⟨c,hc⟩:∃ c,x.cons[j']?=some c:=⟨_,List.getElem?_eq_getElem hj'⟩
 have hcl1:=hxa c (List.mem_of_getElem? hc)
 have hdl:=dkl j' (Nat.le_of_lt hj')
 have hd4:=dk4 j'
 have hdw:=fun n=>dkw n j'
 have hdw2:=fun n=>dkw n (j'+1)
 have hds:=dks j' c hc
 repeat with_reducible refine awp_assoc ?_
 refine awp_sr fun K hK=>?_
 simp [hj']
 refine hK _ _ ?_
 clear hK K
 repeat with_reducible refine awp_assoc ?_
 refine awp_seq_k fun K hK=>?_
 refine awp_condT rfl (by simp) ?_
 refine awp_skip ?_
 refine hK _ _ ?_
 clear hK K
 refine awp_seq_k fun KD hKD=>?_
 refine awp_block ?_
 repeat with_reducible refine awp_assoc ?_
 refine awp_sr fun K hK=>?_
 simp [hc]
 refine hK _ _ ?_
 clear hK K
 generalize dk j'=DK at *
 generalize dk (j'+1)=DK2 at *
 repeat with_reducible refine awp_assoc ?_
 refine awp_sr fun K hK=>?_
 simp
 refine hK _ _ ?_
 clear hK K
 repeat with_reducible refine awp_assoc ?_
 refine awp_sr fun K hK=>?_
 simp
 refine hK _ _ ?_
 clear hK K
 refine awp_hide fun Q2 hQ2=>?_
 repeat with_reducible refine awp_assoc ?_
 refine awp_seq_k fun K hK=>?_
 refine awp_block ?_
 refine awp_up c.args.length (fun i'=>Env.ofL [(59,intV i'),(58,intV (c.args.length:Int)),(14,.ref (nid H.next 4) 0),(11,.slice DK (some (nid H.next 1))),(49,intV j'),(48,intV (x.cons.length:Int)),(47,.slice (x.cons.map ConD.cells) none)]) (fun i'=>HL H [.cells [intV 3,strV s,intV n,.slice (ks.map Nd.cells) none],.tok j' 4 none,.cells c.cells,.tok i' 4 none,.cells [intV 3,strV c.name,intV 0,.slice ((List.replicate i' anyN).map Nd.cells) (some (nid H.next 3))]]) (fun _=>True) (weak_HL hcl rfl (by simp [hdw]) (by simp [hdw])) (trivial) (fun i' hi' hvi'=>?_) (fun hvi'=>?_)
 rotate_left
 ·repeat with_reducible refine awp_assoc ?_
  refine awp_sr fun K hK=>?_
  simp
  refine hK _ _ ?_
  clear hK K
  repeat with_reducible refine awp_assoc ?_
  refine awp_seq_k fun K hK=>?_
  refine awp_condF rfl (by simp) ?_
  refine awp_exit ?_
  simp
  clear hK K
  refine hK _ _ ?_
  clear hK K
  refine awp_region ?_
  refine aOps_split 3 fun K hK=>?_
  simp
  refine hK _ _ ?_
  clear hK K
  refine aOps_split 1 fun K hK=>?_
  simp
  refine ⟨by omega,hdl.symm,hd4,hK _ _ ?_⟩
  clear hK K
  simp
  refine hQ2 _ _ _ ?_
  clear hQ2
  simp
  refine hKD _ _ ?_
  clear hKD
  refine awp_region ?_
  simp [wrap_succ (show j' < 4611686018427387904 by omega),hdl]
  have hw3:Wk (.slice (DK++[[intV 3,strV c.name,intV 0,.slice (List.replicate c.args.length anyN.cells) (some (nid H.next 3))]]) (some (nid H.next 1))) (.slice DK2 (some (nid H.next 1))):=by
   rw [hds,List.map_replicate]
   exact Wk.sliceT (wkR_append (WkR.refl _) ⟨⟨.refl _,.refl _,.refl _,Wk.tok _ _,trivial⟩,trivial⟩)
  exact weak_HL hcl rfl (by simp) (by simp [hw3,hdw2])
 repeat with_reducible refine awp_assoc ?_
 refine awp_sr fun K hK=>?_
 simp [hi']
 refine hK _ _ ?_
 clear hK K
 repeat with_reducible refine awp_assoc ?_
 refine awp_seq_k fun K hK=>?_
 refine awp_condT rfl (by simp) ?_
 refine awp_skip ?_
 refine hK _ _ ?_
 clear hK K
 refine awp_seq_k fun KE hKE=>?_
 refine awp_block ?_
 refine awp_region ?_
 refine aOps_split 3 fun K hK=>?_
 simp
 refine hK _ _ ?_
 clear hK K
 refine aOps_split 1 fun K hK=>?_
 simp
 refine hK _ _ ?_
 clear hK K
 refine aOps_split 1 fun K hK=>?_
 simp
 refine ⟨by omega,hK _ _ ?_⟩
 clear hK K
 simp
 refine hKE _ _ ?_
 clear hKE
 refine awp_region ?_
 simp [wrap_succ (show i' < 4611686018427387904 by omega)]
 have hw3:Wk (.slice (List.replicate i' anyN.cells++[[intV 1,strV ByteArray.empty,intV 0,.v (.slice none 0 0)]]) (some (nid H.next 3))) (.slice (List.replicate (i'+1) anyN.cells) (some (nid H.next 3))):=by
  rw [List.replicate_succ',dka]
  exact Wk.sliceT (wkR_append (WkR.refl _) ⟨⟨.refl _,.refl _,.refl _,Wk.nilSlice,trivial⟩,trivial⟩)
 have hlo:∀ n i,lowR n (List.replicate i anyN.cells):=fun n i=>by rw [←List.map_replicate];exact low_nds _ _
 exact weak_HL hcl rfl (by simp [hw3,hlo]) (by simp [hdw,hlo])
end Go.Proofs.YtdppfcbeiplckaaGreat
