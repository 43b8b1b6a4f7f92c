/- Count; the law of what is told of declarations. -/
import Derived.Test.YtlhoigpidpokfaaGreatME7
import Derived.Test.YtlhoigpidpokfaaGreatMG3
import Derived.Test.YtlhoigpidpokfaaGreatMG4
set_option linter.unusedVariables false
set_option linter.unusedSimpArgs false
namespace Go.Proofs.YtlhoigpidpokfaaGreat
open Go Go.Abs Go.Proofs
set_option maxRecDepth 20000
attribute [local simp] aOps wantedA aStep aop aLoad aStore aBin aUn aFieldAddr aField aIndexAddr aIndex aLen aBuild aFill aAlloc aAppend aAppendOwn aMin aMax aBuildSlice litRows newRows isMut isOwn isNilS nilsW bytesR tokW tokAV tokL ret readC splice aeval isLit isLate isCut aCut AV.celled AV.one AV.ofValue Value.oneCell' Value.cells intOp strOp get_nid upd_nid awp aEnd aResults aResult Det unord isCall isNext
attribute [local simp] low_take low_strs low_comp low_tcomp wkEs_refl' WkBs WkEnv WkB WkL WkE WkO ABlock.low lowO lowL lowR AV.low cellsL_eq Ty.low low_map Ty.cells_length Ty.cells_one
attribute [local simp] ConD.cells Dat.cells PredD.cells SigD.cells ClsD.cells InstD.cells DeclsD.cells DeclsD.enc Dat.enc low_datL low_conL low_predL low_sigL low_clsL low_instL
set_option maxHeartbeats 1000000 in
theorem dCountOk_c (d:DeclsD) (hr:RawD d) (hd:CntD d) (t:Ty) (ht:t.cnt < 1000000000000) (s:Nat) (hs:s≤10) (hk:kindsD d t=0) (f:Nat) (b:Bool) (hv:valF d f t.nodes []=some b) (hvv:valV b t=0) (g:Nat) (r:Nat × CM) (hc:cntF d g t s []=some r) (hle:r.1≤1000000000) (H:AHeap) :
  ACalls Tryz.prog 22 [d.enc,t.enc,intV s] H (.tuple [intV r.1,intV 0]) H:=by
 have hKi:=Kinds_c d hr t
 rw [hk] at hKi
 have hV:=dValued_c d hd t ht f b hv
 rw [hvv] at hV
 have hC:=fun (H:AHeap) (si mi:Nat) (hne:si≠mi)=>dCount_c d hd si mi hne g t s [] r (by omega) hc H
 have hs1:¬ (s:Int) < 0:=by omega
 have hs2:¬ (10:Int) < (s:Int):=by omega
 have hle':¬ (1000000000:Int) < (r.1:Int):=by omega
 obtain ⟨tn,tl⟩:=t
 simp only [enc_mk] at hKi hV hC ⊢
 refine acalls_walk (fun _=>.imm) [0,1,2,3,4,6,7,8,9,10,15,22,27,37] Tryz.mixed Tryz.func22 rfl rfl rfl (by decide) (fun hcl hlow=>?_)
 repeat with_reducible refine awp_assoc ?_
 refine awp_sr fun K hK=>?_
 simp
 refine hK _ _ ?_
 clear hK K
 repeat with_reducible refine awp_assoc ?_
 refine awp_sr fun K hK=>?_
 refine aOps_split 2 fun K hK=>?_
 simp
 refine hK _ _ ?_
 clear hK K
 refine aOps_call (hKi _) (by first | rfl | simp) rfl rfl (by first | (simp;done) | rfl) ?_
 simp
 refine hK _ _ ?_
 clear hK K
 repeat with_reducible refine awp_assoc ?_
 refine awp_sr fun K hK=>?_
 simp
 refine hK _ _ ?_
 clear hK K
 repeat with_reducible refine awp_assoc ?_
 refine awp_seq_k fun K hK=>?_
 refine awp_condF rfl (by simp) ?_
 refine awp_skip ?_
 refine hK _ _ ?_
 clear hK K
 repeat with_reducible refine awp_assoc ?_
 refine awp_sr fun K hK=>?_
 simp [hs1,hs2]
 refine hK _ _ ?_
 clear hK K
 repeat with_reducible refine awp_assoc ?_
 refine awp_seq_k fun K hK=>?_
 refine awp_condF rfl (by simp) ?_
 refine awp_skip ?_
 refine hK _ _ ?_
 clear hK K
 repeat with_reducible refine awp_assoc ?_
 refine awp_sr fun K hK=>?_
 refine aOps_split 2 fun K hK=>?_
 simp
 refine hK _ _ ?_
 clear hK K
 refine aOps_call (hV _) (by first | rfl | simp) rfl rfl (by first | (simp;done) | rfl) ?_
 simp
 refine hK _ _ ?_
 clear hK K
 repeat with_reducible refine awp_assoc ?_
 refine awp_sr fun K hK=>?_
 simp
 refine hK _ _ ?_
 clear hK K
 repeat with_reducible refine awp_assoc ?_
 refine awp_seq_k fun K hK=>?_
 refine awp_condF rfl (by simp) ?_
 refine awp_skip ?_
 refine hK _ _ ?_
 clear hK K
 have hcc:ACalls Tryz.prog 64 [.ref (nid H.next 3) 0,.agg [strV tn,.slice (tl.map Ty.cells) none],intV s] (HL H [.cells [.slice (d.datas.map Dat.cells) none,.slice (d.classes.map ClsD.cells) none,.slice (d.insts.map InstD.cells) none],.cells [strV tn,.slice (tl.map Ty.cells) none],.amap [] 0,.cells [.slice (d.datas.map Dat.cells) none,.slice (d.classes.map ClsD.cells) none,.slice (d.insts.map InstD.cells) none,.map (nid H.next 2)]])
   (intV r.1) (HL H [.cells [.slice (d.datas.map Dat.cells) none,.slice (d.classes.map ClsD.cells) none,.slice (d.insts.map InstD.cells) none],.cells [strV tn,.slice (tl.map Ty.cells) none],.amap (cmEs r.2) r.2.length,.cells [.slice (d.datas.map Dat.cells) none,.slice (d.classes.map ClsD.cells) none,.slice (d.insts.map InstD.cells) none,.map (nid H.next 2)]]):=by
  have:=hC (HL H [.cells [.slice (d.datas.map Dat.cells) none,.slice (d.classes.map ClsD.cells) none,.slice (d.insts.map InstD.cells) none],.cells [strV tn,.slice (tl.map Ty.cells) none],.amap [] 0,.cells [.slice (d.datas.map Dat.cells) none,.slice (d.classes.map ClsD.cells) none,.slice (d.insts.map InstD.cells) none,.map (nid H.next 2)]]) (nid H.next 3) (nid H.next 2) (by unfold nid;omega) (by simp) (by simp [cmEs])
  simpa [cH] using this
 repeat with_reducible refine awp_assoc ?_
 refine awp_sr fun K hK=>?_
 refine aOps_split 6 fun K hK=>?_
 simp
 refine hK _ _ ?_
 clear hK K
 refine aOps_call (hcc) (by first | rfl | simp) rfl rfl (by first | (simp;done) | rfl) ?_
 simp
 refine hK _ _ ?_
 clear hK K
 repeat with_reducible refine awp_assoc ?_
 refine awp_sr fun K hK=>?_
 simp [hle']
 refine hK _ _ ?_
 clear hK K
 repeat with_reducible refine awp_assoc ?_
 refine awp_seq_k fun K hK=>?_
 refine awp_condF rfl (by simp) ?_
 refine awp_skip ?_
 refine hK _ _ ?_
 clear hK K
 repeat with_reducible refine awp_assoc ?_
 refine awp_sr fun K hK=>?_
 simp
 refine hK _ _ ?_
 clear hK K
 simp [reset_all hcl]
def d0:DeclsD:=⟨[],[],[]⟩
def t0:Ty:=.mk listN [.mk boolN []]
theorem known_raw:RawD d0:=by constructor <;> simp [d0]
theorem known_valid:validD d0=0:=by
 rw [validD_eq,if_neg (show ¬ largeB d0=true by decide +kernel),if_neg (show ¬ argsB d0=false by decide +kernel),if_neg (show ¬ allV (writtenD d0)≠0 by decide +kernel),if_neg (show ¬ twiceB d0=true by decide +kernel),if_neg (show ¬ noneB d0=true by decide +kernel),if_neg (show ¬ fitB d0=true by decide +kernel),if_neg (show ¬ loopB d0=true by simp [loopB,d0]),if_neg (show ¬ ruleB d0=true by simp [ruleB,d0])]
theorem known_kinds:kindsD d0 t0=0:=by
 have h4:kindsV d0 4 t0=0:=by decide +kernel
 have h8:kindsV d0 8 t0=0:=by decide +kernel
 unfold kindsD
 rw [if_pos known_valid,if_pos (show t0.valid=0 by decide +kernel),if_pos h4,h8]
theorem named_in (d:DeclsD) (n:ByteArray):(namedD d n).1∈allD d∨(namedD d n).1=⟨intN,[],[]⟩∨(namedD d n).1=zeroDat:=by
 unfold namedD
 split
 ·exact .inr (.inl rfl)
 ·cases h:(allD d).find? fun x=>decide (x.name=n) with
  | none=>exact .inr (.inr rfl)
  | some x=>exact .inl (List.mem_of_find?_eq_some h)
theorem cntD_of {d:DeclsD} (hr:RawD d) (h:validD d=0):CntD d:=by
 have hac:=all_copy hr h
 have key:∀ n,(namedD d n).1.vars.length < 1000000000000∧(namedD d n).1.cons.length < 1000000000000∧∀ c∈(namedD d n).1.cons,c.args.length < 1000000000000∧∀ t∈c.args,t.cnt < 1000000000000:=fun n=>by
  rcases named_in d n with h1 | h1 | h1
  ·exact hac _ h1
  ·rw [h1];simp
  ·rw [h1];simp [zeroDat]
 exact ⟨by have:=(largeB_le (valid0 h).lg).1;omega,fun n=>(key n).2.1,fun n=>by have:=(key n).1;omega,fun n=>(key n).2.2⟩
theorem known_valued:valF d0 20 t0.nodes []=some false:=by
 decide +kernel
theorem known_vars:valV false t0=0:=by
 decide +kernel
theorem known_count:(cntF d0 20 t0 5 []).map (·.1)=some 4:=by
 decide +kernel
theorem known_c (H:AHeap):ACalls Tryz.prog 7 [] H (boolV true) H:=by
 obtain ⟨r,hr,hr1⟩:∃ r,cntF d0 20 t0 5 []=some r∧r.1=4:=by
  have:=known_count
  cases h:cntF d0 20 t0 5 [] with
  | none=>rw [h] at this;cases this
  | some r=>rw [h] at this;exact ⟨r,rfl,by simpa using this⟩
 have hc:=dCountOk_c d0 known_raw (cntD_of known_raw known_valid) t0 (by decide) 5 (by decide) known_kinds 20 false known_valued known_vars 20 r hr (by omega)
 rw [hr1] at hc
 simp only [d0,t0,enc_mk,DeclsD.enc,DeclsD.cells,List.map_nil,List.map_cons,Ty.cells,cellsL_eq] at hc
 refine acalls_walk (fun _=>.imm) [0,1,2] Tryz.mixed Tryz.func7 rfl rfl rfl (by decide) (fun hcl hlow=>?_)
 repeat with_reducible refine awp_assoc ?_
 refine awp_sr fun K hK=>?_
 simp
 refine hK _ _ ?_
 clear hK K
 repeat with_reducible refine awp_assoc ?_
 refine awp_sr fun K hK=>?_
 refine aOps_split 4 fun K hK=>?_
 simp
 refine hK _ _ ?_
 clear hK K
 refine aOps_callW (hc _) (by first | rfl | simp) rfl rfl ⟨Wk.agg ⟨Wk.nilSlice,Wk.nilSlice,Wk.nilSlice,trivial⟩,Wk.agg ⟨.refl _,Wk.slice ⟨⟨.refl _,Wk.nilSlice,trivial⟩,trivial⟩,trivial⟩,.refl _,trivial⟩ ?_
 simp
 refine hK _ _ ?_
 clear hK K
 repeat with_reducible refine awp_assoc ?_
 refine awp_sr fun K hK=>?_
 simp
 refine hK _ _ ?_
 clear hK K
 simp [reset_all hcl]
end Go.Proofs.YtlhoigpidpokfaaGreat
