/- FindCon of the reference; Clone, copied of the program. -/
import Derived.Test.YtlhoigpidpokfaaGreatMD9
import Derived.Test.YtlhoigpidpokfaaGreatME4
import Derived.Test.YtlhoigpidpokfaaGreatMD6
import Derived.Test.YtlhoigpidpokfaaGreatME6
set_option linter.unusedVariables false
set_option linter.unusedSimpArgs false
namespace Go.Proofs.YtlhoigpidpokfaaGreat
open Go Go.Abs Go.Proofs
set_option maxRecDepth 20000
attribute [local simp] aOps wantedA aStep aop aLoad aStore aBin aUn aFieldAddr aField aIndexAddr aIndex aLen aBuild aFill aAlloc aAppend aAppendOwn aMin aMax aBuildSlice litRows newRows isMut isOwn isNilS nilsW bytesR tokW tokAV tokL ret readC splice aeval isLit isLate isCut aCut AV.celled AV.one AV.ofValue Value.oneCell' Value.cells intOp strOp get_nid upd_nid awp aEnd aResults aResult Det unord isCall isNext
attribute [local simp] low_take low_strs low_comp low_tcomp wkEs_refl' WkBs WkEnv WkB WkL WkE WkO ABlock.low lowO lowL lowR AV.low cellsL_eq Ty.low low_map Ty.cells_length Ty.cells_one
attribute [local simp] ConD.cells Dat.cells PredD.cells SigD.cells ClsD.cells InstD.cells DeclsD.cells DeclsD.enc Dat.enc low_datL low_conL low_predL low_sigL low_clsL low_instL
theorem allD_bounds {d:DeclsD} (hr:RawD d):(∀ x∈allD d,x.cons.length < 4611686018427387904)∧(∀ x∈allD d,x.vars.length < 4611686018427387904):=by
 have hb:(∀ x∈baseD,x.cons.length < 4611686018427387904)∧(∀ x∈baseD,x.vars.length < 4611686018427387904):=by
  constructor <;> (intro x hx;simp only [baseD,List.mem_cons,List.not_mem_nil,or_false] at hx;rcases hx with rfl | rfl | rfl | rfl | rfl <;> decide)
 constructor
 ·intro x hx
  rcases List.mem_append.1 hx with h | h
  ·exact hb.1 x h
  ·exact hr.cons x h
 ·intro x hx
  rcases List.mem_append.1 hx with h | h
  ·exact hb.2 x h
  ·exact hr.vars x h
theorem allD_len {d:DeclsD} (h:largeB d=false):(allD d).length≤35:=by
 have hl:=largeB_le h
 unfold allD
 rw [List.length_append]
 have:baseD.length=5:=rfl
 omega
theorem all_copy {d:DeclsD} (hr:RawD d) (h:validD d=0):∀ x∈allD d,x.vars.length < 1000000000000∧x.cons.length < 1000000000000∧∀ c∈x.cons,c.args.length < 1000000000000∧∀ t∈c.args,t.cnt < 1000000000000:=by
 have h0:=valid0 h
 have hn:=named1 h0.ar
 have ham:=allD_mem h0.lg hn
 intro x hx
 have h1:=ham x hx
 refine ⟨by omega,by omega,fun c hc=>?_⟩
 rcases List.mem_append.1 hx with hb | hd
 ·have hbase:∀ x∈baseD,∀ c∈x.cons,c.args.length≤8∧∀ t∈c.args,t.cnt≤8:=by decide +kernel
  have:=hbase x hb c hc
  exact ⟨by omega,fun t ht=>by have:=this.2 t ht;omega⟩
 ·have h2:=hn.args x hd c hc
  exact ⟨by omega,fun t ht=>by have:=valid_cnt2 (allV_mem h0.tx t (written_con hd hc ht));omega⟩
theorem cls_neg {l:List ClsD} {n:ByteArray}:(clsV l n).2=!decide (classI l n < 0):=by
 unfold clsV classI
 cases h:l.findIdx? fun x=>decide (x.name=n) with
 | none=>rw [List.findIdx?_eq_none_iff] at h;rw [find_none h];simp [ixI]
 | some i =>
  obtain ⟨hl,h1,h2⟩:=List.findIdx?_eq_some_iff_getElem.1 h
  have hfd:l.find? (fun x=>decide (x.name=n))=some l[i]:=by
   rw [List.find?_eq_some_iff_getElem]
   exact ⟨h1,i,hl,rfl,fun j hj=>by simpa using h2 j hj⟩
  rw [hfd]
  simp [ixI]
  exact decide_eq_false (by omega)
end Go.Proofs.YtlhoigpidpokfaaGreat
