/- The reference's bytes and names. -/
import Derived.Test.YtdppfcbeiplckaaGreatMW1
set_option linter.unusedVariables false
set_option linter.unusedSimpArgs false
namespace Go.Proofs.YtdppfcbeiplckaaGreat
open Go Go.Abs Go.Proofs
set_option maxRecDepth 20000
attribute [local simp] aOps wantedA aStep aop aLoad aStore aBin aUn aFieldAddr aField aIndexAddr aIndex aLen aBuild aFill aAlloc aAppend aAppendOwn aMin aMax aBuildSlice litRows newRows isMut isOwn isNilS nilsW bytesR tokW tokAV tokL ret readC splice aeval isLit isLate isCut aCut AV.celled AV.one AV.ofValue Value.oneCell' Value.cells intOp strOp get_nid upd_nid awp aEnd aResults aResult Det unord isCall isNext
attribute [local simp] low_take low_strs low_comp low_tcomp wkEs_refl' WkBs WkEnv WkB WkL WkE WkO ABlock.low lowO lowL lowR AV.low cellsL_eq Ty.low low_map Ty.cells_length Ty.cells_one
def tlB (s:ByteArray):Bool:=decide (s.size≤16) && s.data.toList.tail.all tailB
def wordB (s:ByteArray):Bool:=wordsB.any fun w=>decide (w=s)
theorem small_tail {c:UInt8} (h:smallB c=true):tailB c=true:=by simp [tailB,letterB,h]
theorem great_tail {c:UInt8} (h:greatB c=true):tailB c=true:=by simp [tailB,letterB,h]
theorem run_tl {s:ByteArray} {p:UInt8→Bool} (hp:∀ c,p c=true→tailB c=true):(runB s && headP p s)=(headP p s && tlB s):=by
 unfold runB headP tlB
 have hs:=ba_size s
 cases hl:s.data.toList with
 | nil=>simp
 | cons c l =>
  rw [hl] at hs
  simp only [List.length_cons] at hs
  have h1:1≤s.size:=by omega
  simp only [h1,List.getElem?_cons_zero,List.all_cons,List.tail_cons,decide_true,Bool.true_and]
  cases hc:p c
  ·simp
  ·simp [hp c hc]
theorem small_tl (s:ByteArray):smallN s=(headP smallB s && tlB s && !wordB s):=by
 unfold smallN wordB;rw [run_tl fun _=>small_tail]
theorem great_tl (s:ByteArray):greatN s=(headP greatB s && tlB s):=by
 unfold greatN;rw [run_tl fun _=>great_tail]
end Go.Proofs.YtdppfcbeiplckaaGreat
