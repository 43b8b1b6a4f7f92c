/- The law: the same data types. -/
import Derived.Test.YtlhoigpidpokfaaGreatMD9
import Derived.Test.YtlhoigpidpokfaaGreatME
set_option linter.unusedVariables false
set_option linter.unusedSimpArgs false
namespace Go.Proofs.YtlhoigpidpokfaaGreat
open Go Go.Abs Go.Proofs
set_option maxRecDepth 20000
attribute [local simp] aOps wantedA aStep aop aLoad aStore aBin aUn aFieldAddr aField aIndexAddr aIndex aLen aBuild aFill aAlloc aAppend aAppendOwn aMin aMax aBuildSlice litRows newRows isMut isOwn isNilS nilsW bytesR tokW tokAV tokL ret readC splice aeval isLit isLate isCut aCut AV.celled AV.one AV.ofValue Value.oneCell' Value.cells intOp strOp get_nid upd_nid awp aEnd aResults aResult Det unord isCall isNext
attribute [local simp] low_take low_strs low_comp low_tcomp wkEs_refl' WkBs WkEnv WkB WkL WkE WkO ABlock.low lowO lowL lowR AV.low cellsL_eq Ty.low low_map Ty.cells_length Ty.cells_one
attribute [local simp] ConD.cells Dat.cells PredD.cells SigD.cells ClsD.cells InstD.cells DeclsD.cells DeclsD.enc Dat.enc low_datL low_conL low_predL low_sigL low_clsL low_instL
end Go.Proofs.YtlhoigpidpokfaaGreat
