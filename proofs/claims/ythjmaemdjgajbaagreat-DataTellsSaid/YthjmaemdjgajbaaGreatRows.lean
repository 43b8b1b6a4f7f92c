/-
  NARROWER THAN 'FOR EVERY INPUT', by the rows' own cells (each row's printed sentence says how): DataTells: loops · DataValues: loops.
  DERIVED. THE GIVEN ROWS OF THIS SEAT. 2 by the template 'for every input the law returns true; each argument reads behind the call as it read before'; 0 by the template 'total and deterministic' (their statements: YthjmaemdjgajbaaGreatTotals.lean).
  GIVEN WITH THE SEED: the statements are not yours to turn. If you find one false, say at which input.
  Laid BY PROGRAM, IN A SANDBOX (cutbox-rows.mjs): the forced cells as the released guide's own fill.sh prints them over the translation 1c854ad38ae547d7… (all of the seat's roots in one cut). By AI agents, Wed Nov 11 2026. No macro, syntax, notation, axiom, sorry.
-/
import Derived.Test.YthjmaemdjgajbaaGreatChecked
import GoSem.Claim
import GoSem.ClaimJoined
import GoSem.ClaimMapViews
import Derived.JoinedTies
import Derived.KernelRfl
namespace Go.Proofs.YthjmaemdjgajbaaGreat
/- THE CELL 'sum', in the pinned program and in every row, IS THE sha256 OF THE DUMP (.gsa) THAT YthjmaemdjgajbaaGreatProg.lean LOADS. Nothing in Lean hashes anything: it is a label: what it is worth is what the hold of that sum in a sandbox is worth. -/
noncomputable def Tryz.pinned : Pinned := { name := "ythjmaemdjgajbaagreat", sum := "1c854ad38ae547d76696675382641817f2e308a1d383b81e5be0153a1ac15024", checked := Tryz.checked }
namespace Rows
def none {H : Type} : Left H := { results := [], args := [] }

/-- 'searchlightlaw02.DataTells': WHATEVER THE INPUT: true; the input reads as it did. -/
def dataTellsSpec : ChangeSpec := { name := "dataTells", fn := fun _ => fun
  | [d1, d2, d3] => { results := [.lit (.bool true)], args := [d1, d2, d3] }
  | _ => none }
def dataTellsRow : OpenClaim := { program := "ythjmaemdjgajbaagreat", sum := "1c854ad38ae547d76696675382641817f2e308a1d383b81e5be0153a1ac15024", func := "searchlight/searchlightlaw02.DataTells", spec := "dataTells", unfollowed := true, recurses := true, loops := true, apart := false }
def DataTellsSaid : Prop := dataTellsRow.holds Tryz.pinned (OpenSpec.ofChange dataTellsSpec)

/-- ITS FALSE NEIGHBOUR: 'it returns false'. Refute it at one input. -/
def dataTellsWrong : ChangeSpec := { name := "dataTells", fn := fun _ => fun
  | [d1, d2, d3] => { results := [.lit (.bool false)], args := [d1, d2, d3] }
  | _ => none }
def DataTellsWrongFalsely : Prop := dataTellsRow.holds Tryz.pinned (OpenSpec.ofChange dataTellsWrong)

/-- 'searchlightlaw02.DataValues': WHATEVER THE INPUT: true; the input reads as it did. -/
def dataValuesSpec : ChangeSpec := { name := "dataValues", fn := fun _ => fun
  | [d1, d2, d3] => { results := [.lit (.bool true)], args := [d1, d2, d3] }
  | _ => none }
def dataValuesRow : OpenClaim := { program := "ythjmaemdjgajbaagreat", sum := "1c854ad38ae547d76696675382641817f2e308a1d383b81e5be0153a1ac15024", func := "searchlight/searchlightlaw02.DataValues", spec := "dataValues", unfollowed := true, recurses := true, loops := true, apart := false }
def DataValuesSaid : Prop := dataValuesRow.holds Tryz.pinned (OpenSpec.ofChange dataValuesSpec)

/-- ITS FALSE NEIGHBOUR: 'it returns false'. Refute it at one input. -/
def dataValuesWrong : ChangeSpec := { name := "dataValues", fn := fun _ => fun
  | [d1, d2, d3] => { results := [.lit (.bool false)], args := [d1, d2, d3] }
  | _ => none }
def DataValuesWrongFalsely : Prop := dataValuesRow.holds Tryz.pinned (OpenSpec.ofChange dataValuesWrong)

/- THE SECOND FORM. 'bulk': how many values and letters a reading holds, each counted each time it is reached (what is shared counts as often as it is met; a slice's spare places count too). A statement '..UptoSaid' is the law's where the arguments, and the package variables that the reading takes, are together of bulk at most 1048576: NARROWER than '..Said'. Prove '..Said' where nothing that the law and all that it calls make is longer than what came in: it says more and counts as full. Else prove '..UptoSaid'. A law counts once. -/
mutual
def uptoBulk {H : Type} : DataW H → Nat
  | .lit (.string bytes) => bytes.length + 1
  | .lit _ => 1
  | .nil => 1
  | .ptr d => uptoBulk d + 1
  | .slice elems spare => uptoBulkAll elems + uptoBulkAll spare + 1
  | .agg parts => uptoBulkAll parts + 1
  | .iface _ d => uptoBulk d + 1
  | .map entries => uptoBulkEntries entries + 1
  | .held _ => 1
def uptoBulkAll {H : Type} : List (DataW H) → Nat
  | [] => 0
  | d :: r => uptoBulk d + uptoBulkAll r
def uptoBulkEntries {H : Type} : List (Lit × DataW H) → Nat
  | [] => 0
  | x :: r => uptoBulkEntry x + uptoBulkEntries r
def uptoBulkEntry {H : Type} : Lit × DataW H → Nat
  | (.string bytes, d) => bytes.length + uptoBulk d + 1
  | (_, d) => uptoBulk d + 1
 end
def uptoSmall : (H : Type) → List (DataW H) → Bool := fun _ ds => decide (uptoBulkAll ds ≤ 1048576)
def OpenSpec.upto (s : _root_.Go.ChangeSpec) : _root_.Go.OpenSpec := { _root_.Go.OpenSpec.ofChange s with cond := some uptoSmall }

/-- 'searchlightlaw02.DataTells', WHERE WHAT IT READS IS OF BULK AT MOST 1048576: true; the input reads as it did. -/
def dataTellsUptoRow : OpenClaim := { program := "ythjmaemdjgajbaagreat", sum := "1c854ad38ae547d76696675382641817f2e308a1d383b81e5be0153a1ac15024", func := "searchlight/searchlightlaw02.DataTells", spec := "dataTells", unfollowed := true, recurses := true, loops := true, apart := false, narrowed := true }
def DataTellsUptoSaid : Prop := dataTellsUptoRow.holds Tryz.pinned (OpenSpec.upto dataTellsSpec)

/-- 'searchlightlaw02.DataValues', WHERE WHAT IT READS IS OF BULK AT MOST 1048576: true; the input reads as it did. -/
def dataValuesUptoRow : OpenClaim := { program := "ythjmaemdjgajbaagreat", sum := "1c854ad38ae547d76696675382641817f2e308a1d383b81e5be0153a1ac15024", func := "searchlight/searchlightlaw02.DataValues", spec := "dataValues", unfollowed := true, recurses := true, loops := true, apart := false, narrowed := true }
def DataValuesUptoSaid : Prop := dataValuesUptoRow.holds Tryz.pinned (OpenSpec.upto dataValuesSpec)

end Rows
end Go.Proofs.YthjmaemdjgajbaaGreat
