/-
  NARROWER THAN 'FOR EVERY INPUT', by the rows' own cells (each row's printed sentence says how): TypesUnited: loops · TypesGeneral: loops.
  DERIVED. THE GIVEN ROWS OF THIS SEAT. 2 by the template 'for every input the law returns true; each argument reads behind the call as it read before'; 0 by the template 'total and deterministic' (their statements: YtgeehnbbhnpimaaTotals.lean).
  GIVEN WITH THE SEED: the statements are not yours to turn. If you find one false, say at which input.
  Laid BY PROGRAM, IN A SANDBOX (cutbox-rows.mjs): the forced cells as the released guide's own fill.sh prints them over the translation 6b5797b9d7395d2d… (all of the seat's roots in one cut). By AI agents, Wed Nov 11 2026. No macro, syntax, notation, axiom, sorry.
-/
import Derived.Test.YtgeehnbbhnpimaaChecked
import GoSem.Claim
import GoSem.ClaimJoined
import GoSem.ClaimMapViews
import Derived.JoinedTies
import Derived.KernelRfl
namespace Go.Proofs.Ytgeehnbbhnpimaa
/- THE CELL 'sum', in the pinned program and in every row, IS THE sha256 OF THE DUMP (.gsa) THAT YtgeehnbbhnpimaaProg.lean LOADS. Nothing in Lean hashes anything: it is a label: what it is worth is what the hold of that sum in a sandbox is worth. -/
noncomputable def Try.pinned : Pinned := { name := "ytgeehnbbhnpimaa", sum := "6b5797b9d7395d2d112c2db9582c8e89eb43ed87401b938e94089fefbbeaa122", checked := Try.checked }
namespace Rows
def none {H : Type} : Left H := { results := [], args := [] }

/-- 'searchlightlaw01.TypesUnited': WHATEVER THE INPUT: true; the input reads as it did. -/
def typesUnitedSpec : ChangeSpec := { name := "typesUnited", fn := fun _ => fun
  | [d1, d2, d3] => { results := [.lit (.bool true)], args := [d1, d2, d3] }
  | _ => none }
def typesUnitedRow : OpenClaim := { program := "ytgeehnbbhnpimaa", sum := "6b5797b9d7395d2d112c2db9582c8e89eb43ed87401b938e94089fefbbeaa122", func := "searchlight/searchlightlaw01.TypesUnited", spec := "typesUnited", unfollowed := true, recurses := true, loops := true, apart := false }
def TypesUnitedSaid : Prop := typesUnitedRow.holds Try.pinned (OpenSpec.ofChange typesUnitedSpec)

/-- ITS FALSE NEIGHBOUR: 'it returns false'. Refute it at one input. -/
def typesUnitedWrong : ChangeSpec := { name := "typesUnited", fn := fun _ => fun
  | [d1, d2, d3] => { results := [.lit (.bool false)], args := [d1, d2, d3] }
  | _ => none }
def TypesUnitedWrongFalsely : Prop := typesUnitedRow.holds Try.pinned (OpenSpec.ofChange typesUnitedWrong)

/-- 'searchlightlaw01.TypesGeneral': WHATEVER THE INPUT: true; the input reads as it did. -/
def typesGeneralSpec : ChangeSpec := { name := "typesGeneral", fn := fun _ => fun
  | [d1, d2, d3] => { results := [.lit (.bool true)], args := [d1, d2, d3] }
  | _ => none }
def typesGeneralRow : OpenClaim := { program := "ytgeehnbbhnpimaa", sum := "6b5797b9d7395d2d112c2db9582c8e89eb43ed87401b938e94089fefbbeaa122", func := "searchlight/searchlightlaw01.TypesGeneral", spec := "typesGeneral", unfollowed := true, recurses := true, loops := true, apart := false }
def TypesGeneralSaid : Prop := typesGeneralRow.holds Try.pinned (OpenSpec.ofChange typesGeneralSpec)

/-- ITS FALSE NEIGHBOUR: 'it returns false'. Refute it at one input. -/
def typesGeneralWrong : ChangeSpec := { name := "typesGeneral", fn := fun _ => fun
  | [d1, d2, d3] => { results := [.lit (.bool false)], args := [d1, d2, d3] }
  | _ => none }
def TypesGeneralWrongFalsely : Prop := typesGeneralRow.holds Try.pinned (OpenSpec.ofChange typesGeneralWrong)

/- THE SECOND FORM. 'bulk': how many values and letters a reading holds, each counted each time it is reached (what is shared counts as often as it is met; a slice's spare places count too). A statement '..UptoSaid' is the law's where the arguments, and the package variables that the reading takes, are together of bulk at most 1048576: NARROWER than '..Said'. Prove '..Said' where nothing that the law and all that it calls make is longer than what came in: it says more and counts as full. Else prove '..UptoSaid'. A law counts once. -/
mutual
def uptoBulk {H : Type} : DataW H → Nat
  | .lit (.string bytes) => bytes.length + 1
  | .lit _ => 1
  | .nil => 1
  | .ptr d => uptoBulk d + 1
  | .slice elems spare => uptoBulkAll elems + uptoBulkAll spare + 1
  | .agg parts => uptoBulkAll parts + 1
  | .iface _ d => uptoBulk d + 1
  | .map entries => uptoBulkEntries entries + 1
  | .held _ => 1
def uptoBulkAll {H : Type} : List (DataW H) → Nat
  | [] => 0
  | d :: r => uptoBulk d + uptoBulkAll r
def uptoBulkEntries {H : Type} : List (Lit × DataW H) → Nat
  | [] => 0
  | x :: r => uptoBulkEntry x + uptoBulkEntries r
def uptoBulkEntry {H : Type} : Lit × DataW H → Nat
  | (.string bytes, d) => bytes.length + uptoBulk d + 1
  | (_, d) => uptoBulk d + 1
 end
def uptoSmall : (H : Type) → List (DataW H) → Bool := fun _ ds => decide (uptoBulkAll ds ≤ 1048576)
def OpenSpec.upto (s : _root_.Go.ChangeSpec) : _root_.Go.OpenSpec := { _root_.Go.OpenSpec.ofChange s with cond := some uptoSmall }

/-- 'searchlightlaw01.TypesUnited', WHERE WHAT IT READS IS OF BULK AT MOST 1048576: true; the input reads as it did. -/
def typesUnitedUptoRow : OpenClaim := { program := "ytgeehnbbhnpimaa", sum := "6b5797b9d7395d2d112c2db9582c8e89eb43ed87401b938e94089fefbbeaa122", func := "searchlight/searchlightlaw01.TypesUnited", spec := "typesUnited", unfollowed := true, recurses := true, loops := true, apart := false, narrowed := true }
def TypesUnitedUptoSaid : Prop := typesUnitedUptoRow.holds Try.pinned (OpenSpec.upto typesUnitedSpec)

/-- 'searchlightlaw01.TypesGeneral', WHERE WHAT IT READS IS OF BULK AT MOST 1048576: true; the input reads as it did. -/
def typesGeneralUptoRow : OpenClaim := { program := "ytgeehnbbhnpimaa", sum := "6b5797b9d7395d2d112c2db9582c8e89eb43ed87401b938e94089fefbbeaa122", func := "searchlight/searchlightlaw01.TypesGeneral", spec := "typesGeneral", unfollowed := true, recurses := true, loops := true, apart := false, narrowed := true }
def TypesGeneralUptoSaid : Prop := typesGeneralUptoRow.holds Try.pinned (OpenSpec.upto typesGeneralSpec)

end Rows
end Go.Proofs.Ytgeehnbbhnpimaa
