/-
  NARROWER THAN 'FOR EVERY INPUT', by the rows' own cells (each row's printed sentence says how): MatchTakes: loops · MatchTrees: loops · MatchLeads: loops.
  DERIVED. THE GIVEN ROWS OF THIS SEAT. 3 by the template 'for every input the law returns true; each argument reads behind the call as it read before'; 0 by the template 'total and deterministic' (their statements: YtdppfcbeiplckaaGreatTotals.lean).
  GIVEN WITH THE SEED: the statements are not yours to turn. If you find one false, say at which input.
  Laid BY PROGRAM, IN A SANDBOX (cutbox-rows.mjs): the forced cells as the released guide's own fill.sh prints them over the translation cc47555c337e3fed… (all of the seat's roots in one cut). By AI agents, Wed Nov 11 2026. No macro, syntax, notation, axiom, sorry.
-/
import Derived.Test.YtdppfcbeiplckaaGreatChecked
import GoSem.Claim
import GoSem.ClaimJoined
import GoSem.ClaimMapViews
import Derived.JoinedTies
import Derived.KernelRfl
namespace Go.Proofs.YtdppfcbeiplckaaGreat
/- THE CELL 'sum', in the pinned program and in every row, IS THE sha256 OF THE DUMP (.gsa) THAT YtdppfcbeiplckaaGreatProg.lean LOADS. Nothing in Lean hashes anything: it is a label: what it is worth is what the hold of that sum in a sandbox is worth. -/
noncomputable def Tryz.pinned : Pinned := { name := "ytdppfcbeiplckaagreat", sum := "cc47555c337e3fedff6b543292bf3a90f3394b549c7d3860079652cd4d03ccc6", checked := Tryz.checked }
namespace Rows
def none {H : Type} : Left H := { results := [], args := [] }

/-- 'searchlightlaw06.MatchTakes': WHATEVER THE INPUT: true; the input reads as it did. -/
def matchTakesSpec : ChangeSpec := { name := "matchTakes", fn := fun _ => fun
  | [d1, d2] => { results := [.lit (.bool true)], args := [d1, d2] }
  | _ => none }
def matchTakesRow : OpenClaim := { program := "ytdppfcbeiplckaagreat", sum := "cc47555c337e3fedff6b543292bf3a90f3394b549c7d3860079652cd4d03ccc6", func := "searchlight/searchlightlaw06.MatchTakes", spec := "matchTakes", unfollowed := true, recurses := true, loops := true, plainKeys := false, apart := false }
def MatchTakesSaid : Prop := matchTakesRow.holds Tryz.pinned (OpenSpec.ofChange matchTakesSpec)

/-- ITS FALSE NEIGHBOUR: 'it returns false'. Refute it at one input. -/
def matchTakesWrong : ChangeSpec := { name := "matchTakes", fn := fun _ => fun
  | [d1, d2] => { results := [.lit (.bool false)], args := [d1, d2] }
  | _ => none }
def MatchTakesWrongFalsely : Prop := matchTakesRow.holds Tryz.pinned (OpenSpec.ofChange matchTakesWrong)

/-- 'searchlightlaw06.MatchTrees': WHATEVER THE INPUT: true; the input reads as it did. -/
def matchTreesSpec : ChangeSpec := { name := "matchTrees", fn := fun _ => fun
  | [d1, d2, d3] => { results := [.lit (.bool true)], args := [d1, d2, d3] }
  | _ => none }
def matchTreesRow : OpenClaim := { program := "ytdppfcbeiplckaagreat", sum := "cc47555c337e3fedff6b543292bf3a90f3394b549c7d3860079652cd4d03ccc6", func := "searchlight/searchlightlaw06.MatchTrees", spec := "matchTrees", unfollowed := true, recurses := true, loops := true, plainKeys := false, apart := false }
def MatchTreesSaid : Prop := matchTreesRow.holds Tryz.pinned (OpenSpec.ofChange matchTreesSpec)

/-- ITS FALSE NEIGHBOUR: 'it returns false'. Refute it at one input. -/
def matchTreesWrong : ChangeSpec := { name := "matchTrees", fn := fun _ => fun
  | [d1, d2, d3] => { results := [.lit (.bool false)], args := [d1, d2, d3] }
  | _ => none }
def MatchTreesWrongFalsely : Prop := matchTreesRow.holds Tryz.pinned (OpenSpec.ofChange matchTreesWrong)

/-- 'searchlightlaw06.MatchLeads': WHATEVER THE INPUT: true; the input reads as it did. -/
def matchLeadsSpec : ChangeSpec := { name := "matchLeads", fn := fun _ => fun
  | [d1, d2, d3] => { results := [.lit (.bool true)], args := [d1, d2, d3] }
  | _ => none }
def matchLeadsRow : OpenClaim := { program := "ytdppfcbeiplckaagreat", sum := "cc47555c337e3fedff6b543292bf3a90f3394b549c7d3860079652cd4d03ccc6", func := "searchlight/searchlightlaw06.MatchLeads", spec := "matchLeads", unfollowed := true, recurses := true, loops := true, plainKeys := false, apart := false }
def MatchLeadsSaid : Prop := matchLeadsRow.holds Tryz.pinned (OpenSpec.ofChange matchLeadsSpec)

/-- ITS FALSE NEIGHBOUR: 'it returns false'. Refute it at one input. -/
def matchLeadsWrong : ChangeSpec := { name := "matchLeads", fn := fun _ => fun
  | [d1, d2, d3] => { results := [.lit (.bool false)], args := [d1, d2, d3] }
  | _ => none }
def MatchLeadsWrongFalsely : Prop := matchLeadsRow.holds Tryz.pinned (OpenSpec.ofChange matchLeadsWrong)

/- THE SECOND FORM. 'bulk': how many values and letters a reading holds, each counted each time it is reached (what is shared counts as often as it is met; a slice's spare places count too). A statement '..UptoSaid' is the law's where the arguments, and the package variables that the reading takes, are together of bulk at most 1048576: NARROWER than '..Said'. Prove '..Said' where nothing that the law and all that it calls make is longer than what came in: it says more and counts as full. Else prove '..UptoSaid'. A law counts once. -/
mutual
def uptoBulk {H : Type} : DataW H → Nat
  | .lit (.string bytes) => bytes.length + 1
  | .lit _ => 1
  | .nil => 1
  | .ptr d => uptoBulk d + 1
  | .slice elems spare => uptoBulkAll elems + uptoBulkAll spare + 1
  | .agg parts => uptoBulkAll parts + 1
  | .iface _ d => uptoBulk d + 1
  | .map entries => uptoBulkEntries entries + 1
  | .held _ => 1
def uptoBulkAll {H : Type} : List (DataW H) → Nat
  | [] => 0
  | d :: r => uptoBulk d + uptoBulkAll r
def uptoBulkEntries {H : Type} : List (Lit × DataW H) → Nat
  | [] => 0
  | x :: r => uptoBulkEntry x + uptoBulkEntries r
def uptoBulkEntry {H : Type} : Lit × DataW H → Nat
  | (.string bytes, d) => bytes.length + uptoBulk d + 1
  | (_, d) => uptoBulk d + 1
 end
def uptoSmall : (H : Type) → List (DataW H) → Bool := fun _ ds => decide (uptoBulkAll ds ≤ 1048576)
def OpenSpec.upto (s : _root_.Go.ChangeSpec) : _root_.Go.OpenSpec := { _root_.Go.OpenSpec.ofChange s with cond := some uptoSmall }

/-- 'searchlightlaw06.MatchTakes', WHERE WHAT IT READS IS OF BULK AT MOST 1048576: true; the input reads as it did. -/
def matchTakesUptoRow : OpenClaim := { program := "ytdppfcbeiplckaagreat", sum := "cc47555c337e3fedff6b543292bf3a90f3394b549c7d3860079652cd4d03ccc6", func := "searchlight/searchlightlaw06.MatchTakes", spec := "matchTakes", unfollowed := true, recurses := true, loops := true, plainKeys := false, apart := false, narrowed := true }
def MatchTakesUptoSaid : Prop := matchTakesUptoRow.holds Tryz.pinned (OpenSpec.upto matchTakesSpec)

/-- 'searchlightlaw06.MatchTrees', WHERE WHAT IT READS IS OF BULK AT MOST 1048576: true; the input reads as it did. -/
def matchTreesUptoRow : OpenClaim := { program := "ytdppfcbeiplckaagreat", sum := "cc47555c337e3fedff6b543292bf3a90f3394b549c7d3860079652cd4d03ccc6", func := "searchlight/searchlightlaw06.MatchTrees", spec := "matchTrees", unfollowed := true, recurses := true, loops := true, plainKeys := false, apart := false, narrowed := true }
def MatchTreesUptoSaid : Prop := matchTreesUptoRow.holds Tryz.pinned (OpenSpec.upto matchTreesSpec)

/-- 'searchlightlaw06.MatchLeads', WHERE WHAT IT READS IS OF BULK AT MOST 1048576: true; the input reads as it did. -/
def matchLeadsUptoRow : OpenClaim := { program := "ytdppfcbeiplckaagreat", sum := "cc47555c337e3fedff6b543292bf3a90f3394b549c7d3860079652cd4d03ccc6", func := "searchlight/searchlightlaw06.MatchLeads", spec := "matchLeads", unfollowed := true, recurses := true, loops := true, plainKeys := false, apart := false, narrowed := true }
def MatchLeadsUptoSaid : Prop := matchLeadsUptoRow.holds Tryz.pinned (OpenSpec.upto matchLeadsSpec)

end Rows
end Go.Proofs.YtdppfcbeiplckaaGreat
