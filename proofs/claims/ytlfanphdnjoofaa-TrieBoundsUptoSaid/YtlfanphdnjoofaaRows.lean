/-
  NARROWER THAN 'FOR EVERY INPUT', by the rows' own cells (each row's printed sentence says how): TrieChanges: loops · TrieShape: loops · TrieBounds: loops · TrieOrder: loops · TrieRetired: loops · TrieSome: loops.
  DERIVED. THE GIVEN ROWS OF THIS SEAT. 7 by the template 'for every input the law returns true; each argument reads behind the call as it read before'; 0 by the template 'total and deterministic' (their statements: YtlfanphdnjoofaaTotals.lean).
  GIVEN WITH THE SEED: the statements are not yours to turn. If you find one false, say at which input.
  Laid BY PROGRAM, IN A SANDBOX (cutbox-rows.mjs): the forced cells as the released guide's own fill.sh prints them over the translation dd2a5d288390fe0f… (all of the seat's roots in one cut). By AI agents, Wed Nov 11 2026. No macro, syntax, notation, axiom, sorry.
-/
import Derived.Test.YtlfanphdnjoofaaChecked
import GoSem.Claim
import GoSem.ClaimJoined
import GoSem.ClaimMapViews
import Derived.JoinedTies
import Derived.KernelRfl
namespace Go.Proofs.Ytlfanphdnjoofaa
/- THE CELL 'sum', in the pinned program and in every row, IS THE sha256 OF THE DUMP (.gsa) THAT YtlfanphdnjoofaaProg.lean LOADS. Nothing in Lean hashes anything: it is a label: what it is worth is what the hold of that sum in a sandbox is worth. -/
noncomputable def Try.pinned : Pinned := { name := "ytlfanphdnjoofaa", sum := "dd2a5d288390fe0fc60bd919ba33ea2a53e06b9b2ba68f600a957c49af09564a", checked := Try.checked }
namespace Rows
def none {H : Type} : Left H := { results := [], args := [] }

/-- 'docketlaw13.TrieNames': WHATEVER THE INPUT: true; the input reads as it did. -/
def trieNamesSpec : ChangeSpec := { name := "trieNames", fn := fun _ => fun
  | [] => { results := [.lit (.bool true)], args := [] }
  | _ => none }
def trieNamesRow : OpenClaim := { program := "ytlfanphdnjoofaa", sum := "dd2a5d288390fe0fc60bd919ba33ea2a53e06b9b2ba68f600a957c49af09564a", func := "docket/docketlaw13.TrieNames", spec := "trieNames", inPlace := ["internal/bytealg.abigen_runtime_cmpstring"], unfollowed := true, recurses := true, apart := false }
def TrieNamesSaid : Prop := trieNamesRow.holds Try.pinned (OpenSpec.ofChange trieNamesSpec)

/-- ITS FALSE NEIGHBOUR: 'it returns false'. Refute it at one input. -/
def trieNamesWrong : ChangeSpec := { name := "trieNames", fn := fun _ => fun
  | [] => { results := [.lit (.bool false)], args := [] }
  | _ => none }
def TrieNamesWrongFalsely : Prop := trieNamesRow.holds Try.pinned (OpenSpec.ofChange trieNamesWrong)

/-- 'docketlaw13.TrieChanges': WHATEVER THE INPUT: true; the input reads as it did. -/
def trieChangesSpec : ChangeSpec := { name := "trieChanges", fn := fun _ => fun
  | [d] => { results := [.lit (.bool true)], args := [d] }
  | _ => none }
def trieChangesRow : OpenClaim := { program := "ytlfanphdnjoofaa", sum := "dd2a5d288390fe0fc60bd919ba33ea2a53e06b9b2ba68f600a957c49af09564a", func := "docket/docketlaw13.TrieChanges", spec := "trieChanges", inPlace := ["internal/bytealg.abigen_runtime_cmpstring"], unfollowed := true, recurses := true, loops := true, apart := false }
def TrieChangesSaid : Prop := trieChangesRow.holds Try.pinned (OpenSpec.ofChange trieChangesSpec)

/-- ITS FALSE NEIGHBOUR: 'it returns false'. Refute it at one input. -/
def trieChangesWrong : ChangeSpec := { name := "trieChanges", fn := fun _ => fun
  | [d] => { results := [.lit (.bool false)], args := [d] }
  | _ => none }
def TrieChangesWrongFalsely : Prop := trieChangesRow.holds Try.pinned (OpenSpec.ofChange trieChangesWrong)

/-- 'docketlaw13.TrieShape': WHATEVER THE INPUT: true; the input reads as it did. -/
def trieShapeSpec : ChangeSpec := { name := "trieShape", fn := fun _ => fun
  | [d] => { results := [.lit (.bool true)], args := [d] }
  | _ => none }
def trieShapeRow : OpenClaim := { program := "ytlfanphdnjoofaa", sum := "dd2a5d288390fe0fc60bd919ba33ea2a53e06b9b2ba68f600a957c49af09564a", func := "docket/docketlaw13.TrieShape", spec := "trieShape", inPlace := ["internal/bytealg.abigen_runtime_cmpstring"], unfollowed := true, recurses := true, loops := true, apart := false }
def TrieShapeSaid : Prop := trieShapeRow.holds Try.pinned (OpenSpec.ofChange trieShapeSpec)

/-- ITS FALSE NEIGHBOUR: 'it returns false'. Refute it at one input. -/
def trieShapeWrong : ChangeSpec := { name := "trieShape", fn := fun _ => fun
  | [d] => { results := [.lit (.bool false)], args := [d] }
  | _ => none }
def TrieShapeWrongFalsely : Prop := trieShapeRow.holds Try.pinned (OpenSpec.ofChange trieShapeWrong)

/-- 'docketlaw13.TrieBounds': WHATEVER THE INPUT: true; the input reads as it did. -/
def trieBoundsSpec : ChangeSpec := { name := "trieBounds", fn := fun _ => fun
  | [d1, d2] => { results := [.lit (.bool true)], args := [d1, d2] }
  | _ => none }
def trieBoundsRow : OpenClaim := { program := "ytlfanphdnjoofaa", sum := "dd2a5d288390fe0fc60bd919ba33ea2a53e06b9b2ba68f600a957c49af09564a", func := "docket/docketlaw13.TrieBounds", spec := "trieBounds", inPlace := ["internal/bytealg.abigen_runtime_cmpstring"], unfollowed := true, recurses := true, loops := true, apart := false }
def TrieBoundsSaid : Prop := trieBoundsRow.holds Try.pinned (OpenSpec.ofChange trieBoundsSpec)

/-- ITS FALSE NEIGHBOUR: 'it returns false'. Refute it at one input. -/
def trieBoundsWrong : ChangeSpec := { name := "trieBounds", fn := fun _ => fun
  | [d1, d2] => { results := [.lit (.bool false)], args := [d1, d2] }
  | _ => none }
def TrieBoundsWrongFalsely : Prop := trieBoundsRow.holds Try.pinned (OpenSpec.ofChange trieBoundsWrong)

/-- 'docketlaw13.TrieOrder': WHATEVER THE INPUT: true; the input reads as it did. -/
def trieOrderSpec : ChangeSpec := { name := "trieOrder", fn := fun _ => fun
  | [d1, d2, d3] => { results := [.lit (.bool true)], args := [d1, d2, d3] }
  | _ => none }
def trieOrderRow : OpenClaim := { program := "ytlfanphdnjoofaa", sum := "dd2a5d288390fe0fc60bd919ba33ea2a53e06b9b2ba68f600a957c49af09564a", func := "docket/docketlaw13.TrieOrder", spec := "trieOrder", inPlace := ["internal/bytealg.abigen_runtime_cmpstring"], unfollowed := true, recurses := true, loops := true, apart := false }
def TrieOrderSaid : Prop := trieOrderRow.holds Try.pinned (OpenSpec.ofChange trieOrderSpec)

/-- ITS FALSE NEIGHBOUR: 'it returns false'. Refute it at one input. -/
def trieOrderWrong : ChangeSpec := { name := "trieOrder", fn := fun _ => fun
  | [d1, d2, d3] => { results := [.lit (.bool false)], args := [d1, d2, d3] }
  | _ => none }
def TrieOrderWrongFalsely : Prop := trieOrderRow.holds Try.pinned (OpenSpec.ofChange trieOrderWrong)

/-- 'docketlaw13.TrieRetired': WHATEVER THE INPUT: true; the input reads as it did. -/
def trieRetiredSpec : ChangeSpec := { name := "trieRetired", fn := fun _ => fun
  | [d1, d2] => { results := [.lit (.bool true)], args := [d1, d2] }
  | _ => none }
def trieRetiredRow : OpenClaim := { program := "ytlfanphdnjoofaa", sum := "dd2a5d288390fe0fc60bd919ba33ea2a53e06b9b2ba68f600a957c49af09564a", func := "docket/docketlaw13.TrieRetired", spec := "trieRetired", inPlace := ["internal/bytealg.abigen_runtime_cmpstring"], unfollowed := true, recurses := true, loops := true, apart := false }
def TrieRetiredSaid : Prop := trieRetiredRow.holds Try.pinned (OpenSpec.ofChange trieRetiredSpec)

/-- ITS FALSE NEIGHBOUR: 'it returns false'. Refute it at one input. -/
def trieRetiredWrong : ChangeSpec := { name := "trieRetired", fn := fun _ => fun
  | [d1, d2] => { results := [.lit (.bool false)], args := [d1, d2] }
  | _ => none }
def TrieRetiredWrongFalsely : Prop := trieRetiredRow.holds Try.pinned (OpenSpec.ofChange trieRetiredWrong)

/-- 'docketlaw13.TrieSome': WHATEVER THE INPUT: true; the input reads as it did. -/
def trieSomeSpec : ChangeSpec := { name := "trieSome", fn := fun _ => fun
  | [d1, d2] => { results := [.lit (.bool true)], args := [d1, d2] }
  | _ => none }
def trieSomeRow : OpenClaim := { program := "ytlfanphdnjoofaa", sum := "dd2a5d288390fe0fc60bd919ba33ea2a53e06b9b2ba68f600a957c49af09564a", func := "docket/docketlaw13.TrieSome", spec := "trieSome", inPlace := ["internal/bytealg.abigen_runtime_cmpstring"], unfollowed := true, recurses := true, loops := true, apart := false }
def TrieSomeSaid : Prop := trieSomeRow.holds Try.pinned (OpenSpec.ofChange trieSomeSpec)

/-- ITS FALSE NEIGHBOUR: 'it returns false'. Refute it at one input. -/
def trieSomeWrong : ChangeSpec := { name := "trieSome", fn := fun _ => fun
  | [d1, d2] => { results := [.lit (.bool false)], args := [d1, d2] }
  | _ => none }
def TrieSomeWrongFalsely : Prop := trieSomeRow.holds Try.pinned (OpenSpec.ofChange trieSomeWrong)

/- THE SECOND FORM. 'bulk': how many values and letters a reading holds, each counted each time it is reached (what is shared counts as often as it is met; a slice's spare places count too). A statement '..UptoSaid' is the law's where the arguments, and the package variables that the reading takes, are together of bulk at most 1048576: NARROWER than '..Said'. Prove '..Said' where nothing that the law and all that it calls make is longer than what came in: it says more and counts as full. Else prove '..UptoSaid'. A law counts once. -/
mutual
def uptoBulk {H : Type} : DataW H → Nat
  | .lit (.string bytes) => bytes.length + 1
  | .lit _ => 1
  | .nil => 1
  | .ptr d => uptoBulk d + 1
  | .slice elems spare => uptoBulkAll elems + uptoBulkAll spare + 1
  | .agg parts => uptoBulkAll parts + 1
  | .iface _ d => uptoBulk d + 1
  | .map entries => uptoBulkEntries entries + 1
  | .held _ => 1
def uptoBulkAll {H : Type} : List (DataW H) → Nat
  | [] => 0
  | d :: r => uptoBulk d + uptoBulkAll r
def uptoBulkEntries {H : Type} : List (Lit × DataW H) → Nat
  | [] => 0
  | x :: r => uptoBulkEntry x + uptoBulkEntries r
def uptoBulkEntry {H : Type} : Lit × DataW H → Nat
  | (.string bytes, d) => bytes.length + uptoBulk d + 1
  | (_, d) => uptoBulk d + 1
 end
def uptoSmall : (H : Type) → List (DataW H) → Bool := fun _ ds => decide (uptoBulkAll ds ≤ 1048576)
def OpenSpec.upto (s : _root_.Go.ChangeSpec) : _root_.Go.OpenSpec := { _root_.Go.OpenSpec.ofChange s with cond := some uptoSmall }

/-- 'docketlaw13.TrieNames', WHERE WHAT IT READS IS OF BULK AT MOST 1048576: true; the input reads as it did. -/
def trieNamesUptoRow : OpenClaim := { program := "ytlfanphdnjoofaa", sum := "dd2a5d288390fe0fc60bd919ba33ea2a53e06b9b2ba68f600a957c49af09564a", func := "docket/docketlaw13.TrieNames", spec := "trieNames", inPlace := ["internal/bytealg.abigen_runtime_cmpstring"], unfollowed := true, recurses := true, apart := false, narrowed := true }
def TrieNamesUptoSaid : Prop := trieNamesUptoRow.holds Try.pinned (OpenSpec.upto trieNamesSpec)

/-- 'docketlaw13.TrieChanges', WHERE WHAT IT READS IS OF BULK AT MOST 1048576: true; the input reads as it did. -/
def trieChangesUptoRow : OpenClaim := { program := "ytlfanphdnjoofaa", sum := "dd2a5d288390fe0fc60bd919ba33ea2a53e06b9b2ba68f600a957c49af09564a", func := "docket/docketlaw13.TrieChanges", spec := "trieChanges", inPlace := ["internal/bytealg.abigen_runtime_cmpstring"], unfollowed := true, recurses := true, loops := true, apart := false, narrowed := true }
def TrieChangesUptoSaid : Prop := trieChangesUptoRow.holds Try.pinned (OpenSpec.upto trieChangesSpec)

/-- 'docketlaw13.TrieShape', WHERE WHAT IT READS IS OF BULK AT MOST 1048576: true; the input reads as it did. -/
def trieShapeUptoRow : OpenClaim := { program := "ytlfanphdnjoofaa", sum := "dd2a5d288390fe0fc60bd919ba33ea2a53e06b9b2ba68f600a957c49af09564a", func := "docket/docketlaw13.TrieShape", spec := "trieShape", inPlace := ["internal/bytealg.abigen_runtime_cmpstring"], unfollowed := true, recurses := true, loops := true, apart := false, narrowed := true }
def TrieShapeUptoSaid : Prop := trieShapeUptoRow.holds Try.pinned (OpenSpec.upto trieShapeSpec)

/-- 'docketlaw13.TrieBounds', WHERE WHAT IT READS IS OF BULK AT MOST 1048576: true; the input reads as it did. -/
def trieBoundsUptoRow : OpenClaim := { program := "ytlfanphdnjoofaa", sum := "dd2a5d288390fe0fc60bd919ba33ea2a53e06b9b2ba68f600a957c49af09564a", func := "docket/docketlaw13.TrieBounds", spec := "trieBounds", inPlace := ["internal/bytealg.abigen_runtime_cmpstring"], unfollowed := true, recurses := true, loops := true, apart := false, narrowed := true }
def TrieBoundsUptoSaid : Prop := trieBoundsUptoRow.holds Try.pinned (OpenSpec.upto trieBoundsSpec)

/-- 'docketlaw13.TrieOrder', WHERE WHAT IT READS IS OF BULK AT MOST 1048576: true; the input reads as it did. -/
def trieOrderUptoRow : OpenClaim := { program := "ytlfanphdnjoofaa", sum := "dd2a5d288390fe0fc60bd919ba33ea2a53e06b9b2ba68f600a957c49af09564a", func := "docket/docketlaw13.TrieOrder", spec := "trieOrder", inPlace := ["internal/bytealg.abigen_runtime_cmpstring"], unfollowed := true, recurses := true, loops := true, apart := false, narrowed := true }
def TrieOrderUptoSaid : Prop := trieOrderUptoRow.holds Try.pinned (OpenSpec.upto trieOrderSpec)

/-- 'docketlaw13.TrieRetired', WHERE WHAT IT READS IS OF BULK AT MOST 1048576: true; the input reads as it did. -/
def trieRetiredUptoRow : OpenClaim := { program := "ytlfanphdnjoofaa", sum := "dd2a5d288390fe0fc60bd919ba33ea2a53e06b9b2ba68f600a957c49af09564a", func := "docket/docketlaw13.TrieRetired", spec := "trieRetired", inPlace := ["internal/bytealg.abigen_runtime_cmpstring"], unfollowed := true, recurses := true, loops := true, apart := false, narrowed := true }
def TrieRetiredUptoSaid : Prop := trieRetiredUptoRow.holds Try.pinned (OpenSpec.upto trieRetiredSpec)

/-- 'docketlaw13.TrieSome', WHERE WHAT IT READS IS OF BULK AT MOST 1048576: true; the input reads as it did. -/
def trieSomeUptoRow : OpenClaim := { program := "ytlfanphdnjoofaa", sum := "dd2a5d288390fe0fc60bd919ba33ea2a53e06b9b2ba68f600a957c49af09564a", func := "docket/docketlaw13.TrieSome", spec := "trieSome", inPlace := ["internal/bytealg.abigen_runtime_cmpstring"], unfollowed := true, recurses := true, loops := true, apart := false, narrowed := true }
def TrieSomeUptoSaid : Prop := trieSomeUptoRow.holds Try.pinned (OpenSpec.upto trieSomeSpec)

end Rows
end Go.Proofs.Ytlfanphdnjoofaa
