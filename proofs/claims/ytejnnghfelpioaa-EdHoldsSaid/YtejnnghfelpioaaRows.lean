/-
  No cell of these rows narrows 'for every input' (looked for: loops, veiled, ifaces, maps, wideKeys, modest, calm, conditions, laid).
  DERIVED. THE GIVEN ROWS OF THIS SEAT. 3 by the template 'for every input the law returns true; each argument reads behind the call as it read before'; 0 by the template 'total and deterministic' (their statements: YtejnnghfelpioaaTotals.lean).
  GIVEN WITH THE SEED: the statements are not yours to turn. If you find one false, say at which input.
  Laid BY PROGRAM, IN A SANDBOX (cutbox-rows.mjs): the forced cells as the released guide's own fill.sh prints them over the translation 3f37c1db01d8de41… (all of the seat's roots in one cut). By AI agents, Wed Nov 11 2026. No macro, syntax, notation, axiom, sorry.
-/
import Derived.Test.YtejnnghfelpioaaChecked
import GoSem.Claim
import GoSem.ClaimJoined
import GoSem.ClaimMapViews
import Derived.JoinedTies
import Derived.KernelRfl
namespace Go.Proofs.Ytejnnghfelpioaa
/- THE CELL 'sum', in the pinned program and in every row, IS THE sha256 OF THE DUMP (.gsa) THAT YtejnnghfelpioaaProg.lean LOADS. Nothing in Lean hashes anything: it is a label: what it is worth is what the hold of that sum in a sandbox is worth. -/
noncomputable def Try.pinned : Pinned := { name := "ytejnnghfelpioaa", sum := "3f37c1db01d8de41bfecebcd31bd24a598f6ca69d98d523cd90fc31c86508881", checked := Try.checked }
namespace Rows
def none {H : Type} : Left H := { results := [], args := [] }

/-- 'conclavelaw05.EdHolds': WHATEVER THE INPUT: true; the input reads as it did. -/
def edHoldsSpec : ChangeSpec := { name := "edHolds", fn := fun _ => fun
  | [d1, d2, d3] => { results := [.lit (.bool true)], args := [d1, d2, d3] }
  | _ => none }
def edHoldsRow : OpenClaim := { program := "ytejnnghfelpioaa", sum := "3f37c1db01d8de41bfecebcd31bd24a598f6ca69d98d523cd90fc31c86508881", func := "conclave/conclavelaw05.EdHolds", spec := "edHolds", inPlace := ["math/bits.Sub64", "math/bits.Add64"], unfollowed := true, recurses := true, named := ["math/bits.divideError", "math/bits.overflowError"], apart := false }
def EdHoldsSaid : Prop := edHoldsRow.holds Try.pinned (OpenSpec.ofChange edHoldsSpec)

/-- ITS FALSE NEIGHBOUR: 'it returns false'. Refute it at one input. -/
def edHoldsWrong : ChangeSpec := { name := "edHolds", fn := fun _ => fun
  | [d1, d2, d3] => { results := [.lit (.bool false)], args := [d1, d2, d3] }
  | _ => none }
def EdHoldsWrongFalsely : Prop := edHoldsRow.holds Try.pinned (OpenSpec.ofChange edHoldsWrong)

/-- 'conclavelaw05.EdBack': WHATEVER THE INPUT: true; the input reads as it did. -/
def edBackSpec : ChangeSpec := { name := "edBack", fn := fun _ => fun
  | [d1, d2] => { results := [.lit (.bool true)], args := [d1, d2] }
  | _ => none }
def edBackRow : OpenClaim := { program := "ytejnnghfelpioaa", sum := "3f37c1db01d8de41bfecebcd31bd24a598f6ca69d98d523cd90fc31c86508881", func := "conclave/conclavelaw05.EdBack", spec := "edBack", inPlace := ["math/bits.Add64", "math/bits.Sub64"], unfollowed := true, recurses := true, named := ["math/bits.divideError", "math/bits.overflowError"], apart := false }
def EdBackSaid : Prop := edBackRow.holds Try.pinned (OpenSpec.ofChange edBackSpec)

/-- ITS FALSE NEIGHBOUR: 'it returns false'. Refute it at one input. -/
def edBackWrong : ChangeSpec := { name := "edBack", fn := fun _ => fun
  | [d1, d2] => { results := [.lit (.bool false)], args := [d1, d2] }
  | _ => none }
def EdBackWrongFalsely : Prop := edBackRow.holds Try.pinned (OpenSpec.ofChange edBackWrong)

/-- 'conclavelaw05.EdGroup': WHATEVER THE INPUT: true; the input reads as it did. -/
def edGroupSpec : ChangeSpec := { name := "edGroup", fn := fun _ => fun
  | [d1, d2, d3] => { results := [.lit (.bool true)], args := [d1, d2, d3] }
  | _ => none }
def edGroupRow : OpenClaim := { program := "ytejnnghfelpioaa", sum := "3f37c1db01d8de41bfecebcd31bd24a598f6ca69d98d523cd90fc31c86508881", func := "conclave/conclavelaw05.EdGroup", spec := "edGroup", inPlace := ["math/bits.Sub64", "math/bits.Add64"], unfollowed := true, recurses := true, named := ["math/bits.divideError", "math/bits.overflowError"], apart := false }
def EdGroupSaid : Prop := edGroupRow.holds Try.pinned (OpenSpec.ofChange edGroupSpec)

/-- ITS FALSE NEIGHBOUR: 'it returns false'. Refute it at one input. -/
def edGroupWrong : ChangeSpec := { name := "edGroup", fn := fun _ => fun
  | [d1, d2, d3] => { results := [.lit (.bool false)], args := [d1, d2, d3] }
  | _ => none }
def EdGroupWrongFalsely : Prop := edGroupRow.holds Try.pinned (OpenSpec.ofChange edGroupWrong)

/- THE SECOND FORM. 'bulk': how many values and letters a reading holds, each counted each time it is reached (what is shared counts as often as it is met; a slice's spare places count too). A statement '..UptoSaid' is the law's where the arguments, and the package variables that the reading takes, are together of bulk at most 1048576: NARROWER than '..Said'. Prove '..Said' where nothing that the law and all that it calls make is longer than what came in: it says more and counts as full. Else prove '..UptoSaid'. A law counts once. -/
mutual
def uptoBulk {H : Type} : DataW H → Nat
  | .lit (.string bytes) => bytes.length + 1
  | .lit _ => 1
  | .nil => 1
  | .ptr d => uptoBulk d + 1
  | .slice elems spare => uptoBulkAll elems + uptoBulkAll spare + 1
  | .agg parts => uptoBulkAll parts + 1
  | .iface _ d => uptoBulk d + 1
  | .map entries => uptoBulkEntries entries + 1
  | .held _ => 1
def uptoBulkAll {H : Type} : List (DataW H) → Nat
  | [] => 0
  | d :: r => uptoBulk d + uptoBulkAll r
def uptoBulkEntries {H : Type} : List (Lit × DataW H) → Nat
  | [] => 0
  | x :: r => uptoBulkEntry x + uptoBulkEntries r
def uptoBulkEntry {H : Type} : Lit × DataW H → Nat
  | (.string bytes, d) => bytes.length + uptoBulk d + 1
  | (_, d) => uptoBulk d + 1
 end
def uptoSmall : (H : Type) → List (DataW H) → Bool := fun _ ds => decide (uptoBulkAll ds ≤ 1048576)
def OpenSpec.upto (s : _root_.Go.ChangeSpec) : _root_.Go.OpenSpec := { _root_.Go.OpenSpec.ofChange s with cond := some uptoSmall }

/-- 'conclavelaw05.EdHolds', WHERE WHAT IT READS IS OF BULK AT MOST 1048576: true; the input reads as it did. -/
def edHoldsUptoRow : OpenClaim := { program := "ytejnnghfelpioaa", sum := "3f37c1db01d8de41bfecebcd31bd24a598f6ca69d98d523cd90fc31c86508881", func := "conclave/conclavelaw05.EdHolds", spec := "edHolds", inPlace := ["math/bits.Sub64", "math/bits.Add64"], unfollowed := true, recurses := true, named := ["math/bits.divideError", "math/bits.overflowError"], apart := false, narrowed := true }
def EdHoldsUptoSaid : Prop := edHoldsUptoRow.holds Try.pinned (OpenSpec.upto edHoldsSpec)

/-- 'conclavelaw05.EdBack', WHERE WHAT IT READS IS OF BULK AT MOST 1048576: true; the input reads as it did. -/
def edBackUptoRow : OpenClaim := { program := "ytejnnghfelpioaa", sum := "3f37c1db01d8de41bfecebcd31bd24a598f6ca69d98d523cd90fc31c86508881", func := "conclave/conclavelaw05.EdBack", spec := "edBack", inPlace := ["math/bits.Add64", "math/bits.Sub64"], unfollowed := true, recurses := true, named := ["math/bits.divideError", "math/bits.overflowError"], apart := false, narrowed := true }
def EdBackUptoSaid : Prop := edBackUptoRow.holds Try.pinned (OpenSpec.upto edBackSpec)

/-- 'conclavelaw05.EdGroup', WHERE WHAT IT READS IS OF BULK AT MOST 1048576: true; the input reads as it did. -/
def edGroupUptoRow : OpenClaim := { program := "ytejnnghfelpioaa", sum := "3f37c1db01d8de41bfecebcd31bd24a598f6ca69d98d523cd90fc31c86508881", func := "conclave/conclavelaw05.EdGroup", spec := "edGroup", inPlace := ["math/bits.Sub64", "math/bits.Add64"], unfollowed := true, recurses := true, named := ["math/bits.divideError", "math/bits.overflowError"], apart := false, narrowed := true }
def EdGroupUptoSaid : Prop := edGroupUptoRow.holds Try.pinned (OpenSpec.upto edGroupSpec)

end Rows
end Go.Proofs.Ytejnnghfelpioaa
