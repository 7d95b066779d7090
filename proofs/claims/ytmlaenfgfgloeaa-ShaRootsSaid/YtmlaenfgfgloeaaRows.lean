/-
  No cell of these rows narrows 'for every input' (looked for: loops, veiled, ifaces, maps, wideKeys, modest, calm, conditions, laid).
  DERIVED. THE GIVEN ROWS OF THIS SEAT. 7 by the template 'for every input the law returns true; each argument reads behind the call as it read before'; 0 by the template 'total and deterministic' (their statements: YtmlaenfgfgloeaaTotals.lean).
  GIVEN WITH THE SEED: the statements are not yours to turn. If you find one false, say at which input.
  Laid BY PROGRAM, IN A SANDBOX (cutbox-rows.mjs): the forced cells as the released guide's own fill.sh prints them over the translation 3f30b043c94ddc20… (all of the seat's roots in one cut). By AI agents, Wed Nov 11 2026. No macro, syntax, notation, axiom, sorry.
-/
import Derived.Test.YtmlaenfgfgloeaaChecked
import GoSem.Claim
import GoSem.ClaimJoined
import GoSem.ClaimMapViews
import Derived.JoinedTies
import Derived.KernelRfl
namespace Go.Proofs.Ytmlaenfgfgloeaa
/- THE CELL 'sum', in the pinned program and in every row, IS THE sha256 OF THE DUMP (.gsa) THAT YtmlaenfgfgloeaaProg.lean LOADS. Nothing in Lean hashes anything: it is a label: what it is worth is what the hold of that sum in a sandbox is worth. -/
noncomputable def Try.pinned : Pinned := { name := "ytmlaenfgfgloeaa", sum := "3f30b043c94ddc209227bd44ef287b6b79563eacc19090c5fe551d70f7e133fb", checked := Try.checked }
namespace Rows
def none {H : Type} : Left H := { results := [], args := [] }

/-- 'conclavelaw02.KeccakPermutes': WHATEVER THE INPUT: true; the input reads as it did. -/
def keccakPermutesSpec : ChangeSpec := { name := "keccakPermutes", fn := fun _ => fun
  | [d] => { results := [.lit (.bool true)], args := [d] }
  | _ => none }
def keccakPermutesRow : OpenClaim := { program := "ytmlaenfgfgloeaa", sum := "3f30b043c94ddc209227bd44ef287b6b79563eacc19090c5fe551d70f7e133fb", func := "conclave/conclavelaw02.KeccakPermutes", spec := "keccakPermutes", unfollowed := true, recurses := true, apart := false }
def KeccakPermutesSaid : Prop := keccakPermutesRow.holds Try.pinned (OpenSpec.ofChange keccakPermutesSpec)

/-- ITS FALSE NEIGHBOUR: 'it returns false'. Refute it at one input. -/
def keccakPermutesWrong : ChangeSpec := { name := "keccakPermutes", fn := fun _ => fun
  | [d] => { results := [.lit (.bool false)], args := [d] }
  | _ => none }
def KeccakPermutesWrongFalsely : Prop := keccakPermutesRow.holds Try.pinned (OpenSpec.ofChange keccakPermutesWrong)

/-- 'conclavelaw02.KeccakSums': WHATEVER THE INPUT: true; the input reads as it did. -/
def keccakSumsSpec : ChangeSpec := { name := "keccakSums", fn := fun _ => fun
  | [d] => { results := [.lit (.bool true)], args := [d] }
  | _ => none }
def keccakSumsRow : OpenClaim := { program := "ytmlaenfgfgloeaa", sum := "3f30b043c94ddc209227bd44ef287b6b79563eacc19090c5fe551d70f7e133fb", func := "conclave/conclavelaw02.KeccakSums", spec := "keccakSums", unfollowed := true, recurses := true, apart := false }
def KeccakSumsSaid : Prop := keccakSumsRow.holds Try.pinned (OpenSpec.ofChange keccakSumsSpec)

/-- ITS FALSE NEIGHBOUR: 'it returns false'. Refute it at one input. -/
def keccakSumsWrong : ChangeSpec := { name := "keccakSums", fn := fun _ => fun
  | [d] => { results := [.lit (.bool false)], args := [d] }
  | _ => none }
def KeccakSumsWrongFalsely : Prop := keccakSumsRow.holds Try.pinned (OpenSpec.ofChange keccakSumsWrong)

/-- 'conclavelaw02.KeccakParts': WHATEVER THE INPUT: true; the input reads as it did. -/
def keccakPartsSpec : ChangeSpec := { name := "keccakParts", fn := fun _ => fun
  | [d] => { results := [.lit (.bool true)], args := [d] }
  | _ => none }
def keccakPartsRow : OpenClaim := { program := "ytmlaenfgfgloeaa", sum := "3f30b043c94ddc209227bd44ef287b6b79563eacc19090c5fe551d70f7e133fb", func := "conclave/conclavelaw02.KeccakParts", spec := "keccakParts", unfollowed := true, recurses := true, apart := false }
def KeccakPartsSaid : Prop := keccakPartsRow.holds Try.pinned (OpenSpec.ofChange keccakPartsSpec)

/-- ITS FALSE NEIGHBOUR: 'it returns false'. Refute it at one input. -/
def keccakPartsWrong : ChangeSpec := { name := "keccakParts", fn := fun _ => fun
  | [d] => { results := [.lit (.bool false)], args := [d] }
  | _ => none }
def KeccakPartsWrongFalsely : Prop := keccakPartsRow.holds Try.pinned (OpenSpec.ofChange keccakPartsWrong)

/-- 'conclavelaw03.ShaSums': WHATEVER THE INPUT: true; the input reads as it did. -/
def shaSumsSpec : ChangeSpec := { name := "shaSums", fn := fun _ => fun
  | [d] => { results := [.lit (.bool true)], args := [d] }
  | _ => none }
def shaSumsRow : OpenClaim := { program := "ytmlaenfgfgloeaa", sum := "3f30b043c94ddc209227bd44ef287b6b79563eacc19090c5fe551d70f7e133fb", func := "conclave/conclavelaw03.ShaSums", spec := "shaSums", apart := false }
def ShaSumsSaid : Prop := shaSumsRow.holds Try.pinned (OpenSpec.ofChange shaSumsSpec)

/-- ITS FALSE NEIGHBOUR: 'it returns false'. Refute it at one input. -/
def shaSumsWrong : ChangeSpec := { name := "shaSums", fn := fun _ => fun
  | [d] => { results := [.lit (.bool false)], args := [d] }
  | _ => none }
def ShaSumsWrongFalsely : Prop := shaSumsRow.holds Try.pinned (OpenSpec.ofChange shaSumsWrong)

/-- 'conclavelaw03.ShaRoots': WHATEVER THE INPUT: true; the input reads as it did. -/
def shaRootsSpec : ChangeSpec := { name := "shaRoots", fn := fun _ => fun
  | [d] => { results := [.lit (.bool true)], args := [d] }
  | _ => none }
def shaRootsRow : OpenClaim := { program := "ytmlaenfgfgloeaa", sum := "3f30b043c94ddc209227bd44ef287b6b79563eacc19090c5fe551d70f7e133fb", func := "conclave/conclavelaw03.ShaRoots", spec := "shaRoots", apart := false }
def ShaRootsSaid : Prop := shaRootsRow.holds Try.pinned (OpenSpec.ofChange shaRootsSpec)

/-- ITS FALSE NEIGHBOUR: 'it returns false'. Refute it at one input. -/
def shaRootsWrong : ChangeSpec := { name := "shaRoots", fn := fun _ => fun
  | [d] => { results := [.lit (.bool false)], args := [d] }
  | _ => none }
def ShaRootsWrongFalsely : Prop := shaRootsRow.holds Try.pinned (OpenSpec.ofChange shaRootsWrong)

/-- 'conclavelaw03.ShaParts': WHATEVER THE INPUT: true; the input reads as it did. -/
def shaPartsSpec : ChangeSpec := { name := "shaParts", fn := fun _ => fun
  | [d] => { results := [.lit (.bool true)], args := [d] }
  | _ => none }
def shaPartsRow : OpenClaim := { program := "ytmlaenfgfgloeaa", sum := "3f30b043c94ddc209227bd44ef287b6b79563eacc19090c5fe551d70f7e133fb", func := "conclave/conclavelaw03.ShaParts", spec := "shaParts", apart := false }
def ShaPartsSaid : Prop := shaPartsRow.holds Try.pinned (OpenSpec.ofChange shaPartsSpec)

/-- ITS FALSE NEIGHBOUR: 'it returns false'. Refute it at one input. -/
def shaPartsWrong : ChangeSpec := { name := "shaParts", fn := fun _ => fun
  | [d] => { results := [.lit (.bool false)], args := [d] }
  | _ => none }
def ShaPartsWrongFalsely : Prop := shaPartsRow.holds Try.pinned (OpenSpec.ofChange shaPartsWrong)

/-- 'conclavelaw02.KeccakUndoes': WHATEVER THE INPUT: true; the input reads as it did. -/
def keccakUndoesSpec : ChangeSpec := { name := "keccakUndoes", fn := fun _ => fun
  | [d] => { results := [.lit (.bool true)], args := [d] }
  | _ => none }
def keccakUndoesRow : OpenClaim := { program := "ytmlaenfgfgloeaa", sum := "3f30b043c94ddc209227bd44ef287b6b79563eacc19090c5fe551d70f7e133fb", func := "conclave/conclavelaw02.KeccakUndoes", spec := "keccakUndoes", unfollowed := true, recurses := true, apart := false }
def KeccakUndoesSaid : Prop := keccakUndoesRow.holds Try.pinned (OpenSpec.ofChange keccakUndoesSpec)

/-- ITS FALSE NEIGHBOUR: 'it returns false'. Refute it at one input. -/
def keccakUndoesWrong : ChangeSpec := { name := "keccakUndoes", fn := fun _ => fun
  | [d] => { results := [.lit (.bool false)], args := [d] }
  | _ => none }
def KeccakUndoesWrongFalsely : Prop := keccakUndoesRow.holds Try.pinned (OpenSpec.ofChange keccakUndoesWrong)

/- THE SECOND FORM. 'bulk': how many values and letters a reading holds, each counted each time it is reached (what is shared counts as often as it is met; a slice's spare places count too). A statement '..UptoSaid' is the law's where the arguments, and the package variables that the reading takes, are together of bulk at most 1048576: NARROWER than '..Said'. Prove '..Said' where nothing that the law and all that it calls make is longer than what came in: it says more and counts as full. Else prove '..UptoSaid'. A law counts once. -/
mutual
def uptoBulk {H : Type} : DataW H → Nat
  | .lit (.string bytes) => bytes.length + 1
  | .lit _ => 1
  | .nil => 1
  | .ptr d => uptoBulk d + 1
  | .slice elems spare => uptoBulkAll elems + uptoBulkAll spare + 1
  | .agg parts => uptoBulkAll parts + 1
  | .iface _ d => uptoBulk d + 1
  | .map entries => uptoBulkEntries entries + 1
  | .held _ => 1
def uptoBulkAll {H : Type} : List (DataW H) → Nat
  | [] => 0
  | d :: r => uptoBulk d + uptoBulkAll r
def uptoBulkEntries {H : Type} : List (Lit × DataW H) → Nat
  | [] => 0
  | x :: r => uptoBulkEntry x + uptoBulkEntries r
def uptoBulkEntry {H : Type} : Lit × DataW H → Nat
  | (.string bytes, d) => bytes.length + uptoBulk d + 1
  | (_, d) => uptoBulk d + 1
 end
def uptoSmall : (H : Type) → List (DataW H) → Bool := fun _ ds => decide (uptoBulkAll ds ≤ 1048576)
def OpenSpec.upto (s : _root_.Go.ChangeSpec) : _root_.Go.OpenSpec := { _root_.Go.OpenSpec.ofChange s with cond := some uptoSmall }

/-- 'conclavelaw02.KeccakPermutes', WHERE WHAT IT READS IS OF BULK AT MOST 1048576: true; the input reads as it did. -/
def keccakPermutesUptoRow : OpenClaim := { program := "ytmlaenfgfgloeaa", sum := "3f30b043c94ddc209227bd44ef287b6b79563eacc19090c5fe551d70f7e133fb", func := "conclave/conclavelaw02.KeccakPermutes", spec := "keccakPermutes", unfollowed := true, recurses := true, apart := false, narrowed := true }
def KeccakPermutesUptoSaid : Prop := keccakPermutesUptoRow.holds Try.pinned (OpenSpec.upto keccakPermutesSpec)

/-- 'conclavelaw02.KeccakSums', WHERE WHAT IT READS IS OF BULK AT MOST 1048576: true; the input reads as it did. -/
def keccakSumsUptoRow : OpenClaim := { program := "ytmlaenfgfgloeaa", sum := "3f30b043c94ddc209227bd44ef287b6b79563eacc19090c5fe551d70f7e133fb", func := "conclave/conclavelaw02.KeccakSums", spec := "keccakSums", unfollowed := true, recurses := true, apart := false, narrowed := true }
def KeccakSumsUptoSaid : Prop := keccakSumsUptoRow.holds Try.pinned (OpenSpec.upto keccakSumsSpec)

/-- 'conclavelaw02.KeccakParts', WHERE WHAT IT READS IS OF BULK AT MOST 1048576: true; the input reads as it did. -/
def keccakPartsUptoRow : OpenClaim := { program := "ytmlaenfgfgloeaa", sum := "3f30b043c94ddc209227bd44ef287b6b79563eacc19090c5fe551d70f7e133fb", func := "conclave/conclavelaw02.KeccakParts", spec := "keccakParts", unfollowed := true, recurses := true, apart := false, narrowed := true }
def KeccakPartsUptoSaid : Prop := keccakPartsUptoRow.holds Try.pinned (OpenSpec.upto keccakPartsSpec)

/-- 'conclavelaw03.ShaSums', WHERE WHAT IT READS IS OF BULK AT MOST 1048576: true; the input reads as it did. -/
def shaSumsUptoRow : OpenClaim := { program := "ytmlaenfgfgloeaa", sum := "3f30b043c94ddc209227bd44ef287b6b79563eacc19090c5fe551d70f7e133fb", func := "conclave/conclavelaw03.ShaSums", spec := "shaSums", apart := false, narrowed := true }
def ShaSumsUptoSaid : Prop := shaSumsUptoRow.holds Try.pinned (OpenSpec.upto shaSumsSpec)

/-- 'conclavelaw03.ShaRoots', WHERE WHAT IT READS IS OF BULK AT MOST 1048576: true; the input reads as it did. -/
def shaRootsUptoRow : OpenClaim := { program := "ytmlaenfgfgloeaa", sum := "3f30b043c94ddc209227bd44ef287b6b79563eacc19090c5fe551d70f7e133fb", func := "conclave/conclavelaw03.ShaRoots", spec := "shaRoots", apart := false, narrowed := true }
def ShaRootsUptoSaid : Prop := shaRootsUptoRow.holds Try.pinned (OpenSpec.upto shaRootsSpec)

/-- 'conclavelaw03.ShaParts', WHERE WHAT IT READS IS OF BULK AT MOST 1048576: true; the input reads as it did. -/
def shaPartsUptoRow : OpenClaim := { program := "ytmlaenfgfgloeaa", sum := "3f30b043c94ddc209227bd44ef287b6b79563eacc19090c5fe551d70f7e133fb", func := "conclave/conclavelaw03.ShaParts", spec := "shaParts", apart := false, narrowed := true }
def ShaPartsUptoSaid : Prop := shaPartsUptoRow.holds Try.pinned (OpenSpec.upto shaPartsSpec)

/-- 'conclavelaw02.KeccakUndoes', WHERE WHAT IT READS IS OF BULK AT MOST 1048576: true; the input reads as it did. -/
def keccakUndoesUptoRow : OpenClaim := { program := "ytmlaenfgfgloeaa", sum := "3f30b043c94ddc209227bd44ef287b6b79563eacc19090c5fe551d70f7e133fb", func := "conclave/conclavelaw02.KeccakUndoes", spec := "keccakUndoes", unfollowed := true, recurses := true, apart := false, narrowed := true }
def KeccakUndoesUptoSaid : Prop := keccakUndoesUptoRow.holds Try.pinned (OpenSpec.upto keccakUndoesSpec)

end Rows
end Go.Proofs.Ytmlaenfgfgloeaa
