/-
  No cell of these rows narrows 'for every input' (looked for: loops, veiled, ifaces, maps, wideKeys, modest, calm, conditions, laid).
  DERIVED. THE GIVEN ROWS OF THIS SEAT. 4 by the template 'for every input the law returns true; each argument reads behind the call as it read before'; 0 by the template 'total and deterministic' (their statements: YtejnnghfelpioaaGreatTotals.lean).
  GIVEN WITH THE SEED: the statements are not yours to turn. If you find one false, say at which input.
  Laid BY PROGRAM, IN A SANDBOX (cutbox-rows.mjs): the forced cells as the released guide's own fill.sh prints them over the translation 1b5a75b7aed042e9… (all of the seat's roots in one cut). By AI agents, Wed Nov 11 2026. No macro, syntax, notation, axiom, sorry.
-/
import Derived.Test.YtejnnghfelpioaaGreatChecked
import GoSem.Claim
import GoSem.ClaimJoined
import GoSem.ClaimMapViews
import Derived.JoinedTies
import Derived.KernelRfl
namespace Go.Proofs.YtejnnghfelpioaaGreat
/- THE CELL 'sum', in the pinned program and in every row, IS THE sha256 OF THE DUMP (.gsa) THAT YtejnnghfelpioaaGreatProg.lean LOADS. Nothing in Lean hashes anything: it is a label: what it is worth is what the hold of that sum in a sandbox is worth. -/
noncomputable def Tryz.pinned : Pinned := { name := "ytejnnghfelpioaagreat", sum := "1b5a75b7aed042e9e0f6b72c1afdfedda8e1821f81f2af8cef939bca806ba5d3", checked := Tryz.checked }
namespace Rows
def none {H : Type} : Left H := { results := [], args := [] }

/-- 'conclavelaw05.EdBytes': WHATEVER THE INPUT: true; the input reads as it did. -/
def edBytesSpec : ChangeSpec := { name := "edBytes", fn := fun _ => fun
  | [d1, d2] => { results := [.lit (.bool true)], args := [d1, d2] }
  | _ => none }
def edBytesRow : OpenClaim := { program := "ytejnnghfelpioaagreat", sum := "1b5a75b7aed042e9e0f6b72c1afdfedda8e1821f81f2af8cef939bca806ba5d3", func := "conclave/conclavelaw05.EdBytes", spec := "edBytes", inPlace := ["math/bits.Add64", "math/bits.Sub64"], unfollowed := true, recurses := true, named := ["math/bits.divideError", "math/bits.overflowError"], apart := false }
def EdBytesSaid : Prop := edBytesRow.holds Tryz.pinned (OpenSpec.ofChange edBytesSpec)

/-- ITS FALSE NEIGHBOUR: 'it returns false'. Refute it at one input. -/
def edBytesWrong : ChangeSpec := { name := "edBytes", fn := fun _ => fun
  | [d1, d2] => { results := [.lit (.bool false)], args := [d1, d2] }
  | _ => none }
def EdBytesWrongFalsely : Prop := edBytesRow.holds Tryz.pinned (OpenSpec.ofChange edBytesWrong)

/-- 'conclavelaw05.EdSigns': WHATEVER THE INPUT: true; the input reads as it did. -/
def edSignsSpec : ChangeSpec := { name := "edSigns", fn := fun _ => fun
  | [d1, d2] => { results := [.lit (.bool true)], args := [d1, d2] }
  | _ => none }
def edSignsRow : OpenClaim := { program := "ytejnnghfelpioaagreat", sum := "1b5a75b7aed042e9e0f6b72c1afdfedda8e1821f81f2af8cef939bca806ba5d3", func := "conclave/conclavelaw05.EdSigns", spec := "edSigns", inPlace := ["math/bits.Sub64", "math/bits.Add64"], unfollowed := true, recurses := true, named := ["math/bits.divideError", "math/bits.overflowError"], apart := false }
def EdSignsSaid : Prop := edSignsRow.holds Tryz.pinned (OpenSpec.ofChange edSignsSpec)

/-- ITS FALSE NEIGHBOUR: 'it returns false'. Refute it at one input. -/
def edSignsWrong : ChangeSpec := { name := "edSigns", fn := fun _ => fun
  | [d1, d2] => { results := [.lit (.bool false)], args := [d1, d2] }
  | _ => none }
def EdSignsWrongFalsely : Prop := edSignsRow.holds Tryz.pinned (OpenSpec.ofChange edSignsWrong)

/-- 'conclavelaw05.EdVerifies': WHATEVER THE INPUT: true; the input reads as it did. -/
def edVerifiesSpec : ChangeSpec := { name := "edVerifies", fn := fun _ => fun
  | [d1, d2, d3] => { results := [.lit (.bool true)], args := [d1, d2, d3] }
  | _ => none }
def edVerifiesRow : OpenClaim := { program := "ytejnnghfelpioaagreat", sum := "1b5a75b7aed042e9e0f6b72c1afdfedda8e1821f81f2af8cef939bca806ba5d3", func := "conclave/conclavelaw05.EdVerifies", spec := "edVerifies", inPlace := ["math/bits.Add64", "math/bits.Sub64"], unfollowed := true, recurses := true, named := ["math/bits.divideError", "math/bits.overflowError"], apart := false }
def EdVerifiesSaid : Prop := edVerifiesRow.holds Tryz.pinned (OpenSpec.ofChange edVerifiesSpec)

/-- ITS FALSE NEIGHBOUR: 'it returns false'. Refute it at one input. -/
def edVerifiesWrong : ChangeSpec := { name := "edVerifies", fn := fun _ => fun
  | [d1, d2, d3] => { results := [.lit (.bool false)], args := [d1, d2, d3] }
  | _ => none }
def EdVerifiesWrongFalsely : Prop := edVerifiesRow.holds Tryz.pinned (OpenSpec.ofChange edVerifiesWrong)

/-- 'conclavelaw05.EdPoints': WHATEVER THE INPUT: true; the input reads as it did. -/
def edPointsSpec : ChangeSpec := { name := "edPoints", fn := fun _ => fun
  | [d1, d2, d3] => { results := [.lit (.bool true)], args := [d1, d2, d3] }
  | _ => none }
def edPointsRow : OpenClaim := { program := "ytejnnghfelpioaagreat", sum := "1b5a75b7aed042e9e0f6b72c1afdfedda8e1821f81f2af8cef939bca806ba5d3", func := "conclave/conclavelaw05.EdPoints", spec := "edPoints", inPlace := ["math/bits.Sub64", "math/bits.Add64"], unfollowed := true, recurses := true, named := ["math/bits.divideError", "math/bits.overflowError"], apart := false }
def EdPointsSaid : Prop := edPointsRow.holds Tryz.pinned (OpenSpec.ofChange edPointsSpec)

/-- ITS FALSE NEIGHBOUR: 'it returns false'. Refute it at one input. -/
def edPointsWrong : ChangeSpec := { name := "edPoints", fn := fun _ => fun
  | [d1, d2, d3] => { results := [.lit (.bool false)], args := [d1, d2, d3] }
  | _ => none }
def EdPointsWrongFalsely : Prop := edPointsRow.holds Tryz.pinned (OpenSpec.ofChange edPointsWrong)

/- THE SECOND FORM. 'bulk': how many values and letters a reading holds, each counted each time it is reached (what is shared counts as often as it is met; a slice's spare places count too). A statement '..UptoSaid' is the law's where the arguments, and the package variables that the reading takes, are together of bulk at most 1048576: NARROWER than '..Said'. Prove '..Said' where nothing that the law and all that it calls make is longer than what came in: it says more and counts as full. Else prove '..UptoSaid'. A law counts once. -/
mutual
def uptoBulk {H : Type} : DataW H → Nat
  | .lit (.string bytes) => bytes.length + 1
  | .lit _ => 1
  | .nil => 1
  | .ptr d => uptoBulk d + 1
  | .slice elems spare => uptoBulkAll elems + uptoBulkAll spare + 1
  | .agg parts => uptoBulkAll parts + 1
  | .iface _ d => uptoBulk d + 1
  | .map entries => uptoBulkEntries entries + 1
  | .held _ => 1
def uptoBulkAll {H : Type} : List (DataW H) → Nat
  | [] => 0
  | d :: r => uptoBulk d + uptoBulkAll r
def uptoBulkEntries {H : Type} : List (Lit × DataW H) → Nat
  | [] => 0
  | x :: r => uptoBulkEntry x + uptoBulkEntries r
def uptoBulkEntry {H : Type} : Lit × DataW H → Nat
  | (.string bytes, d) => bytes.length + uptoBulk d + 1
  | (_, d) => uptoBulk d + 1
 end
def uptoSmall : (H : Type) → List (DataW H) → Bool := fun _ ds => decide (uptoBulkAll ds ≤ 1048576)
def OpenSpec.upto (s : _root_.Go.ChangeSpec) : _root_.Go.OpenSpec := { _root_.Go.OpenSpec.ofChange s with cond := some uptoSmall }

/-- 'conclavelaw05.EdBytes', WHERE WHAT IT READS IS OF BULK AT MOST 1048576: true; the input reads as it did. -/
def edBytesUptoRow : OpenClaim := { program := "ytejnnghfelpioaagreat", sum := "1b5a75b7aed042e9e0f6b72c1afdfedda8e1821f81f2af8cef939bca806ba5d3", func := "conclave/conclavelaw05.EdBytes", spec := "edBytes", inPlace := ["math/bits.Add64", "math/bits.Sub64"], unfollowed := true, recurses := true, named := ["math/bits.divideError", "math/bits.overflowError"], apart := false, narrowed := true }
def EdBytesUptoSaid : Prop := edBytesUptoRow.holds Tryz.pinned (OpenSpec.upto edBytesSpec)

/-- 'conclavelaw05.EdSigns', WHERE WHAT IT READS IS OF BULK AT MOST 1048576: true; the input reads as it did. -/
def edSignsUptoRow : OpenClaim := { program := "ytejnnghfelpioaagreat", sum := "1b5a75b7aed042e9e0f6b72c1afdfedda8e1821f81f2af8cef939bca806ba5d3", func := "conclave/conclavelaw05.EdSigns", spec := "edSigns", inPlace := ["math/bits.Sub64", "math/bits.Add64"], unfollowed := true, recurses := true, named := ["math/bits.divideError", "math/bits.overflowError"], apart := false, narrowed := true }
def EdSignsUptoSaid : Prop := edSignsUptoRow.holds Tryz.pinned (OpenSpec.upto edSignsSpec)

/-- 'conclavelaw05.EdVerifies', WHERE WHAT IT READS IS OF BULK AT MOST 1048576: true; the input reads as it did. -/
def edVerifiesUptoRow : OpenClaim := { program := "ytejnnghfelpioaagreat", sum := "1b5a75b7aed042e9e0f6b72c1afdfedda8e1821f81f2af8cef939bca806ba5d3", func := "conclave/conclavelaw05.EdVerifies", spec := "edVerifies", inPlace := ["math/bits.Add64", "math/bits.Sub64"], unfollowed := true, recurses := true, named := ["math/bits.divideError", "math/bits.overflowError"], apart := false, narrowed := true }
def EdVerifiesUptoSaid : Prop := edVerifiesUptoRow.holds Tryz.pinned (OpenSpec.upto edVerifiesSpec)

/-- 'conclavelaw05.EdPoints', WHERE WHAT IT READS IS OF BULK AT MOST 1048576: true; the input reads as it did. -/
def edPointsUptoRow : OpenClaim := { program := "ytejnnghfelpioaagreat", sum := "1b5a75b7aed042e9e0f6b72c1afdfedda8e1821f81f2af8cef939bca806ba5d3", func := "conclave/conclavelaw05.EdPoints", spec := "edPoints", inPlace := ["math/bits.Sub64", "math/bits.Add64"], unfollowed := true, recurses := true, named := ["math/bits.divideError", "math/bits.overflowError"], apart := false, narrowed := true }
def EdPointsUptoSaid : Prop := edPointsUptoRow.holds Tryz.pinned (OpenSpec.upto edPointsSpec)

end Rows
end Go.Proofs.YtejnnghfelpioaaGreat
