/-
  No cell of these rows narrows 'for every input' (looked for: loops, veiled, ifaces, maps, wideKeys, modest, calm, conditions, laid).
  DERIVED. THE GIVEN ROWS OF THIS SEAT. 6 by the template 'for every input the law returns true; each argument reads behind the call as it read before'; 0 by the template 'total and deterministic' (their statements: YtbifolfakgmdnaaTotals.lean).
  GIVEN WITH THE SEED: the statements are not yours to turn. If you find one false, say at which input.
  Laid BY PROGRAM, IN A SANDBOX (cutbox-rows.mjs): the forced cells as the released guide's own fill.sh prints them over the translation 5871658a7e43929d… (all of the seat's roots in one cut). By AI agents, Wed Nov 11 2026. No macro, syntax, notation, axiom, sorry.
-/
import Derived.Test.YtbifolfakgmdnaaChecked
import GoSem.Claim
import GoSem.ClaimJoined
import GoSem.ClaimMapViews
import Derived.JoinedTies
import Derived.KernelRfl
namespace Go.Proofs.Ytbifolfakgmdnaa
/- THE CELL 'sum', in the pinned program and in every row, IS THE sha256 OF THE DUMP (.gsa) THAT YtbifolfakgmdnaaProg.lean LOADS. Nothing in Lean hashes anything: it is a label: what it is worth is what the hold of that sum in a sandbox is worth. -/
noncomputable def Try.pinned : Pinned := { name := "ytbifolfakgmdnaa", sum := "5871658a7e43929d62377d2f894a97e83dfc301346aa6459024f49f4e75181a1", checked := Try.checked }
namespace Rows
def none {H : Type} : Left H := { results := [], args := [] }

/-- 'conclavelaw12.GasSlots': WHATEVER THE INPUT: true; the input reads as it did. -/
def gasSlotsSpec : ChangeSpec := { name := "gasSlots", fn := fun _ => fun
  | [d1, d2, d3, d4] => { results := [.lit (.bool true)], args := [d1, d2, d3, d4] }
  | _ => none }
def gasSlotsRow : OpenClaim := { program := "ytbifolfakgmdnaa", sum := "5871658a7e43929d62377d2f894a97e83dfc301346aa6459024f49f4e75181a1", func := "conclave/conclavelaw12.GasSlots", spec := "gasSlots", apart := false }
def GasSlotsSaid : Prop := gasSlotsRow.holds Try.pinned (OpenSpec.ofChange gasSlotsSpec)

/-- ITS FALSE NEIGHBOUR: 'it returns false'. Refute it at one input. -/
def gasSlotsWrong : ChangeSpec := { name := "gasSlots", fn := fun _ => fun
  | [d1, d2, d3, d4] => { results := [.lit (.bool false)], args := [d1, d2, d3, d4] }
  | _ => none }
def GasSlotsWrongFalsely : Prop := gasSlotsRow.holds Try.pinned (OpenSpec.ofChange gasSlotsWrong)

/-- 'conclavelaw12.GasBack': WHATEVER THE INPUT: true; the input reads as it did. -/
def gasBackSpec : ChangeSpec := { name := "gasBack", fn := fun _ => fun
  | [d1, d2] => { results := [.lit (.bool true)], args := [d1, d2] }
  | _ => none }
def gasBackRow : OpenClaim := { program := "ytbifolfakgmdnaa", sum := "5871658a7e43929d62377d2f894a97e83dfc301346aa6459024f49f4e75181a1", func := "conclave/conclavelaw12.GasBack", spec := "gasBack", apart := false }
def GasBackSaid : Prop := gasBackRow.holds Try.pinned (OpenSpec.ofChange gasBackSpec)

/-- ITS FALSE NEIGHBOUR: 'it returns false'. Refute it at one input. -/
def gasBackWrong : ChangeSpec := { name := "gasBack", fn := fun _ => fun
  | [d1, d2] => { results := [.lit (.bool false)], args := [d1, d2] }
  | _ => none }
def GasBackWrongFalsely : Prop := gasBackRow.holds Try.pinned (OpenSpec.ofChange gasBackWrong)

/-- 'conclavelaw12.GasGrows': WHATEVER THE INPUT: true; the input reads as it did. -/
def gasGrowsSpec : ChangeSpec := { name := "gasGrows", fn := fun _ => fun
  | [d1, d2] => { results := [.lit (.bool true)], args := [d1, d2] }
  | _ => none }
def gasGrowsRow : OpenClaim := { program := "ytbifolfakgmdnaa", sum := "5871658a7e43929d62377d2f894a97e83dfc301346aa6459024f49f4e75181a1", func := "conclave/conclavelaw12.GasGrows", spec := "gasGrows", apart := false }
def GasGrowsSaid : Prop := gasGrowsRow.holds Try.pinned (OpenSpec.ofChange gasGrowsSpec)

/-- ITS FALSE NEIGHBOUR: 'it returns false'. Refute it at one input. -/
def gasGrowsWrong : ChangeSpec := { name := "gasGrows", fn := fun _ => fun
  | [d1, d2] => { results := [.lit (.bool false)], args := [d1, d2] }
  | _ => none }
def GasGrowsWrongFalsely : Prop := gasGrowsRow.holds Try.pinned (OpenSpec.ofChange gasGrowsWrong)

/-- 'conclavelaw12.GasSizes': WHATEVER THE INPUT: true; the input reads as it did. -/
def gasSizesSpec : ChangeSpec := { name := "gasSizes", fn := fun _ => fun
  | [d1, d2, d3] => { results := [.lit (.bool true)], args := [d1, d2, d3] }
  | _ => none }
def gasSizesRow : OpenClaim := { program := "ytbifolfakgmdnaa", sum := "5871658a7e43929d62377d2f894a97e83dfc301346aa6459024f49f4e75181a1", func := "conclave/conclavelaw12.GasSizes", spec := "gasSizes", apart := false }
def GasSizesSaid : Prop := gasSizesRow.holds Try.pinned (OpenSpec.ofChange gasSizesSpec)

/-- ITS FALSE NEIGHBOUR: 'it returns false'. Refute it at one input. -/
def gasSizesWrong : ChangeSpec := { name := "gasSizes", fn := fun _ => fun
  | [d1, d2, d3] => { results := [.lit (.bool false)], args := [d1, d2, d3] }
  | _ => none }
def GasSizesWrongFalsely : Prop := gasSizesRow.holds Try.pinned (OpenSpec.ofChange gasSizesWrong)

/-- 'conclavelaw12.GasLeft': WHATEVER THE INPUT: true; the input reads as it did. -/
def gasLeftSpec : ChangeSpec := { name := "gasLeft", fn := fun _ => fun
  | [d1, d2, d3, d4] => { results := [.lit (.bool true)], args := [d1, d2, d3, d4] }
  | _ => none }
def gasLeftRow : OpenClaim := { program := "ytbifolfakgmdnaa", sum := "5871658a7e43929d62377d2f894a97e83dfc301346aa6459024f49f4e75181a1", func := "conclave/conclavelaw12.GasLeft", spec := "gasLeft", apart := false }
def GasLeftSaid : Prop := gasLeftRow.holds Try.pinned (OpenSpec.ofChange gasLeftSpec)

/-- ITS FALSE NEIGHBOUR: 'it returns false'. Refute it at one input. -/
def gasLeftWrong : ChangeSpec := { name := "gasLeft", fn := fun _ => fun
  | [d1, d2, d3, d4] => { results := [.lit (.bool false)], args := [d1, d2, d3, d4] }
  | _ => none }
def GasLeftWrongFalsely : Prop := gasLeftRow.holds Try.pinned (OpenSpec.ofChange gasLeftWrong)

/-- 'conclavelaw12.GasPlain': WHATEVER THE INPUT: true; the input reads as it did. -/
def gasPlainSpec : ChangeSpec := { name := "gasPlain", fn := fun _ => fun
  | [d1, d2, d3, d4, d5] => { results := [.lit (.bool true)], args := [d1, d2, d3, d4, d5] }
  | _ => none }
def gasPlainRow : OpenClaim := { program := "ytbifolfakgmdnaa", sum := "5871658a7e43929d62377d2f894a97e83dfc301346aa6459024f49f4e75181a1", func := "conclave/conclavelaw12.GasPlain", spec := "gasPlain", apart := false }
def GasPlainSaid : Prop := gasPlainRow.holds Try.pinned (OpenSpec.ofChange gasPlainSpec)

/-- ITS FALSE NEIGHBOUR: 'it returns false'. Refute it at one input. -/
def gasPlainWrong : ChangeSpec := { name := "gasPlain", fn := fun _ => fun
  | [d1, d2, d3, d4, d5] => { results := [.lit (.bool false)], args := [d1, d2, d3, d4, d5] }
  | _ => none }
def GasPlainWrongFalsely : Prop := gasPlainRow.holds Try.pinned (OpenSpec.ofChange gasPlainWrong)

/- THE SECOND FORM. 'bulk': how many values and letters a reading holds, each counted each time it is reached (what is shared counts as often as it is met; a slice's spare places count too). A statement '..UptoSaid' is the law's where the arguments, and the package variables that the reading takes, are together of bulk at most 1048576: NARROWER than '..Said'. Prove '..Said' where nothing that the law and all that it calls make is longer than what came in: it says more and counts as full. Else prove '..UptoSaid'. A law counts once. -/
mutual
def uptoBulk {H : Type} : DataW H → Nat
  | .lit (.string bytes) => bytes.length + 1
  | .lit _ => 1
  | .nil => 1
  | .ptr d => uptoBulk d + 1
  | .slice elems spare => uptoBulkAll elems + uptoBulkAll spare + 1
  | .agg parts => uptoBulkAll parts + 1
  | .iface _ d => uptoBulk d + 1
  | .map entries => uptoBulkEntries entries + 1
  | .held _ => 1
def uptoBulkAll {H : Type} : List (DataW H) → Nat
  | [] => 0
  | d :: r => uptoBulk d + uptoBulkAll r
def uptoBulkEntries {H : Type} : List (Lit × DataW H) → Nat
  | [] => 0
  | x :: r => uptoBulkEntry x + uptoBulkEntries r
def uptoBulkEntry {H : Type} : Lit × DataW H → Nat
  | (.string bytes, d) => bytes.length + uptoBulk d + 1
  | (_, d) => uptoBulk d + 1
 end
def uptoSmall : (H : Type) → List (DataW H) → Bool := fun _ ds => decide (uptoBulkAll ds ≤ 1048576)
def OpenSpec.upto (s : _root_.Go.ChangeSpec) : _root_.Go.OpenSpec := { _root_.Go.OpenSpec.ofChange s with cond := some uptoSmall }

/-- 'conclavelaw12.GasSlots', WHERE WHAT IT READS IS OF BULK AT MOST 1048576: true; the input reads as it did. -/
def gasSlotsUptoRow : OpenClaim := { program := "ytbifolfakgmdnaa", sum := "5871658a7e43929d62377d2f894a97e83dfc301346aa6459024f49f4e75181a1", func := "conclave/conclavelaw12.GasSlots", spec := "gasSlots", apart := false, narrowed := true }
def GasSlotsUptoSaid : Prop := gasSlotsUptoRow.holds Try.pinned (OpenSpec.upto gasSlotsSpec)

/-- 'conclavelaw12.GasBack', WHERE WHAT IT READS IS OF BULK AT MOST 1048576: true; the input reads as it did. -/
def gasBackUptoRow : OpenClaim := { program := "ytbifolfakgmdnaa", sum := "5871658a7e43929d62377d2f894a97e83dfc301346aa6459024f49f4e75181a1", func := "conclave/conclavelaw12.GasBack", spec := "gasBack", apart := false, narrowed := true }
def GasBackUptoSaid : Prop := gasBackUptoRow.holds Try.pinned (OpenSpec.upto gasBackSpec)

/-- 'conclavelaw12.GasGrows', WHERE WHAT IT READS IS OF BULK AT MOST 1048576: true; the input reads as it did. -/
def gasGrowsUptoRow : OpenClaim := { program := "ytbifolfakgmdnaa", sum := "5871658a7e43929d62377d2f894a97e83dfc301346aa6459024f49f4e75181a1", func := "conclave/conclavelaw12.GasGrows", spec := "gasGrows", apart := false, narrowed := true }
def GasGrowsUptoSaid : Prop := gasGrowsUptoRow.holds Try.pinned (OpenSpec.upto gasGrowsSpec)

/-- 'conclavelaw12.GasSizes', WHERE WHAT IT READS IS OF BULK AT MOST 1048576: true; the input reads as it did. -/
def gasSizesUptoRow : OpenClaim := { program := "ytbifolfakgmdnaa", sum := "5871658a7e43929d62377d2f894a97e83dfc301346aa6459024f49f4e75181a1", func := "conclave/conclavelaw12.GasSizes", spec := "gasSizes", apart := false, narrowed := true }
def GasSizesUptoSaid : Prop := gasSizesUptoRow.holds Try.pinned (OpenSpec.upto gasSizesSpec)

/-- 'conclavelaw12.GasLeft', WHERE WHAT IT READS IS OF BULK AT MOST 1048576: true; the input reads as it did. -/
def gasLeftUptoRow : OpenClaim := { program := "ytbifolfakgmdnaa", sum := "5871658a7e43929d62377d2f894a97e83dfc301346aa6459024f49f4e75181a1", func := "conclave/conclavelaw12.GasLeft", spec := "gasLeft", apart := false, narrowed := true }
def GasLeftUptoSaid : Prop := gasLeftUptoRow.holds Try.pinned (OpenSpec.upto gasLeftSpec)

/-- 'conclavelaw12.GasPlain', WHERE WHAT IT READS IS OF BULK AT MOST 1048576: true; the input reads as it did. -/
def gasPlainUptoRow : OpenClaim := { program := "ytbifolfakgmdnaa", sum := "5871658a7e43929d62377d2f894a97e83dfc301346aa6459024f49f4e75181a1", func := "conclave/conclavelaw12.GasPlain", spec := "gasPlain", apart := false, narrowed := true }
def GasPlainUptoSaid : Prop := gasPlainUptoRow.holds Try.pinned (OpenSpec.upto gasPlainSpec)

end Rows
end Go.Proofs.Ytbifolfakgmdnaa
