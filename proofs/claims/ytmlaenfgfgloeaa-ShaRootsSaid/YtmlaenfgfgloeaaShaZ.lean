import Derived.Test.YtmlaenfgfgloeaaShaQ
/-! conclavelaw03.alive: the value. -/
set_option maxRecDepth 4000
set_option linter.unusedVariables false
set_option linter.unusedSimpArgs false
namespace Go.Proofs.Ytmlaenfgfgloeaa
open Go.RowKit Go.Shelf
def abcS : List (BitVec 8) := [97, 98, 99]
def vC (W s : List (BitVec 64)) : Nat → List (BitVec 64)
  | 0 => s
  | t + 1 => stepV (vC W s t) (nb shaK t) (nb W t)
theorem vC_eq (ys : List (BitVec 8)) (s : List (BitVec 64)) (t : Nat) (ht : t ≤ 80) : vGo (w16 16 ys 128) s t = vC (w80 (w16 80 ys 128) 64) s t := by
  induction t with
  | zero => rfl
  | succ t ih => unfold vGo vC; rw [ih (by omega), w80_word ys t (by omega)]
def blockC (s : List (BitVec 64)) (ys : List (BitVec 8)) : List (BitVec 64) := addGo (vC (w80 (w16 80 ys 128) 64) s 80) s 8
theorem blockC_eq (s : List (BitVec 64)) (ys : List (BitVec 8)) : blockL s ys = blockC s ys := by unfold blockL blockC; rw [vC_eq ys s 80 (by omega)]
theorem sha_one (m : List (BitVec 8)) (h : (padS m).length = 128) : shaL m = outS (blockC shaH (padS m)) 64 := by
  unfold shaL
  rw [h, show 128 / 128 = 1 from rfl]
  show outS (blockL shaH (chunkS (padS m) 0)) 64 = _
  rw [blockC_eq]
  unfold chunkS
  rw [Nat.mul_zero, List.drop_zero, List.take_of_length_le (by omega)]
set_option maxRecDepth 1000000 in
theorem sha_abc : (ny (outS (blockC shaH (padS abcS)) 64) 0 == 0xdd#8 && ny (outS (blockC shaH (padS abcS)) 64) 1 == 0xaf#8 && ny (outS (blockC shaH (padS abcS)) 64) 62 == 0xa4#8 && ny (outS (blockC shaH (padS abcS)) 64) 63 == 0x9f#8) = true := by decide +kernel
end Go.Proofs.Ytmlaenfgfgloeaa
