import Derived.Test.YtmlaenfgfgloeaaKecA
import Derived.Test.YtmlaenfgfgloeaaArr
/-! keccak.where, keccak.constant. -/
set_option maxRecDepth 4000
set_option linter.unusedVariables false
set_option linter.unusedSimpArgs false
namespace Go.Proofs.Ytmlaenfgfgloeaa
open Go.RowKit

def lanesL : List Nat := [10, 7, 11, 17, 18, 3, 5, 16, 8, 21, 24, 4, 15, 23, 19, 13, 12, 2, 20, 14, 22, 9, 6, 1]
def turnsL : List Nat := [1, 3, 6, 10, 15, 21, 28, 36, 45, 55, 2, 14, 27, 41, 56, 8, 25, 43, 62, 18, 39, 61, 20, 44]
def constL : List (BitVec 64) := [1, 32898, 9223372036854808714, 9223372039002292224, 32907, 2147483649, 9223372039002292353, 9223372036854808585, 138, 136, 2147516425, 2147483658, 2147516555, 9223372036854775947, 9223372036854808713, 9223372036854808579, 9223372036854808578, 9223372036854775936, 32778, 9223372039002259466, 9223372039002292353, 9223372036854808704, 2147483649, 9223372039002292232]
def laneN (i : Nat) : Nat := lanesL.getD i 0
def turnN (i : Nat) : Nat := turnsL.getD i 0
theorem lane_bd (i : Nat) : laneN i < 25 := by
  unfold laneN lanesL
  by_cases h : i < 24
  · exact of_decide_eq_true ((by decide +kernel : ∀ i, i < 24 → decide (([10, 7, 11, 17, 18, 3, 5, 16, 8, 21, 24, 4, 15, 23, 19, 13, 12, 2, 20, 14, 22, 9, 6, 1] : List Nat).getD i 0 < 25) = true) i h)
  · simp [List.getD, show ([10, 7, 11, 17, 18, 3, 5, 16, 8, 21, 24, 4, 15, 23, 19, 13, 12, 2, 20, 14, 22, 9, 6, 1] : List Nat)[i]? = none from List.getElem?_eq_none (by simp; omega)]
theorem turn_bd (i : Nat) : turnN i < 64 := by
  unfold turnN turnsL
  by_cases h : i < 24
  · exact of_decide_eq_true ((by decide +kernel : ∀ i, i < 24 → decide (([1, 3, 6, 10, 15, 21, 28, 36, 45, 55, 2, 14, 27, 41, 56, 8, 25, 43, 62, 18, 39, 61, 20, 44] : List Nat).getD i 0 < 64) = true) i h)
  · simp [List.getD, show ([1, 3, 6, 10, 15, 21, 28, 36, 45, 55, 2, 14, 27, 41, 56, 8, 25, 43, 62, 18, 39, 61, 20, 44] : List Nat)[i]? = none from List.getElem?_eq_none (by simp; omega)]
def lanesV : Array Value := (lanesL.map fun n : Nat => Value.int .i64 n).toArray
def turnsV : Array Value := (turnsL.map fun n : Nat => Value.int .i64 n).toArray
def zerosV (n : Nat) : Array Value := Array.replicate n (.int .i64 0)
theorem lanes_at (i : Nat) (h : i < 24) : lanesV[i]? = some (.int .i64 (laneN i)) := by
  unfold laneN lanesV
  simp [show i < lanesL.length from h]
theorem turns_at (i : Nat) (h : i < 24) : turnsV[i]? = some (.int .i64 (turnN i)) := by
  unfold turnN turnsV
  simp [show i < turnsL.length from h]

set_option maxHeartbeats 1000000 in
theorem where_any (i : Nat) (w : World) (h : i < 24) :
    Calls Try.prog 29 #[.int .i64 i] w fun e w' => e = .returned (.tuple #[.int .i64 (laneN i), .int .i64 (turnN i)]) ∧ Below w.heap.size w w' := by
  have h1 := lanes_at i h
  have h2 := turns_at i h
  go_enter Try.func29, Try.ntmps29
  go_wp2_with (first | (refine wpList_newArr 83 _ 6 4 lanesV (zerosV 24) rfl rfl rfl rfl rfl rfl rfl rfl rfl (by decide) (by simp) (by simp) (by kernel_rfl) (by kernel_rfl) (by kernel_rfl) (by kernel_rfl) (by kernel_rfl) ?_; simp only [Act.put, List.setIfInBounds_toArray, List.set_cons_zero, List.set_cons_succ]) | (refine wpList_newArr 83 _ 7 5 turnsV (zerosV 24) rfl rfl rfl rfl rfl rfl rfl rfl rfl (by decide) (by simp) (by simp) (by kernel_rfl) (by kernel_rfl) (by kernel_rfl) (by kernel_rfl) (by kernel_rfl) ?_; simp only [Act.put, List.setIfInBounds_toArray, List.set_cons_zero, List.set_cons_succ]) | (refine wp_region_ext (by kernel_rfl) (by kernel_rfl) ?_; (repeat (go_big_quiet_step (first | fail))); refine wpQuiet_nil ?_; rintro _ ⟨xw, rfl⟩))
  go_ret2
  exact ⟨rfl, (by repeat (first | (with_reducible first | exact Below.refl _ _ | assumption | refine World.ext_below_of ?_ ?_ _ | refine Below.setCell ?_ ?_ _ | refine Below.alloc ?_ ?_ _ | refine Below.drew ?_ | refine World.size_le_ext _ _ _ ?_) | (solve | simp [go_sem] | (simp [go_sem]; omega) | omega)))⟩

theorem u55 : Try.prog.underlying 55 = some (.array 24 22) := by kernel_rfl
theorem uU : Try.prog.underlying 22 = some (.int .u64) := by kernel_rfl
theorem cU : Try.prog.cellsOf 22 = 1 := by kernel_rfl
theorem iU : (Try.prog.info? 22).isSome = true := by kernel_rfl
def constI : List Int := [1, 32898, 9223372036854808714, 9223372039002292224, 32907, 2147483649, 9223372039002292353, 9223372036854808585, 138, 136, 2147516425, 2147483658, 2147516555, 9223372036854775947, 9223372036854808713, 9223372036854808579, 9223372036854808578, 9223372036854775936, 32778, 9223372039002259466, 9223372039002292353, 9223372036854808704, 2147483649, 9223372039002292232]
theorem constI_eq : constI = constL.map iv := by decide +kernel
theorem consts_at (i : Nat) (h : i < 24) : constI.getD i 0 = iv (nb constL i) := by
  rw [constI_eq]
  unfold nb
  simp [show i < constL.length from h]
theorem idxC (i : Nat) (h : i < 24) (w : World) : (Instr.index 55 (.agg #[.int .u64 1, .int .u64 32898, .int .u64 9223372036854808714, .int .u64 9223372039002292224, .int .u64 32907, .int .u64 2147483649, .int .u64 9223372039002292353, .int .u64 9223372036854808585, .int .u64 138, .int .u64 136, .int .u64 2147516425, .int .u64 2147483658, .int .u64 2147516555, .int .u64 9223372036854775947, .int .u64 9223372036854808713, .int .u64 9223372036854808579, .int .u64 9223372036854808578, .int .u64 9223372036854775936, .int .u64 32778, .int .u64 9223372039002259466, .int .u64 9223372039002292353, .int .u64 9223372036854808704, .int .u64 2147483649, .int .u64 9223372039002292232]) (.int .i64 i)).run Try.prog w = .ok (.int .u64 (iv (nb constL i))) w := by
  have hix := run_index_ints (k' := .i64) u55 iU cU uU constI rfl (i : Int) (by omega) (by omega) w
  rw [Int.toNat_natCast, consts_at i h] at hix
  exact hix
set_option maxHeartbeats 1000000 in
theorem constant_any (i : Nat) (w : World) (h : i < 24) :
    Calls Try.prog 31 #[.int .i64 i] w fun e w' => e = .returned (.int .u64 (iv (nb constL i))) ∧ Below w.heap.size w w' := by
  have hix := idxC i h
  go_enter Try.func31, Try.ntmps31
  go_wp2
  go_ret
  exact ⟨rfl, (by repeat (first | (with_reducible first | exact Below.refl _ _ | assumption | refine World.ext_below_of ?_ ?_ _ | refine Below.setCell ?_ ?_ _ | refine Below.alloc ?_ ?_ _ | refine Below.drew ?_ | refine World.size_le_ext _ _ _ ?_) | (solve | simp [go_sem] | (simp [go_sem]; omega) | omega)))⟩
end Go.Proofs.Ytmlaenfgfgloeaa
