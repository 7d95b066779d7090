import Derived.Test.YthfolbamidmmiaaBase
/-! gas.Sstore and the reference's: what both answer. -/
set_option maxRecDepth 4000
set_option linter.unusedVariables false
set_option linter.unusedSimpArgs false
namespace Go.Proofs.Ythfolbamidmmiaa
open Go.RowKit

theorem uW : Try.prog.underlying 24 = some (.array 4 22) := by kernel_rfl
theorem uU : Try.prog.underlying 22 = some (.int .u64) := by kernel_rfl
theorem cU : Try.prog.cellsOf 22 = 1 := by kernel_rfl
theorem iU : (Try.prog.info? 22).isSome = true := by kernel_rfl
theorem eqW (a b c d a' b' c' d' : Int) (w : World) : (Op.equalIn 10000 24 (.agg #[.int .u64 a, .int .u64 b, .int .u64 c, .int .u64 d]) (.agg #[.int .u64 a', .int .u64 b', .int .u64 c', .int .u64 d'])).run Try.prog w = .ok (weq [a, b, c, d] [a', b', c', d']) w :=
  run_equalIn_four w uW iU cU uU a b c d a' b' c' d'

set_option maxHeartbeats 400000 in
theorem zero_any (a b c d : Int) (w : World) :
    Calls Try.prog 35 #[.agg #[.int .u64 a, .int .u64 b, .int .u64 c, .int .u64 d]] w fun e w' => e = .returned (.bool (weq [a, b, c, d] [0, 0, 0, 0])) ∧ Below w.heap.size w w' := by
  have he := eqW
  go_enter Try.func35, Try.ntmps35
  go_wp2
  go_ret
  exact ⟨by simp, (by repeat (first | (with_reducible first | exact Below.refl _ _ | assumption | refine World.ext_below_of ?_ ?_ _ | refine Below.setCell ?_ ?_ _ | refine Below.alloc ?_ ?_ _ | refine Below.drew ?_ | refine World.size_le_ext _ _ _ ?_) | (solve | simp [go_sem] | (simp [go_sem]; omega) | omega)))⟩

def sstCost (f n x : List Int) (warm : Bool) : Int :=
  (if warm then 0 else 2100) + if weq x n then 100 else if weq n f then (if weq f [0, 0, 0, 0] then 20000 else 2900) else 100
def sstBack (f n x : List Int) : Int :=
  if weq x n then 0 else if weq n f then (if weq f [0, 0, 0, 0] then 0 else if weq x [0, 0, 0, 0] then 4800 else 0)
  else (if weq f [0, 0, 0, 0] then 0 else if weq n [0, 0, 0, 0] then -4800 else if weq x [0, 0, 0, 0] then 4800 else 0) + (if weq x f then (if weq f [0, 0, 0, 0] then 19900 else 2800) else 0)

set_option maxHeartbeats 1000000 in
theorem sstore_any (f0 f1 f2 f3 n0 n1 n2 n3 x0 x1 x2 x3 : Int) (warm : Bool) (w : World) :
    Calls Try.prog 104 #[.agg #[.int .u64 f0, .int .u64 f1, .int .u64 f2, .int .u64 f3], .agg #[.int .u64 n0, .int .u64 n1, .int .u64 n2, .int .u64 n3], .agg #[.int .u64 x0, .int .u64 x1, .int .u64 x2, .int .u64 x3], .bool warm] w
      fun e w' => e = .returned (.tuple #[.int .u64 (sstCost [f0, f1, f2, f3] [n0, n1, n2, n3] [x0, x1, x2, x3] warm), .int .i64 (sstBack [f0, f1, f2, f3] [n0, n1, n2, n3] [x0, x1, x2, x3])]) ∧ Below w.heap.size w w' := by
  have he := eqW
  go_enter Try.func104, Try.ntmps104
  go_wp2_with (refine wp_region_ext (by kernel_rfl) (by kernel_rfl) ?_; (repeat (go_big_quiet_step (first | (go_at_call 35; with_reducible refine Calls.ext_of (zero_any _ _ _ _ _))))); refine wpQuiet_nil ?_; rintro _ ⟨xw, rfl⟩)
  all_goals
    go_ret2
    exact ⟨by simp_all [sstCost, sstBack], (by repeat (first | (with_reducible first | exact Below.refl _ _ | assumption | refine World.ext_below_of ?_ ?_ _ | refine Below.setCell ?_ ?_ _ | refine Below.alloc ?_ ?_ _ | refine Below.drew ?_ | refine World.size_le_ext _ _ _ ?_) | (solve | simp [go_sem] | (simp [go_sem]; omega) | omega)))⟩

end Go.Proofs.Ythfolbamidmmiaa
