import Derived.Test.YtmlaenfgfgloeaaKecAl
/-! KeccakSums. -/
set_option linter.unusedVariables false
set_option linter.unusedSimpArgs false
namespace Go.Proofs.Ytmlaenfgfgloeaa
open Go.RowKit

theorem eq_same32 (p : List (BitVec 8)) (hp : p.length = 32) (w : World) : (Op.equalIn 10000 29 (.agg (cellsY p)) (.agg (cellsY p))).run Try.prog w = .ok true w := by
  have := run_equalIn_ints (P := Try.prog) w 9998 uHash (by kernel_rfl) (by kernel_rfl) uY1 (p.map yv) (p.map yv) (by simpa using hp) (by simpa using hp)
  rw [show (cellsY p) = ((p.map yv).map (Value.int .u8)).toArray from by simp [cellsY]]
  simpa using this

set_option maxRecDepth 20000 in
set_option maxHeartbeats 1000000 in
theorem walk_KeccakSums (w : World) (v : Value) (m : List (BitVec 8)) (hr : RdY w v m) (hm : m.length ≤ 140737488351232) :
    Calls Try.prog 4 #[v] w fun e w' => e = .returned (.bool true) ∧ Below w.heap.size w w' := by
  have he := eq_same32 (sumL m) (sumL_len m)
  have h1 := hid fun w' (h : Below w.heap.size w w') => sum_any m v w' (hr.below h) (by omega)
  have h2 := hid fun w' (h : Below w.heap.size w w') => refSum_any m v w' (hr.below h) hm
  generalize sumL m = p at he h1 h2
  clear hr hm
  go_enter Try.func4, Try.ntmps4
  go_wp2_with (first | (go_at_call 13; (with_reducible refine (Calls.asExt (h1.out _ (by repeat (first | (with_reducible first | exact Below.refl _ _ | assumption | refine World.ext_below_of ?_ ?_ _ | refine Below.setCell ?_ ?_ _ | refine Below.alloc ?_ ?_ _ | refine Below.drew ?_ | refine World.size_le_ext _ _ _ ?_) | (solve | simp [go_sem] | (simp [go_sem]; omega) | omega))))).mono ?_); rintro _ _ ⟨rfl, _, rfl⟩) | (go_at_call 14; (with_reducible refine (Calls.asExt (h2.out _ (by repeat (first | (with_reducible first | exact Below.refl _ _ | assumption | refine World.ext_below_of ?_ ?_ _ | refine Below.setCell ?_ ?_ _ | refine Below.alloc ?_ ?_ _ | refine Below.drew ?_ | refine World.size_le_ext _ _ _ ?_) | (solve | simp [go_sem] | (simp [go_sem]; omega) | omega))))).mono ?_); rintro _ _ ⟨rfl, _, rfl⟩) | (go_at_call 12; (with_reducible refine (Calls.asExt (kalive_any _)).mono ?_); rintro _ _ ⟨rfl, _, rfl⟩))
  go_ret
  exact ⟨rfl, (by repeat (first | (with_reducible first | exact Below.refl _ _ | assumption | refine World.ext_below_of ?_ ?_ _ | refine Below.setCell ?_ ?_ _ | refine Below.alloc ?_ ?_ _ | refine Below.drew ?_ | refine World.size_le_ext _ _ _ ?_) | (solve | simp [go_sem] | (simp [go_sem]; omega) | omega)))⟩
end Go.Proofs.Ytmlaenfgfgloeaa
