import Derived.Test.YtmlaenfgfgloeaaShaAl
/-! ShaSums. -/
set_option linter.unusedVariables false
set_option linter.unusedSimpArgs false
namespace Go.Proofs.Ytmlaenfgfgloeaa
open Go.RowKit

theorem eq_same64 (p : List (BitVec 8)) (hp : p.length = 64) (w : World) : (Op.equalIn 10000 38 (.agg (cellsY p)) (.agg (cellsY p))).run Try.prog w = .ok true w := by
  have := run_equalIn_ints (P := Try.prog) w 9998 u64h (by kernel_rfl) (by kernel_rfl) uY1 (p.map yv) (p.map yv) (by simpa using hp) (by simpa using hp)
  rw [show (cellsY p) = ((p.map yv).map (Value.int .u8)).toArray from by simp [cellsY]]
  simpa using this

set_option maxRecDepth 20000 in
set_option maxHeartbeats 1000000 in
theorem walk_ShaSums (w : World) (v : Value) (m : List (BitVec 8)) (hr : RdY w v m) (hm : m.length ≤ 140737488351232) :
    Calls Try.prog 6 #[v] w fun e w' => e = .returned (.bool true) ∧ Below w.heap.size w w' := by
  have he := eq_same64 (shaL m) (shaL_len m)
  have h1 := hid fun w' (h : Below w.heap.size w w') => ssum_any m v w' (hr.below h) hm
  have h2 := hid fun w' (h : Below w.heap.size w w') => rsum_any m v w' (hr.below h) hm
  generalize shaL m = p at he h1 h2
  clear hr hm
  go_enter Try.func6, Try.ntmps6
  go_wp2_with (first | (go_at_call 18; (with_reducible refine (Calls.asExt (h1.out _ (by repeat (first | (with_reducible first | exact Below.refl _ _ | assumption | refine World.ext_below_of ?_ ?_ _ | refine Below.setCell ?_ ?_ _ | refine Below.alloc ?_ ?_ _ | refine Below.drew ?_ | refine World.size_le_ext _ _ _ ?_) | (solve | simp [go_sem] | (simp [go_sem]; omega) | omega))))).mono ?_); rintro _ _ ⟨rfl, _, rfl⟩) | (go_at_call 19; (with_reducible refine (Calls.asExt (h2.out _ (by repeat (first | (with_reducible first | exact Below.refl _ _ | assumption | refine World.ext_below_of ?_ ?_ _ | refine Below.setCell ?_ ?_ _ | refine Below.alloc ?_ ?_ _ | refine Below.drew ?_ | refine World.size_le_ext _ _ _ ?_) | (solve | simp [go_sem] | (simp [go_sem]; omega) | omega))))).mono ?_); rintro _ _ ⟨rfl, _, rfl⟩) | (go_at_call 20; (with_reducible refine (Calls.asExt (salive_any _)).mono ?_); rintro _ _ ⟨rfl, _, rfl⟩))
  go_ret
  exact ⟨rfl, (by repeat (first | (with_reducible first | exact Below.refl _ _ | assumption | refine World.ext_below_of ?_ ?_ _ | refine Below.setCell ?_ ?_ _ | refine Below.alloc ?_ ?_ _ | refine Below.drew ?_ | refine World.size_le_ext _ _ _ ?_) | (solve | simp [go_sem] | (simp [go_sem]; omega) | omega)))⟩
end Go.Proofs.Ytmlaenfgfgloeaa
