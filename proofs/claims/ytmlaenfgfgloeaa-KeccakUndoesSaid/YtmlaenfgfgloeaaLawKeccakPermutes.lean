import Derived.Test.YtmlaenfgfgloeaaKecAl
import Derived.Test.YtmlaenfgfgloeaaFrame
/-! KeccakPermutes. -/
set_option linter.unusedVariables false
set_option linter.unusedSimpArgs false
namespace Go.Proofs.Ytmlaenfgfgloeaa
open Go.RowKit

theorem eq_same25 (p : List (BitVec 64)) (hp : p.length = 25) (w : World) : (Op.equalIn 10000 23 (.agg (cellsB p)) (.agg (cellsB p))).run Try.prog w = .ok true w := by
  have := run_equalIn_ints (P := Try.prog) w 9998 uArr25 iU cU uU (p.map iv) (p.map iv) (by simpa using hp) (by simpa using hp)
  rw [show (cellsB p) = ((p.map iv).map (Value.int .u64)).toArray from by simp [cellsB]]
  simpa using this

set_option maxRecDepth 20000 in
set_option maxHeartbeats 1000000 in
theorem walk_KeccakPermutes (w : World) (x : List Int) (lx : x.length = 25) (wx : ∀ y ∈ x, (Lit.int .u64 y).wf = true) :
    Calls Try.prog 3 #[.agg (x.map (Value.int .u64)).toArray] w fun e w' => e = .returned (.bool true) ∧ Below w.heap.size w w' := by
  obtain ⟨s, hs, hx⟩ := words_of x (fun y hy => wf_u64 (wx y hy))
  rw [hx]
  rw [lx] at hs
  have hp : (permL s).length = 25 := by rw [permL_len]; exact hs
  have he := eq_same25 (permL s) hp
  have h1 := hid fun w => permute_any s w hs
  have h2 := hid fun w => refPermute_any s w hs
  have iS := hid (show (Try.prog.info? 23).map (·.size) = some (cellsB s).size by rw [size_cellsB, hs]; exact iArr25)
  have hS := hid (ArrB.new 23 w s)
  generalize permL s = p at he h1 h2
  clear hx lx wx hp hs
  go_enter Try.func3, Try.ntmps3
  go_wp2
  refine wp_region_ext (by kernel_rfl) (by kernel_rfl) ?_
  (repeat (first | (refine wpQuiet_load_part rfl 23 (.tmp 1) rfl w.heap.size 0 rfl 23 _ (cellsB s) (0, 0) _ hS.out (fun j v h => by rw [Nat.zero_add]; exact h) uArr25 rfl iS.out ?_; simp only [Act.put, List.setIfInBounds_toArray, List.set_cons_zero, List.set_cons_succ]) | go_big_quiet_step (first | (go_at_call 10; with_reducible refine Calls.ext_of (h1.out _)) | (go_at_call 11; with_reducible refine Calls.ext_of (h2.out _)) | (go_at_call 12; with_reducible refine Calls.ext_of (kalive_any _)))))
  refine wpQuiet_nil ?_
  rintro _ ⟨xw, rfl⟩
  go_wp2
  go_ret
  exact ⟨rfl, (by repeat (first | (with_reducible first | exact Below.refl _ _ | assumption | refine World.ext_below_of ?_ ?_ _ | refine Below.setCell ?_ ?_ _ | refine Below.alloc ?_ ?_ _ | refine Below.drew ?_ | refine World.size_le_ext _ _ _ ?_) | (solve | simp [go_sem] | (simp [go_sem]; omega) | omega)))⟩
end Go.Proofs.Ytmlaenfgfgloeaa
