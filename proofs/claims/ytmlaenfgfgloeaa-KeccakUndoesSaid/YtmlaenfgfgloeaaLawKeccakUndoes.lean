import Derived.Test.YtmlaenfgfgloeaaKecU2
import Derived.Test.YtmlaenfgfgloeaaWant
import Derived.Test.YtmlaenfgfgloeaaLawKeccakPermutes
/-! KeccakUndoes. -/
set_option linter.unusedVariables false
set_option linter.unusedSimpArgs false
namespace Go.Proofs.Ytmlaenfgfgloeaa
open Go.RowKit

theorem undoL_len (s : List (BitVec 64)) (hs : s.length = 25) : (undoL s).length = 25 := undoGo_len s hs 24
set_option maxRecDepth 20000 in
set_option maxHeartbeats 1000000 in
theorem walk_KeccakUndoes (w : World) (x : List Int) (lx : x.length = 25) (wx : ∀ y ∈ x, (Lit.int .u64 y).wf = true) :
    Calls Try.prog 9 #[.agg (x.map (Value.int .u64)).toArray] w fun e w' => e = .returned (.bool true) ∧ Below w.heap.size w w' := by
  obtain ⟨s, hs, hx⟩ := words_of x (fun y hy => wf_u64 (wx y hy))
  rw [hx]
  rw [lx] at hs
  have hp : (permL s).length = 25 := by rw [permL_len]; exact hs
  have hq := undoL_len s hs
  have he := eq_same25 s hs
  have h1 := hid fun w => permute_any s w hs
  have h2 : Hid (∀ w, Calls Try.prog 27 #[.agg (cellsB (permL s))] w fun e w' => e = .returned (.agg (cellsB s)) ∧ Below w.heap.size w w') := hid fun w => by
    have := undo_any (permL s) w hp
    rw [undo_perm s hs] at this; exact this
  have h3 := hid fun w => undo_any s w hs
  have h4 : Hid (∀ w, Calls Try.prog 10 #[.agg (cellsB (undoL s))] w fun e w' => e = .returned (.agg (cellsB s)) ∧ Below w.heap.size w w') := hid fun w => by
    have := permute_any (undoL s) w hq
    rw [perm_undo s hs] at this; exact this
  have iS := hid (show (Try.prog.info? 23).map (·.size) = some (cellsB s).size by rw [size_cellsB, hs]; exact iArr25)
  have hS := hid (ArrB.new 23 w s)
  generalize permL s = p at h1 h2
  generalize undoL s = q at h3 h4
  clear hx lx wx hp hq hs
  go_enter Try.func9, Try.ntmps9
  go_wp2
  refine wp_region_ext (by kernel_rfl) (by kernel_rfl) ?_
  (repeat (first | (refine wpQuiet_load_want 23 (.tmp 1) rfl w.heap.size rfl 23 (cellsB s) _ hS.out uArr25 rfl iS.out rfl ?_; simp only [Act.put, List.setIfInBounds_toArray, List.set_cons_zero, List.set_cons_succ]) | (refine wpQuiet_load_part rfl 23 (.tmp 1) rfl w.heap.size 0 rfl 23 _ (cellsB s) (0, 0) _ hS.out (fun j v h => by rw [Nat.zero_add]; exact h) uArr25 rfl iS.out ?_; simp only [Act.put, List.setIfInBounds_toArray, List.set_cons_zero, List.set_cons_succ]) | go_big_quiet_step (first | (go_at_call 10; with_reducible refine Calls.ext_of (h1.out _)) | (go_at_call 10; with_reducible refine Calls.ext_of (h4.out _)) | (go_at_call 27; with_reducible refine Calls.ext_of (h2.out _)) | (go_at_call 27; with_reducible refine Calls.ext_of (h3.out _)) | (go_at_call 12; with_reducible refine Calls.ext_of (kalive_any _)))))
  refine wpQuiet_nil ?_
  rintro _ ⟨xw, rfl⟩
  go_wp2
  go_ret
  exact ⟨rfl, (by repeat (first | (with_reducible first | exact Below.refl _ _ | assumption | refine World.ext_below_of ?_ ?_ _ | refine Below.setCell ?_ ?_ _ | refine Below.alloc ?_ ?_ _ | refine Below.drew ?_ | refine World.size_le_ext _ _ _ ?_) | (solve | simp [go_sem] | (simp [go_sem]; omega) | omega)))⟩
end Go.Proofs.Ytmlaenfgfgloeaa
