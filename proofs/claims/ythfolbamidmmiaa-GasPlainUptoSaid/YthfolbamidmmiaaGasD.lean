import Derived.Test.YthfolbamidmmiaaGasC
/-! alive: the chapter's examples. -/
set_option maxRecDepth 4000
set_option linter.unusedVariables false
set_option linter.unusedSimpArgs false
namespace Go.Proofs.Ythfolbamidmmiaa
open Go.RowKit

theorem alive1 (w : World) : Calls Try.prog 104 #[.agg #[.int .u64 0, .int .u64 0, .int .u64 0, .int .u64 0], .agg #[.int .u64 0, .int .u64 0, .int .u64 0, .int .u64 0], .agg #[.int .u64 1, .int .u64 0, .int .u64 0, .int .u64 0], .bool false] w
    fun e w' => e = .returned (.tuple #[.int .u64 22100, .int .i64 0]) ∧ Below w.heap.size w w' := by
  have h := sstore_any 0 0 0 0 0 0 0 0 1 0 0 0 false w
  rw [show sstCost [0, 0, 0, 0] [0, 0, 0, 0] [1, 0, 0, 0] false = 22100 from by decide, show sstBack [0, 0, 0, 0] [0, 0, 0, 0] [1, 0, 0, 0] = 0 from by decide] at h
  exact h
theorem alive2 (w : World) : Calls Try.prog 104 #[.agg #[.int .u64 1, .int .u64 0, .int .u64 0, .int .u64 0], .agg #[.int .u64 1, .int .u64 0, .int .u64 0, .int .u64 0], .agg #[.int .u64 0, .int .u64 0, .int .u64 0, .int .u64 0], .bool true] w
    fun e w' => e = .returned (.tuple #[.int .u64 2900, .int .i64 4800]) ∧ Below w.heap.size w w' := by
  have h := sstore_any 1 0 0 0 1 0 0 0 0 0 0 0 true w
  rw [show sstCost [1, 0, 0, 0] [1, 0, 0, 0] [0, 0, 0, 0] true = 2900 from by decide, show sstBack [1, 0, 0, 0] [1, 0, 0, 0] [0, 0, 0, 0] = 4800 from by decide] at h
  exact h
theorem alive3 (w : World) : Calls Try.prog 105 #[.int .u64 32] w fun e w' => e = .returned (.int .u64 3) ∧ Below w.heap.size w w' := memory_any 32 w (by omega)
theorem alive4 (w : World) : Calls Try.prog 105 #[.int .u64 32768] w fun e w' => e = .returned (.int .u64 5120) ∧ Below w.heap.size w w' := memory_any 32768 w (by omega)
theorem alive5 (b : Nat) (w : World) (hb : b < w.heap.size) (h0 : w.cell? ⟨b, 0, none⟩ = some (.int .u8 0)) (h1 : w.cell? ⟨b, 1, none⟩ = some (.int .u8 1)) :
    Calls Try.prog 63 #[.slice (some ⟨b, 0, none⟩) 2 2, .bool false] w fun e w' => e = .returned (.int .u64 21020) ∧ Below w.heap.size w w' :=
  intrinsic_any [0, 1] _ false w (by decide) (fun j => by match j with | 0 => decide | 1 => decide | j + 2 => simp) ⟨_, _, rfl, fun _ => ⟨b, 0, rfl, hb, fun j hj => by
    match j, hj with
    | 0, _ => exact h0
    | 1, _ => exact h1⟩⟩

set_option maxHeartbeats 1000000 in
theorem alive_any (w : World) : Calls Try.prog 73 #[] w fun e w' => e = .returned (.bool true) ∧ Below w.heap.size w w' := by
  go_enter Try.func73, Try.ntmps73
  go_wp2_with fail
  refine (alive1 _).mono ?_; rintro e w1 ⟨rfl, hb1⟩
  go_wp2_with fail
  refine (alive2 _).mono ?_; rintro e w2 ⟨rfl, hb2⟩
  go_wp2_with fail
  refine (alive3 _).mono ?_; rintro e w3 ⟨rfl, hb3⟩
  go_wp2_with fail
  refine (alive4 _).mono ?_; rintro e w4 ⟨rfl, hb4⟩
  go_wp2_with fail
  refine (alive5 _ _ ?_ ?_ ?_).mono ?_
  · simp [go_sem]
  · simp [go_sem]
  · simp [go_sem]
  rintro e w5 ⟨rfl, hb5⟩
  go_wp2_with fail
  go_ret
  exact ⟨rfl, below_next ((below_next (below_next (below_next hb1 (Nat.le_refl _) hb2) (Nat.le_refl _) hb3) (Nat.le_refl _) hb4).alloc (Nat.le_trans hb1.size (Nat.le_trans hb2.size (Nat.le_trans hb3.size hb4.size))) _) (Nat.le_refl _) hb5⟩
end Go.Proofs.Ythfolbamidmmiaa
