import Derived.Test.YthfolbamidmmiaaGasA
/-! What sizes cost: the program's functions and the reference's. -/
set_option maxRecDepth 4000
set_option linter.unusedVariables false
set_option linter.unusedSimpArgs false
namespace Go.Proofs.Ythfolbamidmmiaa
open Go.RowKit

def great : Int := 4611686018427387904
def perV (n base each : Int) : Int := if 4294967296 < n then great else base + each * ((n + 31) / 32)
theorem perV_bd (n base each : Int) (h0 : 0 ≤ n) (hb0 : 0 ≤ base) (hb : base ≤ 65536) (he0 : 0 ≤ each) (he : each ≤ 8) : 0 ≤ perV n base each ∧ perV n base each ≤ great := by
  unfold perV great
  split
  · omega
  · have : 0 ≤ (n + 31) / 32 := by omega
    have h2 : (n + 31) / 32 ≤ 134217728 := by omega
    have h3 : each * ((n + 31) / 32) ≤ 8 * 134217728 := Int.mul_le_mul he h2 this (by omega)
    have h4 : 0 ≤ each * ((n + 31) / 32) := Int.mul_nonneg he0 this
    omega

theorem per_any (n base each : Int) (w : World) (h0 : 0 ≤ n) (hb0 : 0 ≤ base) (hb : base ≤ 65536) (he0 : 0 ≤ each) (he : each ≤ 8) :
    Calls Try.prog 101 #[.int .u64 n, .int .u64 base, .int .u64 each] w fun e w' => e = .returned (.int .u64 (perV n base each)) ∧ Below w.heap.size w w' := by

  by_cases c : 4294967296 < n
  · go_enter Try.func101, Try.ntmps101
    go_wp2
    go_ret
    exact ⟨by simp [perV, c, great], (by repeat (first | (with_reducible first | exact Below.refl _ _ | assumption | refine World.ext_below_of ?_ ?_ _ | refine Below.setCell ?_ ?_ _ | refine Below.alloc ?_ ?_ _ | refine Below.drew ?_ | refine World.size_le_ext _ _ _ ?_) | (solve | simp [go_sem] | (simp [go_sem]; omega) | omega)))⟩
  · have hq : 0 ≤ (n + 31) / 32 := by omega
    have h2 : (n + 31) / 32 ≤ 134217728 := by omega
    have h3 : each * ((n + 31) / 32) ≤ 8 * 134217728 := Int.mul_le_mul he h2 hq (by omega)
    have h4 : 0 ≤ each * ((n + 31) / 32) := Int.mul_nonneg he0 hq
    go_enter Try.func101, Try.ntmps101
    go_wp2
    go_ret
    exact ⟨ret_int (by unfold perV; rw [if_neg (by omega)]), (by repeat (first | (with_reducible first | exact Below.refl _ _ | assumption | refine World.ext_below_of ?_ ?_ _ | refine Below.setCell ?_ ?_ _ | refine Below.alloc ?_ ?_ _ | refine Below.drew ?_ | refine World.size_le_ext _ _ _ ?_) | (solve | simp [go_sem] | (simp [go_sem]; omega) | omega)))⟩

theorem sized_any (n base each : Int) (w : World) (h0 : 0 ≤ n) (hb0 : 0 ≤ base) (hb : base ≤ 65536) (he0 : 0 ≤ each) (he : each ≤ 8) :
    Calls Try.prog 116 #[.int .u64 n, .int .u64 base, .int .u64 each] w fun e w' => e = .returned (.int .u64 (perV n base each)) ∧ Below w.heap.size w w' := by
  by_cases c : 4294967296 < n
  · go_enter Try.func116, Try.ntmps116
    go_wp2
    go_ret
    exact ⟨ret_int (by unfold perV; rw [if_pos (by omega)]; rfl), (by repeat (first | (with_reducible first | exact Below.refl _ _ | assumption | refine World.ext_below_of ?_ ?_ _ | refine Below.setCell ?_ ?_ _ | refine Below.alloc ?_ ?_ _ | refine Below.drew ?_ | refine World.size_le_ext _ _ _ ?_) | (solve | simp [go_sem] | (simp [go_sem]; omega) | omega)))⟩
  · have hq : 0 ≤ (n + 31) / 32 := by omega
    have h2 : (n + 31) / 32 ≤ 134217728 := by omega
    have h3 : each * ((n + 31) / 32) ≤ 8 * 134217728 := Int.mul_le_mul he h2 hq (by omega)
    have h4 : 0 ≤ each * ((n + 31) / 32) := Int.mul_nonneg he0 hq
    go_enter Try.func116, Try.ntmps116
    go_wp2
    go_ret
    exact ⟨ret_int (by unfold perV; rw [if_neg (by omega)]), (by repeat (first | (with_reducible first | exact Below.refl _ _ | assumption | refine World.ext_below_of ?_ ?_ _ | refine Below.setCell ?_ ?_ _ | refine Below.alloc ?_ ?_ _ | refine Below.drew ?_ | refine World.size_le_ext _ _ _ ?_) | (solve | simp [go_sem] | (simp [go_sem]; omega) | omega)))⟩

theorem words_any (n : Int) (w : World) (h0 : 0 ≤ n) :
    Calls Try.prog 117 #[.int .u64 n] w fun e w' => e = .returned (.int .u64 (perV n 0 1)) ∧ Below w.heap.size w w' := by
  go_enter Try.func117, Try.ntmps117
  go_wp2_with (go_at_call 101; refine (per_any n 0 1 _ h0 (by omega) (by omega) (by omega) (by omega)).mono ?_; rintro e w' ⟨rfl, hb⟩)
  go_ret
  exact ⟨rfl, hb⟩
theorem refWords_any (n : Int) (w : World) (h0 : 0 ≤ n) :
    Calls Try.prog 102 #[.int .u64 n] w fun e w' => e = .returned (.int .u64 (perV n 0 1)) ∧ Below w.heap.size w w' := by
  go_enter Try.func102, Try.ntmps102
  go_wp2_with (go_at_call 116; refine (sized_any n 0 1 _ h0 (by omega) (by omega) (by omega) (by omega)).mono ?_; rintro e w' ⟨rfl, hb⟩)
  go_ret
  exact ⟨rfl, hb⟩
def memV (n : Int) : Int := if 4294967296 < n then great else 3 * ((n + 31) / 32) + ((n + 31) / 32) * ((n + 31) / 32) / 512
theorem memory_any (n : Int) (w : World) (h0 : 0 ≤ n) :
    Calls Try.prog 105 #[.int .u64 n] w fun e w' => e = .returned (.int .u64 (memV n)) ∧ Below w.heap.size w w' := by
  by_cases c : 4294967296 < n
  · have hp : perV n 0 1 = great := by unfold perV; rw [if_pos c]
    have h := fun w => words_any n w h0
    rw [hp] at h
    unfold great at h
    go_enter Try.func105, Try.ntmps105
    go_wp2_with (go_at_call 117; refine (h _).mono ?_; rintro e w' ⟨rfl, hb⟩)
    go_ret
    exact ⟨ret_int (by unfold memV; rw [if_pos (by omega)]; rfl), (by repeat (first | (with_reducible first | exact Below.refl _ _ | assumption | refine World.ext_below_of ?_ ?_ _ | refine Below.setCell ?_ ?_ _ | refine Below.alloc ?_ ?_ _ | refine Below.drew ?_ | refine World.size_le_ext _ _ _ ?_) | (solve | simp [go_sem] | (simp [go_sem]; omega) | omega)))⟩
  · obtain ⟨q, hq⟩ : ∃ q, q = (n + 31) / 32 := ⟨_, rfl⟩
    have hp : perV n 0 1 = q := by unfold perV; rw [if_neg c]; omega
    have hm : memV n = 3 * q + q * q / 512 := by unfold memV; rw [if_neg c, ← hq]
    have h := fun w => words_any n w h0
    rw [hp] at h
    rw [hm]
    have h0 : 0 ≤ q := by omega
    have h2 : q ≤ 134217728 := by omega
    have h3 : q * q ≤ 134217728 * 134217728 := Int.mul_le_mul h2 h2 h0 (by omega)
    have h4 : 0 ≤ q * q := Int.mul_nonneg h0 h0
    have h5 : q * q / 512 ≤ 35184372088832 := by omega
    have h6 : 0 ≤ q * q / 512 := by omega
    have h7 : (q == 4611686018427387904) = false := by rw [beq_eq_false_iff_ne]; omega
    clear hp hm hq c
    go_enter Try.func105, Try.ntmps105
    go_wp2_with (go_at_call 117; refine (h _).mono ?_; rintro e w' ⟨rfl, hb⟩)
    trace_state
    go_ret
    exact ⟨ret_int (by rfl), (by repeat (first | (with_reducible first | exact Below.refl _ _ | assumption | refine World.ext_below_of ?_ ?_ _ | refine Below.setCell ?_ ?_ _ | refine Below.alloc ?_ ?_ _ | refine Below.drew ?_ | refine World.size_le_ext _ _ _ ?_) | (solve | simp [go_sem] | (simp [go_sem]; omega) | omega)))⟩
end Go.Proofs.Ythfolbamidmmiaa
