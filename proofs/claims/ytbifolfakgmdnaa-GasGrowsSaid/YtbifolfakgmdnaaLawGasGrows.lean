import Derived.Test.YtbifolfakgmdnaaGasE
import Derived.Test.YtbifolfakgmdnaaFrame
/-! GasGrows. -/
namespace Go.Proofs.Ytbifolfakgmdnaa
open Go.RowKit
set_option linter.unusedVariables false

theorem words_facts (a b : Int) (h0 : 0 ≤ a) (h : a ≤ b) (hb : b ≤ 4294967296) :
    0 ≤ perV a 0 1 ∧ perV a 0 1 ≤ perV b 0 1 ∧ perV b 0 1 ≤ 134217728 ∧ 0 ≤ memV a ∧ memV a ≤ memV b ∧ memV b ≤ 40000000000000 ∧ 3 * (perV b 0 1 - perV a 0 1) ≤ memV b - memV a := by
  unfold perV memV
  rw [if_neg (by omega), if_neg (by omega), if_neg (by omega), if_neg (by omega)]
  obtain ⟨p, hp⟩ : ∃ p, p = (a + 31) / 32 := ⟨_, rfl⟩
  obtain ⟨q, hq⟩ : ∃ q, q = (b + 31) / 32 := ⟨_, rfl⟩
  rw [← hp, ← hq]
  have h1 : 0 ≤ p := by omega
  have h2 : p ≤ q := by omega
  have h3 : q ≤ 134217728 := by omega
  have h4 : p * p ≤ q * q := Int.mul_le_mul h2 h2 h1 (by omega)
  have h5 : 0 ≤ p * p := Int.mul_nonneg h1 h1
  have h6 : q * q ≤ 134217728 * 134217728 := Int.mul_le_mul h3 h3 (by omega) (by omega)
  clear hp hq
  generalize p * p = pp at *
  generalize q * q = qq at *
  omega

theorem grows_core (a b : Int) (h0 : 0 ≤ a) (h : a ≤ b) (hb : b ≤ 4294967296) (w : World) : ∃ wa wb ma mb : Int, (0 ≤ wa ∧ wa ≤ wb ∧ wb ≤ 134217728 ∧ 0 ≤ ma ∧ ma ≤ mb ∧ mb ≤ 40000000000000 ∧ 3 * (wb - wa) ≤ mb - ma) ∧
    Hid (∀ w, Calls Try.prog 13 #[.int .u64 a] w fun e w' => e = .returned (.int .u64 wa) ∧ Below w.heap.size w w') ∧
    Hid (∀ w, Calls Try.prog 13 #[.int .u64 b] w fun e w' => e = .returned (.int .u64 wb) ∧ Below w.heap.size w w') ∧
    Hid (∀ w, Calls Try.prog 12 #[.int .u64 a] w fun e w' => e = .returned (.int .u64 ma) ∧ Below w.heap.size w w') ∧
    Hid (∀ w, Calls Try.prog 12 #[.int .u64 b] w fun e w' => e = .returned (.int .u64 mb) ∧ Below w.heap.size w w') :=
  ⟨_, _, _, _, words_facts a b h0 h hb, hid fun w => words_any a w h0, hid fun w => words_any b w (by omega), hid fun w => memory_any a w h0, hid fun w => memory_any b w (by omega)⟩

set_option maxHeartbeats 1000000 in
theorem walk_GasGrows (w : World) (a : Int) (wa : (Lit.int .u64 a).wf = true) (b : Int) (wb : (Lit.int .u64 b).wf = true) :
    Calls Try.prog 5 #[.int .u64 a, .int .u64 b] w fun e w' => e = .returned (.bool true) ∧ Below w.heap.size w w' := by
  obtain ⟨a0, a1⟩ := wf_u64 wa
  obtain ⟨b0, b1⟩ := wf_u64 wb
  clear wa wb
  by_cases hs : b < a
  · by_cases hg : 4294967296 < a
    · have c1 : Hid (∀ w, Calls Try.prog 12 #[.int .u64 a] w fun e w' => e = .returned (.int .u64 4611686018427387904) ∧ Below w.heap.size w w') := hid fun w => by
        have := memory_any a w a0
        rw [show memV a = 4611686018427387904 from by unfold memV; rw [if_pos hg]; rfl] at this
        exact this
      go_enter Try.func5, Try.ntmps5
      go_wp2_with (first | (go_at_call 12; (with_reducible refine (Calls.asExt (c1.out _)).mono ?_); rintro _ _ ⟨rfl, _, rfl⟩) | (go_at_call 11; (with_reducible refine (Calls.asExt (alive_any _)).mono ?_); rintro _ _ ⟨rfl, _, rfl⟩))
      go_ret
      exact ⟨rfl, (by repeat (first | (with_reducible first | exact Below.refl _ _ | assumption | refine World.ext_below_of ?_ ?_ _ | refine Below.setCell ?_ ?_ _ | refine Below.alloc ?_ ?_ _ | refine Below.drew ?_ | refine World.size_le_ext _ _ _ ?_) | (solve | simp [go_sem] | (simp [go_sem]; omega) | omega)))⟩
    · obtain ⟨wa, wb, ma, mb, ⟨f1, f2, f3, f4, f5, f6, f7⟩, c1, c2, c3, c4⟩ := grows_core b a b0 (by omega) (by omega) w
      go_enter Try.func5, Try.ntmps5
      go_wp2_with (first | (go_at_call 13; (with_reducible refine (Calls.asExt (c1.out _)).mono ?_); rintro _ _ ⟨rfl, _, rfl⟩) | (go_at_call 13; (with_reducible refine (Calls.asExt (c2.out _)).mono ?_); rintro _ _ ⟨rfl, _, rfl⟩) | (go_at_call 12; (with_reducible refine (Calls.asExt (c3.out _)).mono ?_); rintro _ _ ⟨rfl, _, rfl⟩) | (go_at_call 12; (with_reducible refine (Calls.asExt (c4.out _)).mono ?_); rintro _ _ ⟨rfl, _, rfl⟩) | (go_at_call 11; (with_reducible refine (Calls.asExt (alive_any _)).mono ?_); rintro _ _ ⟨rfl, _, rfl⟩))
      all_goals
        go_ret
        exact ⟨rfl, (by repeat (first | (with_reducible first | exact Below.refl _ _ | assumption | refine World.ext_below_of ?_ ?_ _ | refine Below.setCell ?_ ?_ _ | refine Below.alloc ?_ ?_ _ | refine Below.drew ?_ | refine World.size_le_ext _ _ _ ?_) | (solve | simp [go_sem] | (simp [go_sem]; omega) | omega)))⟩
  · by_cases hg : 4294967296 < b
    · have c1 : Hid (∀ w, Calls Try.prog 12 #[.int .u64 b] w fun e w' => e = .returned (.int .u64 4611686018427387904) ∧ Below w.heap.size w w') := hid fun w => by
        have := memory_any b w b0
        rw [show memV b = 4611686018427387904 from by unfold memV; rw [if_pos hg]; rfl] at this
        exact this
      go_enter Try.func5, Try.ntmps5
      go_wp2_with (first | (go_at_call 12; (with_reducible refine (Calls.asExt (c1.out _)).mono ?_); rintro _ _ ⟨rfl, _, rfl⟩) | (go_at_call 11; (with_reducible refine (Calls.asExt (alive_any _)).mono ?_); rintro _ _ ⟨rfl, _, rfl⟩))
      go_ret
      exact ⟨rfl, (by repeat (first | (with_reducible first | exact Below.refl _ _ | assumption | refine World.ext_below_of ?_ ?_ _ | refine Below.setCell ?_ ?_ _ | refine Below.alloc ?_ ?_ _ | refine Below.drew ?_ | refine World.size_le_ext _ _ _ ?_) | (solve | simp [go_sem] | (simp [go_sem]; omega) | omega)))⟩
    · obtain ⟨wa, wb, ma, mb, ⟨f1, f2, f3, f4, f5, f6, f7⟩, c1, c2, c3, c4⟩ := grows_core a b a0 (by omega) (by omega) w
      go_enter Try.func5, Try.ntmps5
      go_wp2_with (first | (go_at_call 13; (with_reducible refine (Calls.asExt (c1.out _)).mono ?_); rintro _ _ ⟨rfl, _, rfl⟩) | (go_at_call 13; (with_reducible refine (Calls.asExt (c2.out _)).mono ?_); rintro _ _ ⟨rfl, _, rfl⟩) | (go_at_call 12; (with_reducible refine (Calls.asExt (c3.out _)).mono ?_); rintro _ _ ⟨rfl, _, rfl⟩) | (go_at_call 12; (with_reducible refine (Calls.asExt (c4.out _)).mono ?_); rintro _ _ ⟨rfl, _, rfl⟩) | (go_at_call 11; (with_reducible refine (Calls.asExt (alive_any _)).mono ?_); rintro _ _ ⟨rfl, _, rfl⟩))
      all_goals
        go_ret
        exact ⟨rfl, (by repeat (first | (with_reducible first | exact Below.refl _ _ | assumption | refine World.ext_below_of ?_ ?_ _ | refine Below.setCell ?_ ?_ _ | refine Below.alloc ?_ ?_ _ | refine Below.drew ?_ | refine World.size_le_ext _ _ _ ?_) | (solve | simp [go_sem] | (simp [go_sem]; omega) | omega)))⟩
end Go.Proofs.Ytbifolfakgmdnaa
