import Derived.Test.YtmlaenfgfgloeaaRoot
import Derived.Test.YtmlaenfgfgloeaaShaAl
import Derived.Test.YtmlaenfgfgloeaaFrame
/-! ShaRoots. -/
set_option maxRecDepth 4000
set_option linter.unusedVariables false
set_option linter.unusedSimpArgs false
namespace Go.Proofs.Ytmlaenfgfgloeaa
open Go.RowKit

def rtN (d p : Nat) : Nat := ((List.range 22).filter fun v => decide (v ^ d ≤ p)).length - 1
theorem cube_ok : ∀ n, n < 80 → rtN 3 (prN n) ≤ 21 ∧ rtN 3 (prN n) ^ 3 ≤ prN n ∧ prN n < (rtN 3 (prN n) + 1) ^ 3 ∧ rootB (prN n) 3 (rtN 3 (prN n)) (nb shaK n).toNat = true := by decide +kernel
theorem square_ok : ∀ n, n < 8 → rtN 2 (prN n) ≤ 21 ∧ rtN 2 (prN n) ^ 2 ≤ prN n ∧ prN n < (rtN 2 (prN n) + 1) ^ 2 ∧ rootB (prN n) 2 (rtN 2 (prN n)) (nb shaH n).toNat = true := by decide +kernel
theorem rootK (n : Nat) (hn : n < 80) (w : World) : Calls Try.prog 23 #[.int .i64 (n : Int), .int .i64 3, .int .u64 (iv (nb shaK n))] w fun e w' => e = .returned (.bool true) ∧ Below w.heap.size w w' := by
  obtain ⟨h1, h2, h3, h4⟩ := cube_ok n hn
  have := root_any n 3 _ (nb shaK n).toNat w hn (.inr rfl) h1 (nb shaK n).isLt h2 h3
  rw [h4] at this
  exact this
theorem rootH (n : Nat) (hn : n < 8) (w : World) : Calls Try.prog 23 #[.int .i64 (n : Int), .int .i64 2, .int .u64 (iv (nb shaH n))] w fun e w' => e = .returned (.bool true) ∧ Below w.heap.size w w' := by
  obtain ⟨h1, h2, h3, h4⟩ := square_ok n hn
  have := root_any n 2 _ (nb shaH n).toNat w (by omega) (.inl rfl) h1 (nb shaH n).isLt h2 h3
  rw [h4] at this
  exact this

set_option maxRecDepth 20000 in
set_option maxHeartbeats 2000000 in
theorem walk_ShaRoots (w : World) (i : Int) (wi : (Lit.int .i64 i).wf = true) :
    Calls Try.prog 7 #[.int .i64 i] w fun e w' => e = .returned (.bool true) ∧ Below w.heap.size w w' := by
  clear wi
  by_cases hneg : i < 0
  · have hK := hid fun w => K_out i (.inl hneg) w
    have hH := hid fun w => H_out i (.inl hneg) w
    go_enter Try.func7, Try.ntmps7
    go_wp2_with (first | (go_at_call 21; (with_reducible refine (Calls.asExt (hK.out _)).mono ?_); rintro _ _ ⟨rfl, _, rfl⟩) | (go_at_call 22; (with_reducible refine (Calls.asExt (hH.out _)).mono ?_); rintro _ _ ⟨rfl, _, rfl⟩) | (go_at_call 20; (with_reducible refine (Calls.asExt (salive_any _)).mono ?_); rintro _ _ ⟨rfl, _, rfl⟩))
    go_ret
    exact ⟨rfl, (by repeat (first | (with_reducible first | exact Below.refl _ _ | assumption | refine World.ext_below_of ?_ ?_ _ | refine Below.setCell ?_ ?_ _ | refine Below.alloc ?_ ?_ _ | refine Below.drew ?_ | refine World.size_le_ext _ _ _ ?_) | (solve | simp [go_sem] | (simp [go_sem]; omega) | omega)))⟩
  · by_cases hbig : 79 < i
    · have hK := hid fun w => K_out i (.inr hbig) w
      have hH := hid fun w => H_out i (.inr (by omega)) w
      go_enter Try.func7, Try.ntmps7
      go_wp2_with (first | (go_at_call 21; (with_reducible refine (Calls.asExt (hK.out _)).mono ?_); rintro _ _ ⟨rfl, _, rfl⟩) | (go_at_call 22; (with_reducible refine (Calls.asExt (hH.out _)).mono ?_); rintro _ _ ⟨rfl, _, rfl⟩) | (go_at_call 20; (with_reducible refine (Calls.asExt (salive_any _)).mono ?_); rintro _ _ ⟨rfl, _, rfl⟩))
      go_ret
      exact ⟨rfl, (by repeat (first | (with_reducible first | exact Below.refl _ _ | assumption | refine World.ext_below_of ?_ ?_ _ | refine Below.setCell ?_ ?_ _ | refine Below.alloc ?_ ?_ _ | refine Below.drew ?_ | refine World.size_le_ext _ _ _ ?_) | (solve | simp [go_sem] | (simp [go_sem]; omega) | omega)))⟩
    · obtain ⟨n, rfl⟩ : ∃ n : Nat, i = (n : Int) := ⟨i.toNat, by omega⟩
      have hn : n < 80 := by omega
      have hK := hid fun w => K_any n hn w
      have hR := hid fun w => rootK n hn w
      have hb : ¬ (79 : Int) < (n : Int) := by omega
      have hc : ¬ (n : Int) < 0 := by omega
      clear hneg hbig
      by_cases h7 : 7 < n
      · have h7i : (7 : Int) < (n : Int) := by omega
        have hH := hid fun w => H_out (n : Int) (.inr h7i) w
        clear h7 hn
        go_enter Try.func7, Try.ntmps7
        go_wp2_with (first | (go_at_call 21; (with_reducible refine (Calls.asExt (hK.out _)).mono ?_); rintro _ _ ⟨rfl, _, rfl⟩) | (go_at_call 22; (with_reducible refine (Calls.asExt (hH.out _)).mono ?_); rintro _ _ ⟨rfl, _, rfl⟩) | (go_at_call 23; (with_reducible refine (Calls.asExt (hR.out _)).mono ?_); rintro _ _ ⟨rfl, _, rfl⟩) | (go_at_call 20; (with_reducible refine (Calls.asExt (salive_any _)).mono ?_); rintro _ _ ⟨rfl, _, rfl⟩))
        go_ret
        exact ⟨rfl, (by repeat (first | (with_reducible first | exact Below.refl _ _ | assumption | refine World.ext_below_of ?_ ?_ _ | refine Below.setCell ?_ ?_ _ | refine Below.alloc ?_ ?_ _ | refine Below.drew ?_ | refine World.size_le_ext _ _ _ ?_) | (solve | simp [go_sem] | (simp [go_sem]; omega) | omega)))⟩
      · have h8 : n < 8 := by omega
        have h7i : ¬ (7 : Int) < (n : Int) := by omega
        have h7j : (n : Int) ≤ 7 := by omega
        have hH := hid fun w => H_any n h8 w
        have hR2 := hid fun w => rootH n h8 w
        clear h7 hn h8
        go_enter Try.func7, Try.ntmps7
        go_wp2_with (first | (go_at_call 21; (with_reducible refine (Calls.asExt (hK.out _)).mono ?_); rintro _ _ ⟨rfl, _, rfl⟩) | (go_at_call 22; (with_reducible refine (Calls.asExt (hH.out _)).mono ?_); rintro _ _ ⟨rfl, _, rfl⟩) | (go_at_call 23; (with_reducible refine (Calls.asExt (hR.out _)).mono ?_); rintro _ _ ⟨rfl, _, rfl⟩) | (go_at_call 23; (with_reducible refine (Calls.asExt (hR2.out _)).mono ?_); rintro _ _ ⟨rfl, _, rfl⟩) | (go_at_call 20; (with_reducible refine (Calls.asExt (salive_any _)).mono ?_); rintro _ _ ⟨rfl, _, rfl⟩))
        go_ret
        exact ⟨rfl, (by repeat (first | (with_reducible first | exact Below.refl _ _ | assumption | refine World.ext_below_of ?_ ?_ _ | refine Below.setCell ?_ ?_ _ | refine Below.alloc ?_ ?_ _ | refine Below.drew ?_ | refine World.size_le_ext _ _ _ ?_) | (solve | simp [go_sem] | (simp [go_sem]; omega) | omega)))⟩
end Go.Proofs.Ytmlaenfgfgloeaa
