import Derived.Test.YtfidbiabgmioaaaFldC
import Derived.Test.YtfidbiabgmioaaaLoose
/-! field: powers, inverses. -/
set_option maxRecDepth 4000
set_option linter.unusedVariables false
set_option linter.unusedSimpArgs false
namespace Go.Proofs.Ytfidbiabgmioaaa
open Go.RowKit

/-- A power modulo the first prime. -/
def powP (a e : Nat) : Nat := a ^ e % pN
theorem powP_lt (a e : Nat) : powP a e < 2 ^ 256 := p_mod_lt _
theorem powP_zero (a : Nat) : powP a 0 = 1 := by unfold powP; rw [Nat.pow_zero]; decide +kernel
theorem powP_double (a e : Nat) : powP a e * powP a e % pN = powP a (2 * e) := by
  unfold powP; rw [← Nat.mul_mod, ← Nat.pow_add, Nat.two_mul]
theorem powP_succ (a e : Nat) : powP a e * a % pN = powP a (e + 1) := by
  unfold powP; rw [Nat.mod_mul_mod, ← Nat.pow_succ]
theorem one_built : Try.prog.built 24 [(0, .int .u64 1)] = some (cellsW 1) := by kernel_rfl
theorem bit_down (e k : Nat) : e / 2 ^ k = 2 * (e / 2 ^ (k + 1)) + e / 2 ^ k % 2 := by
  rw [Nat.pow_succ, ← Nat.div_div_eq_div_mul]; omega

set_option maxHeartbeats 4000000 in
theorem fpow_any (a e : Nat) (w : World) (ha : a < 2 ^ 256) (he : e < 2 ^ 256) : Calls Try.prog 87 #[wd a, wd e] w fun en w' => en = .returned (wd (powP a e)) ∧ Below w.heap.size w w' := by
  have HE := hid he
  have hM := hid (fun x y w (hx : x < 2 ^ 256) (hy : y < 2 ^ 256) => fmul_any x y w hx hy)
  have HA := hid ha
  clear ha he
  have hB1 := hid one_built
  unfold wd at *
  have iA := hid (iW a)
  have i1 := hid (iW 1)
  have n1 := hid (one_cellsW 1)
  obtain ⟨W0, hW0⟩ : ∃ W0, W0 = (((w.alloc (.cells (cellsW a) 24)).alloc (.cells (cellsW e) 24)).alloc (.cells (cellsW 0) 24)).alloc (.cells (cellsW 1) 24) := ⟨_, rfl⟩
  have hA0 := hid (show ArrW 24 W0 w.heap.size a by rw [hW0]; exact (((ArrW.new _ w a).alloc _).alloc _).alloc _)
  have hE0 := hid (show ArrW 24 W0 (w.heap.size + 1) e by
    have := ArrW.new 24 (w.alloc (.cells (cellsW a) 24)) e
    rw [World.size_alloc] at this; rw [hW0]; exact (this.alloc _).alloc _)
  have hR0 := hid (show ArrW 24 W0 (w.heap.size + 2) 0 by
    have := ArrW.new 24 ((w.alloc (.cells (cellsW a) 24)).alloc (.cells (cellsW e) 24)) 0
    rw [World.size_alloc, World.size_alloc] at this; rw [hW0]; exact this.alloc _)
  have hO0 := hid (show ArrW 24 W0 (w.heap.size + 3) 1 by
    have := ArrW.new 24 (((w.alloc (.cells (cellsW a) 24)).alloc (.cells (cellsW e) 24)).alloc (.cells (cellsW 0) 24)) 1
    rw [World.size_alloc, World.size_alloc, World.size_alloc] at this; rw [hW0]; exact this)
  have hb0 : Below w.heap.size w W0 := by rw [hW0]; exact ((((Below.refl _ _).alloc (Nat.le_refl _) _).alloc (by simp) _).alloc (by simp; omega) _).alloc (by simp; omega) _
  go_enter Try.func87, Try.ntmps87
  go_wp2_with (first | (refine wpList_alloc_new rfl 24 rfl (cellsW 0) zWd ?_; simp only [Act.put, List.setIfInBounds_toArray, List.set_cons_zero, List.set_cons_succ, World.size_alloc]) | (refine wpList_newArr 24 _ 8 5 (cellsW 1) (cellsW 0) rfl rfl rfl rfl rfl rfl rfl rfl rfl (by decide) (by simp) (by simp) (by kernel_rfl) (by kernel_rfl) (by kernel_rfl) (by kernel_rfl) (by kernel_rfl) ?_; simp only [Act.put, List.setIfInBounds_toArray, List.set_cons_zero, List.set_cons_succ]))
  (try simp only [World.size_alloc])
  rw [← hW0]
  clear hW0
  go_loopw [9] (fun iv wr => ∃ i : Nat, i ≤ 256 ∧ iv = .int .i64 (i : Int) ∧ Hid (ArrW 24 wr w.heap.size a) ∧ Hid (ArrW 24 wr (w.heap.size + 1) e) ∧ Hid (ArrW 24 wr (w.heap.size + 2) 0) ∧ Hid (ArrW 24 wr (w.heap.size + 3) (powP a (e / 2 ^ (256 - i)))) ∧ Below w.heap.size w wr)
    (fun iv _ => 256 - (intOf iv).toNat)
  case atStart =>
    refine ⟨0, by omega, rfl, hA0, hE0, hR0, ?_, hb0⟩
    rw [show e / 2 ^ (256 - 0) = 0 from Nat.div_eq_of_lt HE.out, powP_zero]
    exact hO0
  case round =>
    clear hA0 hE0 hR0 hO0 hb0
    obtain ⟨i, hi, rfl, hA, hE, hR, hO, hb⟩ := hrel
    by_cases hlt : i < 256
    · obtain ⟨k, hk⟩ : ∃ k, i + k = 255 := ⟨255 - i, by omega⟩
      have hki : (255 : Int) - (i : Int) = (k : Int) := by omega
      rw [show 256 - i = k + 1 by omega] at hO
      have hbit := lm_bit e k
      have HD := hid (bit_down e k)
      obtain ⟨y, hy⟩ : ∃ y, y = powP a (e / 2 ^ (k + 1)) := ⟨_, rfl⟩
      have hyl : y < 2 ^ 256 := by rw [hy]; exact powP_lt _ _
      have hM1 := hid (fun w => hM.out y y w hyl hyl)
      have H2 := hid (show y * y % pN = powP a (2 * (e / 2 ^ (k + 1))) by rw [hy]; exact powP_double _ _)
      obtain ⟨z, hz⟩ : ∃ z, z = y * y % pN := ⟨_, rfl⟩
      rw [← hz] at hM1 H2
      have hzl : z < 2 ^ 256 := by rw [hz]; exact p_mod_lt _
      rw [← hy] at hO
      have iY := hid (iW y)
      have iZ := hid (iW z)
      have nZ := hid (one_cellsW z)
      clear hy hyl hz
      have HZL := hid hzl
      clear hzl
      go_wp2_with (refine wpList_load_row rfl 24 (.tmp 5) rfl (w.heap.size + 3) rfl 24 _ (0, 0) _ hO.out uWd rfl iY.out ?_; simp only [Act.put, List.setIfInBounds_toArray, List.set_cons_zero, List.set_cons_succ])
      refine (hM1.out _).mono ?_
      rintro en w2 ⟨rfl, hb2⟩
      have hA2 := hid (hA.out.below hb2 hA.out.lt)
      have hE2 := hid (hE.out.below hb2 hE.out.lt)
      have hR2 := hid (hR.out.below hb2 hR.out.lt)
      have hO2 := hid (hO.out.below hb2 hO.out.lt)
      have hb3 := hb.trans (hb2.mono hb.size)
      clear hA hE hR hO hb hb2 hM1
      have hA3 := hid (hA2.out.otherRow (show w.heap.size ≠ w.heap.size + 3 by omega) (cellsW z))
      have hE3 := hid (hE2.out.otherRow (show w.heap.size + 1 ≠ w.heap.size + 3 by omega) (cellsW z))
      have hR3 := hid (hR2.out.otherRow (show w.heap.size + 2 ≠ w.heap.size + 3 by omega) (cellsW z))
      have hO3 := hid (hO2.out.row z)
      have hb4 := below_setRow' hb3 (w.heap.size + 3) (by omega) (cellsW z)
      have cE := hE3.out.cell (k / 64) (by omega)
      have lE := hE3.out.lt
      rcases (show e / 2 ^ k % 2 = 0 ∨ e / 2 ^ k % 2 = 1 by omega) with hb0 | hb1
      · rw [hb0] at hbit HD
        have H3 := hid (show z = powP a (e / 2 ^ k) by rw [H2.out, HD.out]; rfl)
        clear hb0
        go_wp2_with (refine wpList_store_row rfl 24 (.tmp 5) (.tmp 14) rfl (w.heap.size + 3) _ rfl rfl 24 _ hO2.out iZ.out rfl nZ.out ?_; simp only [Act.put])
        go_roundw
        case rel =>
          refine ⟨i + 1, by omega, by go_num, hA3, hE3, hR3, ?_, hb4⟩
          rw [show 256 - (i + 1) = k by omega, ← H3.out]; exact hO3
        case measure => simp [intOf]; omega
      · rw [hb1] at hbit HD
        have hM2 := hid (fun w => hM.out z a w HZL.out HA.out)
        have H3 := hid (show z * a % pN = powP a (e / 2 ^ k) by rw [H2.out, HD.out, powP_succ])
        obtain ⟨u, hu⟩ : ∃ u, u = z * a % pN := ⟨_, rfl⟩
        rw [← hu] at hM2 H3
        have iU := hid (iW u)
        have nU := hid (one_cellsW u)
        clear hb1 hu
        go_wp2_with (first | (refine wpList_store_row rfl 24 (.tmp 5) (.tmp 14) rfl (w.heap.size + 3) _ rfl rfl 24 _ hO2.out iZ.out rfl nZ.out ?_; simp only [Act.put]) | (refine wpList_load_row rfl 24 (.tmp 5) rfl (w.heap.size + 3) rfl 24 _ (0, 0) _ hO3.out uWd rfl iZ.out ?_; simp only [Act.put, List.setIfInBounds_toArray, List.set_cons_zero, List.set_cons_succ]) | (refine wpList_load_row rfl 24 (.tmp 2) rfl w.heap.size rfl 24 _ (0, 0) _ hA3.out uWd rfl iA.out ?_; simp only [Act.put, List.setIfInBounds_toArray, List.set_cons_zero, List.set_cons_succ]))
        refine (hM2.out _).mono ?_
        rintro en w5 ⟨rfl, hb5⟩
        have hA5 := hid (hA3.out.below hb5 hA3.out.lt)
        have hE5 := hid (hE3.out.below hb5 hE3.out.lt)
        have hR5 := hid (hR3.out.below hb5 hR3.out.lt)
        have hO5 := hid (hO3.out.below hb5 hO3.out.lt)
        have hb6 := hb4.trans (hb5.mono hb4.size)
        clear hA2 hE2 hR2 hO2 hb3 hA3 hE3 hR3 hO3 hb4 hb5 cE lE hM2
        have hA7 := hid (hA5.out.otherRow (show w.heap.size ≠ w.heap.size + 3 by omega) (cellsW u))
        have hE7 := hid (hE5.out.otherRow (show w.heap.size + 1 ≠ w.heap.size + 3 by omega) (cellsW u))
        have hR7 := hid (hR5.out.otherRow (show w.heap.size + 2 ≠ w.heap.size + 3 by omega) (cellsW u))
        have hO7 := hid (hO5.out.row u)
        have hb7 := below_setRow' hb6 (w.heap.size + 3) (by omega) (cellsW u)
        go_wp2_with (refine wpList_store_row rfl 24 (.tmp 5) (.tmp 28) rfl (w.heap.size + 3) _ rfl rfl 24 _ hO5.out iU.out rfl nU.out ?_; simp only [Act.put])
        go_roundw
        case rel =>
          refine ⟨i + 1, by omega, by go_num, hA7, hE7, hR7, ?_, hb7⟩
          rw [show 256 - (i + 1) = k by omega, ← H3.out]; exact hO7
        case measure => simp [intOf]; omega
    · obtain rfl : i = 256 := by omega
      rw [show e / 2 ^ (256 - 256) = e from Nat.div_one e] at hO
      obtain ⟨r, hr⟩ : ∃ r, r = powP a e := ⟨_, rfl⟩
      rw [← hr] at hO
      have HR := hid hr
      have iR := hid (iW r)
      have nR := hid (one_cellsW r)
      clear hr hlt hi hA hE
      go_wp2_with (first | (refine wpList_load_row rfl 24 (.tmp 5) rfl (w.heap.size + 3) rfl 24 _ (0, 0) _ hO.out uWd rfl iR.out ?_; simp only [Act.put, List.setIfInBounds_toArray, List.set_cons_zero, List.set_cons_succ]) | (refine wpList_store_row rfl 24 (.tmp 4) (.tmp 30) rfl (w.heap.size + 2) _ rfl rfl 24 _ hR.out iR.out rfl nR.out ?_; simp only [Act.put]))
      refine bodyPost_ret (results_cell_row rfl _ _ (w.heap.size + 2) 24 (cellsW r) (0, 0) _ rfl (heap_setRow' _ _ _ _ _ hR.out) uWd rfl iR.out) rfl ⟨by rw [HR.out], below_setRow' hb _ (by omega) _⟩
end Go.Proofs.Ytfidbiabgmioaaa
