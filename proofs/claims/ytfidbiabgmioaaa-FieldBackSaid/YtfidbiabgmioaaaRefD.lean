import Derived.Test.YtfidbiabgmioaaaRefC
/-! conclaveref01: Shl, Sar, Signext, Scmp. -/
set_option maxRecDepth 4000
set_option linter.unusedVariables false
set_option linter.unusedSimpArgs false
namespace Go.Proofs.Ytfidbiabgmioaaa
open Go.RowKit

set_option maxHeartbeats 1000000 in
theorem rshl_any (n x : Nat) (w : World) (hn : n < 2 ^ 256) (hx : x < 2 ^ 256) : Calls Try.prog 31 #[wd n, wd x] w fun e w' => e = .returned (wd (x * 2 ^ upT n 256 % 2 ^ 256)) ∧ Below w.heap.size w w' := by
  have hOX := hid (fun w => of_any x w hx)
  have hU := hid (fun w => small_any n 256 w hn (by omega))
  have hk := upT_le n 256
  obtain ⟨k, hk2⟩ : ∃ k, k = upT n 256 := ⟨_, rfl⟩
  rw [← hk2] at hU hk ⊢
  have iN := hid (iW n)
  have iX := hid (iW x)
  by_cases h256 : k = 256
  · have HY := hid (show x * 2 ^ k % 2 ^ 256 = 0 by rw [h256]; exact Nat.mul_mod_left _ _)
    rw [HY.out]
    have iY := hid (iW 0)
    have nY := hid (one_cellsW 0)
    have b0 : Try.prog.built 24 [] = some (cellsW 0) := by kernel_rfl
    clear HY hOX hx hn hk2 hk
    unfold wd at *
    have hA0 := hid (show ArrW 24 (((w.alloc (.cells (cellsW n) 24)).alloc (.cells (cellsW x) 24)).alloc (.cells (cellsW 0) 24)) w.heap.size n from ((ArrW.new _ w n).alloc _).alloc _)
    have hB0 := hid (show ArrW 24 (((w.alloc (.cells (cellsW n) 24)).alloc (.cells (cellsW x) 24)).alloc (.cells (cellsW 0) 24)) (w.heap.size + 1) x by
      have := ArrW.new 24 (w.alloc (.cells (cellsW n) 24)) x
      rw [World.size_alloc] at this; exact this.alloc _)
    have hC0 := hid (show ArrW 24 (((w.alloc (.cells (cellsW n) 24)).alloc (.cells (cellsW x) 24)).alloc (.cells (cellsW 0) 24)) (w.heap.size + 2) 0 by
      have := ArrW.new 24 ((w.alloc (.cells (cellsW n) 24)).alloc (.cells (cellsW x) 24)) 0
      rw [World.size_alloc, World.size_alloc] at this; exact this)
    have hb0 : Below w.heap.size w (((w.alloc (.cells (cellsW n) 24)).alloc (.cells (cellsW x) 24)).alloc (.cells (cellsW 0) 24)) := (((Below.refl _ _).alloc (Nat.le_refl _) _).alloc (by simp) _).alloc (by simp; omega) _
    go_enter Try.func31, Try.ntmps31
    go_wp2_with (first | (refine wpList_alloc_new rfl 24 rfl (cellsW 0) zWd ?_; simp only [Act.put, List.setIfInBounds_toArray, List.set_cons_zero, List.set_cons_succ, World.size_alloc]) | (refine wpList_load_row rfl 24 (.tmp 2) rfl w.heap.size rfl 24 _ (0, 0) _ hA0.out uWd rfl iN.out ?_; simp only [Act.put, List.setIfInBounds_toArray, List.set_cons_zero, List.set_cons_succ]))
    refine (hU.out _).mono ?_
    rintro e w1 ⟨rfl, hb1⟩
    have hC1 := hid (hC0.out.below hb1 hC0.out.lt)
    have hb2 := hb0.trans (hb1.mono hb0.size)
    clear hA0 hB0 hC0 hb0 hb1
    go_wp2_with (refine wpList_store_row rfl 24 (.tmp 4) (.tmp 10) rfl (w.heap.size + 2) _ rfl rfl 24 _ hC1.out iY.out rfl nY.out ?_; simp only [Act.put])
    refine bodyPost_ret (results_cell_row rfl _ _ (w.heap.size + 2) 24 (cellsW 0) (0, 0) _ rfl (heap_setRow' _ _ _ _ _ hC1.out) uWd rfl iY.out) rfl ⟨rfl, below_setRow' hb2 _ (by omega) _⟩
  · have hP := hid (fun w => power_any k w (by omega))
    have lx := dg_word_len x hx
    have lp := len_pow k
    have lm := len_mul lx lp
    have hM := hid (fun va vb w ha hb => times_any x (2 ^ k) va vb w ha hb (by omega) (by omega))
    have hW := hid (fun v w h => wordN_any (x * 2 ^ k) v w h (by omega))
    have hne : ¬ (k : Int) = 256 := by omega
    obtain ⟨y, hy⟩ : ∃ y, y = x * 2 ^ k % 2 ^ 256 := ⟨_, rfl⟩
    rw [← hy] at hW ⊢
    obtain ⟨m, hm⟩ : ∃ m, m = x * 2 ^ k := ⟨_, rfl⟩
    rw [← hm] at hW hM
    obtain ⟨p, hp⟩ : ∃ p, p = 2 ^ k := ⟨_, rfl⟩
    rw [← hp] at hM hP
    clear hn hk2 hx hy hm hp lm lp lx h256 hk
    unfold wd at *
    have iY := hid (iW y)
    have nY := hid (one_cellsW y)
    have hA0 := hid (show ArrW 24 (((w.alloc (.cells (cellsW n) 24)).alloc (.cells (cellsW x) 24)).alloc (.cells (cellsW 0) 24)) w.heap.size n from ((ArrW.new _ w n).alloc _).alloc _)
    have hB0 := hid (show ArrW 24 (((w.alloc (.cells (cellsW n) 24)).alloc (.cells (cellsW x) 24)).alloc (.cells (cellsW 0) 24)) (w.heap.size + 1) x by
      have := ArrW.new 24 (w.alloc (.cells (cellsW n) 24)) x
      rw [World.size_alloc] at this; exact this.alloc _)
    have hC0 := hid (show ArrW 24 (((w.alloc (.cells (cellsW n) 24)).alloc (.cells (cellsW x) 24)).alloc (.cells (cellsW 0) 24)) (w.heap.size + 2) 0 by
      have := ArrW.new 24 ((w.alloc (.cells (cellsW n) 24)).alloc (.cells (cellsW x) 24)) 0
      rw [World.size_alloc, World.size_alloc] at this; exact this)
    have hb0 : Below w.heap.size w (((w.alloc (.cells (cellsW n) 24)).alloc (.cells (cellsW x) 24)).alloc (.cells (cellsW 0) 24)) := (((Below.refl _ _).alloc (Nat.le_refl _) _).alloc (by simp) _).alloc (by simp; omega) _
    go_enter Try.func31, Try.ntmps31
    go_wp2_with (first | (refine wpList_alloc_new rfl 24 rfl (cellsW 0) zWd ?_; simp only [Act.put, List.setIfInBounds_toArray, List.set_cons_zero, List.set_cons_succ, World.size_alloc]) | (refine wpList_load_row rfl 24 (.tmp 2) rfl w.heap.size rfl 24 _ (0, 0) _ hA0.out uWd rfl iN.out ?_; simp only [Act.put, List.setIfInBounds_toArray, List.set_cons_zero, List.set_cons_succ]))
    refine (hU.out _).mono ?_
    rintro e w1 ⟨rfl, hb1⟩
    have hB1 := hid (hB0.out.below hb1 hB0.out.lt)
    have hC1 := hid (hC0.out.below hb1 hC0.out.lt)
    have hb2 := hb0.trans (hb1.mono hb0.size)
    clear hA0 hB0 hC0 hb0 hb1
    go_wp2_with (refine wpList_load_row rfl 24 (.tmp 3) rfl (w.heap.size + 1) rfl 24 _ (0, 0) _ hB1.out uWd rfl iX.out ?_; simp only [Act.put, List.setIfInBounds_toArray, List.set_cons_zero, List.set_cons_succ])
    refine (hOX.out _).mono ?_
    rintro e w2 ⟨v1, rfl, hr1, hb3⟩
    have hC2 := hid (hC1.out.below hb3 hC1.out.lt)
    have hb4 := hb2.trans (hb3.mono hb2.size)
    clear hB1 hC1 hb2 hb3
    go_wp2_with fail
    refine (hP.out _).mono ?_
    rintro e w3 ⟨v2, rfl, hr2, hb5⟩
    have hC3 := hid (hC2.out.below hb5 hC2.out.lt)
    have hr1' := hr1.below hb5
    have hb6 := hb4.trans (hb5.mono hb4.size)
    clear hC2 hb4 hb5 hr1
    go_wp2_with fail
    refine (hM.out _ _ _ hr1' hr2).mono ?_
    rintro e w4 ⟨v3, rfl, hr3, hb7⟩
    have hC4 := hid (hC3.out.below hb7 hC3.out.lt)
    have hb8 := hb6.trans (hb7.mono hb6.size)
    clear hC3 hb6 hb7 hr1' hr2
    go_wp2_with fail
    refine (hW.out _ _ hr3).mono ?_
    rintro e w5 ⟨rfl, hb9⟩
    have hC5 := hid (hC4.out.below hb9 hC4.out.lt)
    have hb10 := hb8.trans (hb9.mono hb8.size)
    clear hC4 hb8 hb9 hr3
    go_wp2_with (refine wpList_store_row rfl 24 (.tmp 4) (.tmp 16) rfl (w.heap.size + 2) _ rfl rfl 24 _ hC5.out iY.out rfl nY.out ?_; simp only [Act.put])
    refine bodyPost_ret (results_cell_row rfl _ _ (w.heap.size + 2) 24 (cellsW y) (0, 0) _ rfl (heap_setRow' _ _ _ _ _ hC5.out) uWd rfl iY.out) rfl ⟨rfl, below_setRow' hb10 _ (by omega) _⟩

theorem ArrW.step {t : TypeId} {w w' : World} {b x : Nat} (h : ArrW t w b x) (hb : Below w.heap.size w w') : ArrW t w' b x := h.below hb h.lt
theorem onesW_eq : onesW + 1 = 2 ^ 256 * 2 ^ 64 := by
  rw [show (2 : Nat) ^ 256 = 115792089237316195423570985008687907853269984665640564039457584007913129639936 from by decide, show (2 : Nat) ^ 64 = 18446744073709551616 from by decide]
  rfl
/-- Shifted down with the sign, as the document has it. -/
theorem sarW_ref (x k : Nat) (hk : k ≤ 256) (hn : negW x = true) : (x / 2 ^ k + (2 ^ 256 - 2 ^ (256 - k))) % 2 ^ 256 = sarW x k := by
  unfold sarW
  rw [if_pos hn]
  have e1 : (2 : Nat) ^ 256 = 2 ^ k * 2 ^ (256 - k) := by rw [← Nat.pow_add]; congr 1; omega
  have e2 : (x + 2 ^ 256 * onesW) / 2 ^ k = x / 2 ^ k + 2 ^ (256 - k) * onesW := by
    rw [e1, Nat.mul_assoc, Nat.add_mul_div_left _ _ (Nat.pow_pos (by omega))]
  rw [e2]
  have h1 : 2 ^ (256 - k) ≤ 2 ^ 256 := Nat.pow_le_pow_right (by omega) (by omega)
  have hp : 0 < 2 ^ (256 - k) := Nat.pow_pos (by omega)
  have e3 : 2 ^ (256 - k) * onesW + 2 ^ (256 - k) = 2 ^ 256 * (2 ^ (256 - k) * 2 ^ 64) := by
    rw [← Nat.mul_succ, Nat.succ_eq_add_one, onesW_eq, Nat.mul_left_comm]
  have e4 : 1 ≤ 2 ^ (256 - k) * 2 ^ 64 := Nat.mul_pos hp (by decide)
  obtain ⟨t, ht⟩ : ∃ t, 2 ^ (256 - k) * 2 ^ 64 = t + 1 := ⟨2 ^ (256 - k) * 2 ^ 64 - 1, by omega⟩
  rw [ht, Nat.mul_add, Nat.mul_one] at e3
  have e5 : x / 2 ^ k + 2 ^ (256 - k) * onesW = x / 2 ^ k + (2 ^ 256 - 2 ^ (256 - k)) + 2 ^ 256 * t := by omega
  rw [e5, Nat.add_mul_mod_self_left]

set_option maxHeartbeats 1000000 in
theorem rsar_any (n x : Nat) (w : World) (hn : n < 2 ^ 256) (hx : x < 2 ^ 256) : Calls Try.prog 35 #[wd n, wd x] w fun e w' => e = .returned (wd (sarW x (upT n 256))) ∧ Below w.heap.size w w' := by
  have hU := hid (fun w => small_any n 256 w hn (by omega))
  have hSh := hid (fun w => rshr_any n x w hn hx)
  have hN := hid (fun w => rneg_any x w hx)
  have hk := upT_le n 256
  obtain ⟨k, hk2⟩ : ∃ k, k = upT n 256 := ⟨_, rfl⟩
  rw [← hk2] at hU hk hSh ⊢
  have iN := hid (iW n)
  have iX := hid (iW x)
  have hzl : x / 2 ^ k < 2 ^ 256 := Nat.lt_of_le_of_lt (Nat.div_le_self _ _) hx
  obtain ⟨z, hz⟩ : ∃ z, z = x / 2 ^ k := ⟨_, rfl⟩
  rw [← hz] at hSh hzl
  have iZ := hid (iW z)
  have nZ := hid (one_cellsW z)
  cases hs : negW x with
  | false =>
    have HY := hid (show sarW x k = z by unfold sarW; rw [if_neg (by rw [hs]; decide), hz])
    rw [hs] at hN
    rw [HY.out]
    clear HY hs hzl hz hk hk2 hn hx
    unfold wd at *
    have hA0 := hid (show ArrW 24 (((w.alloc (.cells (cellsW n) 24)).alloc (.cells (cellsW x) 24)).alloc (.cells (cellsW 0) 24)) w.heap.size n from ((ArrW.new _ w n).alloc _).alloc _)
    have hB0 := hid (show ArrW 24 (((w.alloc (.cells (cellsW n) 24)).alloc (.cells (cellsW x) 24)).alloc (.cells (cellsW 0) 24)) (w.heap.size + 1) x by
      have := ArrW.new 24 (w.alloc (.cells (cellsW n) 24)) x
      rw [World.size_alloc] at this; exact this.alloc _)
    have hC0 := hid (show ArrW 24 (((w.alloc (.cells (cellsW n) 24)).alloc (.cells (cellsW x) 24)).alloc (.cells (cellsW 0) 24)) (w.heap.size + 2) 0 by
      have := ArrW.new 24 ((w.alloc (.cells (cellsW n) 24)).alloc (.cells (cellsW x) 24)) 0
      rw [World.size_alloc, World.size_alloc] at this; exact this)
    have hb0 : Below w.heap.size w (((w.alloc (.cells (cellsW n) 24)).alloc (.cells (cellsW x) 24)).alloc (.cells (cellsW 0) 24)) := (((Below.refl _ _).alloc (Nat.le_refl _) _).alloc (by simp) _).alloc (by simp; omega) _
    go_enter Try.func35, Try.ntmps35
    go_wp2_with (first | (refine wpList_alloc_new rfl 24 rfl (cellsW 0) zWd ?_; simp only [Act.put, List.setIfInBounds_toArray, List.set_cons_zero, List.set_cons_succ, World.size_alloc]) | (refine wpList_load_row rfl 24 (.tmp 2) rfl w.heap.size rfl 24 _ (0, 0) _ hA0.out uWd rfl iN.out ?_; simp only [Act.put, List.setIfInBounds_toArray, List.set_cons_zero, List.set_cons_succ]))
    refine (hU.out _).mono ?_
    rintro e w1 ⟨rfl, hb1⟩
    have hA1 := hid (hA0.out.below hb1 hA0.out.lt)
    have hB1 := hid (hB0.out.below hb1 hB0.out.lt)
    have hC1 := hid (hC0.out.below hb1 hC0.out.lt)
    have hb2 := hb0.trans (hb1.mono hb0.size)
    clear hA0 hB0 hC0 hb0 hb1
    go_wp2_with (first | (refine wpList_load_row rfl 24 (.tmp 2) rfl w.heap.size rfl 24 _ (0, 0) _ hA1.out uWd rfl iN.out ?_; simp only [Act.put, List.setIfInBounds_toArray, List.set_cons_zero, List.set_cons_succ]) | (refine wpList_load_row rfl 24 (.tmp 3) rfl (w.heap.size + 1) rfl 24 _ (0, 0) _ hB1.out uWd rfl iX.out ?_; simp only [Act.put, List.setIfInBounds_toArray, List.set_cons_zero, List.set_cons_succ]))
    refine (hSh.out _).mono ?_
    rintro e w2 ⟨rfl, hb3⟩
    have hB2 := hid ((hB1.out.below hb3 hB1.out.lt).alloc (.cells (cellsW z) 24))
    have hC2 := hid ((hC1.out.below hb3 hC1.out.lt).alloc (.cells (cellsW z) 24))
    have hD2 := hid (ArrW.new 24 w2 z)
    have hb4 := hb2.trans (hb3.mono hb2.size)
    have hb5 := hb4.alloc hb4.size (.cells (cellsW z) 24)
    have hsz : w.heap.size + 3 ≤ w2.heap.size := by have h1 := (hC1.out.below hb3 hC1.out.lt).lt; omega
    clear hA1 hB1 hC1 hb2 hb3
    go_wp2_with (first | (refine wpList_allocStore 24 11 6 (cellsW z) (cellsW 0) rfl rfl rfl rfl rfl rfl (by decide) (by simp) rfl (by kernel_rfl) rfl iZ.out nZ.out ?_; simp only [Act.put, List.setIfInBounds_toArray, List.set_cons_zero, List.set_cons_succ]) | (refine wpList_load_row rfl 24 (.tmp 3) rfl (w.heap.size + 1) rfl 24 _ (0, 0) _ hB2.out uWd rfl iX.out ?_; simp only [Act.put, List.setIfInBounds_toArray, List.set_cons_zero, List.set_cons_succ]))
    refine (hN.out _).mono ?_
    rintro e w3 ⟨rfl, hb6⟩
    have hC3 := hid (hC2.out.below hb6 hC2.out.lt)
    have hD3 := hid (hD2.out.below hb6 hD2.out.lt)
    have hb7 := hb5.trans (hb6.mono hb5.size)
    clear hB2 hC2 hD2 hb5 hb6
    go_wp2_with (first | (refine wpList_load_row rfl 24 (.tmp 6) rfl w2.heap.size rfl 24 _ (0, 0) _ hD3.out uWd rfl iZ.out ?_; simp only [Act.put, List.setIfInBounds_toArray, List.set_cons_zero, List.set_cons_succ]) | (refine wpList_store_row rfl 24 (.tmp 4) (.tmp 23) rfl (w.heap.size + 2) _ rfl rfl 24 _ hC3.out iZ.out rfl nZ.out ?_; simp only [Act.put]))
    refine bodyPost_ret (results_cell_row rfl _ _ (w.heap.size + 2) 24 (cellsW z) (0, 0) _ rfl (heap_setRow' _ _ _ _ _ hC3.out) uWd rfl iZ.out) rfl ⟨rfl, below_setRow' hb7 _ (by omega) _⟩
  | true =>
    have hOf := hid (fun w => of_any z w hzl)
    have hP1 := hid (fun w => power_any 256 w (by omega))
    have hP2 := hid (fun w => power_any (256 - k) w (by omega))
    have l1 := len_pow 256
    have l2 := len_pow (256 - k)
    have lz := dg_word_len z hzl
    have hle : 2 ^ (256 - k) ≤ 2 ^ 256 := Nat.pow_le_pow_right (by omega) (by omega)
    have hL := hid (fun va vb w ha hb => less_any (2 ^ 256) (2 ^ (256 - k)) va vb w ha hb (by omega) hle)
    have ld : (dg (2 ^ 256 - 2 ^ (256 - k))).length ≤ 33 := len_le (Nat.sub_le _ _) l1
    have ls := len_add (Nat.le_trans lz (by omega : _ ≤ 33)) ld
    have hS := hid (fun va vb w ha hb => plus_any z (2 ^ 256 - 2 ^ (256 - k)) va vb w ha hb (by omega) (by omega))
    have hW := hid (fun v w h => wordN_any (z + (2 ^ 256 - 2 ^ (256 - k))) v w h (by omega))
    have hy := sarW_ref x k hk hs
    rw [← hz] at hy
    rw [hy] at hW
    obtain ⟨y, hy2⟩ : ∃ y, y = sarW x k := ⟨_, rfl⟩
    rw [← hy2] at hW ⊢
    obtain ⟨d, hd⟩ : ∃ d, d = 2 ^ 256 - 2 ^ (256 - k) := ⟨_, rfl⟩
    rw [← hd] at hW hS hL
    obtain ⟨p1, hp1⟩ : ∃ p : Nat, p = 2 ^ 256 := ⟨_, rfl⟩
    rw [← hp1] at hP1 hL
    obtain ⟨p2, hp2⟩ : ∃ p, p = 2 ^ (256 - k) := ⟨_, rfl⟩
    rw [← hp2] at hP2 hL
    obtain ⟨s, hs2⟩ : ∃ s, s = z + d := ⟨_, rfl⟩
    rw [← hs2] at hS hW
    rw [hs] at hN
    obtain ⟨j, hj⟩ : ∃ j, j = 256 - k := ⟨_, rfl⟩
    rw [← hj] at hP2
    have ej : (256 - (k : Int)) = (j : Int) := by omega
    clear hn hx hk hk2 hz hzl hs l1 l2 lz hle ld ls hy hy2 hd hp1 hp2 hs2 hj
    have iY := hid (iW y)
    have nY := hid (one_cellsW y)
    unfold wd at *
    have hA0 := hid (show ArrW 24 (((w.alloc (.cells (cellsW n) 24)).alloc (.cells (cellsW x) 24)).alloc (.cells (cellsW 0) 24)) w.heap.size n from ((ArrW.new _ w n).alloc _).alloc _)
    have hB0 := hid (show ArrW 24 (((w.alloc (.cells (cellsW n) 24)).alloc (.cells (cellsW x) 24)).alloc (.cells (cellsW 0) 24)) (w.heap.size + 1) x by
      have := ArrW.new 24 (w.alloc (.cells (cellsW n) 24)) x
      rw [World.size_alloc] at this; exact this.alloc _)
    have hC0 := hid (show ArrW 24 (((w.alloc (.cells (cellsW n) 24)).alloc (.cells (cellsW x) 24)).alloc (.cells (cellsW 0) 24)) (w.heap.size + 2) 0 by
      have := ArrW.new 24 ((w.alloc (.cells (cellsW n) 24)).alloc (.cells (cellsW x) 24)) 0
      rw [World.size_alloc, World.size_alloc] at this; exact this)
    have hb0 : Below w.heap.size w (((w.alloc (.cells (cellsW n) 24)).alloc (.cells (cellsW x) 24)).alloc (.cells (cellsW 0) 24)) := (((Below.refl _ _).alloc (Nat.le_refl _) _).alloc (by simp) _).alloc (by simp; omega) _
    go_enter Try.func35, Try.ntmps35
    go_wp2_with (first | (refine wpList_alloc_new rfl 24 rfl (cellsW 0) zWd ?_; simp only [Act.put, List.setIfInBounds_toArray, List.set_cons_zero, List.set_cons_succ, World.size_alloc]) | (refine wpList_load_row rfl 24 (.tmp 2) rfl w.heap.size rfl 24 _ (0, 0) _ hA0.out uWd rfl iN.out ?_; simp only [Act.put, List.setIfInBounds_toArray, List.set_cons_zero, List.set_cons_succ]))
    refine (hU.out _).mono ?_
    rintro e w1 ⟨rfl, hb1⟩
    have hA1 := hid (hA0.out.below hb1 hA0.out.lt)
    have hB1 := hid (hB0.out.below hb1 hB0.out.lt)
    have hC1 := hid (hC0.out.below hb1 hC0.out.lt)
    have hb2 := hb0.trans (hb1.mono hb0.size)
    clear hA0 hB0 hC0 hb0 hb1
    go_wp2_with (first | (refine wpList_load_row rfl 24 (.tmp 2) rfl w.heap.size rfl 24 _ (0, 0) _ hA1.out uWd rfl iN.out ?_; simp only [Act.put, List.setIfInBounds_toArray, List.set_cons_zero, List.set_cons_succ]) | (refine wpList_load_row rfl 24 (.tmp 3) rfl (w.heap.size + 1) rfl 24 _ (0, 0) _ hB1.out uWd rfl iX.out ?_; simp only [Act.put, List.setIfInBounds_toArray, List.set_cons_zero, List.set_cons_succ]))
    refine (hSh.out _).mono ?_
    rintro e w2 ⟨rfl, hb3⟩
    have hB2 := hid ((hB1.out.below hb3 hB1.out.lt).alloc (.cells (cellsW z) 24))
    have hC2 := hid ((hC1.out.below hb3 hC1.out.lt).alloc (.cells (cellsW z) 24))
    have hD2 := hid (ArrW.new 24 w2 z)
    have hb4 := hb2.trans (hb3.mono hb2.size)
    have hb5 := hb4.alloc hb4.size (.cells (cellsW z) 24)
    have hsz : w.heap.size + 3 ≤ w2.heap.size := by have h1 := (hC1.out.below hb3 hC1.out.lt).lt; omega
    clear hA1 hB1 hC1 hb2 hb3
    go_wp2_with (first | (refine wpList_allocStore 24 11 6 (cellsW z) (cellsW 0) rfl rfl rfl rfl rfl rfl (by decide) (by simp) rfl (by kernel_rfl) rfl iZ.out nZ.out ?_; simp only [Act.put, List.setIfInBounds_toArray, List.set_cons_zero, List.set_cons_succ]) | (refine wpList_load_row rfl 24 (.tmp 3) rfl (w.heap.size + 1) rfl 24 _ (0, 0) _ hB2.out uWd rfl iX.out ?_; simp only [Act.put, List.setIfInBounds_toArray, List.set_cons_zero, List.set_cons_succ]))
    refine (hN.out _).mono ?_
    rintro e w3 ⟨rfl, hb6⟩
    have hC3 := hid (hC2.out.below hb6 hC2.out.lt)
    have hD3 := hid (hD2.out.below hb6 hD2.out.lt)
    have hb7 := hb5.trans (hb6.mono hb5.size)
    clear hB2 hC2 hD2 hb5 hb6
    go_wp2_with (first | (refine wpList_load_row rfl 24 (.tmp 6) rfl w2.heap.size rfl 24 _ (0, 0) _ hD3.out uWd rfl iZ.out ?_; simp only [Act.put, List.setIfInBounds_toArray, List.set_cons_zero, List.set_cons_succ]))
    have hC := hC3.out
    (refine (hOf.out _).mono ?_; rintro _ w4 ⟨v4, rfl, hr4, hs4⟩)
    go_wp2_with fail
    (refine (hP1.out _).mono ?_; rintro _ w5 ⟨v5, rfl, hr5, hs5⟩)
    go_wp2_with fail
    (refine (hP2.out _).mono ?_; rintro _ w6 ⟨v6, rfl, hr6, hs6⟩)
    go_wp2_with fail
    (refine (hL.out _ _ _ (by (repeat (first | assumption | refine RdN.below ?_ (by assumption)))) (by (repeat (first | assumption | refine RdN.below ?_ (by assumption))))).mono ?_; rintro _ w7 ⟨v7, rfl, hr7, hs7⟩)
    go_wp2_with fail
    (refine (hS.out _ _ _ (by (repeat (first | assumption | refine RdN.below ?_ (by assumption)))) (by (repeat (first | assumption | refine RdN.below ?_ (by assumption))))).mono ?_; rintro _ w8 ⟨v8, rfl, hr8, hs8⟩)
    go_wp2_with fail
    (refine (hW.out _ _ (by (repeat (first | assumption | refine RdN.below ?_ (by assumption))))).mono ?_; rintro _ w9 ⟨rfl, hs9⟩)
    have hD := hD3.out
    have hC9 : ArrW 24 w9 (w.heap.size + 2) 0 := (by (repeat (first | assumption | refine ArrW.step ?_ (by assumption))))
    have hD9 : ArrW 24 w9 w2.heap.size z := (by (repeat (first | assumption | refine ArrW.step ?_ (by assumption))))
    have hb9 : Below w.heap.size w w9 := (by (repeat (first | assumption | refine below_next ?_ (Nat.le_refl _) (by assumption))))
    clear hC3 hD3 hb7 hC hD hs4 hs5 hs6 hs7 hs8 hs9 hr4 hr5 hr6 hr7 hr8
    have hD10 := hid (hD9.row y)
    have hC10 := hid (hC9.otherRow (show w.heap.size + 2 ≠ w2.heap.size by omega) (cellsW y))
    go_wp2_with (first | (refine wpList_store_row rfl 24 (.tmp 6) (.tmp 22) rfl w2.heap.size _ rfl rfl 24 _ hD9 iY.out rfl nY.out ?_; simp only [Act.put]) | (refine wpList_load_row rfl 24 (.tmp 6) rfl w2.heap.size rfl 24 _ (0, 0) _ hD10.out uWd rfl iY.out ?_; simp only [Act.put, List.setIfInBounds_toArray, List.set_cons_zero, List.set_cons_succ]) | (refine wpList_store_row rfl 24 (.tmp 4) (.tmp 23) rfl (w.heap.size + 2) _ rfl rfl 24 _ hC10.out iY.out rfl nY.out ?_; simp only [Act.put]))
    refine bodyPost_ret (results_cell_row rfl _ _ (w.heap.size + 2) 24 (cellsW y) (0, 0) _ rfl (heap_setRow' _ _ _ _ _ hC10.out) uWd rfl iY.out) rfl ⟨rfl, below_setRow' (below_setRow' hb9 _ (by omega) _) _ (by omega) _⟩

/-- A sign drawn out, as the document has it. -/
theorem negW_shl (x n : Nat) (hn : n < 31) : negW (x * 2 ^ (248 - 8 * n) % 2 ^ 256) = decide (x / 2 ^ (8 * n + 7) % 2 = 1) := by
  unfold negW
  congr 1
  apply propext
  have e1 : (2 : Nat) ^ 256 = 2 ^ (248 - 8 * n) * 2 ^ (8 * n + 8) := by rw [← Nat.pow_add]; congr 1; omega
  have e2 : (2 : Nat) ^ 255 = 2 ^ (248 - 8 * n) * 2 ^ (8 * n + 7) := by rw [← Nat.pow_add]; congr 1; omega
  have hp : 0 < 2 ^ (248 - 8 * n) := Nat.pow_pos (by omega)
  rw [e1, Nat.mul_comm x, Nat.mul_mod_mul_left, e2, Nat.mul_le_mul_left_iff hp]
  have e3 : (2 : Nat) ^ (8 * n + 8) = 2 ^ (8 * n + 7) * 2 := Nat.pow_succ ..
  have hq : 0 < 2 ^ (8 * n + 7) := Nat.pow_pos (by omega)
  rw [e3, Nat.mod_mul]
  have h1 := Nat.mod_lt x hq
  have h2 := Nat.mod_lt (x / 2 ^ (8 * n + 7)) (by omega : 0 < 2)
  constructor
  · intro h
    rcases Nat.lt_or_ge (x / 2 ^ (8 * n + 7) % 2) 1 with h3 | h3
    · have : x / 2 ^ (8 * n + 7) % 2 = 0 := by omega
      rw [this, Nat.mul_zero] at h; omega
    · omega
  · intro h
    rw [h, Nat.mul_one]; omega
theorem sex_low (x n : Nat) (hn : n < 31) : x * 2 ^ (248 - 8 * n) % 2 ^ 256 / 2 ^ (248 - 8 * n) = x % 2 ^ (8 * n + 8) := by
  have e1 : (2 : Nat) ^ 256 = 2 ^ (248 - 8 * n) * 2 ^ (8 * n + 8) := by rw [← Nat.pow_add]; congr 1; omega
  have hp : 0 < 2 ^ (248 - 8 * n) := Nat.pow_pos (by omega)
  rw [e1, Nat.mul_comm x, Nat.mul_mod_mul_left, Nat.mul_div_cancel_left _ hp]
theorem sexW_31 (k x : Nat) (hx : x < 2 ^ 256) (h : upT k 31 = 31) : sexW k x = x := by
  unfold sexW
  rw [h, show upT (248 - 8 * 31) 256 = 0 from rfl, Nat.pow_zero, Nat.mul_one, Nat.mod_eq_of_lt hx]
  unfold sarW
  rw [Nat.pow_zero, Nat.div_one, Nat.div_one, Nat.add_mul_mod_self_left, Nat.mod_eq_of_lt hx]
  split <;> rfl
theorem sexW_low (k x n : Nat) (h : upT k 31 = n) (hn : n < 31) : sexW k x = if x / 2 ^ (8 * n + 7) % 2 = 1 then (x % 2 ^ (8 * n + 8) + (2 ^ 256 - 2 ^ (8 * n + 8))) % 2 ^ 256 else x % 2 ^ (8 * n + 8) := by
  unfold sexW
  rw [h]
  have hu : upT (248 - 8 * n) 256 = 248 - 8 * n := by unfold upT; rw [if_pos (by omega)]
  rw [hu]
  have hs := negW_shl x n hn
  by_cases hb : x / 2 ^ (8 * n + 7) % 2 = 1
  · rw [decide_eq_true hb] at hs
    rw [if_pos hb, ← sarW_ref _ _ (by omega) hs, sex_low x n hn, show 256 - (248 - 8 * n) = 8 * n + 8 by omega]
  · rw [decide_eq_false hb] at hs
    rw [if_neg hb]
    unfold sarW
    rw [if_neg (by rw [hs]; decide), sex_low x n hn]
end Go.Proofs.Ytfidbiabgmioaaa
