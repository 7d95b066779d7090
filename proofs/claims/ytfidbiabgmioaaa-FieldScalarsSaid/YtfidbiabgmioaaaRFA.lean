import Derived.Test.YtfidbiabgmioaaaFldM
/-! conclaveref04: P, L, mod, sums, products, differences. -/
set_option maxRecDepth 4000
set_option linter.unusedVariables false
set_option linter.unusedSimpArgs false
namespace Go.Proofs.Ytfidbiabgmioaaa
open Go.RowKit

theorem RdN.litd (d : Nat) (h0 : 0 < d) (h : d < 256) (w : World) : RdN (w.alloc (.cells #[.int .i64 (d : Int)] 3)) (.slice (some ⟨w.heap.size, 0, none⟩) 1 1) d := by
  have h2 : dg d = [d] := by rw [dg_pos d (by omega), Nat.mod_eq_of_lt h, Nat.div_eq_of_lt h, dg_zero]
  have := ArrL.rd (ArrL.new w [d]) 1 (by simp)
  unfold RdN; rw [h2]; exact this
theorem dgs (x k n : Nat) (h : x < 256 ^ k) (hk : k ≤ n) : (dg x).length ≤ n := Nat.le_trans (dg_len x k h) hk
theorem dg_p : (dg pN).length ≤ 32 := dg_len _ _ (by decide +kernel)
theorem dg_l : (dg lN).length ≤ 32 := dg_len _ _ (by decide +kernel)
theorem below_alloc (w : World) (o : Obj) : Below w.heap.size w (w.alloc o) := (Below.refl _ _).alloc (Nat.le_refl _) o
set_option maxHeartbeats 1000000 in
theorem rP_any (w : World) : Calls Try.prog 91 #[] w fun e w' => ∃ v', e = .returned v' ∧ RdN w' v' pN ∧ Below w.heap.size w w' := by
  have h1 := hid (fun w => power_any 255 w (by omega))
  have h2 := hid (fun va vb w ha hb => less_any (2 ^ 255) 19 va vb w ha hb (dgs _ 32 _ (by decide +kernel) (by omega)) (by decide +kernel))
  rw [show 2 ^ 255 - 19 = pN from by decide +kernel] at h2
  generalize pN = p at *
  have hl := hid (fun w => RdN.litd 19 (by omega) (by omega) w)
  generalize 2 ^ 255 = T at *
  go_enter Try.func91, Try.ntmps91
  go_wp2_with fail
  (refine (h1.out _).mono ?_; rintro _ w1 ⟨v1, rfl, hr1, hs1⟩)
  go_wp2_with fail
  have hs2 := below_alloc w1 (.cells #[.int .i64 19] 3)
  have hr2 := hl.out w1
  (refine (h2.out _ _ _ (hr1.below hs2) hr2).mono ?_; rintro _ w3 ⟨v3, rfl, hr3, hs3⟩)
  go_wp2
  go_ret
  exact ⟨_, rfl, hr3, (by (repeat (first | assumption | refine below_next ?_ (Nat.le_refl _) (by assumption))))⟩
def lowL : List Nat := [237, 211, 245, 92, 26, 99, 18, 88, 214, 156, 247, 162, 222, 249, 222, 20]
theorem dg_low : dg (num lowL) = lowL := by
  have := dg_num lowL 16 (fun d hd => by simp [lowL] at hd; omega) (by decide) (fun j h1 h2 => by have : lowL.length = 16 := rfl; omega) (.inr (by decide))
  rw [← this]; rfl
set_option maxHeartbeats 1000000 in
theorem rL_any (w : World) : Calls Try.prog 99 #[] w fun e w' => ∃ v', e = .returned v' ∧ RdN w' v' lN ∧ Below w.heap.size w w' := by
  have h1 := hid (fun w => power_any 252 w (by omega))
  have h2 := hid (fun va vb w ha hb => plus_any (2 ^ 252) (num lowL) va vb w ha hb (dgs _ 32 _ (by decide +kernel) (by omega)) (by rw [dg_low]; decide))
  rw [show 2 ^ 252 + num lowL = lN from by decide +kernel] at h2
  generalize lN = l at *
  have hl := hid (fun w : World => show RdN (w.alloc (.cells #[.int .i64 237, .int .i64 211, .int .i64 245, .int .i64 92, .int .i64 26, .int .i64 99, .int .i64 18, .int .i64 88, .int .i64 214, .int .i64 156, .int .i64 247, .int .i64 162, .int .i64 222, .int .i64 249, .int .i64 222, .int .i64 20] 3)) (.slice (some ⟨w.heap.size, 0, none⟩) 16 16) (num lowL) from by
    unfold RdN; rw [dg_low]; exact ArrL.rd (ArrL.new w lowL) 16 (by decide))
  generalize num lowL = m at *
  generalize 2 ^ 252 = T at *
  go_enter Try.func99, Try.ntmps99
  go_wp2_with fail
  have hs0 := below_alloc w (.cells #[.int .i64 237, .int .i64 211, .int .i64 245, .int .i64 92, .int .i64 26, .int .i64 99, .int .i64 18, .int .i64 88, .int .i64 214, .int .i64 156, .int .i64 247, .int .i64 162, .int .i64 222, .int .i64 249, .int .i64 222, .int .i64 20] 3)
  have hr0 := hl.out w
  (refine (h1.out _).mono ?_; rintro _ w1 ⟨v1, rfl, hr1, hs1⟩)
  go_wp2_with fail
  (refine (h2.out _ _ _ hr1 (hr0.below hs1)).mono ?_; rintro _ w3 ⟨v3, rfl, hr3, hs3⟩)
  go_wp2
  go_ret
  exact ⟨_, rfl, hr3, (by (repeat (first | assumption | refine below_next ?_ (Nat.le_refl _) (by assumption))))⟩

set_option maxHeartbeats 1000000 in
theorem rfmod_any (n m : Nat) (va vb : Value) (w : World) (ha : RdN w va n) (hb : RdN w vb m) (la : (dg n).length ≤ 65536) (lb : (dg m).length ≤ 65000) (hm : 0 < m) (hm2 : m < 2 ^ 256) :
    Calls Try.prog 121 #[va, vb] w fun e w' => e = .returned (wd (n % m)) ∧ Below w.heap.size w w' := by
  have hQ := hid (fun w ha hb => quo_any n m va vb w ha hb la lb hm)
  have hr : n % m < 2 ^ 256 := Nat.lt_trans (Nat.mod_lt _ hm) hm2
  have hW := hid (fun v w h => wordN_any (n % m) v w h (Nat.le_trans (dg_len_mono _ _ (Nat.mod_le _ _)) la))
  rw [Nat.mod_eq_of_lt hr] at hW
  obtain ⟨r, hr1⟩ : ∃ r, r = n % m := ⟨_, rfl⟩
  rw [← hr1] at hQ hW ⊢
  clear la lb hm hm2 hr hr1
  unfold wd at *
  have iR := hid (iW r)
  have nR := hid (one_cellsW r)
  have hC0 := hid (ArrW.new 24 w 0)
  have hb0 : Below w.heap.size w (w.alloc (.cells (cellsW 0) 24)) := (Below.refl _ _).alloc (Nat.le_refl _) _
  have hA0 := hid (ha.below hb0)
  have hB0 := hid (hb.below hb0)
  clear ha hb
  go_enter Try.func121, Try.ntmps121
  go_wp2_with (refine wpList_alloc_new rfl 24 rfl (cellsW 0) zWd ?_; simp only [Act.put, List.setIfInBounds_toArray, List.set_cons_zero, List.set_cons_succ, World.size_alloc])
  refine (hQ.out _ hA0.out hB0.out).mono ?_
  rintro e w1 ⟨v1, v2, rfl, hr1, hr2, hb1⟩
  have hC1 := hid (hC0.out.below hb1 hC0.out.lt)
  have hR2 := hid hr2
  have hb2 := hb0.trans (hb1.mono hb0.size)
  clear hr1 hr2 hA0 hB0 hC0 hb0 hb1
  go_wp2_with fail
  refine (hW.out _ _ hR2.out).mono ?_
  rintro e w2 ⟨rfl, hb3⟩
  have hC2 := hid (hC1.out.below hb3 hC1.out.lt)
  have hb4 := hb2.trans (hb3.mono hb2.size)
  clear hC1 hb2 hb3 hR2
  go_wp2_with (refine wpList_store_row rfl 24 (.tmp 4) (.tmp 14) rfl w.heap.size _ rfl rfl 24 _ hC2.out iR.out rfl nR.out ?_; simp only [Act.put])
  refine bodyPost_ret (results_cell_row rfl _ _ w.heap.size 24 (cellsW r) (0, 0) _ rfl (heap_setRow' _ _ _ _ _ hC2.out) uWd rfl iR.out) rfl ⟨rfl, below_setRow' hb4 _ (Nat.le_refl _) _⟩

theorem dg_sum (a b : Nat) (ha : a < 2 ^ 256) (hb : b < 2 ^ 256) : (dg (a + b)).length ≤ 65536 := dgs _ 33 _ (by
  rw [show (256 : Nat) ^ 33 = 2 ^ 256 * 256 by rw [Nat.pow_succ, pow256_32]]
  have h : 0 < 2 ^ 256 := Nat.pow_pos (by omega)
  generalize 2 ^ 256 = T at *
  omega) (by omega)
theorem dg_prod (a b : Nat) (ha : a < 2 ^ 256) (hb : b < 2 ^ 256) : (dg (a * b)).length ≤ 65536 := dgs _ 64 _ (by
  rw [show 64 = 32 + 32 from rfl, Nat.pow_add, pow256_32]
  exact Nat.mul_lt_mul'' ha hb) (by omega)
set_option maxHeartbeats 2000000 in
theorem rfadd_any (a b : Nat) (w : World) (ha : a < 2 ^ 256) (hb : b < 2 ^ 256) : Calls Try.prog 95 #[wd a, wd b] w fun e w' => e = .returned (wd ((a + b) % pN)) ∧ Below w.heap.size w w' := by
  have hOA := hid (fun w => of_any a w ha)
  have hOB := hid (fun w => of_any b w hb)
  have hP := hid rP_any
  have la := dg_word_len a ha
  have lb := dg_word_len b hb
  have hF := hid (fun va vb w h1 h2 => plus_any a b va vb w h1 h2 (by omega) (by omega))
  have hM := hid (fun va vb w h1 h2 => rfmod_any (a + b) pN va vb w h1 h2 (dg_sum a b ha hb) (by have := dg_p; omega) pN_pos pN_lt)
  obtain ⟨r, hr⟩ : ∃ r, r = (a + b) % pN := ⟨_, rfl⟩
  rw [← hr] at hM ⊢
  obtain ⟨s, hs⟩ : ∃ s, s = a + b := ⟨_, rfl⟩
  rw [← hs] at hM hF
  generalize pN = p at *
  clear ha hb la lb hr hs
  unfold wd at *
  have iA := hid (iW a)
  have iB := hid (iW b)
  have iR := hid (iW r)
  have nR := hid (one_cellsW r)
  have hA0 := hid (show ArrW 24 (((w.alloc (.cells (cellsW a) 24)).alloc (.cells (cellsW b) 24)).alloc (.cells (cellsW 0) 24)) w.heap.size a from ((ArrW.new _ w a).alloc _).alloc _)
  have hB0 := hid (show ArrW 24 (((w.alloc (.cells (cellsW a) 24)).alloc (.cells (cellsW b) 24)).alloc (.cells (cellsW 0) 24)) (w.heap.size + 1) b by
    have := ArrW.new 24 (w.alloc (.cells (cellsW a) 24)) b
    rw [World.size_alloc] at this; exact this.alloc _)
  have hC0 := hid (show ArrW 24 (((w.alloc (.cells (cellsW a) 24)).alloc (.cells (cellsW b) 24)).alloc (.cells (cellsW 0) 24)) (w.heap.size + 2) 0 by
    have := ArrW.new 24 ((w.alloc (.cells (cellsW a) 24)).alloc (.cells (cellsW b) 24)) 0
    rw [World.size_alloc, World.size_alloc] at this; exact this)
  have hb0 : Below w.heap.size w (((w.alloc (.cells (cellsW a) 24)).alloc (.cells (cellsW b) 24)).alloc (.cells (cellsW 0) 24)) := (((Below.refl _ _).alloc (Nat.le_refl _) _).alloc (by simp) _).alloc (by simp; omega) _
  go_enter Try.func95, Try.ntmps95
  go_wp2_with (refine wpList_alloc_new rfl 24 rfl (cellsW 0) zWd ?_; simp only [Act.put, List.setIfInBounds_toArray, List.set_cons_zero, List.set_cons_succ, World.size_alloc])
  generalize ((w.alloc (.cells (cellsW a) 24)).alloc (.cells (cellsW b) 24)).alloc (.cells (cellsW 0) 24) = w1 at hA0 hB0 hC0 hb0 ⊢
  ((try simp only [World.size_alloc]); refine wp_region_loose_tail 7 [.kn (.agg (cellsW (a))), .lo (fun v w => RdN w v (a)), .kn (.agg (cellsW (b))), .lo (fun v w => RdN w v (b)), .lo (fun v w => RdN w v (s)), .lo (fun v w => RdN w v (p)), .kn (.agg (cellsW (r)))] (by kernel_rfl) (by kernel_rfl) (by kernel_rfl) (by first | exact trivial | ((repeat (first | refine keepsAll_kn ?_ | (refine keepsAll_lo (fun v w w' h hb => ?_) ?_; first | exact RdN.below h hb | exact RdL.below h hb | exact RdY.below h hb | (obtain ⟨b, e, h1⟩ := h; exact ⟨b, e, ArrY.below h1 hb (ArrY.lt h1)⟩) | (obtain ⟨v1, v2, e, h1, h2⟩ := h; exact ⟨v1, v2, e, RdN.below h1 hb, RdN.below h2 hb⟩)))); exact trivial)) ?_; simp only [List.take_succ_cons, List.take_zero, List.drop_succ_cons, List.drop_zero])
  (refine loose_step_on rfl (fun W' hB' hd K hK => wp_load_block 24 (.tmp 2) rfl w.heap.size rfl 24 _ _ (ArrW.below hA0.out hB' (ArrW.lt hA0.out)) uWd rfl iA.out (hK _ _ (Below.refl _ _) rfl)) ?_; rintro _ rfl; simp only [Act.put, List.setIfInBounds_toArray, List.set_cons_zero, List.set_cons_succ])
  (refine loose_step_on rfl (fun W' hB' hd K hK => ?_) ?_; (focus (skip; clear hd; go_simp; refine (hOA.out _).mono ?_; rintro _ _ ⟨v', rfl, hr, hb'⟩; exact hK v' _ hb' hr)); intro v6 _; simp only [Act.put, List.setIfInBounds_toArray, List.set_cons_zero, List.set_cons_succ])
  (refine loose_step_on rfl (fun W' hB' hd K hK => wp_load_block 24 (.tmp 3) rfl (w.heap.size + 1) rfl 24 _ _ (ArrW.below hB0.out hB' (ArrW.lt hB0.out)) uWd rfl iB.out (hK _ _ (Below.refl _ _) rfl)) ?_; rintro _ rfl; simp only [Act.put, List.setIfInBounds_toArray, List.set_cons_zero, List.set_cons_succ])
  (refine loose_step_on rfl (fun W' hB' hd K hK => ?_) ?_; (focus (skip; clear hd; go_simp; refine (hOB.out _).mono ?_; rintro _ _ ⟨v', rfl, hr, hb'⟩; exact hK v' _ hb' hr)); intro v8 _; simp only [Act.put, List.setIfInBounds_toArray, List.set_cons_zero, List.set_cons_succ])
  (refine loose_step_on rfl (fun W' hB' hd K hK => ?_) ?_; (focus (have g6 : RdN W' v6 a := hd ⟨1, Ground.data⟩ (by simp) rfl _ 6 rfl rfl (by simp); have g8 : RdN W' v8 b := hd ⟨3, Ground.data⟩ (by simp) rfl _ 8 rfl rfl (by simp); clear hd; go_simp; refine (hF.out v6 v8 _ g6 g8).mono ?_; rintro _ _ ⟨v', rfl, hr, hb'⟩; exact hK v' _ hb' hr)); intro v9 _; simp only [Act.put, List.setIfInBounds_toArray, List.set_cons_zero, List.set_cons_succ])
  (refine loose_step_on rfl (fun W' hB' hd K hK => ?_) ?_; (focus (skip; clear hd; go_simp; refine (hP.out _).mono ?_; rintro _ _ ⟨v', rfl, hr, hb'⟩; exact hK v' _ hb' hr)); intro v10 _; simp only [Act.put, List.setIfInBounds_toArray, List.set_cons_zero, List.set_cons_succ])
  (refine loose_step_on rfl (fun W' hB' hd K hK => ?_) ?_; (focus (have g9 : RdN W' v9 s := hd ⟨4, Ground.data⟩ (by simp) rfl _ 9 rfl rfl (by simp); have g10 : RdN W' v10 p := hd ⟨5, Ground.data⟩ (by simp) rfl _ 10 rfl rfl (by simp); clear hd; go_simp; refine (hM.out v9 v10 _ g9 g10).mono ?_; rintro _ _ ⟨rfl, hb'⟩; exact hK _ _ hb' rfl)); rintro _ rfl; simp only [Act.put, List.setIfInBounds_toArray, List.set_cons_zero, List.set_cons_succ])
  intro w6 hb6 hf
  clear hf
  have hC6 := hid (hC0.out.below hb6 hC0.out.lt)
  have hb7 := hb0.trans (hb6.mono hb0.size)
  clear hA0 hB0 hC0 hb0 hb6
  (refine wpList_store_row rfl 24 (.tmp 4) (.tmp 11) rfl (w.heap.size + 2) _ rfl rfl 24 _ hC6.out iR.out rfl nR.out ?_; simp only [Act.put])
  go_wp2
  refine bodyPost_ret (results_cell_row rfl _ _ (w.heap.size + 2) 24 (cellsW r) (0, 0) _ rfl (heap_setRow' _ _ _ _ _ hC6.out) uWd rfl iR.out) rfl ⟨rfl, below_setRow' hb7 _ (by omega) _⟩
set_option maxHeartbeats 2000000 in
theorem rfmul_any (a b : Nat) (w : World) (ha : a < 2 ^ 256) (hb : b < 2 ^ 256) : Calls Try.prog 94 #[wd a, wd b] w fun e w' => e = .returned (wd ((a * b) % pN)) ∧ Below w.heap.size w w' := by
  have hOA := hid (fun w => of_any a w ha)
  have hOB := hid (fun w => of_any b w hb)
  have hP := hid rP_any
  have la := dg_word_len a ha
  have lb := dg_word_len b hb
  have hF := hid (fun va vb w h1 h2 => times_any a b va vb w h1 h2 (by omega) (by omega))
  have hM := hid (fun va vb w h1 h2 => rfmod_any (a * b) pN va vb w h1 h2 (dg_prod a b ha hb) (by have := dg_p; omega) pN_pos pN_lt)
  obtain ⟨r, hr⟩ : ∃ r, r = (a * b) % pN := ⟨_, rfl⟩
  rw [← hr] at hM ⊢
  obtain ⟨s, hs⟩ : ∃ s, s = a * b := ⟨_, rfl⟩
  rw [← hs] at hM hF
  generalize pN = p at *
  clear ha hb la lb hr hs
  unfold wd at *
  have iA := hid (iW a)
  have iB := hid (iW b)
  have iR := hid (iW r)
  have nR := hid (one_cellsW r)
  have hA0 := hid (show ArrW 24 (((w.alloc (.cells (cellsW a) 24)).alloc (.cells (cellsW b) 24)).alloc (.cells (cellsW 0) 24)) w.heap.size a from ((ArrW.new _ w a).alloc _).alloc _)
  have hB0 := hid (show ArrW 24 (((w.alloc (.cells (cellsW a) 24)).alloc (.cells (cellsW b) 24)).alloc (.cells (cellsW 0) 24)) (w.heap.size + 1) b by
    have := ArrW.new 24 (w.alloc (.cells (cellsW a) 24)) b
    rw [World.size_alloc] at this; exact this.alloc _)
  have hC0 := hid (show ArrW 24 (((w.alloc (.cells (cellsW a) 24)).alloc (.cells (cellsW b) 24)).alloc (.cells (cellsW 0) 24)) (w.heap.size + 2) 0 by
    have := ArrW.new 24 ((w.alloc (.cells (cellsW a) 24)).alloc (.cells (cellsW b) 24)) 0
    rw [World.size_alloc, World.size_alloc] at this; exact this)
  have hb0 : Below w.heap.size w (((w.alloc (.cells (cellsW a) 24)).alloc (.cells (cellsW b) 24)).alloc (.cells (cellsW 0) 24)) := (((Below.refl _ _).alloc (Nat.le_refl _) _).alloc (by simp) _).alloc (by simp; omega) _
  go_enter Try.func94, Try.ntmps94
  go_wp2_with (refine wpList_alloc_new rfl 24 rfl (cellsW 0) zWd ?_; simp only [Act.put, List.setIfInBounds_toArray, List.set_cons_zero, List.set_cons_succ, World.size_alloc])
  generalize ((w.alloc (.cells (cellsW a) 24)).alloc (.cells (cellsW b) 24)).alloc (.cells (cellsW 0) 24) = w1 at hA0 hB0 hC0 hb0 ⊢
  ((try simp only [World.size_alloc]); refine wp_region_loose_tail 7 [.kn (.agg (cellsW (a))), .lo (fun v w => RdN w v (a)), .kn (.agg (cellsW (b))), .lo (fun v w => RdN w v (b)), .lo (fun v w => RdN w v (s)), .lo (fun v w => RdN w v (p)), .kn (.agg (cellsW (r)))] (by kernel_rfl) (by kernel_rfl) (by kernel_rfl) (by first | exact trivial | ((repeat (first | refine keepsAll_kn ?_ | (refine keepsAll_lo (fun v w w' h hb => ?_) ?_; first | exact RdN.below h hb | exact RdL.below h hb | exact RdY.below h hb | (obtain ⟨b, e, h1⟩ := h; exact ⟨b, e, ArrY.below h1 hb (ArrY.lt h1)⟩) | (obtain ⟨v1, v2, e, h1, h2⟩ := h; exact ⟨v1, v2, e, RdN.below h1 hb, RdN.below h2 hb⟩)))); exact trivial)) ?_; simp only [List.take_succ_cons, List.take_zero, List.drop_succ_cons, List.drop_zero])
  (refine loose_step_on rfl (fun W' hB' hd K hK => wp_load_block 24 (.tmp 2) rfl w.heap.size rfl 24 _ _ (ArrW.below hA0.out hB' (ArrW.lt hA0.out)) uWd rfl iA.out (hK _ _ (Below.refl _ _) rfl)) ?_; rintro _ rfl; simp only [Act.put, List.setIfInBounds_toArray, List.set_cons_zero, List.set_cons_succ])
  (refine loose_step_on rfl (fun W' hB' hd K hK => ?_) ?_; (focus (skip; clear hd; go_simp; refine (hOA.out _).mono ?_; rintro _ _ ⟨v', rfl, hr, hb'⟩; exact hK v' _ hb' hr)); intro v6 _; simp only [Act.put, List.setIfInBounds_toArray, List.set_cons_zero, List.set_cons_succ])
  (refine loose_step_on rfl (fun W' hB' hd K hK => wp_load_block 24 (.tmp 3) rfl (w.heap.size + 1) rfl 24 _ _ (ArrW.below hB0.out hB' (ArrW.lt hB0.out)) uWd rfl iB.out (hK _ _ (Below.refl _ _) rfl)) ?_; rintro _ rfl; simp only [Act.put, List.setIfInBounds_toArray, List.set_cons_zero, List.set_cons_succ])
  (refine loose_step_on rfl (fun W' hB' hd K hK => ?_) ?_; (focus (skip; clear hd; go_simp; refine (hOB.out _).mono ?_; rintro _ _ ⟨v', rfl, hr, hb'⟩; exact hK v' _ hb' hr)); intro v8 _; simp only [Act.put, List.setIfInBounds_toArray, List.set_cons_zero, List.set_cons_succ])
  (refine loose_step_on rfl (fun W' hB' hd K hK => ?_) ?_; (focus (have g6 : RdN W' v6 a := hd ⟨1, Ground.data⟩ (by simp) rfl _ 6 rfl rfl (by simp); have g8 : RdN W' v8 b := hd ⟨3, Ground.data⟩ (by simp) rfl _ 8 rfl rfl (by simp); clear hd; go_simp; refine (hF.out v6 v8 _ g6 g8).mono ?_; rintro _ _ ⟨v', rfl, hr, hb'⟩; exact hK v' _ hb' hr)); intro v9 _; simp only [Act.put, List.setIfInBounds_toArray, List.set_cons_zero, List.set_cons_succ])
  (refine loose_step_on rfl (fun W' hB' hd K hK => ?_) ?_; (focus (skip; clear hd; go_simp; refine (hP.out _).mono ?_; rintro _ _ ⟨v', rfl, hr, hb'⟩; exact hK v' _ hb' hr)); intro v10 _; simp only [Act.put, List.setIfInBounds_toArray, List.set_cons_zero, List.set_cons_succ])
  (refine loose_step_on rfl (fun W' hB' hd K hK => ?_) ?_; (focus (have g9 : RdN W' v9 s := hd ⟨4, Ground.data⟩ (by simp) rfl _ 9 rfl rfl (by simp); have g10 : RdN W' v10 p := hd ⟨5, Ground.data⟩ (by simp) rfl _ 10 rfl rfl (by simp); clear hd; go_simp; refine (hM.out v9 v10 _ g9 g10).mono ?_; rintro _ _ ⟨rfl, hb'⟩; exact hK _ _ hb' rfl)); rintro _ rfl; simp only [Act.put, List.setIfInBounds_toArray, List.set_cons_zero, List.set_cons_succ])
  intro w6 hb6 hf
  clear hf
  have hC6 := hid (hC0.out.below hb6 hC0.out.lt)
  have hb7 := hb0.trans (hb6.mono hb0.size)
  clear hA0 hB0 hC0 hb0 hb6
  (refine wpList_store_row rfl 24 (.tmp 4) (.tmp 11) rfl (w.heap.size + 2) _ rfl rfl 24 _ hC6.out iR.out rfl nR.out ?_; simp only [Act.put])
  go_wp2
  refine bodyPost_ret (results_cell_row rfl _ _ (w.heap.size + 2) 24 (cellsW r) (0, 0) _ rfl (heap_setRow' _ _ _ _ _ hC6.out) uWd rfl iR.out) rfl ⟨rfl, below_setRow' hb7 _ (by omega) _⟩
set_option maxHeartbeats 2000000 in
theorem rfladd_any (a b : Nat) (w : World) (ha : a < 2 ^ 256) (hb : b < 2 ^ 256) : Calls Try.prog 75 #[wd a, wd b] w fun e w' => e = .returned (wd ((a + b) % lN)) ∧ Below w.heap.size w w' := by
  have hOA := hid (fun w => of_any a w ha)
  have hOB := hid (fun w => of_any b w hb)
  have hP := hid rL_any
  have la := dg_word_len a ha
  have lb := dg_word_len b hb
  have hF := hid (fun va vb w h1 h2 => plus_any a b va vb w h1 h2 (by omega) (by omega))
  have hM := hid (fun va vb w h1 h2 => rfmod_any (a + b) lN va vb w h1 h2 (dg_sum a b ha hb) (by have := dg_l; omega) lN_pos lN_lt)
  obtain ⟨r, hr⟩ : ∃ r, r = (a + b) % lN := ⟨_, rfl⟩
  rw [← hr] at hM ⊢
  obtain ⟨s, hs⟩ : ∃ s, s = a + b := ⟨_, rfl⟩
  rw [← hs] at hM hF
  generalize lN = p at *
  clear ha hb la lb hr hs
  unfold wd at *
  have iA := hid (iW a)
  have iB := hid (iW b)
  have iR := hid (iW r)
  have nR := hid (one_cellsW r)
  have hA0 := hid (show ArrW 24 (((w.alloc (.cells (cellsW a) 24)).alloc (.cells (cellsW b) 24)).alloc (.cells (cellsW 0) 24)) w.heap.size a from ((ArrW.new _ w a).alloc _).alloc _)
  have hB0 := hid (show ArrW 24 (((w.alloc (.cells (cellsW a) 24)).alloc (.cells (cellsW b) 24)).alloc (.cells (cellsW 0) 24)) (w.heap.size + 1) b by
    have := ArrW.new 24 (w.alloc (.cells (cellsW a) 24)) b
    rw [World.size_alloc] at this; exact this.alloc _)
  have hC0 := hid (show ArrW 24 (((w.alloc (.cells (cellsW a) 24)).alloc (.cells (cellsW b) 24)).alloc (.cells (cellsW 0) 24)) (w.heap.size + 2) 0 by
    have := ArrW.new 24 ((w.alloc (.cells (cellsW a) 24)).alloc (.cells (cellsW b) 24)) 0
    rw [World.size_alloc, World.size_alloc] at this; exact this)
  have hb0 : Below w.heap.size w (((w.alloc (.cells (cellsW a) 24)).alloc (.cells (cellsW b) 24)).alloc (.cells (cellsW 0) 24)) := (((Below.refl _ _).alloc (Nat.le_refl _) _).alloc (by simp) _).alloc (by simp; omega) _
  go_enter Try.func75, Try.ntmps75
  go_wp2_with (refine wpList_alloc_new rfl 24 rfl (cellsW 0) zWd ?_; simp only [Act.put, List.setIfInBounds_toArray, List.set_cons_zero, List.set_cons_succ, World.size_alloc])
  generalize ((w.alloc (.cells (cellsW a) 24)).alloc (.cells (cellsW b) 24)).alloc (.cells (cellsW 0) 24) = w1 at hA0 hB0 hC0 hb0 ⊢
  ((try simp only [World.size_alloc]); refine wp_region_loose_tail 7 [.kn (.agg (cellsW (a))), .lo (fun v w => RdN w v (a)), .kn (.agg (cellsW (b))), .lo (fun v w => RdN w v (b)), .lo (fun v w => RdN w v (s)), .lo (fun v w => RdN w v (p)), .kn (.agg (cellsW (r)))] (by kernel_rfl) (by kernel_rfl) (by kernel_rfl) (by first | exact trivial | ((repeat (first | refine keepsAll_kn ?_ | (refine keepsAll_lo (fun v w w' h hb => ?_) ?_; first | exact RdN.below h hb | exact RdL.below h hb | exact RdY.below h hb | (obtain ⟨b, e, h1⟩ := h; exact ⟨b, e, ArrY.below h1 hb (ArrY.lt h1)⟩) | (obtain ⟨v1, v2, e, h1, h2⟩ := h; exact ⟨v1, v2, e, RdN.below h1 hb, RdN.below h2 hb⟩)))); exact trivial)) ?_; simp only [List.take_succ_cons, List.take_zero, List.drop_succ_cons, List.drop_zero])
  (refine loose_step_on rfl (fun W' hB' hd K hK => wp_load_block 24 (.tmp 2) rfl w.heap.size rfl 24 _ _ (ArrW.below hA0.out hB' (ArrW.lt hA0.out)) uWd rfl iA.out (hK _ _ (Below.refl _ _) rfl)) ?_; rintro _ rfl; simp only [Act.put, List.setIfInBounds_toArray, List.set_cons_zero, List.set_cons_succ])
  (refine loose_step_on rfl (fun W' hB' hd K hK => ?_) ?_; (focus (skip; clear hd; go_simp; refine (hOA.out _).mono ?_; rintro _ _ ⟨v', rfl, hr, hb'⟩; exact hK v' _ hb' hr)); intro v6 _; simp only [Act.put, List.setIfInBounds_toArray, List.set_cons_zero, List.set_cons_succ])
  (refine loose_step_on rfl (fun W' hB' hd K hK => wp_load_block 24 (.tmp 3) rfl (w.heap.size + 1) rfl 24 _ _ (ArrW.below hB0.out hB' (ArrW.lt hB0.out)) uWd rfl iB.out (hK _ _ (Below.refl _ _) rfl)) ?_; rintro _ rfl; simp only [Act.put, List.setIfInBounds_toArray, List.set_cons_zero, List.set_cons_succ])
  (refine loose_step_on rfl (fun W' hB' hd K hK => ?_) ?_; (focus (skip; clear hd; go_simp; refine (hOB.out _).mono ?_; rintro _ _ ⟨v', rfl, hr, hb'⟩; exact hK v' _ hb' hr)); intro v8 _; simp only [Act.put, List.setIfInBounds_toArray, List.set_cons_zero, List.set_cons_succ])
  (refine loose_step_on rfl (fun W' hB' hd K hK => ?_) ?_; (focus (have g6 : RdN W' v6 a := hd ⟨1, Ground.data⟩ (by simp) rfl _ 6 rfl rfl (by simp); have g8 : RdN W' v8 b := hd ⟨3, Ground.data⟩ (by simp) rfl _ 8 rfl rfl (by simp); clear hd; go_simp; refine (hF.out v6 v8 _ g6 g8).mono ?_; rintro _ _ ⟨v', rfl, hr, hb'⟩; exact hK v' _ hb' hr)); intro v9 _; simp only [Act.put, List.setIfInBounds_toArray, List.set_cons_zero, List.set_cons_succ])
  (refine loose_step_on rfl (fun W' hB' hd K hK => ?_) ?_; (focus (skip; clear hd; go_simp; refine (hP.out _).mono ?_; rintro _ _ ⟨v', rfl, hr, hb'⟩; exact hK v' _ hb' hr)); intro v10 _; simp only [Act.put, List.setIfInBounds_toArray, List.set_cons_zero, List.set_cons_succ])
  (refine loose_step_on rfl (fun W' hB' hd K hK => ?_) ?_; (focus (have g9 : RdN W' v9 s := hd ⟨4, Ground.data⟩ (by simp) rfl _ 9 rfl rfl (by simp); have g10 : RdN W' v10 p := hd ⟨5, Ground.data⟩ (by simp) rfl _ 10 rfl rfl (by simp); clear hd; go_simp; refine (hM.out v9 v10 _ g9 g10).mono ?_; rintro _ _ ⟨rfl, hb'⟩; exact hK _ _ hb' rfl)); rintro _ rfl; simp only [Act.put, List.setIfInBounds_toArray, List.set_cons_zero, List.set_cons_succ])
  intro w6 hb6 hf
  clear hf
  have hC6 := hid (hC0.out.below hb6 hC0.out.lt)
  have hb7 := hb0.trans (hb6.mono hb0.size)
  clear hA0 hB0 hC0 hb0 hb6
  (refine wpList_store_row rfl 24 (.tmp 4) (.tmp 11) rfl (w.heap.size + 2) _ rfl rfl 24 _ hC6.out iR.out rfl nR.out ?_; simp only [Act.put])
  go_wp2
  refine bodyPost_ret (results_cell_row rfl _ _ (w.heap.size + 2) 24 (cellsW r) (0, 0) _ rfl (heap_setRow' _ _ _ _ _ hC6.out) uWd rfl iR.out) rfl ⟨rfl, below_setRow' hb7 _ (by omega) _⟩
set_option maxHeartbeats 2000000 in
theorem rflmul_any (a b : Nat) (w : World) (ha : a < 2 ^ 256) (hb : b < 2 ^ 256) : Calls Try.prog 77 #[wd a, wd b] w fun e w' => e = .returned (wd ((a * b) % lN)) ∧ Below w.heap.size w w' := by
  have hOA := hid (fun w => of_any a w ha)
  have hOB := hid (fun w => of_any b w hb)
  have hP := hid rL_any
  have la := dg_word_len a ha
  have lb := dg_word_len b hb
  have hF := hid (fun va vb w h1 h2 => times_any a b va vb w h1 h2 (by omega) (by omega))
  have hM := hid (fun va vb w h1 h2 => rfmod_any (a * b) lN va vb w h1 h2 (dg_prod a b ha hb) (by have := dg_l; omega) lN_pos lN_lt)
  obtain ⟨r, hr⟩ : ∃ r, r = (a * b) % lN := ⟨_, rfl⟩
  rw [← hr] at hM ⊢
  obtain ⟨s, hs⟩ : ∃ s, s = a * b := ⟨_, rfl⟩
  rw [← hs] at hM hF
  generalize lN = p at *
  clear ha hb la lb hr hs
  unfold wd at *
  have iA := hid (iW a)
  have iB := hid (iW b)
  have iR := hid (iW r)
  have nR := hid (one_cellsW r)
  have hA0 := hid (show ArrW 24 (((w.alloc (.cells (cellsW a) 24)).alloc (.cells (cellsW b) 24)).alloc (.cells (cellsW 0) 24)) w.heap.size a from ((ArrW.new _ w a).alloc _).alloc _)
  have hB0 := hid (show ArrW 24 (((w.alloc (.cells (cellsW a) 24)).alloc (.cells (cellsW b) 24)).alloc (.cells (cellsW 0) 24)) (w.heap.size + 1) b by
    have := ArrW.new 24 (w.alloc (.cells (cellsW a) 24)) b
    rw [World.size_alloc] at this; exact this.alloc _)
  have hC0 := hid (show ArrW 24 (((w.alloc (.cells (cellsW a) 24)).alloc (.cells (cellsW b) 24)).alloc (.cells (cellsW 0) 24)) (w.heap.size + 2) 0 by
    have := ArrW.new 24 ((w.alloc (.cells (cellsW a) 24)).alloc (.cells (cellsW b) 24)) 0
    rw [World.size_alloc, World.size_alloc] at this; exact this)
  have hb0 : Below w.heap.size w (((w.alloc (.cells (cellsW a) 24)).alloc (.cells (cellsW b) 24)).alloc (.cells (cellsW 0) 24)) := (((Below.refl _ _).alloc (Nat.le_refl _) _).alloc (by simp) _).alloc (by simp; omega) _
  go_enter Try.func77, Try.ntmps77
  go_wp2_with (refine wpList_alloc_new rfl 24 rfl (cellsW 0) zWd ?_; simp only [Act.put, List.setIfInBounds_toArray, List.set_cons_zero, List.set_cons_succ, World.size_alloc])
  generalize ((w.alloc (.cells (cellsW a) 24)).alloc (.cells (cellsW b) 24)).alloc (.cells (cellsW 0) 24) = w1 at hA0 hB0 hC0 hb0 ⊢
  ((try simp only [World.size_alloc]); refine wp_region_loose_tail 7 [.kn (.agg (cellsW (a))), .lo (fun v w => RdN w v (a)), .kn (.agg (cellsW (b))), .lo (fun v w => RdN w v (b)), .lo (fun v w => RdN w v (s)), .lo (fun v w => RdN w v (p)), .kn (.agg (cellsW (r)))] (by kernel_rfl) (by kernel_rfl) (by kernel_rfl) (by first | exact trivial | ((repeat (first | refine keepsAll_kn ?_ | (refine keepsAll_lo (fun v w w' h hb => ?_) ?_; first | exact RdN.below h hb | exact RdL.below h hb | exact RdY.below h hb | (obtain ⟨b, e, h1⟩ := h; exact ⟨b, e, ArrY.below h1 hb (ArrY.lt h1)⟩) | (obtain ⟨v1, v2, e, h1, h2⟩ := h; exact ⟨v1, v2, e, RdN.below h1 hb, RdN.below h2 hb⟩)))); exact trivial)) ?_; simp only [List.take_succ_cons, List.take_zero, List.drop_succ_cons, List.drop_zero])
  (refine loose_step_on rfl (fun W' hB' hd K hK => wp_load_block 24 (.tmp 2) rfl w.heap.size rfl 24 _ _ (ArrW.below hA0.out hB' (ArrW.lt hA0.out)) uWd rfl iA.out (hK _ _ (Below.refl _ _) rfl)) ?_; rintro _ rfl; simp only [Act.put, List.setIfInBounds_toArray, List.set_cons_zero, List.set_cons_succ])
  (refine loose_step_on rfl (fun W' hB' hd K hK => ?_) ?_; (focus (skip; clear hd; go_simp; refine (hOA.out _).mono ?_; rintro _ _ ⟨v', rfl, hr, hb'⟩; exact hK v' _ hb' hr)); intro v6 _; simp only [Act.put, List.setIfInBounds_toArray, List.set_cons_zero, List.set_cons_succ])
  (refine loose_step_on rfl (fun W' hB' hd K hK => wp_load_block 24 (.tmp 3) rfl (w.heap.size + 1) rfl 24 _ _ (ArrW.below hB0.out hB' (ArrW.lt hB0.out)) uWd rfl iB.out (hK _ _ (Below.refl _ _) rfl)) ?_; rintro _ rfl; simp only [Act.put, List.setIfInBounds_toArray, List.set_cons_zero, List.set_cons_succ])
  (refine loose_step_on rfl (fun W' hB' hd K hK => ?_) ?_; (focus (skip; clear hd; go_simp; refine (hOB.out _).mono ?_; rintro _ _ ⟨v', rfl, hr, hb'⟩; exact hK v' _ hb' hr)); intro v8 _; simp only [Act.put, List.setIfInBounds_toArray, List.set_cons_zero, List.set_cons_succ])
  (refine loose_step_on rfl (fun W' hB' hd K hK => ?_) ?_; (focus (have g6 : RdN W' v6 a := hd ⟨1, Ground.data⟩ (by simp) rfl _ 6 rfl rfl (by simp); have g8 : RdN W' v8 b := hd ⟨3, Ground.data⟩ (by simp) rfl _ 8 rfl rfl (by simp); clear hd; go_simp; refine (hF.out v6 v8 _ g6 g8).mono ?_; rintro _ _ ⟨v', rfl, hr, hb'⟩; exact hK v' _ hb' hr)); intro v9 _; simp only [Act.put, List.setIfInBounds_toArray, List.set_cons_zero, List.set_cons_succ])
  (refine loose_step_on rfl (fun W' hB' hd K hK => ?_) ?_; (focus (skip; clear hd; go_simp; refine (hP.out _).mono ?_; rintro _ _ ⟨v', rfl, hr, hb'⟩; exact hK v' _ hb' hr)); intro v10 _; simp only [Act.put, List.setIfInBounds_toArray, List.set_cons_zero, List.set_cons_succ])
  (refine loose_step_on rfl (fun W' hB' hd K hK => ?_) ?_; (focus (have g9 : RdN W' v9 s := hd ⟨4, Ground.data⟩ (by simp) rfl _ 9 rfl rfl (by simp); have g10 : RdN W' v10 p := hd ⟨5, Ground.data⟩ (by simp) rfl _ 10 rfl rfl (by simp); clear hd; go_simp; refine (hM.out v9 v10 _ g9 g10).mono ?_; rintro _ _ ⟨rfl, hb'⟩; exact hK _ _ hb' rfl)); rintro _ rfl; simp only [Act.put, List.setIfInBounds_toArray, List.set_cons_zero, List.set_cons_succ])
  intro w6 hb6 hf
  clear hf
  have hC6 := hid (hC0.out.below hb6 hC0.out.lt)
  have hb7 := hb0.trans (hb6.mono hb0.size)
  clear hA0 hB0 hC0 hb0 hb6
  (refine wpList_store_row rfl 24 (.tmp 4) (.tmp 11) rfl (w.heap.size + 2) _ rfl rfl 24 _ hC6.out iR.out rfl nR.out ?_; simp only [Act.put])
  go_wp2
  refine bodyPost_ret (results_cell_row rfl _ _ (w.heap.size + 2) 24 (cellsW r) (0, 0) _ rfl (heap_setRow' _ _ _ _ _ hC6.out) uWd rfl iR.out) rfl ⟨rfl, below_setRow' hb7 _ (by omega) _⟩
end Go.Proofs.Ytfidbiabgmioaaa
