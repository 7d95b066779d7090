import Derived.Test.YtfidbiabgmioaaaFldM
import Derived.Test.YtfidbiabgmioaaaDivN
import Derived.Test.YtfidbiabgmioaaaAliveW
/-! conclaveref04: P, L, mod, sums, products, differences. -/
set_option maxRecDepth 4000
set_option linter.unusedVariables false
set_option linter.unusedSimpArgs false
namespace Go.Proofs.Ytfidbiabgmioaaa
open Go.RowKit

theorem RdN.litd (d : Nat) (h0 : 0 < d) (h : d < 256) (w : World) : RdN (w.alloc (.cells #[.int .i64 (d : Int)] 3)) (.slice (some ⟨w.heap.size, 0, none⟩) 1 1) d := by
  have h2 : dg d = [d] := by rw [dg_pos d (by omega), Nat.mod_eq_of_lt h, Nat.div_eq_of_lt h, dg_zero]
  have := ArrL.rd (ArrL.new w [d]) 1 (by simp)
  unfold RdN; rw [h2]; exact this
theorem dgs (x k n : Nat) (h : x < 256 ^ k) (hk : k ≤ n) : (dg x).length ≤ n := Nat.le_trans (dg_len x k h) hk
theorem dg_p : (dg pN).length ≤ 32 := dg_len _ _ (by decide +kernel)
theorem dg_l : (dg lN).length ≤ 32 := dg_len _ _ (by decide +kernel)
theorem below_alloc (w : World) (o : Obj) : Below w.heap.size w (w.alloc o) := (Below.refl _ _).alloc (Nat.le_refl _) o
set_option maxHeartbeats 1000000 in
theorem rP_any (w : World) : Calls Try.prog 91 #[] w fun e w' => ∃ v', e = .returned v' ∧ RdN w' v' pN ∧ Below w.heap.size w w' := by
  have h1 := hid (fun w => power_any 255 w (by omega))
  have h2 := hid (fun va vb w ha hb => less_any (2 ^ 255) 19 va vb w ha hb (dgs _ 32 _ (by decide +kernel) (by omega)) (by decide +kernel))
  rw [show 2 ^ 255 - 19 = pN from by decide +kernel] at h2
  generalize pN = p at *
  have hl := hid (fun w => RdN.litd 19 (by omega) (by omega) w)
  generalize 2 ^ 255 = T at *
  go_enter Try.func91, Try.ntmps91
  go_wp2_with fail
  (refine (h1.out _).mono ?_; rintro _ w1 ⟨v1, rfl, hr1, hs1⟩)
  go_wp2_with fail
  have hs2 := below_alloc w1 (.cells #[.int .i64 19] 3)
  have hr2 := hl.out w1
  (refine (h2.out _ _ _ (hr1.below hs2) hr2).mono ?_; rintro _ w3 ⟨v3, rfl, hr3, hs3⟩)
  go_wp2
  go_ret
  exact ⟨_, rfl, hr3, (by (repeat (first | assumption | refine below_next ?_ (Nat.le_refl _) (by assumption))))⟩
def lowL : List Nat := [237, 211, 245, 92, 26, 99, 18, 88, 214, 156, 247, 162, 222, 249, 222, 20]
theorem dg_low : dg (num lowL) = lowL := by
  have := dg_num lowL 16 (fun d hd => by simp [lowL] at hd; omega) (by decide) (fun j h1 h2 => by have : lowL.length = 16 := rfl; omega) (.inr (by decide))
  rw [← this]; rfl
set_option maxHeartbeats 1000000 in
theorem rL_any (w : World) : Calls Try.prog 99 #[] w fun e w' => ∃ v', e = .returned v' ∧ RdN w' v' lN ∧ Below w.heap.size w w' := by
  have h1 := hid (fun w => power_any 252 w (by omega))
  have h2 := hid (fun va vb w ha hb => plus_any (2 ^ 252) (num lowL) va vb w ha hb (dgs _ 32 _ (by decide +kernel) (by omega)) (by rw [dg_low]; decide))
  rw [show 2 ^ 252 + num lowL = lN from by decide +kernel] at h2
  generalize lN = l at *
  have hl := hid (fun w : World => show RdN (w.alloc (.cells #[.int .i64 237, .int .i64 211, .int .i64 245, .int .i64 92, .int .i64 26, .int .i64 99, .int .i64 18, .int .i64 88, .int .i64 214, .int .i64 156, .int .i64 247, .int .i64 162, .int .i64 222, .int .i64 249, .int .i64 222, .int .i64 20] 3)) (.slice (some ⟨w.heap.size, 0, none⟩) 16 16) (num lowL) from by
    unfold RdN; rw [dg_low]; exact ArrL.rd (ArrL.new w lowL) 16 (by decide))
  generalize num lowL = m at *
  generalize 2 ^ 252 = T at *
  go_enter Try.func99, Try.ntmps99
  go_wp2_with fail
  have hs0 := below_alloc w (.cells #[.int .i64 237, .int .i64 211, .int .i64 245, .int .i64 92, .int .i64 26, .int .i64 99, .int .i64 18, .int .i64 88, .int .i64 214, .int .i64 156, .int .i64 247, .int .i64 162, .int .i64 222, .int .i64 249, .int .i64 222, .int .i64 20] 3)
  have hr0 := hl.out w
  (refine (h1.out _).mono ?_; rintro _ w1 ⟨v1, rfl, hr1, hs1⟩)
  go_wp2_with fail
  (refine (h2.out _ _ _ hr1 (hr0.below hs1)).mono ?_; rintro _ w3 ⟨v3, rfl, hr3, hs3⟩)
  go_wp2
  go_ret
  exact ⟨_, rfl, hr3, (by (repeat (first | assumption | refine below_next ?_ (Nat.le_refl _) (by assumption))))⟩

set_option maxHeartbeats 1000000 in
theorem rfmod_any (n m : Nat) (va vb : Value) (w : World) (ha : RdN w va n) (hb : RdN w vb m) (la : (dg n).length ≤ 65536) (lb : (dg m).length ≤ 65000) (hm : 0 < m) (hm2 : m < 2 ^ 256) :
    Calls Try.prog 121 #[va, vb] w fun e w' => e = .returned (wd (n % m)) ∧ Below w.heap.size w w' := by
  have hQ := hid (fun w ha hb => quo_any n m va vb w ha hb la lb hm)
  have hr : n % m < 2 ^ 256 := Nat.lt_trans (Nat.mod_lt _ hm) hm2
  have hW := hid (fun v w h => wordN_any (n % m) v w h (Nat.le_trans (dg_len_mono _ _ (Nat.mod_le _ _)) la))
  rw [Nat.mod_eq_of_lt hr] at hW
  obtain ⟨r, hr1⟩ : ∃ r, r = n % m := ⟨_, rfl⟩
  rw [← hr1] at hQ hW ⊢
  clear la lb hm hm2 hr hr1
  unfold wd at *
  have iR := hid (iW r)
  have nR := hid (one_cellsW r)
  have hC0 := hid (ArrW.new 24 w 0)
  have hb0 : Below w.heap.size w (w.alloc (.cells (cellsW 0) 24)) := (Below.refl _ _).alloc (Nat.le_refl _) _
  have hA0 := hid (ha.below hb0)
  have hB0 := hid (hb.below hb0)
  clear ha hb
  go_enter Try.func121, Try.ntmps121
  go_wp2_with (refine wpList_alloc_new rfl 24 rfl (cellsW 0) zWd ?_; simp only [Act.put, List.setIfInBounds_toArray, List.set_cons_zero, List.set_cons_succ, World.size_alloc])
  refine (hQ.out _ hA0.out hB0.out).mono ?_
  rintro e w1 ⟨v1, v2, rfl, hr1, hr2, hb1⟩
  have hC1 := hid (hC0.out.below hb1 hC0.out.lt)
  have hR2 := hid hr2
  have hb2 := hb0.trans (hb1.mono hb0.size)
  clear hr1 hr2 hA0 hB0 hC0 hb0 hb1
  go_wp2_with fail
  refine (hW.out _ _ hR2.out).mono ?_
  rintro e w2 ⟨rfl, hb3⟩
  have hC2 := hid (hC1.out.below hb3 hC1.out.lt)
  have hb4 := hb2.trans (hb3.mono hb2.size)
  clear hC1 hb2 hb3 hR2
  go_wp2_with (refine wpList_store_row rfl 24 (.tmp 4) (.tmp 14) rfl w.heap.size _ rfl rfl 24 _ hC2.out iR.out rfl nR.out ?_; simp only [Act.put])
  refine bodyPost_ret (results_cell_row rfl _ _ w.heap.size 24 (cellsW r) (0, 0) _ rfl (heap_setRow' _ _ _ _ _ hC2.out) uWd rfl iR.out) rfl ⟨rfl, below_setRow' hb4 _ (Nat.le_refl _) _⟩

theorem dg_sum (a b : Nat) (ha : a < 2 ^ 256) (hb : b < 2 ^ 256) : (dg (a + b)).length ≤ 65536 := dgs _ 33 _ (by
  rw [show (256 : Nat) ^ 33 = 2 ^ 256 * 256 by rw [Nat.pow_succ, pow256_32]]
  have h : 0 < 2 ^ 256 := Nat.pow_pos (by omega)
  generalize 2 ^ 256 = T at *
  omega) (by omega)
theorem dg_prod (a b : Nat) (ha : a < 2 ^ 256) (hb : b < 2 ^ 256) : (dg (a * b)).length ≤ 65536 := dgs _ 64 _ (by
  rw [show 64 = 32 + 32 from rfl, Nat.pow_add, pow256_32]
  exact Nat.mul_lt_mul'' ha hb) (by omega)
set_option maxHeartbeats 2000000 in
theorem rfadd_any (a b : Nat) (w : World) (ha : a < 2 ^ 256) (hb : b < 2 ^ 256) : Calls Try.prog 95 #[wd a, wd b] w fun e w' => e = .returned (wd ((a + b) % pN)) ∧ Below w.heap.size w w' := by
  have hOA := hid (fun w => of_any a w ha)
  have hOB := hid (fun w => of_any b w hb)
  have hP := hid rP_any
  have la := dg_word_len a ha
  have lb := dg_word_len b hb
  have hF := hid (fun va vb w h1 h2 => plus_any a b va vb w h1 h2 (by omega) (by omega))
  have hM := hid (fun va vb w h1 h2 => rfmod_any (a + b) pN va vb w h1 h2 (dg_sum a b ha hb) (by have := dg_p; omega) pN_pos pN_lt)
  obtain ⟨r, hr⟩ : ∃ r, r = (a + b) % pN := ⟨_, rfl⟩
  rw [← hr] at hM ⊢
  obtain ⟨s, hs⟩ : ∃ s, s = a + b := ⟨_, rfl⟩
  rw [← hs] at hM hF
  generalize pN = p at *
  clear ha hb la lb hr hs
  unfold wd at *
  have iA := hid (iW a)
  have iB := hid (iW b)
  have iR := hid (iW r)
  have nR := hid (one_cellsW r)
  have hA0 := hid (show ArrW 24 (((w.alloc (.cells (cellsW a) 24)).alloc (.cells (cellsW b) 24)).alloc (.cells (cellsW 0) 24)) w.heap.size a from ((ArrW.new _ w a).alloc _).alloc _)
  have hB0 := hid (show ArrW 24 (((w.alloc (.cells (cellsW a) 24)).alloc (.cells (cellsW b) 24)).alloc (.cells (cellsW 0) 24)) (w.heap.size + 1) b by
    have := ArrW.new 24 (w.alloc (.cells (cellsW a) 24)) b
    rw [World.size_alloc] at this; exact this.alloc _)
  have hC0 := hid (show ArrW 24 (((w.alloc (.cells (cellsW a) 24)).alloc (.cells (cellsW b) 24)).alloc (.cells (cellsW 0) 24)) (w.heap.size + 2) 0 by
    have := ArrW.new 24 ((w.alloc (.cells (cellsW a) 24)).alloc (.cells (cellsW b) 24)) 0
    rw [World.size_alloc, World.size_alloc] at this; exact this)
  have hb0 : Below w.heap.size w (((w.alloc (.cells (cellsW a) 24)).alloc (.cells (cellsW b) 24)).alloc (.cells (cellsW 0) 24)) := (((Below.refl _ _).alloc (Nat.le_refl _) _).alloc (by simp) _).alloc (by simp; omega) _
  go_enter Try.func95, Try.ntmps95
  go_wp2_with (refine wpList_alloc_new rfl 24 rfl (cellsW 0) zWd ?_; simp only [Act.put, List.setIfInBounds_toArray, List.set_cons_zero, List.set_cons_succ, World.size_alloc])
  generalize ((w.alloc (.cells (cellsW a) 24)).alloc (.cells (cellsW b) 24)).alloc (.cells (cellsW 0) 24) = w1 at hA0 hB0 hC0 hb0 ⊢
  ((try simp only [World.size_alloc]); refine wp_region_loose_tail 7 [.kn (.agg (cellsW (a))), .lo (fun v w => RdN w v (a)), .kn (.agg (cellsW (b))), .lo (fun v w => RdN w v (b)), .lo (fun v w => RdN w v (s)), .lo (fun v w => RdN w v (p)), .kn (.agg (cellsW (r)))] (by kernel_rfl) (by kernel_rfl) (by kernel_rfl) (by first | exact trivial | ((repeat (first | refine keepsAll_kn ?_ | (refine keepsAll_lo (fun v w w' h hb => ?_) ?_; first | exact RdN.below h hb | exact RdL.below h hb | exact RdY.below h hb | (obtain ⟨b, e, h1⟩ := h; exact ⟨b, e, ArrY.below h1 hb (ArrY.lt h1)⟩) | (obtain ⟨v1, v2, e, h1, h2⟩ := h; exact ⟨v1, v2, e, RdN.below h1 hb, RdN.below h2 hb⟩)))); exact trivial)) ?_; simp only [List.take_succ_cons, List.take_zero, List.drop_succ_cons, List.drop_zero])
  (refine loose_step_on rfl (fun W' hB' hd K hK => wp_load_block 24 (.tmp 2) rfl w.heap.size rfl 24 _ _ (ArrW.below hA0.out hB' (ArrW.lt hA0.out)) uWd rfl iA.out (hK _ _ (Below.refl _ _) rfl)) ?_; rintro _ rfl; simp only [Act.put, List.setIfInBounds_toArray, List.set_cons_zero, List.set_cons_succ])
  (refine loose_step_on rfl (fun W' hB' hd K hK => ?_) ?_; (focus (skip; clear hd; go_simp; refine (hOA.out _).mono ?_; rintro _ _ ⟨v', rfl, hr, hb'⟩; exact hK v' _ hb' hr)); intro v6 _; simp only [Act.put, List.setIfInBounds_toArray, List.set_cons_zero, List.set_cons_succ])
  (refine loose_step_on rfl (fun W' hB' hd K hK => wp_load_block 24 (.tmp 3) rfl (w.heap.size + 1) rfl 24 _ _ (ArrW.below hB0.out hB' (ArrW.lt hB0.out)) uWd rfl iB.out (hK _ _ (Below.refl _ _) rfl)) ?_; rintro _ rfl; simp only [Act.put, List.setIfInBounds_toArray, List.set_cons_zero, List.set_cons_succ])
  (refine loose_step_on rfl (fun W' hB' hd K hK => ?_) ?_; (focus (skip; clear hd; go_simp; refine (hOB.out _).mono ?_; rintro _ _ ⟨v', rfl, hr, hb'⟩; exact hK v' _ hb' hr)); intro v8 _; simp only [Act.put, List.setIfInBounds_toArray, List.set_cons_zero, List.set_cons_succ])
  (refine loose_step_on rfl (fun W' hB' hd K hK => ?_) ?_; (focus (have g6 : RdN W' v6 a := hd ⟨1, Ground.data⟩ (by simp) rfl _ 6 rfl rfl (by simp); have g8 : RdN W' v8 b := hd ⟨3, Ground.data⟩ (by simp) rfl _ 8 rfl rfl (by simp); clear hd; go_simp; refine (hF.out v6 v8 _ g6 g8).mono ?_; rintro _ _ ⟨v', rfl, hr, hb'⟩; exact hK v' _ hb' hr)); intro v9 _; simp only [Act.put, List.setIfInBounds_toArray, List.set_cons_zero, List.set_cons_succ])
  (refine loose_step_on rfl (fun W' hB' hd K hK => ?_) ?_; (focus (skip; clear hd; go_simp; refine (hP.out _).mono ?_; rintro _ _ ⟨v', rfl, hr, hb'⟩; exact hK v' _ hb' hr)); intro v10 _; simp only [Act.put, List.setIfInBounds_toArray, List.set_cons_zero, List.set_cons_succ])
  (refine loose_step_on rfl (fun W' hB' hd K hK => ?_) ?_; (focus (have g9 : RdN W' v9 s := hd ⟨4, Ground.data⟩ (by simp) rfl _ 9 rfl rfl (by simp); have g10 : RdN W' v10 p := hd ⟨5, Ground.data⟩ (by simp) rfl _ 10 rfl rfl (by simp); clear hd; go_simp; refine (hM.out v9 v10 _ g9 g10).mono ?_; rintro _ _ ⟨rfl, hb'⟩; exact hK _ _ hb' rfl)); rintro _ rfl; simp only [Act.put, List.setIfInBounds_toArray, List.set_cons_zero, List.set_cons_succ])
  intro w6 hb6 hf
  clear hf
  have hC6 := hid (hC0.out.below hb6 hC0.out.lt)
  have hb7 := hb0.trans (hb6.mono hb0.size)
  clear hA0 hB0 hC0 hb0 hb6
  (refine wpList_store_row rfl 24 (.tmp 4) (.tmp 11) rfl (w.heap.size + 2) _ rfl rfl 24 _ hC6.out iR.out rfl nR.out ?_; simp only [Act.put])
  go_wp2
  refine bodyPost_ret (results_cell_row rfl _ _ (w.heap.size + 2) 24 (cellsW r) (0, 0) _ rfl (heap_setRow' _ _ _ _ _ hC6.out) uWd rfl iR.out) rfl ⟨rfl, below_setRow' hb7 _ (by omega) _⟩
set_option maxHeartbeats 2000000 in
theorem rfmul_any (a b : Nat) (w : World) (ha : a < 2 ^ 256) (hb : b < 2 ^ 256) : Calls Try.prog 94 #[wd a, wd b] w fun e w' => e = .returned (wd ((a * b) % pN)) ∧ Below w.heap.size w w' := by
  have hOA := hid (fun w => of_any a w ha)
  have hOB := hid (fun w => of_any b w hb)
  have hP := hid rP_any
  have la := dg_word_len a ha
  have lb := dg_word_len b hb
  have hF := hid (fun va vb w h1 h2 => times_any a b va vb w h1 h2 (by omega) (by omega))
  have hM := hid (fun va vb w h1 h2 => rfmod_any (a * b) pN va vb w h1 h2 (dg_prod a b ha hb) (by have := dg_p; omega) pN_pos pN_lt)
  obtain ⟨r, hr⟩ : ∃ r, r = (a * b) % pN := ⟨_, rfl⟩
  rw [← hr] at hM ⊢
  obtain ⟨s, hs⟩ : ∃ s, s = a * b := ⟨_, rfl⟩
  rw [← hs] at hM hF
  generalize pN = p at *
  clear ha hb la lb hr hs
  unfold wd at *
  have iA := hid (iW a)
  have iB := hid (iW b)
  have iR := hid (iW r)
  have nR := hid (one_cellsW r)
  have hA0 := hid (show ArrW 24 (((w.alloc (.cells (cellsW a) 24)).alloc (.cells (cellsW b) 24)).alloc (.cells (cellsW 0) 24)) w.heap.size a from ((ArrW.new _ w a).alloc _).alloc _)
  have hB0 := hid (show ArrW 24 (((w.alloc (.cells (cellsW a) 24)).alloc (.cells (cellsW b) 24)).alloc (.cells (cellsW 0) 24)) (w.heap.size + 1) b by
    have := ArrW.new 24 (w.alloc (.cells (cellsW a) 24)) b
    rw [World.size_alloc] at this; exact this.alloc _)
  have hC0 := hid (show ArrW 24 (((w.alloc (.cells (cellsW a) 24)).alloc (.cells (cellsW b) 24)).alloc (.cells (cellsW 0) 24)) (w.heap.size + 2) 0 by
    have := ArrW.new 24 ((w.alloc (.cells (cellsW a) 24)).alloc (.cells (cellsW b) 24)) 0
    rw [World.size_alloc, World.size_alloc] at this; exact this)
  have hb0 : Below w.heap.size w (((w.alloc (.cells (cellsW a) 24)).alloc (.cells (cellsW b) 24)).alloc (.cells (cellsW 0) 24)) := (((Below.refl _ _).alloc (Nat.le_refl _) _).alloc (by simp) _).alloc (by simp; omega) _
  go_enter Try.func94, Try.ntmps94
  go_wp2_with (refine wpList_alloc_new rfl 24 rfl (cellsW 0) zWd ?_; simp only [Act.put, List.setIfInBounds_toArray, List.set_cons_zero, List.set_cons_succ, World.size_alloc])
  generalize ((w.alloc (.cells (cellsW a) 24)).alloc (.cells (cellsW b) 24)).alloc (.cells (cellsW 0) 24) = w1 at hA0 hB0 hC0 hb0 ⊢
  ((try simp only [World.size_alloc]); refine wp_region_loose_tail 7 [.kn (.agg (cellsW (a))), .lo (fun v w => RdN w v (a)), .kn (.agg (cellsW (b))), .lo (fun v w => RdN w v (b)), .lo (fun v w => RdN w v (s)), .lo (fun v w => RdN w v (p)), .kn (.agg (cellsW (r)))] (by kernel_rfl) (by kernel_rfl) (by kernel_rfl) (by first | exact trivial | ((repeat (first | refine keepsAll_kn ?_ | (refine keepsAll_lo (fun v w w' h hb => ?_) ?_; first | exact RdN.below h hb | exact RdL.below h hb | exact RdY.below h hb | (obtain ⟨b, e, h1⟩ := h; exact ⟨b, e, ArrY.below h1 hb (ArrY.lt h1)⟩) | (obtain ⟨v1, v2, e, h1, h2⟩ := h; exact ⟨v1, v2, e, RdN.below h1 hb, RdN.below h2 hb⟩)))); exact trivial)) ?_; simp only [List.take_succ_cons, List.take_zero, List.drop_succ_cons, List.drop_zero])
  (refine loose_step_on rfl (fun W' hB' hd K hK => wp_load_block 24 (.tmp 2) rfl w.heap.size rfl 24 _ _ (ArrW.below hA0.out hB' (ArrW.lt hA0.out)) uWd rfl iA.out (hK _ _ (Below.refl _ _) rfl)) ?_; rintro _ rfl; simp only [Act.put, List.setIfInBounds_toArray, List.set_cons_zero, List.set_cons_succ])
  (refine loose_step_on rfl (fun W' hB' hd K hK => ?_) ?_; (focus (skip; clear hd; go_simp; refine (hOA.out _).mono ?_; rintro _ _ ⟨v', rfl, hr, hb'⟩; exact hK v' _ hb' hr)); intro v6 _; simp only [Act.put, List.setIfInBounds_toArray, List.set_cons_zero, List.set_cons_succ])
  (refine loose_step_on rfl (fun W' hB' hd K hK => wp_load_block 24 (.tmp 3) rfl (w.heap.size + 1) rfl 24 _ _ (ArrW.below hB0.out hB' (ArrW.lt hB0.out)) uWd rfl iB.out (hK _ _ (Below.refl _ _) rfl)) ?_; rintro _ rfl; simp only [Act.put, List.setIfInBounds_toArray, List.set_cons_zero, List.set_cons_succ])
  (refine loose_step_on rfl (fun W' hB' hd K hK => ?_) ?_; (focus (skip; clear hd; go_simp; refine (hOB.out _).mono ?_; rintro _ _ ⟨v', rfl, hr, hb'⟩; exact hK v' _ hb' hr)); intro v8 _; simp only [Act.put, List.setIfInBounds_toArray, List.set_cons_zero, List.set_cons_succ])
  (refine loose_step_on rfl (fun W' hB' hd K hK => ?_) ?_; (focus (have g6 : RdN W' v6 a := hd ⟨1, Ground.data⟩ (by simp) rfl _ 6 rfl rfl (by simp); have g8 : RdN W' v8 b := hd ⟨3, Ground.data⟩ (by simp) rfl _ 8 rfl rfl (by simp); clear hd; go_simp; refine (hF.out v6 v8 _ g6 g8).mono ?_; rintro _ _ ⟨v', rfl, hr, hb'⟩; exact hK v' _ hb' hr)); intro v9 _; simp only [Act.put, List.setIfInBounds_toArray, List.set_cons_zero, List.set_cons_succ])
  (refine loose_step_on rfl (fun W' hB' hd K hK => ?_) ?_; (focus (skip; clear hd; go_simp; refine (hP.out _).mono ?_; rintro _ _ ⟨v', rfl, hr, hb'⟩; exact hK v' _ hb' hr)); intro v10 _; simp only [Act.put, List.setIfInBounds_toArray, List.set_cons_zero, List.set_cons_succ])
  (refine loose_step_on rfl (fun W' hB' hd K hK => ?_) ?_; (focus (have g9 : RdN W' v9 s := hd ⟨4, Ground.data⟩ (by simp) rfl _ 9 rfl rfl (by simp); have g10 : RdN W' v10 p := hd ⟨5, Ground.data⟩ (by simp) rfl _ 10 rfl rfl (by simp); clear hd; go_simp; refine (hM.out v9 v10 _ g9 g10).mono ?_; rintro _ _ ⟨rfl, hb'⟩; exact hK _ _ hb' rfl)); rintro _ rfl; simp only [Act.put, List.setIfInBounds_toArray, List.set_cons_zero, List.set_cons_succ])
  intro w6 hb6 hf
  clear hf
  have hC6 := hid (hC0.out.below hb6 hC0.out.lt)
  have hb7 := hb0.trans (hb6.mono hb0.size)
  clear hA0 hB0 hC0 hb0 hb6
  (refine wpList_store_row rfl 24 (.tmp 4) (.tmp 11) rfl (w.heap.size + 2) _ rfl rfl 24 _ hC6.out iR.out rfl nR.out ?_; simp only [Act.put])
  go_wp2
  refine bodyPost_ret (results_cell_row rfl _ _ (w.heap.size + 2) 24 (cellsW r) (0, 0) _ rfl (heap_setRow' _ _ _ _ _ hC6.out) uWd rfl iR.out) rfl ⟨rfl, below_setRow' hb7 _ (by omega) _⟩
set_option maxHeartbeats 2000000 in
theorem rfladd_any (a b : Nat) (w : World) (ha : a < 2 ^ 256) (hb : b < 2 ^ 256) : Calls Try.prog 75 #[wd a, wd b] w fun e w' => e = .returned (wd ((a + b) % lN)) ∧ Below w.heap.size w w' := by
  have hOA := hid (fun w => of_any a w ha)
  have hOB := hid (fun w => of_any b w hb)
  have hP := hid rL_any
  have la := dg_word_len a ha
  have lb := dg_word_len b hb
  have hF := hid (fun va vb w h1 h2 => plus_any a b va vb w h1 h2 (by omega) (by omega))
  have hM := hid (fun va vb w h1 h2 => rfmod_any (a + b) lN va vb w h1 h2 (dg_sum a b ha hb) (by have := dg_l; omega) lN_pos lN_lt)
  obtain ⟨r, hr⟩ : ∃ r, r = (a + b) % lN := ⟨_, rfl⟩
  rw [← hr] at hM ⊢
  obtain ⟨s, hs⟩ : ∃ s, s = a + b := ⟨_, rfl⟩
  rw [← hs] at hM hF
  generalize lN = p at *
  clear ha hb la lb hr hs
  unfold wd at *
  have iA := hid (iW a)
  have iB := hid (iW b)
  have iR := hid (iW r)
  have nR := hid (one_cellsW r)
  have hA0 := hid (show ArrW 24 (((w.alloc (.cells (cellsW a) 24)).alloc (.cells (cellsW b) 24)).alloc (.cells (cellsW 0) 24)) w.heap.size a from ((ArrW.new _ w a).alloc _).alloc _)
  have hB0 := hid (show ArrW 24 (((w.alloc (.cells (cellsW a) 24)).alloc (.cells (cellsW b) 24)).alloc (.cells (cellsW 0) 24)) (w.heap.size + 1) b by
    have := ArrW.new 24 (w.alloc (.cells (cellsW a) 24)) b
    rw [World.size_alloc] at this; exact this.alloc _)
  have hC0 := hid (show ArrW 24 (((w.alloc (.cells (cellsW a) 24)).alloc (.cells (cellsW b) 24)).alloc (.cells (cellsW 0) 24)) (w.heap.size + 2) 0 by
    have := ArrW.new 24 ((w.alloc (.cells (cellsW a) 24)).alloc (.cells (cellsW b) 24)) 0
    rw [World.size_alloc, World.size_alloc] at this; exact this)
  have hb0 : Below w.heap.size w (((w.alloc (.cells (cellsW a) 24)).alloc (.cells (cellsW b) 24)).alloc (.cells (cellsW 0) 24)) := (((Below.refl _ _).alloc (Nat.le_refl _) _).alloc (by simp) _).alloc (by simp; omega) _
  go_enter Try.func75, Try.ntmps75
  go_wp2_with (refine wpList_alloc_new rfl 24 rfl (cellsW 0) zWd ?_; simp only [Act.put, List.setIfInBounds_toArray, List.set_cons_zero, List.set_cons_succ, World.size_alloc])
  generalize ((w.alloc (.cells (cellsW a) 24)).alloc (.cells (cellsW b) 24)).alloc (.cells (cellsW 0) 24) = w1 at hA0 hB0 hC0 hb0 ⊢
  ((try simp only [World.size_alloc]); refine wp_region_loose_tail 7 [.kn (.agg (cellsW (a))), .lo (fun v w => RdN w v (a)), .kn (.agg (cellsW (b))), .lo (fun v w => RdN w v (b)), .lo (fun v w => RdN w v (s)), .lo (fun v w => RdN w v (p)), .kn (.agg (cellsW (r)))] (by kernel_rfl) (by kernel_rfl) (by kernel_rfl) (by first | exact trivial | ((repeat (first | refine keepsAll_kn ?_ | (refine keepsAll_lo (fun v w w' h hb => ?_) ?_; first | exact RdN.below h hb | exact RdL.below h hb | exact RdY.below h hb | (obtain ⟨b, e, h1⟩ := h; exact ⟨b, e, ArrY.below h1 hb (ArrY.lt h1)⟩) | (obtain ⟨v1, v2, e, h1, h2⟩ := h; exact ⟨v1, v2, e, RdN.below h1 hb, RdN.below h2 hb⟩)))); exact trivial)) ?_; simp only [List.take_succ_cons, List.take_zero, List.drop_succ_cons, List.drop_zero])
  (refine loose_step_on rfl (fun W' hB' hd K hK => wp_load_block 24 (.tmp 2) rfl w.heap.size rfl 24 _ _ (ArrW.below hA0.out hB' (ArrW.lt hA0.out)) uWd rfl iA.out (hK _ _ (Below.refl _ _) rfl)) ?_; rintro _ rfl; simp only [Act.put, List.setIfInBounds_toArray, List.set_cons_zero, List.set_cons_succ])
  (refine loose_step_on rfl (fun W' hB' hd K hK => ?_) ?_; (focus (skip; clear hd; go_simp; refine (hOA.out _).mono ?_; rintro _ _ ⟨v', rfl, hr, hb'⟩; exact hK v' _ hb' hr)); intro v6 _; simp only [Act.put, List.setIfInBounds_toArray, List.set_cons_zero, List.set_cons_succ])
  (refine loose_step_on rfl (fun W' hB' hd K hK => wp_load_block 24 (.tmp 3) rfl (w.heap.size + 1) rfl 24 _ _ (ArrW.below hB0.out hB' (ArrW.lt hB0.out)) uWd rfl iB.out (hK _ _ (Below.refl _ _) rfl)) ?_; rintro _ rfl; simp only [Act.put, List.setIfInBounds_toArray, List.set_cons_zero, List.set_cons_succ])
  (refine loose_step_on rfl (fun W' hB' hd K hK => ?_) ?_; (focus (skip; clear hd; go_simp; refine (hOB.out _).mono ?_; rintro _ _ ⟨v', rfl, hr, hb'⟩; exact hK v' _ hb' hr)); intro v8 _; simp only [Act.put, List.setIfInBounds_toArray, List.set_cons_zero, List.set_cons_succ])
  (refine loose_step_on rfl (fun W' hB' hd K hK => ?_) ?_; (focus (have g6 : RdN W' v6 a := hd ⟨1, Ground.data⟩ (by simp) rfl _ 6 rfl rfl (by simp); have g8 : RdN W' v8 b := hd ⟨3, Ground.data⟩ (by simp) rfl _ 8 rfl rfl (by simp); clear hd; go_simp; refine (hF.out v6 v8 _ g6 g8).mono ?_; rintro _ _ ⟨v', rfl, hr, hb'⟩; exact hK v' _ hb' hr)); intro v9 _; simp only [Act.put, List.setIfInBounds_toArray, List.set_cons_zero, List.set_cons_succ])
  (refine loose_step_on rfl (fun W' hB' hd K hK => ?_) ?_; (focus (skip; clear hd; go_simp; refine (hP.out _).mono ?_; rintro _ _ ⟨v', rfl, hr, hb'⟩; exact hK v' _ hb' hr)); intro v10 _; simp only [Act.put, List.setIfInBounds_toArray, List.set_cons_zero, List.set_cons_succ])
  (refine loose_step_on rfl (fun W' hB' hd K hK => ?_) ?_; (focus (have g9 : RdN W' v9 s := hd ⟨4, Ground.data⟩ (by simp) rfl _ 9 rfl rfl (by simp); have g10 : RdN W' v10 p := hd ⟨5, Ground.data⟩ (by simp) rfl _ 10 rfl rfl (by simp); clear hd; go_simp; refine (hM.out v9 v10 _ g9 g10).mono ?_; rintro _ _ ⟨rfl, hb'⟩; exact hK _ _ hb' rfl)); rintro _ rfl; simp only [Act.put, List.setIfInBounds_toArray, List.set_cons_zero, List.set_cons_succ])
  intro w6 hb6 hf
  clear hf
  have hC6 := hid (hC0.out.below hb6 hC0.out.lt)
  have hb7 := hb0.trans (hb6.mono hb0.size)
  clear hA0 hB0 hC0 hb0 hb6
  (refine wpList_store_row rfl 24 (.tmp 4) (.tmp 11) rfl (w.heap.size + 2) _ rfl rfl 24 _ hC6.out iR.out rfl nR.out ?_; simp only [Act.put])
  go_wp2
  refine bodyPost_ret (results_cell_row rfl _ _ (w.heap.size + 2) 24 (cellsW r) (0, 0) _ rfl (heap_setRow' _ _ _ _ _ hC6.out) uWd rfl iR.out) rfl ⟨rfl, below_setRow' hb7 _ (by omega) _⟩
set_option maxHeartbeats 2000000 in
theorem rflmul_any (a b : Nat) (w : World) (ha : a < 2 ^ 256) (hb : b < 2 ^ 256) : Calls Try.prog 77 #[wd a, wd b] w fun e w' => e = .returned (wd ((a * b) % lN)) ∧ Below w.heap.size w w' := by
  have hOA := hid (fun w => of_any a w ha)
  have hOB := hid (fun w => of_any b w hb)
  have hP := hid rL_any
  have la := dg_word_len a ha
  have lb := dg_word_len b hb
  have hF := hid (fun va vb w h1 h2 => times_any a b va vb w h1 h2 (by omega) (by omega))
  have hM := hid (fun va vb w h1 h2 => rfmod_any (a * b) lN va vb w h1 h2 (dg_prod a b ha hb) (by have := dg_l; omega) lN_pos lN_lt)
  obtain ⟨r, hr⟩ : ∃ r, r = (a * b) % lN := ⟨_, rfl⟩
  rw [← hr] at hM ⊢
  obtain ⟨s, hs⟩ : ∃ s, s = a * b := ⟨_, rfl⟩
  rw [← hs] at hM hF
  generalize lN = p at *
  clear ha hb la lb hr hs
  unfold wd at *
  have iA := hid (iW a)
  have iB := hid (iW b)
  have iR := hid (iW r)
  have nR := hid (one_cellsW r)
  have hA0 := hid (show ArrW 24 (((w.alloc (.cells (cellsW a) 24)).alloc (.cells (cellsW b) 24)).alloc (.cells (cellsW 0) 24)) w.heap.size a from ((ArrW.new _ w a).alloc _).alloc _)
  have hB0 := hid (show ArrW 24 (((w.alloc (.cells (cellsW a) 24)).alloc (.cells (cellsW b) 24)).alloc (.cells (cellsW 0) 24)) (w.heap.size + 1) b by
    have := ArrW.new 24 (w.alloc (.cells (cellsW a) 24)) b
    rw [World.size_alloc] at this; exact this.alloc _)
  have hC0 := hid (show ArrW 24 (((w.alloc (.cells (cellsW a) 24)).alloc (.cells (cellsW b) 24)).alloc (.cells (cellsW 0) 24)) (w.heap.size + 2) 0 by
    have := ArrW.new 24 ((w.alloc (.cells (cellsW a) 24)).alloc (.cells (cellsW b) 24)) 0
    rw [World.size_alloc, World.size_alloc] at this; exact this)
  have hb0 : Below w.heap.size w (((w.alloc (.cells (cellsW a) 24)).alloc (.cells (cellsW b) 24)).alloc (.cells (cellsW 0) 24)) := (((Below.refl _ _).alloc (Nat.le_refl _) _).alloc (by simp) _).alloc (by simp; omega) _
  go_enter Try.func77, Try.ntmps77
  go_wp2_with (refine wpList_alloc_new rfl 24 rfl (cellsW 0) zWd ?_; simp only [Act.put, List.setIfInBounds_toArray, List.set_cons_zero, List.set_cons_succ, World.size_alloc])
  generalize ((w.alloc (.cells (cellsW a) 24)).alloc (.cells (cellsW b) 24)).alloc (.cells (cellsW 0) 24) = w1 at hA0 hB0 hC0 hb0 ⊢
  ((try simp only [World.size_alloc]); refine wp_region_loose_tail 7 [.kn (.agg (cellsW (a))), .lo (fun v w => RdN w v (a)), .kn (.agg (cellsW (b))), .lo (fun v w => RdN w v (b)), .lo (fun v w => RdN w v (s)), .lo (fun v w => RdN w v (p)), .kn (.agg (cellsW (r)))] (by kernel_rfl) (by kernel_rfl) (by kernel_rfl) (by first | exact trivial | ((repeat (first | refine keepsAll_kn ?_ | (refine keepsAll_lo (fun v w w' h hb => ?_) ?_; first | exact RdN.below h hb | exact RdL.below h hb | exact RdY.below h hb | (obtain ⟨b, e, h1⟩ := h; exact ⟨b, e, ArrY.below h1 hb (ArrY.lt h1)⟩) | (obtain ⟨v1, v2, e, h1, h2⟩ := h; exact ⟨v1, v2, e, RdN.below h1 hb, RdN.below h2 hb⟩)))); exact trivial)) ?_; simp only [List.take_succ_cons, List.take_zero, List.drop_succ_cons, List.drop_zero])
  (refine loose_step_on rfl (fun W' hB' hd K hK => wp_load_block 24 (.tmp 2) rfl w.heap.size rfl 24 _ _ (ArrW.below hA0.out hB' (ArrW.lt hA0.out)) uWd rfl iA.out (hK _ _ (Below.refl _ _) rfl)) ?_; rintro _ rfl; simp only [Act.put, List.setIfInBounds_toArray, List.set_cons_zero, List.set_cons_succ])
  (refine loose_step_on rfl (fun W' hB' hd K hK => ?_) ?_; (focus (skip; clear hd; go_simp; refine (hOA.out _).mono ?_; rintro _ _ ⟨v', rfl, hr, hb'⟩; exact hK v' _ hb' hr)); intro v6 _; simp only [Act.put, List.setIfInBounds_toArray, List.set_cons_zero, List.set_cons_succ])
  (refine loose_step_on rfl (fun W' hB' hd K hK => wp_load_block 24 (.tmp 3) rfl (w.heap.size + 1) rfl 24 _ _ (ArrW.below hB0.out hB' (ArrW.lt hB0.out)) uWd rfl iB.out (hK _ _ (Below.refl _ _) rfl)) ?_; rintro _ rfl; simp only [Act.put, List.setIfInBounds_toArray, List.set_cons_zero, List.set_cons_succ])
  (refine loose_step_on rfl (fun W' hB' hd K hK => ?_) ?_; (focus (skip; clear hd; go_simp; refine (hOB.out _).mono ?_; rintro _ _ ⟨v', rfl, hr, hb'⟩; exact hK v' _ hb' hr)); intro v8 _; simp only [Act.put, List.setIfInBounds_toArray, List.set_cons_zero, List.set_cons_succ])
  (refine loose_step_on rfl (fun W' hB' hd K hK => ?_) ?_; (focus (have g6 : RdN W' v6 a := hd ⟨1, Ground.data⟩ (by simp) rfl _ 6 rfl rfl (by simp); have g8 : RdN W' v8 b := hd ⟨3, Ground.data⟩ (by simp) rfl _ 8 rfl rfl (by simp); clear hd; go_simp; refine (hF.out v6 v8 _ g6 g8).mono ?_; rintro _ _ ⟨v', rfl, hr, hb'⟩; exact hK v' _ hb' hr)); intro v9 _; simp only [Act.put, List.setIfInBounds_toArray, List.set_cons_zero, List.set_cons_succ])
  (refine loose_step_on rfl (fun W' hB' hd K hK => ?_) ?_; (focus (skip; clear hd; go_simp; refine (hP.out _).mono ?_; rintro _ _ ⟨v', rfl, hr, hb'⟩; exact hK v' _ hb' hr)); intro v10 _; simp only [Act.put, List.setIfInBounds_toArray, List.set_cons_zero, List.set_cons_succ])
  (refine loose_step_on rfl (fun W' hB' hd K hK => ?_) ?_; (focus (have g9 : RdN W' v9 s := hd ⟨4, Ground.data⟩ (by simp) rfl _ 9 rfl rfl (by simp); have g10 : RdN W' v10 p := hd ⟨5, Ground.data⟩ (by simp) rfl _ 10 rfl rfl (by simp); clear hd; go_simp; refine (hM.out v9 v10 _ g9 g10).mono ?_; rintro _ _ ⟨rfl, hb'⟩; exact hK _ _ hb' rfl)); rintro _ rfl; simp only [Act.put, List.setIfInBounds_toArray, List.set_cons_zero, List.set_cons_succ])
  intro w6 hb6 hf
  clear hf
  have hC6 := hid (hC0.out.below hb6 hC0.out.lt)
  have hb7 := hb0.trans (hb6.mono hb0.size)
  clear hA0 hB0 hC0 hb0 hb6
  (refine wpList_store_row rfl 24 (.tmp 4) (.tmp 11) rfl (w.heap.size + 2) _ rfl rfl 24 _ hC6.out iR.out rfl nR.out ?_; simp only [Act.put])
  go_wp2
  refine bodyPost_ret (results_cell_row rfl _ _ (w.heap.size + 2) 24 (cellsW r) (0, 0) _ rfl (heap_setRow' _ _ _ _ _ hC6.out) uWd rfl iR.out) rfl ⟨rfl, below_setRow' hb7 _ (by omega) _⟩
end Go.Proofs.Ytfidbiabgmioaaa

/-! field: scalars; bytes read. -/
namespace Go.Proofs.Ytfidbiabgmioaaa
open Go.RowKit

theorem modW_lN (s : Nat) : modW s lN = s % lN := by unfold modW; rw [if_neg (by have := lN_pos; omega)]
set_option maxHeartbeats 1000000 in
theorem ladd_any (a b : Nat) (w : World) (ha : a < 2 ^ 256) (hb : b < 2 ^ 256) : Calls Try.prog 74 #[wd a, wd b] w fun e w' => e = .returned (wd ((a + b) % lN)) ∧ Below w.heap.size w w' := by
  have hL := hid fL_any
  have hM := hid (fun w => waddmod_any a b lN w ha hb lN_lt)
  rw [modW_lN] at hM
  obtain ⟨r, hr⟩ : ∃ r, r = (a + b) % lN := ⟨_, rfl⟩
  rw [← hr] at hM ⊢
  generalize lN = l at *
  clear ha hb hr
  unfold wd at *
  have iA := hid (iW a)
  have iB := hid (iW b)
  have iR := hid (iW r)
  have nR := hid (one_cellsW r)
  have hA0 := hid (show ArrW 24 (((w.alloc (.cells (cellsW a) 24)).alloc (.cells (cellsW b) 24)).alloc (.cells (cellsW 0) 24)) w.heap.size a from ((ArrW.new _ w a).alloc _).alloc _)
  have hB0 := hid (show ArrW 24 (((w.alloc (.cells (cellsW a) 24)).alloc (.cells (cellsW b) 24)).alloc (.cells (cellsW 0) 24)) (w.heap.size + 1) b by
    have := ArrW.new 24 (w.alloc (.cells (cellsW a) 24)) b
    rw [World.size_alloc] at this; exact this.alloc _)
  have hC0 := hid (show ArrW 24 (((w.alloc (.cells (cellsW a) 24)).alloc (.cells (cellsW b) 24)).alloc (.cells (cellsW 0) 24)) (w.heap.size + 2) 0 by
    have := ArrW.new 24 ((w.alloc (.cells (cellsW a) 24)).alloc (.cells (cellsW b) 24)) 0
    rw [World.size_alloc, World.size_alloc] at this; exact this)
  have hb0 : Below w.heap.size w (((w.alloc (.cells (cellsW a) 24)).alloc (.cells (cellsW b) 24)).alloc (.cells (cellsW 0) 24)) := (((Below.refl _ _).alloc (Nat.le_refl _) _).alloc (by simp) _).alloc (by simp; omega) _
  go_enter Try.func74, Try.ntmps74
  go_wp2_with (refine wpList_alloc_new rfl 24 rfl (cellsW 0) zWd ?_; simp only [Act.put, List.setIfInBounds_toArray, List.set_cons_zero, List.set_cons_succ, World.size_alloc])
  generalize ((w.alloc (.cells (cellsW a) 24)).alloc (.cells (cellsW b) 24)).alloc (.cells (cellsW 0) 24) = w1 at hA0 hB0 hC0 hb0 ⊢
  ((try simp only [World.size_alloc]); refine wp_region_ext_tail 4 (by kernel_rfl) (by kernel_rfl) ?_; simp only [List.take_succ_cons, List.take_zero, List.drop_succ_cons, List.drop_zero]; (repeat (first | (refine wpQuiet_load_want 24 (.tmp 2) rfl w.heap.size rfl 24 (cellsW _) _ hA0.out uWd rfl iA.out rfl ?_; simp only [Act.put, List.setIfInBounds_toArray, List.set_cons_zero, List.set_cons_succ]) | (refine wpQuiet_load_want 24 (.tmp 3) rfl (w.heap.size + 1) rfl 24 (cellsW _) _ hB0.out uWd rfl iB.out rfl ?_; simp only [Act.put, List.setIfInBounds_toArray, List.set_cons_zero, List.set_cons_succ]) | go_big_quiet_step (first | (go_at_call 98; with_reducible refine Calls.ext_of (hL.out _)) | (go_at_call 70; with_reducible refine Calls.ext_of (hM.out _))))); refine wpQuiet_nil ?_; rintro _ ⟨xw, rfl⟩)
  have hC1 := hid (hC0.out.ext xw)
  have hb1 := World.ext_below_of hb0 hb0.size xw
  generalize w1.ext xw = w2 at hC1 hb1 ⊢
  clear hA0 hB0 hC0 hb0
  (refine wpList_store_row rfl 24 (.tmp 4) (.tmp 8) rfl (w.heap.size + 2) _ rfl rfl 24 _ hC1.out iR.out rfl nR.out ?_; simp only [Act.put])
  go_wp2
  refine bodyPost_ret (results_cell_row rfl _ _ (w.heap.size + 2) 24 (cellsW r) (0, 0) _ rfl (heap_setRow' _ _ _ _ _ hC1.out) uWd rfl iR.out) rfl ⟨rfl, below_setRow' hb1 _ (by omega) _⟩
set_option maxHeartbeats 1000000 in
theorem lmul_any (a b : Nat) (w : World) (ha : a < 2 ^ 256) (hb : b < 2 ^ 256) : Calls Try.prog 76 #[wd a, wd b] w fun e w' => e = .returned (wd ((a * b) % lN)) ∧ Below w.heap.size w w' := by
  have hL := hid fL_any
  have hM := hid (fun w => wmulmod_any a b lN w ha hb lN_lt)
  rw [modW_lN] at hM
  obtain ⟨r, hr⟩ : ∃ r, r = (a * b) % lN := ⟨_, rfl⟩
  rw [← hr] at hM ⊢
  generalize lN = l at *
  clear ha hb hr
  unfold wd at *
  have iA := hid (iW a)
  have iB := hid (iW b)
  have iR := hid (iW r)
  have nR := hid (one_cellsW r)
  have hA0 := hid (show ArrW 24 (((w.alloc (.cells (cellsW a) 24)).alloc (.cells (cellsW b) 24)).alloc (.cells (cellsW 0) 24)) w.heap.size a from ((ArrW.new _ w a).alloc _).alloc _)
  have hB0 := hid (show ArrW 24 (((w.alloc (.cells (cellsW a) 24)).alloc (.cells (cellsW b) 24)).alloc (.cells (cellsW 0) 24)) (w.heap.size + 1) b by
    have := ArrW.new 24 (w.alloc (.cells (cellsW a) 24)) b
    rw [World.size_alloc] at this; exact this.alloc _)
  have hC0 := hid (show ArrW 24 (((w.alloc (.cells (cellsW a) 24)).alloc (.cells (cellsW b) 24)).alloc (.cells (cellsW 0) 24)) (w.heap.size + 2) 0 by
    have := ArrW.new 24 ((w.alloc (.cells (cellsW a) 24)).alloc (.cells (cellsW b) 24)) 0
    rw [World.size_alloc, World.size_alloc] at this; exact this)
  have hb0 : Below w.heap.size w (((w.alloc (.cells (cellsW a) 24)).alloc (.cells (cellsW b) 24)).alloc (.cells (cellsW 0) 24)) := (((Below.refl _ _).alloc (Nat.le_refl _) _).alloc (by simp) _).alloc (by simp; omega) _
  go_enter Try.func76, Try.ntmps76
  go_wp2_with (refine wpList_alloc_new rfl 24 rfl (cellsW 0) zWd ?_; simp only [Act.put, List.setIfInBounds_toArray, List.set_cons_zero, List.set_cons_succ, World.size_alloc])
  generalize ((w.alloc (.cells (cellsW a) 24)).alloc (.cells (cellsW b) 24)).alloc (.cells (cellsW 0) 24) = w1 at hA0 hB0 hC0 hb0 ⊢
  ((try simp only [World.size_alloc]); refine wp_region_ext_tail 4 (by kernel_rfl) (by kernel_rfl) ?_; simp only [List.take_succ_cons, List.take_zero, List.drop_succ_cons, List.drop_zero]; (repeat (first | (refine wpQuiet_load_want 24 (.tmp 2) rfl w.heap.size rfl 24 (cellsW _) _ hA0.out uWd rfl iA.out rfl ?_; simp only [Act.put, List.setIfInBounds_toArray, List.set_cons_zero, List.set_cons_succ]) | (refine wpQuiet_load_want 24 (.tmp 3) rfl (w.heap.size + 1) rfl 24 (cellsW _) _ hB0.out uWd rfl iB.out rfl ?_; simp only [Act.put, List.setIfInBounds_toArray, List.set_cons_zero, List.set_cons_succ]) | go_big_quiet_step (first | (go_at_call 98; with_reducible refine Calls.ext_of (hL.out _)) | (go_at_call 72; with_reducible refine Calls.ext_of (hM.out _))))); refine wpQuiet_nil ?_; rintro _ ⟨xw, rfl⟩)
  have hC1 := hid (hC0.out.ext xw)
  have hb1 := World.ext_below_of hb0 hb0.size xw
  generalize w1.ext xw = w2 at hC1 hb1 ⊢
  clear hA0 hB0 hC0 hb0
  (refine wpList_store_row rfl 24 (.tmp 4) (.tmp 8) rfl (w.heap.size + 2) _ rfl rfl 24 _ hC1.out iR.out rfl nR.out ?_; simp only [Act.put])
  go_wp2
  refine bodyPost_ret (results_cell_row rfl _ _ (w.heap.size + 2) 24 (cellsW r) (0, 0) _ rfl (heap_setRow' _ _ _ _ _ hC1.out) uWd rfl iR.out) rfl ⟨rfl, below_setRow' hb1 _ (by omega) _⟩

/-- The number of bytes, the lowest first. -/
def leN (ys : List (BitVec 8)) : Nat := num (ys.map fun y => y.toNat)
theorem le_dig (ys : List (BitVec 8)) : Dig (ys.map fun y => y.toNat) := fun d hd => by
  obtain ⟨y, _, rfl⟩ := List.mem_map.1 hd
  exact y.isLt
theorem le_nd (ys : List (BitVec 8)) (i : Nat) : ((nd (ys.map fun y => y.toNat) i : Nat) : Int) = yv (ny ys i) := by
  unfold nd ny yv
  rw [List.getD_eq_getElem?_getD, List.getD_eq_getElem?_getD, List.getElem?_map]
  cases ys[i]? <;> rfl
theorem leN_lt (ys : List (BitVec 8)) (h : ys.length ≤ 32) : leN ys < 2 ^ 256 := by
  have h1 := num_lt _ (le_dig ys)
  have h2 : 256 ^ (ys.map fun y => y.toNat).length ≤ 256 ^ 32 := Nat.pow_le_pow_right (by omega) (by rw [List.length_map]; exact h)
  rw [pow256_32] at h2
  exact Nat.lt_of_lt_of_le h1 h2

set_option maxHeartbeats 2000000 in
theorem little_any (ys : List (BitVec 8)) (v : Value) (w : World) (hr : RdY w v ys) (hl : ys.length ≤ 32) : Calls Try.prog 125 #[v] w fun e w' => e = .returned (wd (leN ys)) ∧ Below w.heap.size w w' := by
  obtain ⟨a, cap, rfl, hc, hx⟩ := hr
  have HX := hid hx
  obtain ⟨l, hL⟩ : ∃ l, l = ys.map fun y => y.toNat := ⟨_, rfl⟩
  have hD : Dig l := by rw [hL]; exact le_dig ys
  have hnd : ∀ i, ((nd l i : Nat) : Int) = yv (ny ys i) := fun i => by rw [hL]; exact le_nd ys i
  have hll : l.length = ys.length := by rw [hL, List.length_map]
  have HLE := hid (show leN ys = num l by rw [hL]; rfl)
  rw [HLE.out]
  have HD := hid hD
  have HND := hid hnd
  clear hx hL hD hnd HLE
  unfold wd
  have hA0 := hid (ArrW.new 24 w 0)
  have hb0 : Below w.heap.size w (w.alloc (.cells (cellsW 0) 24)) := (Below.refl _ _).alloc (Nat.le_refl _) _
  go_enter Try.func125, Try.ntmps125
  go_wp2_with (refine wpList_alloc_new rfl 24 rfl (cellsW 0) zWd ?_; simp only [Act.put, List.setIfInBounds_toArray, List.set_cons_zero, List.set_cons_succ, World.size_alloc])
  generalize w.alloc (.cells (cellsW 0) 24) = w1 at hA0 hb0 ⊢
  go_loopw [7] (fun iv wr => ∃ i : Nat, i ≤ ys.length ∧ iv = .int .i64 (i : Int) ∧ Hid (ArrW 24 wr w.heap.size (num (l.take i))) ∧ Below w.heap.size w wr)
    (fun iv _ => ys.length - (intOf iv).toNat)
  case atStart => exact ⟨0, by omega, rfl, hA0, hb0⟩
  case round =>
    clear hA0 hb0
    obtain ⟨i, hi, rfl, hA, hb⟩ := hrel
    by_cases hlt : i < ys.length
    · obtain ⟨b, off, rfl, hbl, hcell⟩ := HX.out (by intro e; subst e; simp at hlt)
      have cx := (hb.cell (p := ⟨b, off + i, none⟩) hbl).trans (hcell i hlt)
      have gx := nd_dig HD.out i
      have c1 := hA.out.cell (i / 8) (by omega)
      have f1 := hA.out.free (i / 8)
      have l1 := hA.out.lt
      have lb : b < wr.heap.size := Nat.lt_of_lt_of_le hbl hb.size
      have hsh : (8 * ((i : Int) % 8)).toNat = 8 * (i % 8) := by omega
      have hxl := num_take_lt l HD.out i
      have hq := cellsW_add (num (l.take i)) (nd l i) i hxl gx (by omega)
      have hn := hid (show num (l.take (i + 1)) = num (l.take i) + 256 ^ i * nd l i from num_take_succ l i)
      have hle : nd l i * 2 ^ (8 * (i % 8)) < 18446744073709551616 := by
        have h1 : 2 ^ (8 * (i % 8)) ≤ 2 ^ 56 := Nat.pow_le_pow_right (by omega) (by omega)
        have h2 : nd l i * 2 ^ (8 * (i % 8)) ≤ 255 * 2 ^ 56 := Nat.mul_le_mul (by omega) h1
        omega
      have hv : bits .or .u64 (lm (num (l.take i)) (i / 8)) (IntKind.u64.wrap (((nd l i : Nat) : Int) * 2 ^ (8 * (i % 8)))) = ((lmN (num (l.take i)) (i / 8) ||| nd l i * 2 ^ (8 * (i % 8)) : Nat) : Int) := by
        rw [show ((nd l i : Nat) : Int) * 2 ^ (8 * (i % 8)) = ((nd l i * 2 ^ (8 * (i % 8)) : Nat) : Int) by rw [Int.natCast_mul, Int.natCast_pow]; rfl]
        rw [show IntKind.u64.wrap ((nd l i * 2 ^ (8 * (i % 8)) : Nat) : Int) = ((nd l i * 2 ^ (8 * (i % 8)) : Nat) : Int) by rw [IntKind.wrap_u64]; omega]
        exact u64_or_nat _ _ (lmN_lt _ _) hle
      rw [← HND.out i] at cx
      have HV := hid hv
      have HQ := hid hq
      clear hq hv hle hxl hcell
      obtain ⟨d, hd⟩ : ∃ d, d = nd l i := ⟨_, rfl⟩
      rw [← hd] at cx HV HQ hn gx
      clear hd
      go_wp2_with fail
      (refine wp_region_ext_tail 12 (by kernel_rfl) (by kernel_rfl) ?_; simp only [List.take_succ_cons, List.take_zero, List.drop_succ_cons, List.drop_zero]; (repeat (go_big_quiet_step (first | fail))); refine wpQuiet_nil ?_; rintro _ ⟨xw, rfl⟩)
      go_wp2
      go_roundw
      case rel =>
        rw [HV.out]
        refine ⟨i + 1, by omega, by go_num, hid ?_, (World.ext_below_of hb hb.size xw).setCell (p := ⟨w.heap.size, i / 8, none⟩) (Nat.le_refl _) _⟩
        rw [hn.out]
        exact (hA.out.ext xw).set _ _ HQ.out
      case measure => simp [intOf]; omega
    · obtain rfl : i = ys.length := by omega
      rw [List.take_of_length_le (by omega)] at hA
      obtain ⟨y, hy⟩ : ∃ y, y = num l := ⟨_, rfl⟩
      rw [← hy] at hA
      have HY := hid hy
      have iY := hid (iW y)
      have nY := hid (one_cellsW y)
      clear hy
      go_wp2_with (first | (refine wpList_load_row rfl 24 (.tmp 2) rfl w.heap.size rfl 24 _ (0, 0) _ hA.out uWd rfl iY.out ?_; simp only [Act.put, List.setIfInBounds_toArray, List.set_cons_zero, List.set_cons_succ]) | (refine wpList_store_row rfl 24 (.tmp 2) (.tmp 25) rfl w.heap.size _ rfl rfl 24 _ hA.out iY.out rfl nY.out ?_; simp only [Act.put]))
      refine bodyPost_ret (results_cell_row rfl _ _ w.heap.size 24 (cellsW y) (0, 0) _ rfl (heap_setRow' _ _ _ _ _ hA.out) uWd rfl iY.out) rfl ⟨by rw [HY.out], below_setRow' hb _ (Nat.le_refl _) _⟩

/-- What reading makes of bytes below m. -/
def fdN (m : Nat) (ys : List (BitVec 8)) : Nat := if ys.length = 32 ∧ leN ys < m then leN ys else 0
def fdE (m : Nat) (ys : List (BitVec 8)) : Int := if ys.length = 32 then (if leN ys < m then 0 else 20) else 1
theorem fdN_lt (m : Nat) (ys : List (BitVec 8)) : fdN m ys < 2 ^ 256 := by
  unfold fdN; split
  · rename_i h; exact leN_lt ys (by omega)
  · exact Nat.pow_pos (by omega)

set_option maxHeartbeats 2000000 in
theorem fread_any (ys : List (BitVec 8)) (m : Nat) (v : Value) (w : World) (hr : RdY w v ys) (hm : m < 2 ^ 256) : Calls Try.prog 100 #[v, wd m] w fun e w' => e = .returned (.tuple #[wd (fdN m ys), .int .i64 (fdE m ys)]) ∧ Below w.heap.size w w' := by
  have iM := hid (iW m)
  have iZ := hid (iW 0)
  have nZ := hid (one_cellsW 0)
  have hBn := hid nil_built
  have HM := hid hm
  clear hm
  have hA0 := hid (show ArrW 24 ((w.alloc (.cells (cellsW m) 24)).alloc (.cells (cellsW 0) 24)) w.heap.size m from (ArrW.new _ w m).alloc _)
  have hC0 := hid (show ArrW 24 ((w.alloc (.cells (cellsW m) 24)).alloc (.cells (cellsW 0) 24)) (w.heap.size + 1) 0 by
    have := ArrW.new 24 (w.alloc (.cells (cellsW m) 24)) 0
    rw [World.size_alloc] at this; exact this)
  have hb0 : Below w.heap.size w ((w.alloc (.cells (cellsW m) 24)).alloc (.cells (cellsW 0) 24)) := ((Below.refl _ _).alloc (Nat.le_refl _) _).alloc (by simp) _
  have hv0 := hid (hr.below hb0)
  clear hr
  obtain ⟨a, cap, rfl, hc, hx⟩ := hv0.out
  have HX := hid hx
  clear hx
  unfold wd
  by_cases hlen : ys.length = 32
  · have hll : (ys.length : Int) = 32 := by omega
    have HLt := hid (leN_lt ys (by omega))
    have hL := hid (fun w h => little_any ys (.slice a ys.length cap) w h (by omega))
    have HN := hid (show fdN m ys = if leN ys < m then leN ys else 0 by unfold fdN; simp only [hlen, true_and])
    have HE := hid (show fdE m ys = if leN ys < m then 0 else 20 by unfold fdE; rw [if_pos hlen])
    have hC := hid (fun w => wcmp_any (leN ys) m w HLt.out HM.out)
    obtain ⟨x, hx⟩ : ∃ x, x = leN ys := ⟨_, rfl⟩
    rw [← hx] at HN HE hL hC
    rw [hlen] at hL hv0
    have HV := hid hlen
    have hcond : ((x < m) ∧ cmpI x m < 0) ∨ (¬ x < m ∧ 0 ≤ cmpI x m) := by
      have := cmpI_neg x m
      by_cases h : x < m
      · exact .inl ⟨h, this.2 h⟩
      · exact .inr ⟨h, by omega⟩
    obtain ⟨c, hcc⟩ : ∃ c, c = cmpI x m := ⟨_, rfl⟩
    rw [← hcc] at hC hcond
    unfold wd at *
    have iX := hid (iW x)
    have nX := hid (one_cellsW x)
    clear hx hcc HLt
    rw [hlen]
    clear hlen hll
    go_enter Try.func100, Try.ntmps100
    go_wp2_with (refine wpList_alloc_new rfl 24 rfl (cellsW 0) zWd ?_; simp only [Act.put, List.setIfInBounds_toArray, List.set_cons_zero, List.set_cons_succ, World.size_alloc])
    refine (hL.out _ hv0.out).mono ?_
    rintro e w1 ⟨rfl, hb1⟩
    have hA1 := hid ((hA0.out.below hb1 hA0.out.lt).alloc (.cells (cellsW x) 24))
    have hC1 := hid ((hC0.out.below hb1 hC0.out.lt).alloc (.cells (cellsW x) 24))
    have hX1 := hid (ArrW.new 24 w1 x)
    have hb2 := hb0.trans (hb1.mono hb0.size)
    have hb3 := hb2.alloc hb2.size (.cells (cellsW x) 24)
    have hsz : w.heap.size + 2 ≤ w1.heap.size := by have := (hC0.out.below hb1 hC0.out.lt).lt; omega
    clear hA0 hC0 hb0 hb1 hb2 hv0
    obtain ⟨G, hG⟩ : ∃ G, G = w1.heap.size := ⟨_, rfl⟩
    go_wp2_with (first | (refine wpList_allocStore 24 12 6 (cellsW x) (cellsW 0) rfl rfl rfl rfl rfl rfl (by decide) (by simp) rfl (by kernel_rfl) rfl iX.out nX.out ?_; simp only [Act.put, List.setIfInBounds_toArray, List.set_cons_zero, List.set_cons_succ]) | (refine wpList_load_row rfl 24 (.tmp 6) rfl w1.heap.size rfl 24 _ (0, 0) _ hX1.out uWd rfl iX.out ?_; simp only [Act.put, List.setIfInBounds_toArray, List.set_cons_zero, List.set_cons_succ]) | (refine wpList_load_row rfl 24 (.tmp 3) rfl w.heap.size rfl 24 _ (0, 0) _ hA1.out uWd rfl iM.out ?_; simp only [Act.put, List.setIfInBounds_toArray, List.set_cons_zero, List.set_cons_succ]))
    rw [← hG] at hX1 hsz ⊢
    generalize w1.alloc (.cells (cellsW x) 24) = w2 at hA1 hC1 hX1 hb3 ⊢
    clear hG
    refine (hC.out _).mono ?_
    rintro e w3 ⟨rfl, hb4⟩
    have hC2 := hid (hC1.out.below hb4 hC1.out.lt)
    have hX2 := hid (hX1.out.below hb4 hX1.out.lt)
    have hb5 := hb3.trans (hb4.mono hb3.size)
    clear hA1 hC1 hX1 hb3 hb4
    rcases hcond with ⟨h1, h2⟩ | ⟨h1, h2⟩
    · have H1 := hid h1
      clear h1
      go_wp2_with (first | (refine wpList_load_row rfl 24 (.tmp 6) rfl G rfl 24 _ (0, 0) _ hX2.out uWd rfl iX.out ?_; simp only [Act.put, List.setIfInBounds_toArray, List.set_cons_zero, List.set_cons_succ]) | (refine wpList_store_row rfl 24 (.tmp 4) (.tmp 18) rfl (w.heap.size + 1) _ rfl rfl 24 _ hC2.out iX.out rfl nX.out ?_; simp only [Act.put]))
      refine bodyPost_ret (results_row_tmp rfl _ _ (w.heap.size + 1) 24 (cellsW x) (0, 0) _ rfl (heap_setRow' _ _ _ _ _ hC2.out) uWd rfl iX.out) rfl ⟨by rw [HN.out, HE.out, if_pos H1.out, if_pos H1.out]; rfl, below_setRow' hb5 _ (by omega) _⟩
    · have H1 := hid h1
      clear h1
      go_wp2_with (refine wpList_buildStore 24 _ (.tmp 4) 17 (cellsW 0) _ rfl rfl rfl rfl rfl rfl (by simp) (by first | exact hBn.out | (simp only [List.map_toArray, List.map_cons, List.map_nil]; exact hBn.out)) rfl 24 _ hC2.out iZ.out rfl nZ.out ?_; simp only [Act.put, List.setIfInBounds_toArray, List.set_cons_zero, List.set_cons_succ])
      refine bodyPost_ret (results_row_tmp rfl _ _ (w.heap.size + 1) 24 (cellsW 0) (0, 0) _ rfl (heap_setRow' _ _ _ _ _ hC2.out) uWd rfl iZ.out) rfl ⟨by rw [HN.out, HE.out, if_neg H1.out, if_neg H1.out]; rfl, below_setRow' hb5 _ (by omega) _⟩
  · have hll : ¬ (ys.length : Int) = 32 := by omega
    have HN := hid (show fdN m ys = 0 by unfold fdN; rw [if_neg (fun h => hlen h.1)])
    have HE := hid (show fdE m ys = 1 by unfold fdE; rw [if_neg hlen])
    rw [HN.out, HE.out]
    clear hlen
    go_enter Try.func100, Try.ntmps100
    go_wp2_with (first | (refine wpList_alloc_new rfl 24 rfl (cellsW 0) zWd ?_; simp only [Act.put, List.setIfInBounds_toArray, List.set_cons_zero, List.set_cons_succ, World.size_alloc]) | (refine wpList_buildStore 24 _ (.tmp 4) 10 (cellsW 0) _ rfl rfl rfl rfl rfl rfl (by simp) (by first | exact hBn.out | (simp only [List.map_toArray, List.map_cons, List.map_nil]; exact hBn.out)) rfl 24 _ hC0.out iZ.out rfl nZ.out ?_; simp only [Act.put, List.setIfInBounds_toArray, List.set_cons_zero, List.set_cons_succ]))
    refine bodyPost_ret (results_row_tmp rfl _ _ (w.heap.size + 1) 24 (cellsW 0) (0, 0) _ rfl (heap_setRow' _ _ _ _ _ hC0.out) uWd rfl iZ.out) rfl ⟨rfl, below_setRow' hb0 _ (by omega) _⟩
set_option maxHeartbeats 1000000 in
theorem fRead_any (ys : List (BitVec 8)) (v : Value) (w : World) (hr : RdY w v ys) : Calls Try.prog 20 #[v] w fun e w' => e = .returned (.tuple #[wd (fdN pN ys), .int .i64 (fdE pN ys)]) ∧ Below w.heap.size w w' := by
  have hP := hid fP_any
  have hR := hid (fun w h => fread_any ys pN v w h pN_lt)
  obtain ⟨x, hx⟩ : ∃ x, x = fdN pN ys := ⟨_, rfl⟩
  obtain ⟨y, hy⟩ : ∃ y, y = fdE pN ys := ⟨_, rfl⟩
  rw [← hx, ← hy] at hR ⊢
  generalize pN = k at *
  clear hx hy
  unfold wd at *
  have iX := hid (iW x)
  have nX := hid (one_cellsW x)
  have hC0 := hid (ArrW.new 24 w 0)
  have hb0 : Below w.heap.size w (w.alloc (.cells (cellsW 0) 24)) := (Below.refl _ _).alloc (Nat.le_refl _) _
  have hv0 := hid (hr.below hb0)
  clear hr
  go_enter Try.func20, Try.ntmps20
  go_wp2_with (refine wpList_alloc_new rfl 24 rfl (cellsW 0) zWd ?_; simp only [Act.put, List.setIfInBounds_toArray, List.set_cons_zero, List.set_cons_succ, World.size_alloc])
  refine (hP.out _).mono ?_
  rintro e w1 ⟨rfl, hb1⟩
  have hC1 := hid (hC0.out.below hb1 hC0.out.lt)
  have hv1 := hid (hv0.out.below hb1)
  have hb2 := hb0.trans (hb1.mono hb0.size)
  clear hC0 hv0 hb0 hb1
  go_wp2_with fail
  refine (hR.out _ hv1.out).mono ?_
  rintro e w2 ⟨rfl, hb3⟩
  have hC2 := hid (hC1.out.below hb3 hC1.out.lt)
  have hb4 := hb2.trans (hb3.mono hb2.size)
  clear hC1 hv1 hb2 hb3
  go_wp2_with (refine wpList_store_row rfl 24 (.tmp 2) (.tmp 7) rfl w.heap.size _ rfl rfl 24 _ hC2.out iX.out rfl nX.out ?_; simp only [Act.put])
  refine bodyPost_ret (results_row_tmp rfl _ _ w.heap.size 24 (cellsW x) (0, 0) _ rfl (heap_setRow' _ _ _ _ _ hC2.out) uWd rfl iX.out) rfl ⟨rfl, below_setRow' hb4 _ (Nat.le_refl _) _⟩
set_option maxHeartbeats 1000000 in
theorem fLread_any (ys : List (BitVec 8)) (v : Value) (w : World) (hr : RdY w v ys) : Calls Try.prog 81 #[v] w fun e w' => e = .returned (.tuple #[wd (fdN lN ys), .int .i64 (fdE lN ys)]) ∧ Below w.heap.size w w' := by
  have hP := hid fL_any
  have hR := hid (fun w h => fread_any ys lN v w h lN_lt)
  obtain ⟨x, hx⟩ : ∃ x, x = fdN lN ys := ⟨_, rfl⟩
  obtain ⟨y, hy⟩ : ∃ y, y = fdE lN ys := ⟨_, rfl⟩
  rw [← hx, ← hy] at hR ⊢
  generalize lN = k at *
  clear hx hy
  unfold wd at *
  have iX := hid (iW x)
  have nX := hid (one_cellsW x)
  have hC0 := hid (ArrW.new 24 w 0)
  have hb0 : Below w.heap.size w (w.alloc (.cells (cellsW 0) 24)) := (Below.refl _ _).alloc (Nat.le_refl _) _
  have hv0 := hid (hr.below hb0)
  clear hr
  go_enter Try.func81, Try.ntmps81
  go_wp2_with (refine wpList_alloc_new rfl 24 rfl (cellsW 0) zWd ?_; simp only [Act.put, List.setIfInBounds_toArray, List.set_cons_zero, List.set_cons_succ, World.size_alloc])
  refine (hP.out _).mono ?_
  rintro e w1 ⟨rfl, hb1⟩
  have hC1 := hid (hC0.out.below hb1 hC0.out.lt)
  have hv1 := hid (hv0.out.below hb1)
  have hb2 := hb0.trans (hb1.mono hb0.size)
  clear hC0 hv0 hb0 hb1
  go_wp2_with fail
  refine (hR.out _ hv1.out).mono ?_
  rintro e w2 ⟨rfl, hb3⟩
  have hC2 := hid (hC1.out.below hb3 hC1.out.lt)
  have hb4 := hb2.trans (hb3.mono hb2.size)
  clear hC1 hv1 hb2 hb3
  go_wp2_with (refine wpList_store_row rfl 24 (.tmp 2) (.tmp 7) rfl w.heap.size _ rfl rfl 24 _ hC2.out iX.out rfl nX.out ?_; simp only [Act.put])
  refine bodyPost_ret (results_row_tmp rfl _ _ w.heap.size 24 (cellsW x) (0, 0) _ rfl (heap_setRow' _ _ _ _ _ hC2.out) uWd rfl iX.out) rfl ⟨rfl, below_setRow' hb4 _ (Nat.le_refl _) _⟩
end Go.Proofs.Ytfidbiabgmioaaa

/-! Reference: number, read; program: Bytes. -/
namespace Go.Proofs.Ytfidbiabgmioaaa
open Go.RowKit

def natsY (ys : List (BitVec 8)) : List Nat := ys.map fun y => y.toNat
theorem natsY_take (ys : List (BitVec 8)) (i : Nat) (h : i < ys.length) : digV ((natsY ys).take (i + 1)) = digV ((natsY ys).take i) ++ [.int .i64 (yv (ny ys i))] := by
  have hl : i < (natsY ys).length := by unfold natsY; rw [List.length_map]; exact h
  rw [List.take_succ_eq_append_getElem hl]
  have e : (natsY ys)[i] = ys[i].toNat := List.getElem_map (fun y : BitVec 8 => y.toNat)
  rw [e, ← digV_snoc]
  have e2 : yv (ny ys i) = (ys[i].toNat : Int) := by unfold yv ny; simp [h]
  rw [e2]

set_option maxHeartbeats 2000000 in
theorem number_any (ys : List (BitVec 8)) (v : Value) (w : World) (hr : RdY w v ys) (hl : ys.length ≤ 65536) : Calls Try.prog 126 #[v] w fun e w' => ∃ v', e = .returned v' ∧ RdN w' v' (leN ys) ∧ Below w.heap.size w w' := by
  obtain ⟨i0, hi0, hz0, hz1, hz2⟩ := info_parts infoI
  obtain ⟨a, cap, rfl, hc, hx⟩ := hr
  have HX := hid hx
  clear hx
  go_enter Try.func126, Try.ntmps126
  go_wp2
  go_loopw [3, 4] (fun ov iv wr => ∃ i : Nat, i ≤ ys.length ∧ iv = .int .i64 (i : Int) ∧ Hid (wr.ownsRow w.heap.size 3 1 ov i (digV ((natsY ys).take i))) ∧ Below w.heap.size w wr)
    (fun _ iv _ => ys.length - (intOf iv).toNat)
  case atStart => exact ⟨0, by omega, rfl, hid (World.ownsRow_nil _ _ _ _), Below.refl _ _⟩
  case round =>
    obtain ⟨i, hi, rfl, ho, hb⟩ := hrel
    have hbs := hb.size
    by_cases hlt : i < ys.length
    · obtain ⟨b, off, rfl, hbl, hcell⟩ := HX.out (by intro e; subst e; simp at hlt)
      have cx := (hb.cell (p := ⟨b, off + i, none⟩) hbl).trans (hcell i hlt)
      have lb : b < wr.heap.size := Nat.lt_of_lt_of_le hbl hb.size
      have n1 := yv_nonneg (ny ys i)
      have n2 := yv_lt (ny ys i)
      have HT := hid (natsY_take ys i hlt)
      obtain ⟨d, hd⟩ : ∃ d, d = yv (ny ys i) := ⟨_, rfl⟩
      rw [← hd] at cx n1 n2 HT
      have HL2 := hid ho.out.lt
      clear hcell hd
      go_wp2_with (at_builtin; refine wpList_append_any rfl (.tmp 11) (.tmp 17) 42 rfl w.heap.size 3 i0 _ 1 8 uNat hi0 hz0 hz1 hz2 rfl (by decide) _ _ rfl rfl i _ (ho.out.alloc _) 1 _ ⟨rfl, by simp [Value.oneCell'], _, _, rfl, fun _ => ⟨_, rfl, cell_one_new _ _ _⟩⟩ (by unfold maxLen; omega) (by omega) (by simp; omega) ?_)
      intro v2 w2 ho2 hg2 _
      rw [← HT.out] at ho2
      have H2 := hid ho2
      have hb2 : Below w.heap.size w w2 := (hb.alloc hb.size _).grown hg2 (by simp; omega) (fun k e => by have := (HL2.out k e).1; omega)
      clear ho2 hg2
      go_wp2
      go_roundw
      case rel => exact ⟨i + 1, by omega, by go_num, H2, hb2⟩
      case measure => simp [intOf]; omega
    · obtain rfl : i = ys.length := by omega
      have hln : (natsY ys).length = ys.length := by unfold natsY; rw [List.length_map]
      rw [List.take_of_length_le (by omega)] at ho
      have hR := RdL.owned (by rw [hln]; exact ho.out)
      have HT := hid (trim_any _ _ wr hR (le_dig ys) (by rw [hln]; omega))
      rw [show num (natsY ys) = leN ys from rfl] at HT
      clear hR hln
      go_wp2_with (go_at_call 113; (with_reducible refine HT.out.mono ?_); rintro e w' ⟨v', rfl, hr', hb'⟩)
      go_ret
      exact ⟨_, rfl, hr', hb.trans (hb'.mono hb.size)⟩

set_option maxHeartbeats 2000000 in
theorem rfread_any (ys : List (BitVec 8)) (m : Nat) (v vm : Value) (w : World) (hr : RdY w v ys) (hrm : RdN w vm m) (hm : (dg m).length ≤ 65000) : Calls Try.prog 124 #[v, vm] w fun e w' => e = .returned (.tuple #[wd (fdN m ys), .int .i64 (fdE m ys)]) ∧ Below w.heap.size w w' := by
  have iZ := hid (iW 0)
  have nZ := hid (one_cellsW 0)
  have hBn := hid nil_built
  have hC0 := hid (ArrW.new 24 w 0)
  have hb0 : Below w.heap.size w (w.alloc (.cells (cellsW 0) 24)) := (Below.refl _ _).alloc (Nat.le_refl _) _
  have hv0 := hid (hr.below hb0)
  have hm0 := hid (hrm.below hb0)
  clear hr hrm
  obtain ⟨a, cap, rfl, hc, hx⟩ := hv0.out
  clear hx
  unfold wd
  by_cases hlen : ys.length = 32
  · have hlt := leN_lt ys (by omega)
    have hL := hid (fun w h => number_any ys (.slice a ys.length cap) w h (by omega))
    have HN := hid (show fdN m ys = if leN ys < m then leN ys else 0 by unfold fdN; simp only [hlen, true_and])
    have HE := hid (show fdE m ys = if leN ys < m then 0 else 20 by unfold fdE; rw [if_pos hlen])
    have hxd := dg_word_len (leN ys) hlt
    have hC := hid (fun va vb w h1 h2 => cmp_any (dg (leN ys)) (dg m) va vb w h1 h2 (dg_dig _) (dg_dig _) (by omega) (by omega))
    rw [num_dg, num_dg] at hC
    have hW := hid (fun v w h => wordN_any (leN ys) v w h (by omega))
    rw [Nat.mod_eq_of_lt hlt] at hW
    obtain ⟨x, hx⟩ : ∃ x, x = leN ys := ⟨_, rfl⟩
    rw [← hx] at HN HE hL hC hW
    rw [hlen] at hL hv0
    have hcond : ((x < m) ∧ cmpI x m < 0) ∨ (¬ x < m ∧ 0 ≤ cmpI x m) := by
      have := cmpI_neg x m
      by_cases h : x < m
      · exact .inl ⟨h, this.2 h⟩
      · exact .inr ⟨h, by omega⟩
    obtain ⟨c, hcc⟩ : ∃ c, c = cmpI x m := ⟨_, rfl⟩
    rw [← hcc] at hC hcond
    unfold wd at *
    have iX := hid (iW x)
    have nX := hid (one_cellsW x)
    rw [hlen]
    clear hx hcc hxd hlt hlen
    go_enter Try.func124, Try.ntmps124
    go_wp2_with (refine wpList_alloc_new rfl 24 rfl (cellsW 0) zWd ?_; simp only [Act.put, List.setIfInBounds_toArray, List.set_cons_zero, List.set_cons_succ, World.size_alloc])
    refine (hL.out _ hv0.out).mono ?_
    rintro e w1 ⟨v1, rfl, hr1, hb1⟩
    have hC1 := hid (hC0.out.below hb1 hC0.out.lt)
    have hm1 := hid (hm0.out.below hb1)
    have hb2 := hb0.trans (hb1.mono hb0.size)
    have hR1 := hid hr1
    clear hC0 hm0 hv0 hb0 hb1 hr1
    go_wp2_with fail
    refine (hC.out _ _ _ hR1.out hm1.out).mono ?_
    rintro e w2 ⟨rfl, rfl⟩
    rcases hcond with ⟨h1, h2⟩ | ⟨h1, h2⟩
    · have H1 := hid h1
      clear h1
      go_wp2_with fail
      refine (hW.out _ _ hR1.out).mono ?_
      rintro e w3 ⟨rfl, hb3⟩
      have hC3 := hid (hC1.out.step hb3)
      have hb4 := hb2.trans (hb3.mono hb2.size)
      clear hC1 hb2 hb3 hR1 hm1
      go_wp2_with (refine wpList_store_row rfl 24 (.tmp 4) (.tmp 19) rfl w.heap.size _ rfl rfl 24 _ hC3.out iX.out (by rw [size_cellsW, size_cellsW]) nX.out ?_; simp only [Act.put])
      refine bodyPost_ret (results_row_tmp rfl _ _ w.heap.size 24 (cellsW x) (0, 0) _ rfl (heap_setRow' _ _ _ _ _ hC3.out) uWd rfl iX.out) rfl ⟨by rw [HN.out, HE.out, if_pos H1.out, if_pos H1.out]; rfl, below_setRow' hb4 _ (Nat.le_refl _) _⟩
    · have H1 := hid h1
      clear h1
      go_wp2_with (refine wpList_buildStore 24 _ (.tmp 4) 17 (cellsW 0) _ rfl rfl rfl rfl rfl rfl (by simp) (by first | exact hBn.out | (simp only [List.map_toArray, List.map_cons, List.map_nil]; exact hBn.out)) rfl 24 _ hC1.out iZ.out rfl nZ.out ?_; simp only [Act.put, List.setIfInBounds_toArray, List.set_cons_zero, List.set_cons_succ])
      refine bodyPost_ret (results_row_tmp rfl _ _ w.heap.size 24 (cellsW 0) (0, 0) _ rfl (heap_setRow' _ _ _ _ _ hC1.out) uWd rfl iZ.out) rfl ⟨by rw [HN.out, HE.out, if_neg H1.out, if_neg H1.out]; rfl, below_setRow' hb2 _ (Nat.le_refl _) _⟩
  · have hll : ¬ (ys.length : Int) = 32 := by omega
    have HN := hid (show fdN m ys = 0 by unfold fdN; rw [if_neg (fun h => hlen h.1)])
    have HE := hid (show fdE m ys = 1 by unfold fdE; rw [if_neg hlen])
    rw [HN.out, HE.out]
    clear hlen
    go_enter Try.func124, Try.ntmps124
    go_wp2_with (first | (refine wpList_alloc_new rfl 24 rfl (cellsW 0) zWd ?_; simp only [Act.put, List.setIfInBounds_toArray, List.set_cons_zero, List.set_cons_succ, World.size_alloc]) | (refine wpList_buildStore 24 _ (.tmp 4) 10 (cellsW 0) _ rfl rfl rfl rfl rfl rfl (by simp) (by first | exact hBn.out | (simp only [List.map_toArray, List.map_cons, List.map_nil]; exact hBn.out)) rfl 24 _ hC0.out iZ.out rfl nZ.out ?_; simp only [Act.put, List.setIfInBounds_toArray, List.set_cons_zero, List.set_cons_succ]))
    refine bodyPost_ret (results_row_tmp rfl _ _ w.heap.size 24 (cellsW 0) (0, 0) _ rfl (heap_setRow' _ _ _ _ _ hC0.out) uWd rfl iZ.out) rfl ⟨rfl, below_setRow' hb0 _ (Nat.le_refl _) _⟩

set_option maxHeartbeats 1000000 in
theorem rfRead_any (ys : List (BitVec 8)) (v : Value) (w : World) (hr : RdY w v ys) : Calls Try.prog 80 #[v] w fun e w' => e = .returned (.tuple #[wd (fdN pN ys), .int .i64 (fdE pN ys)]) ∧ Below w.heap.size w w' := by
  have hP := hid rP_any
  have hR := hid (fun vm w h1 h2 => rfread_any ys pN v vm w h1 h2 (by have := dg_p; omega))
  obtain ⟨x, hx⟩ : ∃ x, x = fdN pN ys := ⟨_, rfl⟩
  obtain ⟨y, hy⟩ : ∃ y, y = fdE pN ys := ⟨_, rfl⟩
  rw [← hx, ← hy] at hR ⊢
  obtain ⟨k, hk⟩ : ∃ k, k = pN := ⟨_, rfl⟩
  rw [← hk] at hP hR
  clear hx hy hk
  unfold wd at *
  have iX := hid (iW x)
  have nX := hid (one_cellsW x)
  have hC0 := hid (ArrW.new 24 w 0)
  have hb0 : Below w.heap.size w (w.alloc (.cells (cellsW 0) 24)) := (Below.refl _ _).alloc (Nat.le_refl _) _
  have hv0 := hid (hr.below hb0)
  clear hr
  go_enter Try.func80, Try.ntmps80
  go_wp2_with (refine wpList_alloc_new rfl 24 rfl (cellsW 0) zWd ?_; simp only [Act.put, List.setIfInBounds_toArray, List.set_cons_zero, List.set_cons_succ, World.size_alloc])
  refine (hP.out _).mono ?_
  rintro e w1 ⟨v1, rfl, hr1, hb1⟩
  have hC1 := hid (hC0.out.below hb1 hC0.out.lt)
  have hv1 := hid (hv0.out.below hb1)
  have hb2 := hb0.trans (hb1.mono hb0.size)
  clear hC0 hv0 hb0 hb1
  go_wp2_with fail
  refine (hR.out _ _ hv1.out hr1).mono ?_
  rintro e w2 ⟨rfl, hb3⟩
  have hC2 := hid (hC1.out.below hb3 hC1.out.lt)
  have hb4 := hb2.trans (hb3.mono hb2.size)
  clear hC1 hv1 hb2 hb3 hr1
  go_wp2_with (refine wpList_store_row rfl 24 (.tmp 2) (.tmp 7) rfl w.heap.size _ rfl rfl 24 _ hC2.out iX.out (by rw [size_cellsW, size_cellsW]) nX.out ?_; simp only [Act.put])
  refine bodyPost_ret (results_row_tmp rfl _ _ w.heap.size 24 (cellsW x) (0, 0) _ rfl (heap_setRow' _ _ _ _ _ hC2.out) uWd rfl iX.out) rfl ⟨rfl, below_setRow' hb4 _ (Nat.le_refl _) _⟩
set_option maxHeartbeats 1000000 in
theorem rfLread_any (ys : List (BitVec 8)) (v : Value) (w : World) (hr : RdY w v ys) : Calls Try.prog 82 #[v] w fun e w' => e = .returned (.tuple #[wd (fdN lN ys), .int .i64 (fdE lN ys)]) ∧ Below w.heap.size w w' := by
  have hP := hid rL_any
  have hR := hid (fun vm w h1 h2 => rfread_any ys lN v vm w h1 h2 (by have := dg_l; omega))
  obtain ⟨x, hx⟩ : ∃ x, x = fdN lN ys := ⟨_, rfl⟩
  obtain ⟨y, hy⟩ : ∃ y, y = fdE lN ys := ⟨_, rfl⟩
  rw [← hx, ← hy] at hR ⊢
  obtain ⟨k, hk⟩ : ∃ k, k = lN := ⟨_, rfl⟩
  rw [← hk] at hP hR
  clear hx hy hk
  unfold wd at *
  have iX := hid (iW x)
  have nX := hid (one_cellsW x)
  have hC0 := hid (ArrW.new 24 w 0)
  have hb0 : Below w.heap.size w (w.alloc (.cells (cellsW 0) 24)) := (Below.refl _ _).alloc (Nat.le_refl _) _
  have hv0 := hid (hr.below hb0)
  clear hr
  go_enter Try.func82, Try.ntmps82
  go_wp2_with (refine wpList_alloc_new rfl 24 rfl (cellsW 0) zWd ?_; simp only [Act.put, List.setIfInBounds_toArray, List.set_cons_zero, List.set_cons_succ, World.size_alloc])
  refine (hP.out _).mono ?_
  rintro e w1 ⟨v1, rfl, hr1, hb1⟩
  have hC1 := hid (hC0.out.below hb1 hC0.out.lt)
  have hv1 := hid (hv0.out.below hb1)
  have hb2 := hb0.trans (hb1.mono hb0.size)
  clear hC0 hv0 hb0 hb1
  go_wp2_with fail
  refine (hR.out _ _ hv1.out hr1).mono ?_
  rintro e w2 ⟨rfl, hb3⟩
  have hC2 := hid (hC1.out.below hb3 hC1.out.lt)
  have hb4 := hb2.trans (hb3.mono hb2.size)
  clear hC1 hv1 hb2 hb3 hr1
  go_wp2_with (refine wpList_store_row rfl 24 (.tmp 2) (.tmp 7) rfl w.heap.size _ rfl rfl 24 _ hC2.out iX.out (by rw [size_cellsW, size_cellsW]) nX.out ?_; simp only [Act.put])
  refine bodyPost_ret (results_row_tmp rfl _ _ w.heap.size 24 (cellsW x) (0, 0) _ rfl (heap_setRow' _ _ _ _ _ hC2.out) uWd rfl iX.out) rfl ⟨rfl, below_setRow' hb4 _ (Nat.le_refl _) _⟩

/-- What folding makes of bytes. -/
def flN (ys : List (BitVec 8)) : Nat := if 64 < ys.length then 0 else leN ys % lN
def flE (ys : List (BitVec 8)) : Int := if 64 < ys.length then 1 else 0
set_option maxHeartbeats 2000000 in
theorem rfLfold_any (ys : List (BitVec 8)) (v : Value) (w : World) (hr : RdY w v ys) : Calls Try.prog 84 #[v] w fun e w' => e = .returned (.tuple #[wd (flN ys), .int .i64 (flE ys)]) ∧ Below w.heap.size w w' := by
  have iZ := hid (iW 0)
  have nZ := hid (one_cellsW 0)
  have hBn := hid nil_built
  have hC0 := hid (ArrW.new 24 w 0)
  have hb0 : Below w.heap.size w (w.alloc (.cells (cellsW 0) 24)) := (Below.refl _ _).alloc (Nat.le_refl _) _
  have hv0 := hid (hr.below hb0)
  clear hr
  obtain ⟨a, cap, rfl, hc, hx⟩ := hv0.out
  clear hx
  unfold wd
  by_cases h64 : 64 < ys.length
  · have h64i : (64 : Int) < (ys.length : Int) := by omega
    have HN := hid (show flN ys = 0 by unfold flN; rw [if_pos h64])
    have HE := hid (show flE ys = 1 by unfold flE; rw [if_pos h64])
    rw [HN.out, HE.out]
    clear h64
    go_enter Try.func84, Try.ntmps84
    go_wp2_with (first | (refine wpList_alloc_new rfl 24 rfl (cellsW 0) zWd ?_; simp only [Act.put, List.setIfInBounds_toArray, List.set_cons_zero, List.set_cons_succ, World.size_alloc]) | (refine wpList_buildStore 24 _ (.tmp 2) 7 (cellsW 0) _ rfl rfl rfl rfl rfl rfl (by simp) (by first | exact hBn.out | (simp only [List.map_toArray, List.map_cons, List.map_nil]; exact hBn.out)) rfl 24 _ hC0.out iZ.out rfl nZ.out ?_; simp only [Act.put, List.setIfInBounds_toArray, List.set_cons_zero, List.set_cons_succ]))
    refine bodyPost_ret (results_row_tmp rfl _ _ w.heap.size 24 (cellsW 0) (0, 0) _ rfl (heap_setRow' _ _ _ _ _ hC0.out) uWd rfl iZ.out) rfl ⟨rfl, below_setRow' hb0 _ (Nat.le_refl _) _⟩
  · have h64i : ¬ (64 : Int) < (ys.length : Int) := by omega
    have HN := hid (show flN ys = leN ys % lN by unfold flN; rw [if_neg h64])
    have HE := hid (show flE ys = 0 by unfold flE; rw [if_neg h64])
    rw [HN.out, HE.out]
    have hL := hid (fun w h => number_any ys (.slice a ys.length cap) w h (by omega))
    have hP := hid rL_any
    have hll : (dg (leN ys)).length ≤ 65536 := dgs _ 64 _ (Nat.lt_of_lt_of_le (num_lt _ (le_dig ys)) (Nat.pow_le_pow_right (by omega) (by rw [List.length_map]; omega))) (by omega)
    have hM := hid (fun va vb w h1 h2 => rfmod_any (leN ys) lN va vb w h1 h2 hll (by have := dg_l; omega) lN_pos lN_lt)
    obtain ⟨r, hr⟩ : ∃ r, r = leN ys % lN := ⟨_, rfl⟩
    rw [← hr] at hM ⊢
    obtain ⟨x, hx⟩ : ∃ x, x = leN ys := ⟨_, rfl⟩
    rw [← hx] at hL hM
    obtain ⟨l, hl⟩ : ∃ l, l = lN := ⟨_, rfl⟩
    rw [← hl] at hP hM
    unfold wd at *
    have iR := hid (iW r)
    have nR := hid (one_cellsW r)
    clear h64 hll hr hx hl HN HE
    go_enter Try.func84, Try.ntmps84
    go_wp2_with (refine wpList_alloc_new rfl 24 rfl (cellsW 0) zWd ?_; simp only [Act.put, List.setIfInBounds_toArray, List.set_cons_zero, List.set_cons_succ, World.size_alloc])
    refine (hL.out _ hv0.out).mono ?_
    rintro e w1 ⟨v1, rfl, hr1, hs1⟩
    go_wp2_with fail
    refine (hP.out _).mono ?_
    rintro e w2 ⟨v2, rfl, hr2, hs2⟩
    go_wp2_with fail
    refine (hM.out _ _ _ (hr1.below hs2) hr2).mono ?_
    rintro e w3 ⟨rfl, hs3⟩
    have hC3 := hid (((hC0.out.below hs1 hC0.out.lt).step hs2).step hs3)
    have hb3 := hb0.trans ((below_next (below_next hs1 (Nat.le_refl _) hs2) (Nat.le_refl _) hs3).mono hb0.size)
    clear hC0 hb0 hv0 hr1 hr2 hs1 hs2 hs3
    go_wp2_with (refine wpList_store_row rfl 24 (.tmp 2) (.tmp 11) rfl w.heap.size _ rfl rfl 24 _ hC3.out iR.out (by rw [size_cellsW, size_cellsW]) nR.out ?_; simp only [Act.put])
    refine bodyPost_ret (results_row_tmp rfl _ _ w.heap.size 24 (cellsW r) (0, 0) _ rfl (heap_setRow' _ _ _ _ _ hC3.out) uWd rfl iR.out) rfl ⟨rfl, below_setRow' hb3 _ (Nat.le_refl _) _⟩
end Go.Proofs.Ytfidbiabgmioaaa

/-! Numbers as bytes: field.Bytes, the reference's Little, Bytes. -/
namespace Go.Proofs.Ytfidbiabgmioaaa
open Go.RowKit

def leL (x : Nat) : List (BitVec 8) := (List.range 32).map fun i => b8 (x / 256 ^ i)
theorem leL_len (x : Nat) : (leL x).length = 32 := by simp [leL]
def lsY (x : Nat) : Nat → List (BitVec 8)
  | 0 => List.replicate 32 0
  | i + 1 => (lsY x i).set i (b8 (x / 256 ^ i))
theorem lsY_len (x i : Nat) : (lsY x i).length = 32 := by induction i <;> simp [lsY, *]
theorem lsY_at (x i j : Nat) (hi : i ≤ 32) (hj : j < 32) : (lsY x i)[j]? = some (if j < i then b8 (x / 256 ^ j) else 0) := by
  induction i with
  | zero => rw [if_neg (by omega)]; unfold lsY; rw [List.getElem?_replicate, if_pos hj]
  | succ i ih =>
    rw [lsY, List.getElem?_set, lsY_len]
    by_cases h : i = j
    · rw [if_pos h, if_pos (by omega), if_pos (by omega), h]
    · rw [if_neg h, ih (by omega)]
      by_cases h2 : j < i
      · rw [if_pos h2, if_pos (by omega)]
      · rw [if_neg h2, if_neg (by omega)]
theorem lsY_end (x : Nat) : lsY x 32 = leL x := by
  apply List.ext_getElem?
  intro j
  rcases Nat.lt_or_ge j 32 with hj | hj
  · rw [lsY_at x 32 j (by omega) hj, if_pos hj]; simp [leL, hj]
  · rw [List.getElem?_eq_none (by rw [lsY_len]; exact hj), List.getElem?_eq_none (by rw [leL_len]; exact hj)]

set_option maxHeartbeats 2000000 in
theorem fbytes_any (a : Nat) (w : World) (ha : a < 2 ^ 256) : Calls Try.prog 21 #[wd a] w fun e w' => ∃ v', e = .returned v' ∧ RdY w' v' (leL (a % pN)) ∧ Below w.heap.size w w' := by
  have hBl := hid (fun w => below_any a w ha)
  have hmk : ∀ w : World, (Instr.makeSlice 30 (.int .i64 32) (.int .i64 32)).run Try.prog w = .ok (.slice (some ⟨w.heap.size, 0, none⟩) 32 32) (w.alloc (.cells (cellsY (lsY 0 0)) 5)) := mkY 32 (by omega)
  obtain ⟨x, hx⟩ : ∃ x, x = a % pN := ⟨_, rfl⟩
  rw [← hx] at hBl ⊢
  have hend := hid (lsY_end x)
  clear ha hx
  unfold wd at *
  have iA := hid (iW a)
  have iX := hid (iW x)
  have nX := hid (one_cellsW x)
  have hA0 := hid (ArrW.new 24 w a)
  have hb0 : Below w.heap.size w (w.alloc (.cells (cellsW a) 24)) := (Below.refl _ _).alloc (Nat.le_refl _) _
  go_enter Try.func21, Try.ntmps21
  go_wp2_with (refine wpList_load_row rfl 24 (.tmp 1) rfl w.heap.size rfl 24 _ (0, 0) _ hA0.out uWd rfl iA.out ?_; simp only [Act.put, List.setIfInBounds_toArray, List.set_cons_zero, List.set_cons_succ])
  refine (hBl.out _).mono ?_
  rintro e w1 ⟨rfl, hb1⟩
  have hA1 := hid (hA0.out.step hb1)
  have hA2 := hid ((hA1.out.row x).alloc (.cells (cellsY (lsY 0 0)) 5))
  have hY2 := hid (ArrY.new 5 (w1.setRow w.heap.size (cellsW x)) (lsY 0 0))
  have hb2 := hb0.trans (hb1.mono hb0.size)
  have hb3 := below_setRow' hb2 w.heap.size (Nat.le_refl _) (cellsW x)
  have hb4 := hb3.alloc hb3.size (.cells (cellsY (lsY 0 0)) 5)
  have hsz : w.heap.size + 1 ≤ (w1.setRow w.heap.size (cellsW x)).heap.size := (hA1.out.row x).lt
  have hsr : (w1.setRow w.heap.size (cellsW x)).heap.size = w1.heap.size := by simp [World.setRow]
  rw [hsr] at hY2 hsz
  obtain ⟨G, hG⟩ : ∃ G, G = w1.heap.size := ⟨_, rfl⟩
  have HG := hid hG
  have HSR := hid hsr
  clear hG hsr
  go_wp2_with (refine wpList_store_row rfl 24 (.tmp 1) (.tmp 6) rfl w.heap.size _ rfl rfl 24 _ hA1.out iX.out (by rw [size_cellsW, size_cellsW]) nX.out ?_; simp only [Act.put])
  (try rw [HSR.out])
  rw [← HG.out] at hY2 hsz ⊢
  generalize (w1.setRow w.heap.size (cellsW x)).alloc (.cells (cellsY (lsY 0 0)) 5) = w3 at hA2 hY2 hb4 ⊢
  clear hA0 hb0 hb1 hA1 hb2 hb3 HG HSR
  have hY3 := hid (show ArrY 5 w3 G (lsY x 0) from hY2.out)
  go_loopw [10] (fun iv wr => ∃ i : Nat, i ≤ 32 ∧ iv = .int .i64 (i : Int) ∧ Hid (ArrW 24 wr w.heap.size x) ∧ Hid (ArrY 5 wr G (lsY x i)) ∧ Below w.heap.size w wr)
    (fun iv _ => 32 - (intOf iv).toNat)
  case atStart => exact ⟨0, by omega, rfl, hA2, hY3, hb4⟩
  case round =>
    clear hA2 hY2 hY3 hb4
    obtain ⟨i, hi, rfl, hA, hY, hb⟩ := hrel
    by_cases hlt : i < 32
    · have c1 := hA.out.cell (i / 8) (by omega)
      have c2 := hY.out.cell i (by rw [lsY_len]; omega)
      have f2 := hY.out.free i
      have l1 := hA.out.lt
      have l2 := hY.out.lt
      have n1 := lm_nonneg x (i / 8)
      have n2 := lm_lt x (i / 8)
      have hV := hid (lm_b8 x i hlt)
      have hsh : (8 * ((i : Int) % 8)).toNat = 8 * (i % 8) := by omega
      go_wp2
      go_roundw
      case rel =>
        rw [hV.out]
        exact ⟨i + 1, by omega, by go_num, hid (hA.out.other (by show w.heap.size ≠ G; omega) _), hid (hY.out.set _ _), hb.setCell (p := ⟨G, i, none⟩) (by show w.heap.size ≤ G; omega) _⟩
      case measure => simp [intOf]; omega
    · obtain rfl : i = 32 := by omega
      have hE := hY.out
      rw [hend.out] at hE
      have hR := hid (hE.rd 32 (by rw [leL_len]; exact Nat.le_refl _))
      rw [leL_len] at hR
      clear hY hE
      go_wp2
      go_ret
      exact ⟨_, rfl, hR.out, hb⟩

def valY (ys : List (BitVec 8)) : List Value := ys.map fun y => Value.int .u8 (yv y)
theorem leL_take (x k : Nat) (h : k < 32) : valY ((leL x).take (k + 1)) = valY ((leL x).take k) ++ [.int .u8 (yv (ny (be 32 x) (31 - k)))] := by
  have hl : k < (leL x).length := by rw [leL_len]; exact h
  rw [List.take_succ_eq_append_getElem hl]
  have e : (leL x)[k] = b8 (x / 256 ^ k) := by simp [leL]
  have e2 : ny (be 32 x) (31 - k) = b8 (x / 256 ^ k) := by
    unfold ny
    rw [List.getD_eq_getElem?_getD, be_at 32 x (31 - k) (by omega), show 32 - 1 - (31 - k) = k by omega]; rfl
  rw [e, e2]
  unfold valY
  rw [List.map_append]; rfl
set_option maxHeartbeats 2000000 in
theorem rlittle_any (x : Nat) (w : World) (hx : x < 2 ^ 256) : Calls Try.prog 127 #[wd x] w fun e w' => ∃ v', e = .returned v' ∧ RdY w' v' (leL x) ∧ Below w.heap.size w w' := by
  obtain ⟨i0, hi0, hz0, hz1, hz2⟩ := info_parts infoY8
  have hB := hid (fun w => rbytes_any x w hx)
  clear hx
  unfold wd at *
  have iX := hid (iW x)
  have hA0 := hid (ArrW.new 24 w x)
  have hb0 : Below w.heap.size w (w.alloc (.cells (cellsW x) 24)) := (Below.refl _ _).alloc (Nat.le_refl _) _
  go_enter Try.func127, Try.ntmps127
  go_wp2_with (refine wpList_load_row rfl 24 (.tmp 1) rfl w.heap.size rfl 24 _ (0, 0) _ hA0.out uWd rfl iX.out ?_; simp only [Act.put, List.setIfInBounds_toArray, List.set_cons_zero, List.set_cons_succ])
  refine (hB.out _).mono ?_
  rintro e w1 ⟨b, rfl, hY, hbS, hb1⟩
  have hY1 := hid hY
  have hb2 := hb0.trans (hb1.mono hb0.size)
  have hb3 : Below w1.heap.size w1 w1 := Below.refl _ _
  clear hA0 hb0 hb1 hY hbS
  go_wp2
  go_loopw [4, 5] (fun ov iv wr => ∃ k : Nat, k ≤ 32 ∧ iv = .int .i64 (31 - (k : Int)) ∧ Hid (wr.ownsRow w1.heap.size 5 1 ov k (valY ((leL x).take k))) ∧ Hid (ArrY 5 wr b (be 32 x)) ∧ Below w1.heap.size w1 wr)
    (fun _ iv _ => (intOf iv + 1).toNat)
  case atStart => exact ⟨0, by omega, rfl, hid (World.ownsRow_nil _ _ _ _), hY1, hb3⟩
  case round =>
    clear hb3
    obtain ⟨k, hk, rfl, ho, hYr, hb⟩ := hrel
    have hbs := hb.size
    by_cases hlt : k < 32
    · obtain ⟨j, hj⟩ : ∃ j, k + j = 31 := ⟨31 - k, by omega⟩
      have hji : (31 : Int) - (k : Int) = (j : Int) := by omega
      have HT := hid (leL_take x k hlt)
      rw [show 31 - k = j by omega] at HT
      rw [hji]
      have cx := hYr.out.cell j (by rw [be_len]; omega)
      have lb := hYr.out.lt
      obtain ⟨d, hd⟩ : ∃ d, d = yv (ny (be 32 x) j) := ⟨_, rfl⟩
      rw [← hd] at cx HT
      have HL2 := hid ho.out.lt
      have hlt1 := hY1.out.lt
      have HJ := hid hj
      have hj31 : j < 32 := by omega
      clear hd hji hj
      go_wp2_with (at_builtin; refine wpList_append_any rfl (.tmp 12) (.tmp 17) 30 rfl w1.heap.size 5 i0 _ 1 1 uYs hi0 hz0 hz1 hz2 rfl (by decide) _ _ rfl rfl k _ (ho.out.alloc _) 1 _ ⟨rfl, by simp [Value.oneCell'], _, _, rfl, fun _ => ⟨_, rfl, cell_one_new _ _ _⟩⟩ (by unfold maxLen; omega) (by omega) (by simp; omega) ?_)
      intro v2 w2 ho2 hg2 _
      rw [← HT.out] at ho2
      have H2 := hid ho2
      have hY2 := hid (show ArrY 5 w2 b (be 32 x) from (hg2.block _ (by simp; omega) (fun e => by have := (HL2.out _ e.symm).1; omega)).trans (hYr.out.alloc _))
      have hb4 : Below w1.heap.size w1 w2 := (hb.alloc hb.size _).grown hg2 (by simp; omega) (fun k e => by have := (HL2.out k e).1; omega)
      have HK := hid (show (j : Int) - 1 = 31 - ((k + 1 : Nat) : Int) by have := HJ.out; omega)
      clear ho2 hg2
      go_wp2
      go_roundw
      case rel => exact ⟨k + 1, by omega, by rw [HK.out], H2, hY2, hb4⟩
      case measure => have := HJ.out; simp [intOf] <;> omega
    · obtain rfl : k = 32 := by omega
      rw [List.take_of_length_le (by rw [leL_len]; omega)] at ho
      have hR := hid (RdY.owned (ys := leL x) (by rw [leL_len]; exact ho.out))
      go_wp2
      go_ret
      exact ⟨_, rfl, hR.out, hb2.trans (hb.mono hb2.size)⟩

set_option maxHeartbeats 1000000 in
theorem rfbytes_any (a : Nat) (w : World) (ha : a < 2 ^ 256) : Calls Try.prog 85 #[wd a] w fun e w' => ∃ v', e = .returned v' ∧ RdY w' v' (leL (a % pN)) ∧ Below w.heap.size w w' := by
  have hAd := hid (fun w => rfadd_any a 0 w ha (by decide))
  rw [Nat.add_zero] at hAd
  have hLi := hid (fun w => rlittle_any (a % pN) w (p_mod_lt a))
  obtain ⟨x, hx⟩ : ∃ x, x = a % pN := ⟨_, rfl⟩
  rw [← hx] at hAd hLi ⊢
  have hBn := hid nil_built
  clear ha hx
  unfold wd at *
  have iA := hid (iW a)
  have hA0 := hid (ArrW.new 24 w a)
  have hb0 : Below w.heap.size w (w.alloc (.cells (cellsW a) 24)) := (Below.refl _ _).alloc (Nat.le_refl _) _
  go_enter Try.func85, Try.ntmps85
  go_wp2_with (first | (refine wpList_load_row rfl 24 (.tmp 1) rfl w.heap.size rfl 24 _ (0, 0) _ hA0.out uWd rfl iA.out ?_; simp only [Act.put, List.setIfInBounds_toArray, List.set_cons_zero, List.set_cons_succ]) | (refine wpList_build_cells rfl 24 _ rfl (cellsW 0) (by first | exact hBn.out | (simp only [List.map_toArray, List.map_cons, List.map_nil]; exact hBn.out)) ?_; simp only [Act.put, List.setIfInBounds_toArray, List.set_cons_zero, List.set_cons_succ]))
  refine (hAd.out _).mono ?_
  rintro e w1 ⟨rfl, hb1⟩
  have hb2 := hb0.trans (hb1.mono hb0.size)
  go_wp2_with fail
  refine (hLi.out _).mono ?_
  rintro e w2 ⟨v2, rfl, hr2, hb3⟩
  have HR := hid hr2
  clear hr2 hA0 hb1
  go_wp2_with fail
  go_ret
  exact ⟨_, rfl, HR.out, hb2.trans (hb3.mono hb2.size)⟩

theorem natsY_leL (x : Nat) : natsY (leL x) = byN x 32 := by
  apply List.ext_getElem?
  intro j
  have key : ∀ n, ∀ j, j < n → (byN x n)[j]? = some (x / 256 ^ j % 256) := by
    intro n
    induction n with
    | zero => intro j hj; omega
    | succ n ih =>
      intro j hj
      rw [byN]
      by_cases h : j < n
      · rw [List.getElem?_append_left (by rw [byN_len]; exact h)]; exact ih j h
      · obtain rfl : j = n := by omega
        rw [List.getElem?_append_right (by rw [byN_len]; omega), byN_len, Nat.sub_self]; rfl
  by_cases hj : j < 32
  · rw [key 32 j hj]
    unfold natsY leL
    simp [hj, b8]
  · rw [List.getElem?_eq_none (by unfold natsY; simp [leL_len]; omega), List.getElem?_eq_none (by rw [byN_len]; omega)]
theorem leN_leL (x : Nat) (h : x < 2 ^ 256) : leN (leL x) = x := by
  show num (natsY (leL x)) = x
  rw [natsY_leL, byN_num, pow256_32, Nat.mod_eq_of_lt h]
theorem leL_leN (ys : List (BitVec 8)) (h : ys.length = 32) : leL (leN ys) = ys := by
  apply List.ext_getElem (by rw [leL_len, h])
  intro j h1 h2
  have hn := nd_num (natsY ys) (le_dig ys) j
  have e : nd (natsY ys) j = ys[j].toNat := by
    unfold nd natsY
    simp [h2]
  rw [e] at hn
  have e2 : (leL (leN ys))[j] = b8 (leN ys / 256 ^ j) := by simp [leL]
  rw [e2, ← b8_mod, show leN ys = num (natsY ys) from rfl, ← hn, b8_toNat]
end Go.Proofs.Ytfidbiabgmioaaa

/-! Layer 4: alive. -/
namespace Go.Proofs.Ytfidbiabgmioaaa
open Go.RowKit

/-- Powers modulo the first prime, by squares. -/
def pmF (a : Nat) : Nat → Nat → Nat
  | 0, _ => 1
  | f + 1, e => if e = 0 then 1 else (fun h => if e % 2 = 1 then h * h % pN * a % pN else h * h % pN) (pmF a f (e / 2))
theorem pmF_eq (a : Nat) : ∀ f e, e < 2 ^ f → pmF a f e = powP a e
  | 0, e, h => by
    have : e = 0 := by simpa using h
    subst this; rw [powP_zero]; rfl
  | f + 1, e, h => by
    rw [pmF]
    by_cases h0 : e = 0
    · rw [if_pos h0, h0, powP_zero]
    · rw [if_neg h0, pmF_eq a f (e / 2) (by rw [Nat.pow_succ] at h; omega)]
      show (if e % 2 = 1 then powP a (e / 2) * powP a (e / 2) % pN * a % pN else powP a (e / 2) * powP a (e / 2) % pN) = powP a e
      rw [powP_double]
      by_cases h1 : e % 2 = 1
      · rw [if_pos h1, powP_succ]; congr 1; omega
      · rw [if_neg h1]; congr 1; omega
theorem pow2 (a e : Nat) (h : e < 2 ^ 256) : powP a e = pmF a 256 e := (pmF_eq a 256 e h).symm
theorem sq0_4 : sq0 4 = 39362322753415011913614158609977084030892133031847780325488042146247659569504 := by
  unfold sq0; rw [pow2 _ _ (show (pN + 3) / 8 < 2 ^ 256 by decide +kernel)]; decide +kernel
theorem sq0_2 : sq0 2 = 19681161376707505956807079304988542015446066515923890162744021073123829784753 := by
  unfold sq0; rw [pow2 _ _ (show (pN + 3) / 8 < 2 ^ 256 by decide +kernel)]; decide +kernel
theorem pow_i : powP 2 (pN / 4) = 19681161376707505956807079304988542015446066515923890162744021073123829784752 := by
  rw [pow2 2 _ (show pN / 4 < 2 ^ 256 by decide +kernel)]; decide +kernel
theorem sq1_4 : sq1 4 = 57896044618658097711785492504343953926634992332820282019728792003956564819947 := by
  unfold sq1; rw [sq0_4, pow_i]; decide +kernel
theorem sq1_2 : sq1 2 = 19681161376707505956807079304988542015446066515923890162744021073123829784751 := by
  unfold sq1; rw [sq0_2, pow_i]; decide +kernel
theorem sq4 : sqX 4 = 2 ∧ sqOk 4 = true := by
  unfold sqX sqOk; rw [sq1_4]; decide +kernel
theorem sq2 : sqX 2 = 0 ∧ sqOk 2 = false := by
  unfold sqX sqOk; rw [sq1_2]; decide +kernel
theorem inv2 : 2 * powP 2 (pN - 2) % pN = 1 := by
  rw [pow2 _ _ (show pN - 2 < 2 ^ 256 by decide +kernel)]
  decide +kernel
theorem four_built : Try.prog.built 24 [(0, .int .u64 4)] = some (cellsW 4) := by kernel_rfl

set_option maxHeartbeats 8000000 in
set_option maxRecDepth 100000 in
theorem f4alive_any (w : World) : Calls Try.prog 19 #[] w fun e w' => e = .returned (.bool true) ∧ Below w.heap.size w w' := by
  have h4 := hid (fun w => fsqrt_any 4 w (by decide))
  rw [sq4.1, sq4.2] at h4
  have h2 := hid (fun w => fsqrt_any 2 w (by decide))
  rw [sq2.1, sq2.2] at h2
  have hA1 := hid (fun w => fadd_any pN 1 w pN_lt (by decide))
  rw [show (pN + 1) % pN = 1 by decide +kernel] at hA1
  have hI2 := hid (fun w => finv_any 2 w (by decide))
  have hM2 := hid (fun w => fmul_any 2 (powP 2 (pN - 2)) w (by decide) (powP_lt _ _))
  rw [inv2] at hM2
  obtain ⟨q, hq⟩ : ∃ q, q = powP 2 (pN - 2) := ⟨_, rfl⟩
  rw [← hq] at hI2 hM2
  have hP := hid fP_any
  have hL := hid fL_any
  have hP2 := hid rP_any
  have hL2 := hid rL_any
  have hWp := hid (fun v w h => wordN_any pN v w h (by have := dg_p; omega))
  rw [Nat.mod_eq_of_lt pN_lt] at hWp
  have hWl := hid (fun v w h => wordN_any lN v w h (by have := dg_l; omega))
  rw [Nat.mod_eq_of_lt lN_lt] at hWl
  have q1 : ∀ w, (Op.equalIn 10000 24 (.agg (cellsW 1)) (.agg #[.int .u64 1, .int .u64 0, .int .u64 0, .int .u64 0])).run Try.prog w = .ok true w := eq_self 1 (by decide)
  have q1' := eq_self 1 (by decide)
  have q2 : ∀ w, (Op.equalIn 10000 24 (.agg (cellsW 2)) (.agg #[.int .u64 2, .int .u64 0, .int .u64 0, .int .u64 0])).run Try.prog w = .ok true w := eq_self 2 (by decide)
  have qp := eq_self pN pN_lt
  have ql := eq_self lN lN_lt
  have b1 := hid one_built
  have b2 := hid two_built
  have b4 := hid four_built
  clear hq
  generalize pN = p at *
  generalize lN = l at *
  unfold wd at *
  have i0 := hid (iW 0)
  have n0 := hid (one_cellsW 0)
  have i2 := hid (iW 2)
  have n2 := hid (one_cellsW 2)
  go_enter Try.func19, Try.ntmps19
  go_wp2_with (refine wpList_build_cells rfl 24 _ rfl (cellsW 4) (by first | exact b4.out | (simp only [List.map_toArray, List.map_cons, List.map_nil]; exact b4.out)) ?_; simp only [Act.put, List.setIfInBounds_toArray, List.set_cons_zero, List.set_cons_succ])
  refine (h4.out _).mono ?_
  rintro e w1 ⟨rfl, hb1⟩
  have hX1 := hid (ArrW.new 24 w1 2)
  have hb2 := hb1.alloc hb1.size (.cells (cellsW 2) 24)
  go_wp2_with (first | (refine wpList_allocStore 24 8 1 (cellsW 2) (cellsW 0) rfl rfl rfl rfl rfl rfl (by decide) (by simp) rfl (by kernel_rfl) rfl i2.out n2.out ?_; simp only [Act.put, List.setIfInBounds_toArray, List.set_cons_zero, List.set_cons_succ]) | (refine wpList_build_cells rfl 24 _ rfl (cellsW 2) (by first | exact b2.out | (simp only [List.map_toArray, List.map_cons, List.map_nil]; exact b2.out)) ?_; simp only [Act.put, List.setIfInBounds_toArray, List.set_cons_zero, List.set_cons_succ]))
  obtain ⟨G, hG⟩ : ∃ G, G = w1.heap.size := ⟨_, rfl⟩
  rw [← hG] at hX1 ⊢
  generalize w1.alloc (.cells (cellsW 2) 24) = w2 at hX1 hb2 ⊢
  clear hb1 hG
  refine (h2.out _).mono ?_
  rintro e w3 ⟨rfl, hb3⟩
  have hX3 := hid ((hX1.out.step hb3).alloc (.cells (cellsW 0) 24))
  have hb4 := hb2.trans (hb3.mono hb2.size)
  have hb5 := hb4.alloc hb4.size (.cells (cellsW 0) 24)
  clear hX1 hb2 hb3
  go_wp2_with (refine wpList_allocStore 24 13 3 (cellsW 0) (cellsW 0) rfl rfl rfl rfl rfl rfl (by decide) (by simp) rfl (by kernel_rfl) rfl i0.out n0.out ?_; simp only [Act.put, List.setIfInBounds_toArray, List.set_cons_zero, List.set_cons_succ])
  generalize w3.alloc (.cells (cellsW 0) 24) = w4 at hX3 hb5 ⊢
  clear hb4
  refine (hP.out _).mono ?_
  rintro e w5 ⟨rfl, hb6⟩
  have hX5 := hid (hX3.out.step hb6)
  have hb7 := hb5.trans (hb6.mono hb5.size)
  clear hX3 hb5 hb6
  go_wp2_with (refine wpList_build_cells rfl 24 _ rfl (cellsW 1) (by first | exact b1.out | (simp only [List.map_toArray, List.map_cons, List.map_nil]; exact b1.out)) ?_; simp only [Act.put, List.setIfInBounds_toArray, List.set_cons_zero, List.set_cons_succ])
  refine (hA1.out _).mono ?_
  rintro e w6 ⟨rfl, hb8⟩
  have hX6 := hid (hX5.out.step hb8)
  have hb9 := hb7.trans (hb8.mono hb7.size)
  clear hX5 hb7 hb8
  go_wp2_with (first | (refine wpList_build_cells rfl 24 _ rfl (cellsW 1) (by first | exact b1.out | (simp only [List.map_toArray, List.map_cons, List.map_nil]; exact b1.out)) ?_; simp only [Act.put, List.setIfInBounds_toArray, List.set_cons_zero, List.set_cons_succ]) | (refine wpList_build_cells rfl 24 _ rfl (cellsW 2) (by first | exact b2.out | (simp only [List.map_toArray, List.map_cons, List.map_nil]; exact b2.out)) ?_; simp only [Act.put, List.setIfInBounds_toArray, List.set_cons_zero, List.set_cons_succ]))
  refine (hI2.out _).mono ?_
  rintro e w7 ⟨rfl, hb10⟩
  have hX7 := hid (hX6.out.step hb10)
  have hb11 := hb9.trans (hb10.mono hb9.size)
  clear hX6 hb9 hb10
  go_wp2_with fail
  refine (hM2.out _).mono ?_
  rintro e w8 ⟨rfl, hb12⟩
  have hX8 := hid (hX7.out.step hb12)
  have hb13 := hb11.trans (hb12.mono hb11.size)
  clear hX7 hb11 hb12
  have c0 : w8.cell? ⟨G, 0, none⟩ = some (.int .u64 2) := hX8.out.cell 0 (by omega)
  have c1 : w8.cell? ⟨G, 1, none⟩ = some (.int .u64 0) := hX8.out.cell 1 (by omega)
  have c2 : w8.cell? ⟨G, 2, none⟩ = some (.int .u64 0) := hX8.out.cell 2 (by omega)
  have c3 : w8.cell? ⟨G, 3, none⟩ = some (.int .u64 0) := hX8.out.cell 3 (by omega)
  have lX := hX8.out.lt
  have q2' : ∀ w, (Op.equalIn 10000 24 (.agg #[.int .u64 2, .int .u64 0, .int .u64 0, .int .u64 0]) (.agg #[.int .u64 2, .int .u64 0, .int .u64 0, .int .u64 0])).run Try.prog w = .ok true w := eq_self 2 (by decide)
  go_wp2_with fail
  clear c0 c1 c2 c3 lX hX8
  refine (hP.out _).mono ?_
  rintro e w9 ⟨rfl, hb14⟩
  have hb15 := hb13.trans (hb14.mono hb13.size)
  clear hb13 hb14
  go_wp2_with fail
  refine (hP2.out _).mono ?_
  rintro e w10 ⟨v10, rfl, hr10, hb16⟩
  have hb17 := hb15.trans (hb16.mono hb15.size)
  clear hb15 hb16
  go_wp2_with fail
  refine (hWp.out _ _ hr10).mono ?_
  rintro e w11 ⟨rfl, hb18⟩
  have hb19 := hb17.trans (hb18.mono hb17.size)
  clear hb17 hb18 hr10
  go_wp2_with fail
  refine (hL.out _).mono ?_
  rintro e w12 ⟨rfl, hb20⟩
  have hb21 := hb19.trans (hb20.mono hb19.size)
  clear hb19 hb20
  go_wp2_with fail
  refine (hL2.out _).mono ?_
  rintro e w13 ⟨v13, rfl, hr13, hb22⟩
  have hb23 := hb21.trans (hb22.mono hb21.size)
  clear hb21 hb22
  go_wp2_with fail
  refine (hWl.out _ _ hr13).mono ?_
  rintro e w14 ⟨rfl, hb24⟩
  have hb25 := hb23.trans (hb24.mono hb23.size)
  clear hb23 hb24 hr13
  go_wp2_with fail
  go_ret
  exact ⟨rfl, hb25⟩
end Go.Proofs.Ytfidbiabgmioaaa
