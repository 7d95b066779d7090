import Derived.Test.YtfidbiabgmioaaaWordG
import Derived.Test.YtfidbiabgmioaaaLoose
/-! conclaveref01: the document's answers: Add, Sub, Mul, Div, Mod, Addmod, Mulmod. -/
set_option maxRecDepth 4000
set_option linter.unusedVariables false
set_option linter.unusedSimpArgs false
namespace Go.Proofs.Ytfidbiabgmioaaa
open Go.RowKit

theorem lt_len (n : Nat) : n < 256 ^ (dg n).length := by
  have := num_lt (dg n) (dg_dig n); rw [num_dg] at this; exact this
theorem dg_word_len (x : Nat) (h : x < 2 ^ 256) : (dg x).length ≤ 32 := dg_len x 32 (by rw [show (256 : Nat) ^ 32 = 2 ^ 256 from by rw [show (256 : Nat) = 2 ^ 8 from rfl, ← Nat.pow_mul]]; exact h)
theorem len_add {a b m : Nat} (ha : (dg a).length ≤ m) (hb : (dg b).length ≤ m) : (dg (a + b)).length ≤ m + 1 := by
  apply dg_len
  have h1 := Nat.lt_of_lt_of_le (lt_len a) (Nat.pow_le_pow_right (by omega : 0 < 256) ha)
  have h2 := Nat.lt_of_lt_of_le (lt_len b) (Nat.pow_le_pow_right (by omega : 0 < 256) hb)
  rw [Nat.pow_succ]; omega
theorem len_mul {a b m n : Nat} (ha : (dg a).length ≤ m) (hb : (dg b).length ≤ n) : (dg (a * b)).length ≤ m + n := by
  apply dg_len
  have h1 := Nat.lt_of_lt_of_le (lt_len a) (Nat.pow_le_pow_right (by omega : 0 < 256) ha)
  have h2 := Nat.lt_of_lt_of_le (lt_len b) (Nat.pow_le_pow_right (by omega : 0 < 256) hb)
  rw [Nat.pow_add]
  exact Nat.mul_lt_mul'' h1 h2
theorem len_le {a b m : Nat} (h : a ≤ b) (hb : (dg b).length ≤ m) : (dg a).length ≤ m := Nat.le_trans (dg_len_mono a b h) hb
theorem len_pow (n : Nat) : (dg (2 ^ n)).length ≤ n / 8 + 1 := by
  apply dg_len
  rw [show (256 : Nat) = 2 ^ 8 from rfl, ← Nat.pow_mul]
  exact Nat.pow_lt_pow_right (by omega) (by omega)
theorem wordN_any (n : Nat) (v : Value) (w : World) (h : RdN w v n) (hl : (dg n).length ≤ 65536) : Calls Try.prog 93 #[v] w fun e w' => e = .returned (wd (n % 2 ^ 256)) ∧ Below w.heap.size w w' := by
  have := word_any (dg n) v w h (dg_dig _) hl
  rw [num_dg] at this; exact this

set_option maxHeartbeats 1000000 in
theorem radd_any (a b : Nat) (w : World) (ha : a < 2 ^ 256) (hb : b < 2 ^ 256) : Calls Try.prog 57 #[wd a, wd b] w fun e w' => e = .returned (wd ((a + b) % 2 ^ 256)) ∧ Below w.heap.size w w' := by
  have hOA := hid (fun w => of_any a w ha)
  have hOB := hid (fun w => of_any b w hb)
  have la := dg_word_len a ha
  have lb := dg_word_len b hb
  have lab := len_add la lb
  clear ha hb
  have hW := hid (fun v w h => wordN_any (a + b) v w h (by omega))
  obtain ⟨y, hy⟩ : ∃ y, y = (a + b) % 2 ^ 256 := ⟨_, rfl⟩
  rw [← hy] at hW ⊢
  clear hy
  unfold wd at *
  have iA := hid (iW a)
  have iB := hid (iW b)
  have iY := hid (iW y)
  have nY := hid (one_cellsW y)
  have hA0 := hid (show ArrW 24 (((w.alloc (.cells (cellsW a) 24)).alloc (.cells (cellsW b) 24)).alloc (.cells (cellsW 0) 24)) w.heap.size a from ((ArrW.new _ w a).alloc _).alloc _)
  have hB0 := hid (show ArrW 24 (((w.alloc (.cells (cellsW a) 24)).alloc (.cells (cellsW b) 24)).alloc (.cells (cellsW 0) 24)) (w.heap.size + 1) b by
    have := ArrW.new 24 (w.alloc (.cells (cellsW a) 24)) b
    rw [World.size_alloc] at this; exact this.alloc _)
  have hC0 := hid (show ArrW 24 (((w.alloc (.cells (cellsW a) 24)).alloc (.cells (cellsW b) 24)).alloc (.cells (cellsW 0) 24)) (w.heap.size + 2) 0 by
    have := ArrW.new 24 ((w.alloc (.cells (cellsW a) 24)).alloc (.cells (cellsW b) 24)) 0
    rw [World.size_alloc, World.size_alloc] at this; exact this)
  have hb0 : Below w.heap.size w (((w.alloc (.cells (cellsW a) 24)).alloc (.cells (cellsW b) 24)).alloc (.cells (cellsW 0) 24)) := (((Below.refl _ _).alloc (Nat.le_refl _) _).alloc (by simp) _).alloc (by simp; omega) _
  go_enter Try.func57, Try.ntmps57
  go_wp2_with (refine wpList_alloc_new rfl 24 rfl (cellsW 0) zWd ?_; simp only [Act.put, List.setIfInBounds_toArray, List.set_cons_zero, List.set_cons_succ])
  ((try simp only [World.size_alloc]); refine wp_region_loose_tail 6 [.kn (.agg (cellsW (a))), .lo (fun v w => RdN w v (a)), .kn (.agg (cellsW (b))), .lo (fun v w => RdN w v (b)), .lo (fun v w => RdN w v (a + b)), .kn (.agg (cellsW (y)))] (by kernel_rfl) (by kernel_rfl) (by kernel_rfl) (by first | exact trivial | ((repeat (first | refine keepsAll_kn ?_ | (refine keepsAll_lo (fun v w w' h hb => ?_) ?_; first | exact RdN.below h hb | exact RdL.below h hb | exact RdY.below h hb | (obtain ⟨b, e, h1⟩ := h; exact ⟨b, e, ArrY.below h1 hb (ArrY.lt h1)⟩) | (obtain ⟨v1, v2, e, h1, h2⟩ := h; exact ⟨v1, v2, e, RdN.below h1 hb, RdN.below h2 hb⟩)))); exact trivial)) ?_; simp only [List.take_succ_cons, List.take_zero, List.drop_succ_cons, List.drop_zero])
  (refine loose_step_on rfl (fun W' hB' hd K hK => wp_load_block 24 (.tmp 2) rfl w.heap.size rfl 24 _ _ (ArrW.below hA0.out hB' (ArrW.lt hA0.out)) uWd rfl iA.out (hK _ _ (Below.refl _ _) rfl)) ?_; rintro _ rfl; simp only [Act.put, List.setIfInBounds_toArray, List.set_cons_zero, List.set_cons_succ])
  (refine loose_step_on rfl (fun W' hB' hd K hK => ?_) ?_; (focus (skip; clear hd; go_simp; refine (hOA.out _).mono ?_; rintro _ _ ⟨v', rfl, hr, hb'⟩; exact hK v' _ hb' hr)); intro v6 _; simp only [Act.put, List.setIfInBounds_toArray, List.set_cons_zero, List.set_cons_succ])
  (refine loose_step_on rfl (fun W' hB' hd K hK => wp_load_block 24 (.tmp 3) rfl (w.heap.size + 1) rfl 24 _ _ (ArrW.below hB0.out hB' (ArrW.lt hB0.out)) uWd rfl iB.out (hK _ _ (Below.refl _ _) rfl)) ?_; rintro _ rfl; simp only [Act.put, List.setIfInBounds_toArray, List.set_cons_zero, List.set_cons_succ])
  (refine loose_step_on rfl (fun W' hB' hd K hK => ?_) ?_; (focus (skip; clear hd; go_simp; refine (hOB.out _).mono ?_; rintro _ _ ⟨v', rfl, hr, hb'⟩; exact hK v' _ hb' hr)); intro v8 _; simp only [Act.put, List.setIfInBounds_toArray, List.set_cons_zero, List.set_cons_succ])
  (refine loose_step_on rfl (fun W' hB' hd K hK => ?_) ?_; (focus (have g6 : RdN W' v6 a := hd ⟨1, Ground.data⟩ (by simp) rfl _ 6 rfl rfl (by simp); have g8 : RdN W' v8 b := hd ⟨3, Ground.data⟩ (by simp) rfl _ 8 rfl rfl (by simp); clear hd; go_simp; refine (plus_any a b v6 v8 _ g6 g8 (by omega) (by omega)).mono ?_; rintro _ _ ⟨v', rfl, hr, hb'⟩; exact hK v' _ hb' hr)); intro v9 _; simp only [Act.put, List.setIfInBounds_toArray, List.set_cons_zero, List.set_cons_succ])
  (refine loose_step_on rfl (fun W' hB' hd K hK => ?_) ?_; (focus (have g9 : RdN W' v9 (a + b) := hd ⟨4, Ground.data⟩ (by simp) rfl _ 9 rfl rfl (by simp); clear hd; go_simp; refine (hW.out v9 _ g9).mono ?_; rintro _ _ ⟨rfl, hb'⟩; exact hK _ _ hb' rfl)); rintro _ rfl; simp only [Act.put, List.setIfInBounds_toArray, List.set_cons_zero, List.set_cons_succ])
  intro w6 hb6 _
  have hC6 := hid (hC0.out.below hb6 hC0.out.lt)
  go_wp2_with (refine wpList_store_row rfl 24 (.tmp 4) (.tmp 10) rfl (w.heap.size + 2) _ rfl rfl 24 _ hC6.out iY.out rfl nY.out ?_; simp only [Act.put])
  refine bodyPost_ret (results_cell_row rfl _ _ (w.heap.size + 2) 24 (cellsW y) (0, 0) _ rfl (heap_setRow' _ _ _ _ _ hC6.out) uWd rfl iY.out) rfl ⟨rfl, below_setRow' (hb0.trans (hb6.mono hb0.size)) _ (by omega) _⟩

set_option maxHeartbeats 1000000 in
theorem rmul_any (a b : Nat) (w : World) (ha : a < 2 ^ 256) (hb : b < 2 ^ 256) : Calls Try.prog 59 #[wd a, wd b] w fun e w' => e = .returned (wd (a * b % 2 ^ 256)) ∧ Below w.heap.size w w' := by
  have hOA := hid (fun w => of_any a w ha)
  have hOB := hid (fun w => of_any b w hb)
  have la := dg_word_len a ha
  have lb := dg_word_len b hb
  have lab := len_mul la lb
  clear ha hb
  have hW := hid (fun v w h => wordN_any (a * b) v w h (by omega))
  obtain ⟨y, hy⟩ : ∃ y, y = a * b % 2 ^ 256 := ⟨_, rfl⟩
  rw [← hy] at hW ⊢
  clear hy
  unfold wd at *
  have iA := hid (iW a)
  have iB := hid (iW b)
  have iY := hid (iW y)
  have nY := hid (one_cellsW y)
  have hA0 := hid (show ArrW 24 (((w.alloc (.cells (cellsW a) 24)).alloc (.cells (cellsW b) 24)).alloc (.cells (cellsW 0) 24)) w.heap.size a from ((ArrW.new _ w a).alloc _).alloc _)
  have hB0 := hid (show ArrW 24 (((w.alloc (.cells (cellsW a) 24)).alloc (.cells (cellsW b) 24)).alloc (.cells (cellsW 0) 24)) (w.heap.size + 1) b by
    have := ArrW.new 24 (w.alloc (.cells (cellsW a) 24)) b
    rw [World.size_alloc] at this; exact this.alloc _)
  have hC0 := hid (show ArrW 24 (((w.alloc (.cells (cellsW a) 24)).alloc (.cells (cellsW b) 24)).alloc (.cells (cellsW 0) 24)) (w.heap.size + 2) 0 by
    have := ArrW.new 24 ((w.alloc (.cells (cellsW a) 24)).alloc (.cells (cellsW b) 24)) 0
    rw [World.size_alloc, World.size_alloc] at this; exact this)
  have hb0 : Below w.heap.size w (((w.alloc (.cells (cellsW a) 24)).alloc (.cells (cellsW b) 24)).alloc (.cells (cellsW 0) 24)) := (((Below.refl _ _).alloc (Nat.le_refl _) _).alloc (by simp) _).alloc (by simp; omega) _
  go_enter Try.func59, Try.ntmps59
  go_wp2_with (refine wpList_alloc_new rfl 24 rfl (cellsW 0) zWd ?_; simp only [Act.put, List.setIfInBounds_toArray, List.set_cons_zero, List.set_cons_succ])
  ((try simp only [World.size_alloc]); refine wp_region_loose_tail 6 [.kn (.agg (cellsW (a))), .lo (fun v w => RdN w v (a)), .kn (.agg (cellsW (b))), .lo (fun v w => RdN w v (b)), .lo (fun v w => RdN w v (a * b)), .kn (.agg (cellsW (y)))] (by kernel_rfl) (by kernel_rfl) (by kernel_rfl) (by first | exact trivial | ((repeat (first | refine keepsAll_kn ?_ | (refine keepsAll_lo (fun v w w' h hb => ?_) ?_; first | exact RdN.below h hb | exact RdL.below h hb | exact RdY.below h hb | (obtain ⟨b, e, h1⟩ := h; exact ⟨b, e, ArrY.below h1 hb (ArrY.lt h1)⟩) | (obtain ⟨v1, v2, e, h1, h2⟩ := h; exact ⟨v1, v2, e, RdN.below h1 hb, RdN.below h2 hb⟩)))); exact trivial)) ?_; simp only [List.take_succ_cons, List.take_zero, List.drop_succ_cons, List.drop_zero])
  (refine loose_step_on rfl (fun W' hB' hd K hK => wp_load_block 24 (.tmp 2) rfl w.heap.size rfl 24 _ _ (ArrW.below hA0.out hB' (ArrW.lt hA0.out)) uWd rfl iA.out (hK _ _ (Below.refl _ _) rfl)) ?_; rintro _ rfl; simp only [Act.put, List.setIfInBounds_toArray, List.set_cons_zero, List.set_cons_succ])
  (refine loose_step_on rfl (fun W' hB' hd K hK => ?_) ?_; (focus (skip; clear hd; go_simp; refine (hOA.out _).mono ?_; rintro _ _ ⟨v', rfl, hr, hb'⟩; exact hK v' _ hb' hr)); intro v6 _; simp only [Act.put, List.setIfInBounds_toArray, List.set_cons_zero, List.set_cons_succ])
  (refine loose_step_on rfl (fun W' hB' hd K hK => wp_load_block 24 (.tmp 3) rfl (w.heap.size + 1) rfl 24 _ _ (ArrW.below hB0.out hB' (ArrW.lt hB0.out)) uWd rfl iB.out (hK _ _ (Below.refl _ _) rfl)) ?_; rintro _ rfl; simp only [Act.put, List.setIfInBounds_toArray, List.set_cons_zero, List.set_cons_succ])
  (refine loose_step_on rfl (fun W' hB' hd K hK => ?_) ?_; (focus (skip; clear hd; go_simp; refine (hOB.out _).mono ?_; rintro _ _ ⟨v', rfl, hr, hb'⟩; exact hK v' _ hb' hr)); intro v8 _; simp only [Act.put, List.setIfInBounds_toArray, List.set_cons_zero, List.set_cons_succ])
  (refine loose_step_on rfl (fun W' hB' hd K hK => ?_) ?_; (focus (have g6 : RdN W' v6 a := hd ⟨1, Ground.data⟩ (by simp) rfl _ 6 rfl rfl (by simp); have g8 : RdN W' v8 b := hd ⟨3, Ground.data⟩ (by simp) rfl _ 8 rfl rfl (by simp); clear hd; go_simp; refine (times_any a b v6 v8 _ g6 g8 (by omega) (by omega)).mono ?_; rintro _ _ ⟨v', rfl, hr, hb'⟩; exact hK v' _ hb' hr)); intro v9 _; simp only [Act.put, List.setIfInBounds_toArray, List.set_cons_zero, List.set_cons_succ])
  (refine loose_step_on rfl (fun W' hB' hd K hK => ?_) ?_; (focus (have g9 : RdN W' v9 (a * b) := hd ⟨4, Ground.data⟩ (by simp) rfl _ 9 rfl rfl (by simp); clear hd; go_simp; refine (hW.out v9 _ g9).mono ?_; rintro _ _ ⟨rfl, hb'⟩; exact hK _ _ hb' rfl)); rintro _ rfl; simp only [Act.put, List.setIfInBounds_toArray, List.set_cons_zero, List.set_cons_succ])
  intro w6 hb6 _
  have hC6 := hid (hC0.out.below hb6 hC0.out.lt)
  go_wp2_with (refine wpList_store_row rfl 24 (.tmp 4) (.tmp 10) rfl (w.heap.size + 2) _ rfl rfl 24 _ hC6.out iY.out rfl nY.out ?_; simp only [Act.put])
  refine bodyPost_ret (results_cell_row rfl _ _ (w.heap.size + 2) 24 (cellsW y) (0, 0) _ rfl (heap_setRow' _ _ _ _ _ hC6.out) uWd rfl iY.out) rfl ⟨rfl, below_setRow' (hb0.trans (hb6.mono hb0.size)) _ (by omega) _⟩

set_option maxHeartbeats 1000000 in
theorem rsub_any (a b : Nat) (w : World) (ha : a < 2 ^ 256) (hb : b < 2 ^ 256) : Calls Try.prog 58 #[wd a, wd b] w fun e w' => e = .returned (wd (subW a b)) ∧ Below w.heap.size w w' := by
  have hOA := hid (fun w => of_any a w ha)
  have hOB := hid (fun w => of_any b w hb)
  have la := dg_word_len a ha
  have lb := dg_word_len b hb
  have lp := len_pow 256
  have lab := len_add (Nat.le_trans lp (by omega : _ ≤ 33)) (Nat.le_trans la (by omega))
  have ld : (dg (2 ^ 256 + a - b)).length ≤ 34 := len_le (Nat.sub_le _ _) lab
  have hle : b ≤ 2 ^ 256 + a := by omega
  have hW := hid (fun v w h => wordN_any (2 ^ 256 + a - b) v w h (by omega))
  obtain ⟨y, hy⟩ : ∃ y, y = subW a b := ⟨_, rfl⟩
  rw [show (2 ^ 256 + a - b) % 2 ^ 256 = y by rw [hy]; unfold subW; congr 1; omega] at hW
  rw [← hy]
  clear hy ha hb
  obtain ⟨p, hp⟩ : ∃ p : Nat, p = 2 ^ 256 := ⟨_, rfl⟩
  have hPw := hid (fun w => power_any 256 w (by omega))
  rw [← hp] at hW lp lab ld hle hPw
  clear hp
  unfold wd at *
  have iA := hid (iW a)
  have iB := hid (iW b)
  have iY := hid (iW y)
  have nY := hid (one_cellsW y)
  have hA0 := hid (show ArrW 24 (((w.alloc (.cells (cellsW a) 24)).alloc (.cells (cellsW b) 24)).alloc (.cells (cellsW 0) 24)) w.heap.size a from ((ArrW.new _ w a).alloc _).alloc _)
  have hB0 := hid (show ArrW 24 (((w.alloc (.cells (cellsW a) 24)).alloc (.cells (cellsW b) 24)).alloc (.cells (cellsW 0) 24)) (w.heap.size + 1) b by
    have := ArrW.new 24 (w.alloc (.cells (cellsW a) 24)) b
    rw [World.size_alloc] at this; exact this.alloc _)
  have hC0 := hid (show ArrW 24 (((w.alloc (.cells (cellsW a) 24)).alloc (.cells (cellsW b) 24)).alloc (.cells (cellsW 0) 24)) (w.heap.size + 2) 0 by
    have := ArrW.new 24 ((w.alloc (.cells (cellsW a) 24)).alloc (.cells (cellsW b) 24)) 0
    rw [World.size_alloc, World.size_alloc] at this; exact this)
  have hb0 : Below w.heap.size w (((w.alloc (.cells (cellsW a) 24)).alloc (.cells (cellsW b) 24)).alloc (.cells (cellsW 0) 24)) := (((Below.refl _ _).alloc (Nat.le_refl _) _).alloc (by simp) _).alloc (by simp; omega) _
  go_enter Try.func58, Try.ntmps58
  go_wp2_with (refine wpList_alloc_new rfl 24 rfl (cellsW 0) zWd ?_; simp only [Act.put, List.setIfInBounds_toArray, List.set_cons_zero, List.set_cons_succ])
  ((try simp only [World.size_alloc]); refine wp_region_loose_tail 8 [.lo (fun v w => RdN w v (p)), .kn (.agg (cellsW (a))), .lo (fun v w => RdN w v (a)), .lo (fun v w => RdN w v (p + a)), .kn (.agg (cellsW (b))), .lo (fun v w => RdN w v (b)), .lo (fun v w => RdN w v (p + a - b)), .kn (.agg (cellsW (y)))] (by kernel_rfl) (by kernel_rfl) (by kernel_rfl) (by first | exact trivial | ((repeat (first | refine keepsAll_kn ?_ | (refine keepsAll_lo (fun v w w' h hb => ?_) ?_; first | exact RdN.below h hb | exact RdL.below h hb | exact RdY.below h hb | (obtain ⟨b, e, h1⟩ := h; exact ⟨b, e, ArrY.below h1 hb (ArrY.lt h1)⟩) | (obtain ⟨v1, v2, e, h1, h2⟩ := h; exact ⟨v1, v2, e, RdN.below h1 hb, RdN.below h2 hb⟩)))); exact trivial)) ?_; simp only [List.take_succ_cons, List.take_zero, List.drop_succ_cons, List.drop_zero])
  (refine loose_step_on rfl (fun W' hB' hd K hK => ?_) ?_; (focus (skip; clear hd; go_simp; refine (hPw.out _).mono ?_; rintro _ _ ⟨v', rfl, hr, hb'⟩; exact hK v' _ hb' hr)); intro v5 _; simp only [Act.put, List.setIfInBounds_toArray, List.set_cons_zero, List.set_cons_succ])
  (refine loose_step_on rfl (fun W' hB' hd K hK => wp_load_block 24 (.tmp 2) rfl w.heap.size rfl 24 _ _ (ArrW.below hA0.out hB' (ArrW.lt hA0.out)) uWd rfl iA.out (hK _ _ (Below.refl _ _) rfl)) ?_; rintro _ rfl; simp only [Act.put, List.setIfInBounds_toArray, List.set_cons_zero, List.set_cons_succ])
  (refine loose_step_on rfl (fun W' hB' hd K hK => ?_) ?_; (focus (skip; clear hd; go_simp; refine (hOA.out _).mono ?_; rintro _ _ ⟨v', rfl, hr, hb'⟩; exact hK v' _ hb' hr)); intro v7 _; simp only [Act.put, List.setIfInBounds_toArray, List.set_cons_zero, List.set_cons_succ])
  (refine loose_step_on rfl (fun W' hB' hd K hK => ?_) ?_; (focus (have g5 : RdN W' v5 p := hd ⟨0, Ground.data⟩ (by simp) rfl _ 5 rfl rfl (by simp); have g7 : RdN W' v7 a := hd ⟨2, Ground.data⟩ (by simp) rfl _ 7 rfl rfl (by simp); clear hd; go_simp; refine (plus_any p a v5 v7 _ g5 g7 (by omega) (by omega)).mono ?_; rintro _ _ ⟨v', rfl, hr, hb'⟩; exact hK v' _ hb' hr)); intro v8 _; simp only [Act.put, List.setIfInBounds_toArray, List.set_cons_zero, List.set_cons_succ])
  (refine loose_step_on rfl (fun W' hB' hd K hK => wp_load_block 24 (.tmp 3) rfl (w.heap.size + 1) rfl 24 _ _ (ArrW.below hB0.out hB' (ArrW.lt hB0.out)) uWd rfl iB.out (hK _ _ (Below.refl _ _) rfl)) ?_; rintro _ rfl; simp only [Act.put, List.setIfInBounds_toArray, List.set_cons_zero, List.set_cons_succ])
  (refine loose_step_on rfl (fun W' hB' hd K hK => ?_) ?_; (focus (skip; clear hd; go_simp; refine (hOB.out _).mono ?_; rintro _ _ ⟨v', rfl, hr, hb'⟩; exact hK v' _ hb' hr)); intro v10 _; simp only [Act.put, List.setIfInBounds_toArray, List.set_cons_zero, List.set_cons_succ])
  (refine loose_step_on rfl (fun W' hB' hd K hK => ?_) ?_; (focus (have g8 : RdN W' v8 (p + a) := hd ⟨3, Ground.data⟩ (by simp) rfl _ 8 rfl rfl (by simp); have g10 : RdN W' v10 b := hd ⟨5, Ground.data⟩ (by simp) rfl _ 10 rfl rfl (by simp); clear hd; go_simp; refine (less_any (p + a) b v8 v10 _ g8 g10 (by omega) hle).mono ?_; rintro _ _ ⟨v', rfl, hr, hb'⟩; exact hK v' _ hb' hr)); intro v11 _; simp only [Act.put, List.setIfInBounds_toArray, List.set_cons_zero, List.set_cons_succ])
  (refine loose_step_on rfl (fun W' hB' hd K hK => ?_) ?_; (focus (have g11 : RdN W' v11 (p + a - b) := hd ⟨6, Ground.data⟩ (by simp) rfl _ 11 rfl rfl (by simp); clear hd; go_simp; refine (hW.out v11 _ g11).mono ?_; rintro _ _ ⟨rfl, hb'⟩; exact hK _ _ hb' rfl)); rintro _ rfl; simp only [Act.put, List.setIfInBounds_toArray, List.set_cons_zero, List.set_cons_succ])
  intro w6 hb6 _
  have hC6 := hid (hC0.out.below hb6 hC0.out.lt)
  go_wp2_with (refine wpList_store_row rfl 24 (.tmp 4) (.tmp 12) rfl (w.heap.size + 2) _ rfl rfl 24 _ hC6.out iY.out rfl nY.out ?_; simp only [Act.put])
  refine bodyPost_ret (results_cell_row rfl _ _ (w.heap.size + 2) 24 (cellsW y) (0, 0) _ rfl (heap_setRow' _ _ _ _ _ hC6.out) uWd rfl iY.out) rfl ⟨rfl, below_setRow' (hb0.trans (hb6.mono hb0.size)) _ (by omega) _⟩
end Go.Proofs.Ytfidbiabgmioaaa
