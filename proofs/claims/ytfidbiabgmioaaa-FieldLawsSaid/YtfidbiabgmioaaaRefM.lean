import Derived.Test.YtfidbiabgmioaaaWordN
import Derived.Test.YtfidbiabgmioaaaLoose
/-! conclaveref01: the document's answers: Add, Sub, Mul, Div, Mod, Addmod, Mulmod. -/
set_option maxRecDepth 4000
set_option linter.unusedVariables false
set_option linter.unusedSimpArgs false
namespace Go.Proofs.Ytfidbiabgmioaaa
open Go.RowKit

theorem lt_len (n : Nat) : n < 256 ^ (dg n).length := by
  have := num_lt (dg n) (dg_dig n); rw [num_dg] at this; exact this
theorem dg_word_len (x : Nat) (h : x < 2 ^ 256) : (dg x).length ≤ 32 := dg_len x 32 (by rw [show (256 : Nat) ^ 32 = 2 ^ 256 from by rw [show (256 : Nat) = 2 ^ 8 from rfl, ← Nat.pow_mul]]; exact h)
theorem len_add {a b m : Nat} (ha : (dg a).length ≤ m) (hb : (dg b).length ≤ m) : (dg (a + b)).length ≤ m + 1 := by
  apply dg_len
  have h1 := Nat.lt_of_lt_of_le (lt_len a) (Nat.pow_le_pow_right (by omega : 0 < 256) ha)
  have h2 := Nat.lt_of_lt_of_le (lt_len b) (Nat.pow_le_pow_right (by omega : 0 < 256) hb)
  rw [Nat.pow_succ]; omega
theorem len_mul {a b m n : Nat} (ha : (dg a).length ≤ m) (hb : (dg b).length ≤ n) : (dg (a * b)).length ≤ m + n := by
  apply dg_len
  have h1 := Nat.lt_of_lt_of_le (lt_len a) (Nat.pow_le_pow_right (by omega : 0 < 256) ha)
  have h2 := Nat.lt_of_lt_of_le (lt_len b) (Nat.pow_le_pow_right (by omega : 0 < 256) hb)
  rw [Nat.pow_add]
  exact Nat.mul_lt_mul'' h1 h2
theorem len_le {a b m : Nat} (h : a ≤ b) (hb : (dg b).length ≤ m) : (dg a).length ≤ m := Nat.le_trans (dg_len_mono a b h) hb
theorem len_pow (n : Nat) : (dg (2 ^ n)).length ≤ n / 8 + 1 := by
  apply dg_len
  rw [show (256 : Nat) = 2 ^ 8 from rfl, ← Nat.pow_mul]
  exact Nat.pow_lt_pow_right (by omega) (by omega)
theorem wordN_any (n : Nat) (v : Value) (w : World) (h : RdN w v n) (hl : (dg n).length ≤ 65536) : Calls Try.prog 93 #[v] w fun e w' => e = .returned (wd (n % 2 ^ 256)) ∧ Below w.heap.size w w' := by
  have := word_any (dg n) v w h (dg_dig _) hl
  rw [num_dg] at this; exact this

set_option maxHeartbeats 1000000 in
theorem radd_any (a b : Nat) (w : World) (ha : a < 2 ^ 256) (hb : b < 2 ^ 256) : Calls Try.prog 57 #[wd a, wd b] w fun e w' => e = .returned (wd ((a + b) % 2 ^ 256)) ∧ Below w.heap.size w w' := by
  have hOA := hid (fun w => of_any a w ha)
  have hOB := hid (fun w => of_any b w hb)
  have la := dg_word_len a ha
  have lb := dg_word_len b hb
  have lab := len_add la lb
  clear ha hb
  have hW := hid (fun v w h => wordN_any (a + b) v w h (by omega))
  obtain ⟨y, hy⟩ : ∃ y, y = (a + b) % 2 ^ 256 := ⟨_, rfl⟩
  rw [← hy] at hW ⊢
  clear hy
  unfold wd at *
  have iA := hid (iW a)
  have iB := hid (iW b)
  have iY := hid (iW y)
  have nY := hid (one_cellsW y)
  have hA0 := hid (show ArrW 24 (((w.alloc (.cells (cellsW a) 24)).alloc (.cells (cellsW b) 24)).alloc (.cells (cellsW 0) 24)) w.heap.size a from ((ArrW.new _ w a).alloc _).alloc _)
  have hB0 := hid (show ArrW 24 (((w.alloc (.cells (cellsW a) 24)).alloc (.cells (cellsW b) 24)).alloc (.cells (cellsW 0) 24)) (w.heap.size + 1) b by
    have := ArrW.new 24 (w.alloc (.cells (cellsW a) 24)) b
    rw [World.size_alloc] at this; exact this.alloc _)
  have hC0 := hid (show ArrW 24 (((w.alloc (.cells (cellsW a) 24)).alloc (.cells (cellsW b) 24)).alloc (.cells (cellsW 0) 24)) (w.heap.size + 2) 0 by
    have := ArrW.new 24 ((w.alloc (.cells (cellsW a) 24)).alloc (.cells (cellsW b) 24)) 0
    rw [World.size_alloc, World.size_alloc] at this; exact this)
  have hb0 : Below w.heap.size w (((w.alloc (.cells (cellsW a) 24)).alloc (.cells (cellsW b) 24)).alloc (.cells (cellsW 0) 24)) := (((Below.refl _ _).alloc (Nat.le_refl _) _).alloc (by simp) _).alloc (by simp; omega) _
  go_enter Try.func57, Try.ntmps57
  go_wp2_with (refine wpList_alloc_new rfl 24 rfl (cellsW 0) zWd ?_; simp only [Act.put, List.setIfInBounds_toArray, List.set_cons_zero, List.set_cons_succ])
  ((try simp only [World.size_alloc]); refine wp_region_loose_tail 6 [.kn (.agg (cellsW (a))), .lo (fun v w => RdN w v (a)), .kn (.agg (cellsW (b))), .lo (fun v w => RdN w v (b)), .lo (fun v w => RdN w v (a + b)), .kn (.agg (cellsW (y)))] (by kernel_rfl) (by kernel_rfl) (by kernel_rfl) (by first | exact trivial | ((repeat (first | refine keepsAll_kn ?_ | (refine keepsAll_lo (fun v w w' h hb => ?_) ?_; first | exact RdN.below h hb | exact RdL.below h hb | exact RdY.below h hb | (obtain ⟨b, e, h1⟩ := h; exact ⟨b, e, ArrY.below h1 hb (ArrY.lt h1)⟩) | (obtain ⟨v1, v2, e, h1, h2⟩ := h; exact ⟨v1, v2, e, RdN.below h1 hb, RdN.below h2 hb⟩)))); exact trivial)) ?_; simp only [List.take_succ_cons, List.take_zero, List.drop_succ_cons, List.drop_zero])
  (refine loose_step_on rfl (fun W' hB' hd K hK => wp_load_block 24 (.tmp 2) rfl w.heap.size rfl 24 _ _ (ArrW.below hA0.out hB' (ArrW.lt hA0.out)) uWd rfl iA.out (hK _ _ (Below.refl _ _) rfl)) ?_; rintro _ rfl; simp only [Act.put, List.setIfInBounds_toArray, List.set_cons_zero, List.set_cons_succ])
  (refine loose_step_on rfl (fun W' hB' hd K hK => ?_) ?_; (focus (skip; clear hd; go_simp; refine (hOA.out _).mono ?_; rintro _ _ ⟨v', rfl, hr, hb'⟩; exact hK v' _ hb' hr)); intro v6 _; simp only [Act.put, List.setIfInBounds_toArray, List.set_cons_zero, List.set_cons_succ])
  (refine loose_step_on rfl (fun W' hB' hd K hK => wp_load_block 24 (.tmp 3) rfl (w.heap.size + 1) rfl 24 _ _ (ArrW.below hB0.out hB' (ArrW.lt hB0.out)) uWd rfl iB.out (hK _ _ (Below.refl _ _) rfl)) ?_; rintro _ rfl; simp only [Act.put, List.setIfInBounds_toArray, List.set_cons_zero, List.set_cons_succ])
  (refine loose_step_on rfl (fun W' hB' hd K hK => ?_) ?_; (focus (skip; clear hd; go_simp; refine (hOB.out _).mono ?_; rintro _ _ ⟨v', rfl, hr, hb'⟩; exact hK v' _ hb' hr)); intro v8 _; simp only [Act.put, List.setIfInBounds_toArray, List.set_cons_zero, List.set_cons_succ])
  (refine loose_step_on rfl (fun W' hB' hd K hK => ?_) ?_; (focus (have g6 : RdN W' v6 a := hd ⟨1, Ground.data⟩ (by simp) rfl _ 6 rfl rfl (by simp); have g8 : RdN W' v8 b := hd ⟨3, Ground.data⟩ (by simp) rfl _ 8 rfl rfl (by simp); clear hd; go_simp; refine (plus_any a b v6 v8 _ g6 g8 (by omega) (by omega)).mono ?_; rintro _ _ ⟨v', rfl, hr, hb'⟩; exact hK v' _ hb' hr)); intro v9 _; simp only [Act.put, List.setIfInBounds_toArray, List.set_cons_zero, List.set_cons_succ])
  (refine loose_step_on rfl (fun W' hB' hd K hK => ?_) ?_; (focus (have g9 : RdN W' v9 (a + b) := hd ⟨4, Ground.data⟩ (by simp) rfl _ 9 rfl rfl (by simp); clear hd; go_simp; refine (hW.out v9 _ g9).mono ?_; rintro _ _ ⟨rfl, hb'⟩; exact hK _ _ hb' rfl)); rintro _ rfl; simp only [Act.put, List.setIfInBounds_toArray, List.set_cons_zero, List.set_cons_succ])
  intro w6 hb6 _
  have hC6 := hid (hC0.out.below hb6 hC0.out.lt)
  go_wp2_with (refine wpList_store_row rfl 24 (.tmp 4) (.tmp 10) rfl (w.heap.size + 2) _ rfl rfl 24 _ hC6.out iY.out rfl nY.out ?_; simp only [Act.put])
  refine bodyPost_ret (results_cell_row rfl _ _ (w.heap.size + 2) 24 (cellsW y) (0, 0) _ rfl (heap_setRow' _ _ _ _ _ hC6.out) uWd rfl iY.out) rfl ⟨rfl, below_setRow' (hb0.trans (hb6.mono hb0.size)) _ (by omega) _⟩

set_option maxHeartbeats 1000000 in
theorem rmul_any (a b : Nat) (w : World) (ha : a < 2 ^ 256) (hb : b < 2 ^ 256) : Calls Try.prog 59 #[wd a, wd b] w fun e w' => e = .returned (wd (a * b % 2 ^ 256)) ∧ Below w.heap.size w w' := by
  have hOA := hid (fun w => of_any a w ha)
  have hOB := hid (fun w => of_any b w hb)
  have la := dg_word_len a ha
  have lb := dg_word_len b hb
  have lab := len_mul la lb
  clear ha hb
  have hW := hid (fun v w h => wordN_any (a * b) v w h (by omega))
  obtain ⟨y, hy⟩ : ∃ y, y = a * b % 2 ^ 256 := ⟨_, rfl⟩
  rw [← hy] at hW ⊢
  clear hy
  unfold wd at *
  have iA := hid (iW a)
  have iB := hid (iW b)
  have iY := hid (iW y)
  have nY := hid (one_cellsW y)
  have hA0 := hid (show ArrW 24 (((w.alloc (.cells (cellsW a) 24)).alloc (.cells (cellsW b) 24)).alloc (.cells (cellsW 0) 24)) w.heap.size a from ((ArrW.new _ w a).alloc _).alloc _)
  have hB0 := hid (show ArrW 24 (((w.alloc (.cells (cellsW a) 24)).alloc (.cells (cellsW b) 24)).alloc (.cells (cellsW 0) 24)) (w.heap.size + 1) b by
    have := ArrW.new 24 (w.alloc (.cells (cellsW a) 24)) b
    rw [World.size_alloc] at this; exact this.alloc _)
  have hC0 := hid (show ArrW 24 (((w.alloc (.cells (cellsW a) 24)).alloc (.cells (cellsW b) 24)).alloc (.cells (cellsW 0) 24)) (w.heap.size + 2) 0 by
    have := ArrW.new 24 ((w.alloc (.cells (cellsW a) 24)).alloc (.cells (cellsW b) 24)) 0
    rw [World.size_alloc, World.size_alloc] at this; exact this)
  have hb0 : Below w.heap.size w (((w.alloc (.cells (cellsW a) 24)).alloc (.cells (cellsW b) 24)).alloc (.cells (cellsW 0) 24)) := (((Below.refl _ _).alloc (Nat.le_refl _) _).alloc (by simp) _).alloc (by simp; omega) _
  go_enter Try.func59, Try.ntmps59
  go_wp2_with (refine wpList_alloc_new rfl 24 rfl (cellsW 0) zWd ?_; simp only [Act.put, List.setIfInBounds_toArray, List.set_cons_zero, List.set_cons_succ])
  ((try simp only [World.size_alloc]); refine wp_region_loose_tail 6 [.kn (.agg (cellsW (a))), .lo (fun v w => RdN w v (a)), .kn (.agg (cellsW (b))), .lo (fun v w => RdN w v (b)), .lo (fun v w => RdN w v (a * b)), .kn (.agg (cellsW (y)))] (by kernel_rfl) (by kernel_rfl) (by kernel_rfl) (by first | exact trivial | ((repeat (first | refine keepsAll_kn ?_ | (refine keepsAll_lo (fun v w w' h hb => ?_) ?_; first | exact RdN.below h hb | exact RdL.below h hb | exact RdY.below h hb | (obtain ⟨b, e, h1⟩ := h; exact ⟨b, e, ArrY.below h1 hb (ArrY.lt h1)⟩) | (obtain ⟨v1, v2, e, h1, h2⟩ := h; exact ⟨v1, v2, e, RdN.below h1 hb, RdN.below h2 hb⟩)))); exact trivial)) ?_; simp only [List.take_succ_cons, List.take_zero, List.drop_succ_cons, List.drop_zero])
  (refine loose_step_on rfl (fun W' hB' hd K hK => wp_load_block 24 (.tmp 2) rfl w.heap.size rfl 24 _ _ (ArrW.below hA0.out hB' (ArrW.lt hA0.out)) uWd rfl iA.out (hK _ _ (Below.refl _ _) rfl)) ?_; rintro _ rfl; simp only [Act.put, List.setIfInBounds_toArray, List.set_cons_zero, List.set_cons_succ])
  (refine loose_step_on rfl (fun W' hB' hd K hK => ?_) ?_; (focus (skip; clear hd; go_simp; refine (hOA.out _).mono ?_; rintro _ _ ⟨v', rfl, hr, hb'⟩; exact hK v' _ hb' hr)); intro v6 _; simp only [Act.put, List.setIfInBounds_toArray, List.set_cons_zero, List.set_cons_succ])
  (refine loose_step_on rfl (fun W' hB' hd K hK => wp_load_block 24 (.tmp 3) rfl (w.heap.size + 1) rfl 24 _ _ (ArrW.below hB0.out hB' (ArrW.lt hB0.out)) uWd rfl iB.out (hK _ _ (Below.refl _ _) rfl)) ?_; rintro _ rfl; simp only [Act.put, List.setIfInBounds_toArray, List.set_cons_zero, List.set_cons_succ])
  (refine loose_step_on rfl (fun W' hB' hd K hK => ?_) ?_; (focus (skip; clear hd; go_simp; refine (hOB.out _).mono ?_; rintro _ _ ⟨v', rfl, hr, hb'⟩; exact hK v' _ hb' hr)); intro v8 _; simp only [Act.put, List.setIfInBounds_toArray, List.set_cons_zero, List.set_cons_succ])
  (refine loose_step_on rfl (fun W' hB' hd K hK => ?_) ?_; (focus (have g6 : RdN W' v6 a := hd ⟨1, Ground.data⟩ (by simp) rfl _ 6 rfl rfl (by simp); have g8 : RdN W' v8 b := hd ⟨3, Ground.data⟩ (by simp) rfl _ 8 rfl rfl (by simp); clear hd; go_simp; refine (times_any a b v6 v8 _ g6 g8 (by omega) (by omega)).mono ?_; rintro _ _ ⟨v', rfl, hr, hb'⟩; exact hK v' _ hb' hr)); intro v9 _; simp only [Act.put, List.setIfInBounds_toArray, List.set_cons_zero, List.set_cons_succ])
  (refine loose_step_on rfl (fun W' hB' hd K hK => ?_) ?_; (focus (have g9 : RdN W' v9 (a * b) := hd ⟨4, Ground.data⟩ (by simp) rfl _ 9 rfl rfl (by simp); clear hd; go_simp; refine (hW.out v9 _ g9).mono ?_; rintro _ _ ⟨rfl, hb'⟩; exact hK _ _ hb' rfl)); rintro _ rfl; simp only [Act.put, List.setIfInBounds_toArray, List.set_cons_zero, List.set_cons_succ])
  intro w6 hb6 _
  have hC6 := hid (hC0.out.below hb6 hC0.out.lt)
  go_wp2_with (refine wpList_store_row rfl 24 (.tmp 4) (.tmp 10) rfl (w.heap.size + 2) _ rfl rfl 24 _ hC6.out iY.out rfl nY.out ?_; simp only [Act.put])
  refine bodyPost_ret (results_cell_row rfl _ _ (w.heap.size + 2) 24 (cellsW y) (0, 0) _ rfl (heap_setRow' _ _ _ _ _ hC6.out) uWd rfl iY.out) rfl ⟨rfl, below_setRow' (hb0.trans (hb6.mono hb0.size)) _ (by omega) _⟩

set_option maxHeartbeats 1000000 in
theorem rsub_any (a b : Nat) (w : World) (ha : a < 2 ^ 256) (hb : b < 2 ^ 256) : Calls Try.prog 58 #[wd a, wd b] w fun e w' => e = .returned (wd (subW a b)) ∧ Below w.heap.size w w' := by
  have hOA := hid (fun w => of_any a w ha)
  have hOB := hid (fun w => of_any b w hb)
  have la := dg_word_len a ha
  have lb := dg_word_len b hb
  have lp := len_pow 256
  have lab := len_add (Nat.le_trans lp (by omega : _ ≤ 33)) (Nat.le_trans la (by omega))
  have ld : (dg (2 ^ 256 + a - b)).length ≤ 34 := len_le (Nat.sub_le _ _) lab
  have hle : b ≤ 2 ^ 256 + a := by omega
  have hW := hid (fun v w h => wordN_any (2 ^ 256 + a - b) v w h (by omega))
  obtain ⟨y, hy⟩ : ∃ y, y = subW a b := ⟨_, rfl⟩
  rw [show (2 ^ 256 + a - b) % 2 ^ 256 = y by rw [hy]; unfold subW; congr 1; omega] at hW
  rw [← hy]
  clear hy ha hb
  obtain ⟨p, hp⟩ : ∃ p : Nat, p = 2 ^ 256 := ⟨_, rfl⟩
  have hPw := hid (fun w => power_any 256 w (by omega))
  rw [← hp] at hW lp lab ld hle hPw
  clear hp
  unfold wd at *
  have iA := hid (iW a)
  have iB := hid (iW b)
  have iY := hid (iW y)
  have nY := hid (one_cellsW y)
  have hA0 := hid (show ArrW 24 (((w.alloc (.cells (cellsW a) 24)).alloc (.cells (cellsW b) 24)).alloc (.cells (cellsW 0) 24)) w.heap.size a from ((ArrW.new _ w a).alloc _).alloc _)
  have hB0 := hid (show ArrW 24 (((w.alloc (.cells (cellsW a) 24)).alloc (.cells (cellsW b) 24)).alloc (.cells (cellsW 0) 24)) (w.heap.size + 1) b by
    have := ArrW.new 24 (w.alloc (.cells (cellsW a) 24)) b
    rw [World.size_alloc] at this; exact this.alloc _)
  have hC0 := hid (show ArrW 24 (((w.alloc (.cells (cellsW a) 24)).alloc (.cells (cellsW b) 24)).alloc (.cells (cellsW 0) 24)) (w.heap.size + 2) 0 by
    have := ArrW.new 24 ((w.alloc (.cells (cellsW a) 24)).alloc (.cells (cellsW b) 24)) 0
    rw [World.size_alloc, World.size_alloc] at this; exact this)
  have hb0 : Below w.heap.size w (((w.alloc (.cells (cellsW a) 24)).alloc (.cells (cellsW b) 24)).alloc (.cells (cellsW 0) 24)) := (((Below.refl _ _).alloc (Nat.le_refl _) _).alloc (by simp) _).alloc (by simp; omega) _
  go_enter Try.func58, Try.ntmps58
  go_wp2_with (refine wpList_alloc_new rfl 24 rfl (cellsW 0) zWd ?_; simp only [Act.put, List.setIfInBounds_toArray, List.set_cons_zero, List.set_cons_succ])
  ((try simp only [World.size_alloc]); refine wp_region_loose_tail 8 [.lo (fun v w => RdN w v (p)), .kn (.agg (cellsW (a))), .lo (fun v w => RdN w v (a)), .lo (fun v w => RdN w v (p + a)), .kn (.agg (cellsW (b))), .lo (fun v w => RdN w v (b)), .lo (fun v w => RdN w v (p + a - b)), .kn (.agg (cellsW (y)))] (by kernel_rfl) (by kernel_rfl) (by kernel_rfl) (by first | exact trivial | ((repeat (first | refine keepsAll_kn ?_ | (refine keepsAll_lo (fun v w w' h hb => ?_) ?_; first | exact RdN.below h hb | exact RdL.below h hb | exact RdY.below h hb | (obtain ⟨b, e, h1⟩ := h; exact ⟨b, e, ArrY.below h1 hb (ArrY.lt h1)⟩) | (obtain ⟨v1, v2, e, h1, h2⟩ := h; exact ⟨v1, v2, e, RdN.below h1 hb, RdN.below h2 hb⟩)))); exact trivial)) ?_; simp only [List.take_succ_cons, List.take_zero, List.drop_succ_cons, List.drop_zero])
  (refine loose_step_on rfl (fun W' hB' hd K hK => ?_) ?_; (focus (skip; clear hd; go_simp; refine (hPw.out _).mono ?_; rintro _ _ ⟨v', rfl, hr, hb'⟩; exact hK v' _ hb' hr)); intro v5 _; simp only [Act.put, List.setIfInBounds_toArray, List.set_cons_zero, List.set_cons_succ])
  (refine loose_step_on rfl (fun W' hB' hd K hK => wp_load_block 24 (.tmp 2) rfl w.heap.size rfl 24 _ _ (ArrW.below hA0.out hB' (ArrW.lt hA0.out)) uWd rfl iA.out (hK _ _ (Below.refl _ _) rfl)) ?_; rintro _ rfl; simp only [Act.put, List.setIfInBounds_toArray, List.set_cons_zero, List.set_cons_succ])
  (refine loose_step_on rfl (fun W' hB' hd K hK => ?_) ?_; (focus (skip; clear hd; go_simp; refine (hOA.out _).mono ?_; rintro _ _ ⟨v', rfl, hr, hb'⟩; exact hK v' _ hb' hr)); intro v7 _; simp only [Act.put, List.setIfInBounds_toArray, List.set_cons_zero, List.set_cons_succ])
  (refine loose_step_on rfl (fun W' hB' hd K hK => ?_) ?_; (focus (have g5 : RdN W' v5 p := hd ⟨0, Ground.data⟩ (by simp) rfl _ 5 rfl rfl (by simp); have g7 : RdN W' v7 a := hd ⟨2, Ground.data⟩ (by simp) rfl _ 7 rfl rfl (by simp); clear hd; go_simp; refine (plus_any p a v5 v7 _ g5 g7 (by omega) (by omega)).mono ?_; rintro _ _ ⟨v', rfl, hr, hb'⟩; exact hK v' _ hb' hr)); intro v8 _; simp only [Act.put, List.setIfInBounds_toArray, List.set_cons_zero, List.set_cons_succ])
  (refine loose_step_on rfl (fun W' hB' hd K hK => wp_load_block 24 (.tmp 3) rfl (w.heap.size + 1) rfl 24 _ _ (ArrW.below hB0.out hB' (ArrW.lt hB0.out)) uWd rfl iB.out (hK _ _ (Below.refl _ _) rfl)) ?_; rintro _ rfl; simp only [Act.put, List.setIfInBounds_toArray, List.set_cons_zero, List.set_cons_succ])
  (refine loose_step_on rfl (fun W' hB' hd K hK => ?_) ?_; (focus (skip; clear hd; go_simp; refine (hOB.out _).mono ?_; rintro _ _ ⟨v', rfl, hr, hb'⟩; exact hK v' _ hb' hr)); intro v10 _; simp only [Act.put, List.setIfInBounds_toArray, List.set_cons_zero, List.set_cons_succ])
  (refine loose_step_on rfl (fun W' hB' hd K hK => ?_) ?_; (focus (have g8 : RdN W' v8 (p + a) := hd ⟨3, Ground.data⟩ (by simp) rfl _ 8 rfl rfl (by simp); have g10 : RdN W' v10 b := hd ⟨5, Ground.data⟩ (by simp) rfl _ 10 rfl rfl (by simp); clear hd; go_simp; refine (less_any (p + a) b v8 v10 _ g8 g10 (by omega) hle).mono ?_; rintro _ _ ⟨v', rfl, hr, hb'⟩; exact hK v' _ hb' hr)); intro v11 _; simp only [Act.put, List.setIfInBounds_toArray, List.set_cons_zero, List.set_cons_succ])
  (refine loose_step_on rfl (fun W' hB' hd K hK => ?_) ?_; (focus (have g11 : RdN W' v11 (p + a - b) := hd ⟨6, Ground.data⟩ (by simp) rfl _ 11 rfl rfl (by simp); clear hd; go_simp; refine (hW.out v11 _ g11).mono ?_; rintro _ _ ⟨rfl, hb'⟩; exact hK _ _ hb' rfl)); rintro _ rfl; simp only [Act.put, List.setIfInBounds_toArray, List.set_cons_zero, List.set_cons_succ])
  intro w6 hb6 _
  have hC6 := hid (hC0.out.below hb6 hC0.out.lt)
  go_wp2_with (refine wpList_store_row rfl 24 (.tmp 4) (.tmp 12) rfl (w.heap.size + 2) _ rfl rfl 24 _ hC6.out iY.out rfl nY.out ?_; simp only [Act.put])
  refine bodyPost_ret (results_cell_row rfl _ _ (w.heap.size + 2) 24 (cellsW y) (0, 0) _ rfl (heap_setRow' _ _ _ _ _ hC6.out) uWd rfl iY.out) rfl ⟨rfl, below_setRow' (hb0.trans (hb6.mono hb0.size)) _ (by omega) _⟩
end Go.Proofs.Ytfidbiabgmioaaa

/-! conclaveref01: Div, Mod, Addmod, Mulmod, Shr. -/
namespace Go.Proofs.Ytfidbiabgmioaaa
open Go.RowKit

def divW (a b : Nat) : Nat := a / b
def modW (a b : Nat) : Nat := if b = 0 then 0 else a % b
set_option maxHeartbeats 1000000 in
theorem rdiv_any (a b : Nat) (w : World) (ha : a < 2 ^ 256) (hb : b < 2 ^ 256) : Calls Try.prog 63 #[wd a, wd b] w fun e w' => e = .returned (wd (divW a b)) ∧ Below w.heap.size w w' := by
  have hOA := hid (fun w => of_any a w ha)
  have hOB := hid (fun w => of_any b w hb)
  have la := dg_word_len a ha
  have lb := dg_word_len b hb
  have lq : (dg (a / b)).length ≤ 65536 := Nat.le_trans (dg_len_mono _ _ (Nat.div_le_self _ _)) (by omega)
  have lr : (dg (a % b)).length ≤ 65536 := Nat.le_trans (dg_len_mono _ _ (Nat.mod_le _ _)) (by omega)
  have hq : a / b < 2 ^ 256 := Nat.lt_of_le_of_lt (Nat.div_le_self _ _) ha
  have hr : a % b < 2 ^ 256 := Nat.lt_of_le_of_lt (Nat.mod_le _ _) ha
  have he : ∀ w, (Op.equalIn 10000 24 (.agg (cellsW b)) (.agg #[.int .u64 0, .int .u64 0, .int .u64 0, .int .u64 0])).run Try.prog w = .ok (decide (b = 0)) w := eq_wd b 0 hb (by decide)
  have iA := hid (iW a)
  have iB := hid (iW b)
  have nB := hid (one_cellsW b)
  by_cases h0 : b = 0
  · have HY := hid (show divW a b = b by unfold divW; (try rw [if_pos h0]); (try rw [h0]); (try rw [Nat.div_zero]))
    rw [decide_eq_true h0] at he
    rw [HY.out]
    clear h0 HY hOA hOB la lb lq lr hq hr ha hb
    unfold wd
    have hA0 := hid (show ArrW 24 (((w.alloc (.cells (cellsW a) 24)).alloc (.cells (cellsW b) 24)).alloc (.cells (cellsW 0) 24)) w.heap.size a from ((ArrW.new _ w a).alloc _).alloc _)
    have hB0 := hid (show ArrW 24 (((w.alloc (.cells (cellsW a) 24)).alloc (.cells (cellsW b) 24)).alloc (.cells (cellsW 0) 24)) (w.heap.size + 1) b by
      have := ArrW.new 24 (w.alloc (.cells (cellsW a) 24)) b
      rw [World.size_alloc] at this; exact this.alloc _)
    have hC0 := hid (show ArrW 24 (((w.alloc (.cells (cellsW a) 24)).alloc (.cells (cellsW b) 24)).alloc (.cells (cellsW 0) 24)) (w.heap.size + 2) 0 by
      have := ArrW.new 24 ((w.alloc (.cells (cellsW a) 24)).alloc (.cells (cellsW b) 24)) 0
      rw [World.size_alloc, World.size_alloc] at this; exact this)
    have hb0 : Below w.heap.size w (((w.alloc (.cells (cellsW a) 24)).alloc (.cells (cellsW b) 24)).alloc (.cells (cellsW 0) 24)) := (((Below.refl _ _).alloc (Nat.le_refl _) _).alloc (by simp) _).alloc (by simp; omega) _
    go_enter Try.func63, Try.ntmps63
    go_wp2_with (first | (refine wpList_alloc_new rfl 24 rfl (cellsW 0) zWd ?_; simp only [Act.put, List.setIfInBounds_toArray, List.set_cons_zero, List.set_cons_succ, World.size_alloc]) | (refine wpList_load_row rfl 24 (.tmp 3) rfl (w.heap.size + 1) rfl 24 _ (0, 0) _ hB0.out uWd rfl iB.out ?_; simp only [Act.put, List.setIfInBounds_toArray, List.set_cons_zero, List.set_cons_succ]) | (refine wpList_store_row rfl 24 (.tmp 4) (.tmp 10) rfl (w.heap.size + 2) _ rfl rfl 24 _ hC0.out iB.out rfl nB.out ?_; simp only [Act.put]))
    refine bodyPost_ret (results_cell_row rfl _ _ (w.heap.size + 2) 24 (cellsW b) (0, 0) _ rfl (heap_setRow' _ _ _ _ _ hC0.out) uWd rfl iB.out) rfl ⟨rfl, below_setRow' hb0 _ (by omega) _⟩
  · have HY := hid (show divW a b = a / b by unfold divW; first | rfl | rw [if_neg h0])
    rw [decide_eq_false h0] at he
    rw [HY.out]
    have hpos : 0 < b := Nat.pos_of_ne_zero h0
    have hW := hid (fun v w h => wordN_any (a / b) v w h (by omega))
    rw [show (a / b) % 2 ^ 256 = a / b from Nat.mod_eq_of_lt (by assumption)] at hW
    obtain ⟨q, hq2⟩ : ∃ q, q = a / b := ⟨_, rfl⟩
    obtain ⟨r, hr2⟩ : ∃ r, r = a % b := ⟨_, rfl⟩
    have hQ := hid (fun va vb w ha hb => quo_any a b va vb w ha hb (by omega) (by omega) hpos)
    (try rw [← hq2] at hW); (try rw [← hr2] at hW); (try rw [← hq2]); (try rw [← hr2])
    rw [← hq2, ← hr2] at hQ
    clear h0 HY lq lr hq hr ha hb hpos hq2 hr2
    unfold wd at *
    have iY := hid (iW q)
    have nY := hid (one_cellsW q)
    have hA0 := hid (show ArrW 24 (((w.alloc (.cells (cellsW a) 24)).alloc (.cells (cellsW b) 24)).alloc (.cells (cellsW 0) 24)) w.heap.size a from ((ArrW.new _ w a).alloc _).alloc _)
    have hB0 := hid (show ArrW 24 (((w.alloc (.cells (cellsW a) 24)).alloc (.cells (cellsW b) 24)).alloc (.cells (cellsW 0) 24)) (w.heap.size + 1) b by
      have := ArrW.new 24 (w.alloc (.cells (cellsW a) 24)) b
      rw [World.size_alloc] at this; exact this.alloc _)
    have hC0 := hid (show ArrW 24 (((w.alloc (.cells (cellsW a) 24)).alloc (.cells (cellsW b) 24)).alloc (.cells (cellsW 0) 24)) (w.heap.size + 2) 0 by
      have := ArrW.new 24 ((w.alloc (.cells (cellsW a) 24)).alloc (.cells (cellsW b) 24)) 0
      rw [World.size_alloc, World.size_alloc] at this; exact this)
    have hb0 : Below w.heap.size w (((w.alloc (.cells (cellsW a) 24)).alloc (.cells (cellsW b) 24)).alloc (.cells (cellsW 0) 24)) := (((Below.refl _ _).alloc (Nat.le_refl _) _).alloc (by simp) _).alloc (by simp; omega) _
    go_enter Try.func63, Try.ntmps63
    go_wp2_with (first | (refine wpList_alloc_new rfl 24 rfl (cellsW 0) zWd ?_; simp only [Act.put, List.setIfInBounds_toArray, List.set_cons_zero, List.set_cons_succ, World.size_alloc]) | (refine wpList_load_row rfl 24 (.tmp 3) rfl (w.heap.size + 1) rfl 24 _ (0, 0) _ hB0.out uWd rfl iB.out ?_; simp only [Act.put, List.setIfInBounds_toArray, List.set_cons_zero, List.set_cons_succ]))
    ((try simp only [World.size_alloc]); refine wp_region_loose [.kn (.agg (cellsW (a))), .lo (fun v w => RdN w v (a)), .kn (.agg (cellsW (b))), .lo (fun v w => RdN w v (b)), .lo (fun v w => ∃ v1 v2, v = .tuple #[v1, v2] ∧ RdN w v1 (q) ∧ RdN w v2 (r)), .lo (fun v w => ∃ v1 v2, v = .tuple #[v1, v2] ∧ RdN w v1 (q) ∧ RdN w v2 (r)), .lo (fun v w => RdN w v (q)), .lo (fun v w => RdN w v (r)), .lo (fun v w => RdN w v (q)), .lo (fun v w => RdN w v (r))] (by kernel_rfl) (by kernel_rfl) (by kernel_rfl) (by first | exact trivial | ((repeat (first | refine keepsAll_kn ?_ | (refine keepsAll_lo (fun v w w' h hb => ?_) ?_; first | exact RdN.below h hb | exact RdL.below h hb | exact RdY.below h hb | (obtain ⟨b, e, h1⟩ := h; exact ⟨b, e, ArrY.below h1 hb (ArrY.lt h1)⟩) | (obtain ⟨v1, v2, e, h1, h2⟩ := h; exact ⟨v1, v2, e, RdN.below h1 hb, RdN.below h2 hb⟩)))); exact trivial)) ?_)
    (refine loose_step_on rfl (fun W' hB' hd K hK => wp_load_block 24 (.tmp 2) rfl w.heap.size rfl 24 _ _ (ArrW.below hA0.out hB' (ArrW.lt hA0.out)) uWd rfl iA.out (hK _ _ (Below.refl _ _) rfl)) ?_; rintro _ rfl; simp only [Act.put, List.setIfInBounds_toArray, List.set_cons_zero, List.set_cons_succ])
    (refine loose_step_on rfl (fun W' hB' hd K hK => ?_) ?_; (focus (skip; clear hd; go_simp; refine (hOA.out _).mono ?_; rintro _ _ ⟨v', rfl, hr, hb'⟩; exact hK v' _ hb' hr)); intro v13 _; simp only [Act.put, List.setIfInBounds_toArray, List.set_cons_zero, List.set_cons_succ])
    (refine loose_step_on rfl (fun W' hB' hd K hK => wp_load_block 24 (.tmp 3) rfl (w.heap.size + 1) rfl 24 _ _ (ArrW.below hB0.out hB' (ArrW.lt hB0.out)) uWd rfl iB.out (hK _ _ (Below.refl _ _) rfl)) ?_; rintro _ rfl; simp only [Act.put, List.setIfInBounds_toArray, List.set_cons_zero, List.set_cons_succ])
    (refine loose_step_on rfl (fun W' hB' hd K hK => ?_) ?_; (focus (skip; clear hd; go_simp; refine (hOB.out _).mono ?_; rintro _ _ ⟨v', rfl, hr, hb'⟩; exact hK v' _ hb' hr)); intro v15 _; simp only [Act.put, List.setIfInBounds_toArray, List.set_cons_zero, List.set_cons_succ])
    (refine loose_step_on rfl (fun W' hB' hd K hK => ?_) ?_; (focus (have g13 : RdN W' v13 a := hd ⟨1, Ground.data⟩ (by simp) rfl _ 13 rfl rfl (by simp); have g15 : RdN W' v15 b := hd ⟨3, Ground.data⟩ (by simp) rfl _ 15 rfl rfl (by simp); clear hd; go_simp; refine (hQ.out v13 v15 _ g13 g15).mono ?_; rintro _ _ ⟨v1', v2', rfl, hr1, hr2, hb'⟩; exact hK _ _ hb' ⟨v1', v2', rfl, hr1, hr2⟩)); intro v16 _; simp only [Act.put, List.setIfInBounds_toArray, List.set_cons_zero, List.set_cons_succ])
    (refine loose_step_on rfl (fun W' hB' hd K hK => ?_) ?_; (focus (have g16 : ∃ v1 v2, v16 = .tuple #[v1, v2] ∧ RdN W' v1 (q) ∧ RdN W' v2 (r) := hd ⟨4, Ground.data⟩ (by simp) rfl _ 16 rfl rfl (by simp); clear hd; go_simp; exact hK _ _ (Below.refl _ _) g16)); intro v11 _; simp only [Act.put, List.setIfInBounds_toArray, List.set_cons_zero, List.set_cons_succ])
    (refine loose_step_on rfl (fun W' hB' hd K hK => ?_) ?_; (focus (have g11 : ∃ v1 v2, v11 = .tuple #[v1, v2] ∧ RdN W' v1 (q) ∧ RdN W' v2 (r) := hd ⟨5, Ground.data⟩ (by simp) rfl _ 11 rfl rfl (by simp); clear hd; obtain ⟨x1, x2, rfl, h1, h2⟩ := g11; go_simp; exact hK _ _ (Below.refl _ _) h1)); intro v17 _; simp only [Act.put, List.setIfInBounds_toArray, List.set_cons_zero, List.set_cons_succ])
    (refine loose_step_on rfl (fun W' hB' hd K hK => ?_) ?_; (focus (have g11 : ∃ v1 v2, v11 = .tuple #[v1, v2] ∧ RdN W' v1 (q) ∧ RdN W' v2 (r) := hd ⟨5, Ground.data⟩ (by simp) rfl _ 11 rfl rfl (by simp); clear hd; obtain ⟨x1, x2, rfl, h1, h2⟩ := g11; go_simp; exact hK _ _ (Below.refl _ _) h2)); intro v18 _; simp only [Act.put, List.setIfInBounds_toArray, List.set_cons_zero, List.set_cons_succ])
    (refine loose_step_on rfl (fun W' hB' hd K hK => ?_) ?_; (focus (have g17 : RdN W' v17 q := hd ⟨6, Ground.data⟩ (by simp) rfl _ 17 rfl rfl (by simp); clear hd; go_simp; exact hK _ _ (Below.refl _ _) g17)); intro v5 _; simp only [Act.put, List.setIfInBounds_toArray, List.set_cons_zero, List.set_cons_succ])
    (refine loose_step_on rfl (fun W' hB' hd K hK => ?_) ?_; (focus (have g18 : RdN W' v18 r := hd ⟨7, Ground.data⟩ (by simp) rfl _ 18 rfl rfl (by simp); clear hd; go_simp; exact hK _ _ (Below.refl _ _) g18)); intro v6 _; simp only [Act.put, List.setIfInBounds_toArray, List.set_cons_zero, List.set_cons_succ])
    intro w6 hb6 hf
    have g5 : RdN w6 v5 q := hf 8 _ 5 (by first | omega | simp) rfl rfl (by simp)
    have g6 : RdN w6 v6 r := hf 9 _ 6 (by first | omega | simp) rfl rfl (by simp)
    clear hf
    have hC6 := hid (hC0.out.below hb6 hC0.out.lt)
    have hb7 := hb0.trans (hb6.mono hb0.size)
    clear hA0 hB0 hC0 hb0 hb6
    go_wp2_with fail
    refine (hW.out _ _ (by assumption)).mono ?_
    rintro e w8 ⟨rfl, hb8⟩
    have hC8 := hid (hC6.out.below hb8 hC6.out.lt)
    go_wp2_with (refine wpList_store_row rfl 24 (.tmp 4) (.tmp 20) rfl (w.heap.size + 2) _ rfl rfl 24 _ hC8.out iY.out rfl nY.out ?_; simp only [Act.put])
    refine bodyPost_ret (results_cell_row rfl _ _ (w.heap.size + 2) 24 (cellsW q) (0, 0) _ rfl (heap_setRow' _ _ _ _ _ hC8.out) uWd rfl iY.out) rfl ⟨rfl, below_setRow' (hb7.trans (hb8.mono hb7.size)) _ (by omega) _⟩
set_option maxHeartbeats 1000000 in
theorem rmod_any (a b : Nat) (w : World) (ha : a < 2 ^ 256) (hb : b < 2 ^ 256) : Calls Try.prog 65 #[wd a, wd b] w fun e w' => e = .returned (wd (modW a b)) ∧ Below w.heap.size w w' := by
  have hOA := hid (fun w => of_any a w ha)
  have hOB := hid (fun w => of_any b w hb)
  have la := dg_word_len a ha
  have lb := dg_word_len b hb
  have lq : (dg (a / b)).length ≤ 65536 := Nat.le_trans (dg_len_mono _ _ (Nat.div_le_self _ _)) (by omega)
  have lr : (dg (a % b)).length ≤ 65536 := Nat.le_trans (dg_len_mono _ _ (Nat.mod_le _ _)) (by omega)
  have hq : a / b < 2 ^ 256 := Nat.lt_of_le_of_lt (Nat.div_le_self _ _) ha
  have hr : a % b < 2 ^ 256 := Nat.lt_of_le_of_lt (Nat.mod_le _ _) ha
  have he : ∀ w, (Op.equalIn 10000 24 (.agg (cellsW b)) (.agg #[.int .u64 0, .int .u64 0, .int .u64 0, .int .u64 0])).run Try.prog w = .ok (decide (b = 0)) w := eq_wd b 0 hb (by decide)
  have iA := hid (iW a)
  have iB := hid (iW b)
  have nB := hid (one_cellsW b)
  by_cases h0 : b = 0
  · have HY := hid (show modW a b = b by unfold modW; (try rw [if_pos h0]); (try rw [h0]); (try rw [Nat.div_zero]))
    rw [decide_eq_true h0] at he
    rw [HY.out]
    clear h0 HY hOA hOB la lb lq lr hq hr ha hb
    unfold wd
    have hA0 := hid (show ArrW 24 (((w.alloc (.cells (cellsW a) 24)).alloc (.cells (cellsW b) 24)).alloc (.cells (cellsW 0) 24)) w.heap.size a from ((ArrW.new _ w a).alloc _).alloc _)
    have hB0 := hid (show ArrW 24 (((w.alloc (.cells (cellsW a) 24)).alloc (.cells (cellsW b) 24)).alloc (.cells (cellsW 0) 24)) (w.heap.size + 1) b by
      have := ArrW.new 24 (w.alloc (.cells (cellsW a) 24)) b
      rw [World.size_alloc] at this; exact this.alloc _)
    have hC0 := hid (show ArrW 24 (((w.alloc (.cells (cellsW a) 24)).alloc (.cells (cellsW b) 24)).alloc (.cells (cellsW 0) 24)) (w.heap.size + 2) 0 by
      have := ArrW.new 24 ((w.alloc (.cells (cellsW a) 24)).alloc (.cells (cellsW b) 24)) 0
      rw [World.size_alloc, World.size_alloc] at this; exact this)
    have hb0 : Below w.heap.size w (((w.alloc (.cells (cellsW a) 24)).alloc (.cells (cellsW b) 24)).alloc (.cells (cellsW 0) 24)) := (((Below.refl _ _).alloc (Nat.le_refl _) _).alloc (by simp) _).alloc (by simp; omega) _
    go_enter Try.func65, Try.ntmps65
    go_wp2_with (first | (refine wpList_alloc_new rfl 24 rfl (cellsW 0) zWd ?_; simp only [Act.put, List.setIfInBounds_toArray, List.set_cons_zero, List.set_cons_succ, World.size_alloc]) | (refine wpList_load_row rfl 24 (.tmp 3) rfl (w.heap.size + 1) rfl 24 _ (0, 0) _ hB0.out uWd rfl iB.out ?_; simp only [Act.put, List.setIfInBounds_toArray, List.set_cons_zero, List.set_cons_succ]) | (refine wpList_store_row rfl 24 (.tmp 4) (.tmp 10) rfl (w.heap.size + 2) _ rfl rfl 24 _ hC0.out iB.out rfl nB.out ?_; simp only [Act.put]))
    refine bodyPost_ret (results_cell_row rfl _ _ (w.heap.size + 2) 24 (cellsW b) (0, 0) _ rfl (heap_setRow' _ _ _ _ _ hC0.out) uWd rfl iB.out) rfl ⟨rfl, below_setRow' hb0 _ (by omega) _⟩
  · have HY := hid (show modW a b = a % b by unfold modW; first | rfl | rw [if_neg h0])
    rw [decide_eq_false h0] at he
    rw [HY.out]
    have hpos : 0 < b := Nat.pos_of_ne_zero h0
    have hW := hid (fun v w h => wordN_any (a % b) v w h (by omega))
    rw [show (a % b) % 2 ^ 256 = a % b from Nat.mod_eq_of_lt (by assumption)] at hW
    obtain ⟨q, hq2⟩ : ∃ q, q = a / b := ⟨_, rfl⟩
    obtain ⟨r, hr2⟩ : ∃ r, r = a % b := ⟨_, rfl⟩
    have hQ := hid (fun va vb w ha hb => quo_any a b va vb w ha hb (by omega) (by omega) hpos)
    (try rw [← hq2] at hW); (try rw [← hr2] at hW); (try rw [← hq2]); (try rw [← hr2])
    rw [← hq2, ← hr2] at hQ
    clear h0 HY lq lr hq hr ha hb hpos hq2 hr2
    unfold wd at *
    have iY := hid (iW r)
    have nY := hid (one_cellsW r)
    have hA0 := hid (show ArrW 24 (((w.alloc (.cells (cellsW a) 24)).alloc (.cells (cellsW b) 24)).alloc (.cells (cellsW 0) 24)) w.heap.size a from ((ArrW.new _ w a).alloc _).alloc _)
    have hB0 := hid (show ArrW 24 (((w.alloc (.cells (cellsW a) 24)).alloc (.cells (cellsW b) 24)).alloc (.cells (cellsW 0) 24)) (w.heap.size + 1) b by
      have := ArrW.new 24 (w.alloc (.cells (cellsW a) 24)) b
      rw [World.size_alloc] at this; exact this.alloc _)
    have hC0 := hid (show ArrW 24 (((w.alloc (.cells (cellsW a) 24)).alloc (.cells (cellsW b) 24)).alloc (.cells (cellsW 0) 24)) (w.heap.size + 2) 0 by
      have := ArrW.new 24 ((w.alloc (.cells (cellsW a) 24)).alloc (.cells (cellsW b) 24)) 0
      rw [World.size_alloc, World.size_alloc] at this; exact this)
    have hb0 : Below w.heap.size w (((w.alloc (.cells (cellsW a) 24)).alloc (.cells (cellsW b) 24)).alloc (.cells (cellsW 0) 24)) := (((Below.refl _ _).alloc (Nat.le_refl _) _).alloc (by simp) _).alloc (by simp; omega) _
    go_enter Try.func65, Try.ntmps65
    go_wp2_with (first | (refine wpList_alloc_new rfl 24 rfl (cellsW 0) zWd ?_; simp only [Act.put, List.setIfInBounds_toArray, List.set_cons_zero, List.set_cons_succ, World.size_alloc]) | (refine wpList_load_row rfl 24 (.tmp 3) rfl (w.heap.size + 1) rfl 24 _ (0, 0) _ hB0.out uWd rfl iB.out ?_; simp only [Act.put, List.setIfInBounds_toArray, List.set_cons_zero, List.set_cons_succ]))
    ((try simp only [World.size_alloc]); refine wp_region_loose [.kn (.agg (cellsW (a))), .lo (fun v w => RdN w v (a)), .kn (.agg (cellsW (b))), .lo (fun v w => RdN w v (b)), .lo (fun v w => ∃ v1 v2, v = .tuple #[v1, v2] ∧ RdN w v1 (q) ∧ RdN w v2 (r)), .lo (fun v w => ∃ v1 v2, v = .tuple #[v1, v2] ∧ RdN w v1 (q) ∧ RdN w v2 (r)), .lo (fun v w => RdN w v (q)), .lo (fun v w => RdN w v (r)), .lo (fun v w => RdN w v (q)), .lo (fun v w => RdN w v (r))] (by kernel_rfl) (by kernel_rfl) (by kernel_rfl) (by first | exact trivial | ((repeat (first | refine keepsAll_kn ?_ | (refine keepsAll_lo (fun v w w' h hb => ?_) ?_; first | exact RdN.below h hb | exact RdL.below h hb | exact RdY.below h hb | (obtain ⟨b, e, h1⟩ := h; exact ⟨b, e, ArrY.below h1 hb (ArrY.lt h1)⟩) | (obtain ⟨v1, v2, e, h1, h2⟩ := h; exact ⟨v1, v2, e, RdN.below h1 hb, RdN.below h2 hb⟩)))); exact trivial)) ?_)
    (refine loose_step_on rfl (fun W' hB' hd K hK => wp_load_block 24 (.tmp 2) rfl w.heap.size rfl 24 _ _ (ArrW.below hA0.out hB' (ArrW.lt hA0.out)) uWd rfl iA.out (hK _ _ (Below.refl _ _) rfl)) ?_; rintro _ rfl; simp only [Act.put, List.setIfInBounds_toArray, List.set_cons_zero, List.set_cons_succ])
    (refine loose_step_on rfl (fun W' hB' hd K hK => ?_) ?_; (focus (skip; clear hd; go_simp; refine (hOA.out _).mono ?_; rintro _ _ ⟨v', rfl, hr, hb'⟩; exact hK v' _ hb' hr)); intro v13 _; simp only [Act.put, List.setIfInBounds_toArray, List.set_cons_zero, List.set_cons_succ])
    (refine loose_step_on rfl (fun W' hB' hd K hK => wp_load_block 24 (.tmp 3) rfl (w.heap.size + 1) rfl 24 _ _ (ArrW.below hB0.out hB' (ArrW.lt hB0.out)) uWd rfl iB.out (hK _ _ (Below.refl _ _) rfl)) ?_; rintro _ rfl; simp only [Act.put, List.setIfInBounds_toArray, List.set_cons_zero, List.set_cons_succ])
    (refine loose_step_on rfl (fun W' hB' hd K hK => ?_) ?_; (focus (skip; clear hd; go_simp; refine (hOB.out _).mono ?_; rintro _ _ ⟨v', rfl, hr, hb'⟩; exact hK v' _ hb' hr)); intro v15 _; simp only [Act.put, List.setIfInBounds_toArray, List.set_cons_zero, List.set_cons_succ])
    (refine loose_step_on rfl (fun W' hB' hd K hK => ?_) ?_; (focus (have g13 : RdN W' v13 a := hd ⟨1, Ground.data⟩ (by simp) rfl _ 13 rfl rfl (by simp); have g15 : RdN W' v15 b := hd ⟨3, Ground.data⟩ (by simp) rfl _ 15 rfl rfl (by simp); clear hd; go_simp; refine (hQ.out v13 v15 _ g13 g15).mono ?_; rintro _ _ ⟨v1', v2', rfl, hr1, hr2, hb'⟩; exact hK _ _ hb' ⟨v1', v2', rfl, hr1, hr2⟩)); intro v16 _; simp only [Act.put, List.setIfInBounds_toArray, List.set_cons_zero, List.set_cons_succ])
    (refine loose_step_on rfl (fun W' hB' hd K hK => ?_) ?_; (focus (have g16 : ∃ v1 v2, v16 = .tuple #[v1, v2] ∧ RdN W' v1 (q) ∧ RdN W' v2 (r) := hd ⟨4, Ground.data⟩ (by simp) rfl _ 16 rfl rfl (by simp); clear hd; go_simp; exact hK _ _ (Below.refl _ _) g16)); intro v11 _; simp only [Act.put, List.setIfInBounds_toArray, List.set_cons_zero, List.set_cons_succ])
    (refine loose_step_on rfl (fun W' hB' hd K hK => ?_) ?_; (focus (have g11 : ∃ v1 v2, v11 = .tuple #[v1, v2] ∧ RdN W' v1 (q) ∧ RdN W' v2 (r) := hd ⟨5, Ground.data⟩ (by simp) rfl _ 11 rfl rfl (by simp); clear hd; obtain ⟨x1, x2, rfl, h1, h2⟩ := g11; go_simp; exact hK _ _ (Below.refl _ _) h1)); intro v17 _; simp only [Act.put, List.setIfInBounds_toArray, List.set_cons_zero, List.set_cons_succ])
    (refine loose_step_on rfl (fun W' hB' hd K hK => ?_) ?_; (focus (have g11 : ∃ v1 v2, v11 = .tuple #[v1, v2] ∧ RdN W' v1 (q) ∧ RdN W' v2 (r) := hd ⟨5, Ground.data⟩ (by simp) rfl _ 11 rfl rfl (by simp); clear hd; obtain ⟨x1, x2, rfl, h1, h2⟩ := g11; go_simp; exact hK _ _ (Below.refl _ _) h2)); intro v18 _; simp only [Act.put, List.setIfInBounds_toArray, List.set_cons_zero, List.set_cons_succ])
    (refine loose_step_on rfl (fun W' hB' hd K hK => ?_) ?_; (focus (have g17 : RdN W' v17 q := hd ⟨6, Ground.data⟩ (by simp) rfl _ 17 rfl rfl (by simp); clear hd; go_simp; exact hK _ _ (Below.refl _ _) g17)); intro v5 _; simp only [Act.put, List.setIfInBounds_toArray, List.set_cons_zero, List.set_cons_succ])
    (refine loose_step_on rfl (fun W' hB' hd K hK => ?_) ?_; (focus (have g18 : RdN W' v18 r := hd ⟨7, Ground.data⟩ (by simp) rfl _ 18 rfl rfl (by simp); clear hd; go_simp; exact hK _ _ (Below.refl _ _) g18)); intro v6 _; simp only [Act.put, List.setIfInBounds_toArray, List.set_cons_zero, List.set_cons_succ])
    intro w6 hb6 hf
    have g5 : RdN w6 v5 q := hf 8 _ 5 (by first | omega | simp) rfl rfl (by simp)
    have g6 : RdN w6 v6 r := hf 9 _ 6 (by first | omega | simp) rfl rfl (by simp)
    clear hf
    have hC6 := hid (hC0.out.below hb6 hC0.out.lt)
    have hb7 := hb0.trans (hb6.mono hb0.size)
    clear hA0 hB0 hC0 hb0 hb6
    go_wp2_with fail
    refine (hW.out _ _ (by assumption)).mono ?_
    rintro e w8 ⟨rfl, hb8⟩
    have hC8 := hid (hC6.out.below hb8 hC6.out.lt)
    go_wp2_with (refine wpList_store_row rfl 24 (.tmp 4) (.tmp 20) rfl (w.heap.size + 2) _ rfl rfl 24 _ hC8.out iY.out rfl nY.out ?_; simp only [Act.put])
    refine bodyPost_ret (results_cell_row rfl _ _ (w.heap.size + 2) 24 (cellsW r) (0, 0) _ rfl (heap_setRow' _ _ _ _ _ hC8.out) uWd rfl iY.out) rfl ⟨rfl, below_setRow' (hb7.trans (hb8.mono hb7.size)) _ (by omega) _⟩
set_option maxHeartbeats 1000000 in
theorem raddm_any (a b m : Nat) (w : World) (ha : a < 2 ^ 256) (hb : b < 2 ^ 256) (hm : m < 2 ^ 256) : Calls Try.prog 71 #[wd a, wd b, wd m] w fun e w' => e = .returned (wd (modW (a + b) m)) ∧ Below w.heap.size w w' := by
  have hOA := hid (fun w => of_any a w ha)
  have hOB := hid (fun w => of_any b w hb)
  have hOM := hid (fun w => of_any m w hm)
  have la := dg_word_len a ha
  have lb := dg_word_len b hb
  have lm := dg_word_len m hm
  have lab := len_add la lb
  obtain ⟨s, hs⟩ : ∃ s, s = a + b := ⟨_, rfl⟩
  rw [← hs] at lab ⊢
  have lr : (dg (s % m)).length ≤ 65536 := Nat.le_trans (dg_len_mono _ _ (Nat.mod_le _ _)) (by omega)
  have he : ∀ w, (Op.equalIn 10000 24 (.agg (cellsW m)) (.agg #[.int .u64 0, .int .u64 0, .int .u64 0, .int .u64 0])).run Try.prog w = .ok (decide (m = 0)) w := eq_wd m 0 hm (by decide)
  have iA := hid (iW a)
  have iB := hid (iW b)
  have iM := hid (iW m)
  have nM := hid (one_cellsW m)
  by_cases h0 : m = 0
  · have HY := hid (show modW s m = m by unfold modW; rw [if_pos h0, h0])
    rw [decide_eq_true h0] at he
    rw [HY.out]
    clear h0 HY hOA hOB hOM la lb lm lab lr ha hb hm hs
    unfold wd
    have hA0 := hid (show ArrW 24 ((((w.alloc (.cells (cellsW a) 24)).alloc (.cells (cellsW b) 24)).alloc (.cells (cellsW m) 24)).alloc (.cells (cellsW 0) 24)) w.heap.size a from (((ArrW.new _ w a).alloc _).alloc _).alloc _)
    have hB0 := hid (show ArrW 24 ((((w.alloc (.cells (cellsW a) 24)).alloc (.cells (cellsW b) 24)).alloc (.cells (cellsW m) 24)).alloc (.cells (cellsW 0) 24)) (w.heap.size + 1) b by
      have := ArrW.new 24 (w.alloc (.cells (cellsW a) 24)) b
      rw [World.size_alloc] at this; exact (this.alloc _).alloc _)
    have hC0 := hid (show ArrW 24 ((((w.alloc (.cells (cellsW a) 24)).alloc (.cells (cellsW b) 24)).alloc (.cells (cellsW m) 24)).alloc (.cells (cellsW 0) 24)) (w.heap.size + 2) m by
      have := ArrW.new 24 ((w.alloc (.cells (cellsW a) 24)).alloc (.cells (cellsW b) 24)) m
      rw [World.size_alloc, World.size_alloc] at this; exact this.alloc _)
    have hD0 := hid (show ArrW 24 ((((w.alloc (.cells (cellsW a) 24)).alloc (.cells (cellsW b) 24)).alloc (.cells (cellsW m) 24)).alloc (.cells (cellsW 0) 24)) (w.heap.size + 3) 0 by
      have := ArrW.new 24 (((w.alloc (.cells (cellsW a) 24)).alloc (.cells (cellsW b) 24)).alloc (.cells (cellsW m) 24)) 0
      rw [World.size_alloc, World.size_alloc, World.size_alloc] at this; exact this)
    have hb0 : Below w.heap.size w ((((w.alloc (.cells (cellsW a) 24)).alloc (.cells (cellsW b) 24)).alloc (.cells (cellsW m) 24)).alloc (.cells (cellsW 0) 24)) := ((((Below.refl _ _).alloc (Nat.le_refl _) _).alloc (by simp) _).alloc (by simp; omega) _).alloc (by simp; omega) _
    go_enter Try.func71, Try.ntmps71
    go_wp2_with (first | (refine wpList_alloc_new rfl 24 rfl (cellsW 0) zWd ?_; simp only [Act.put, List.setIfInBounds_toArray, List.set_cons_zero, List.set_cons_succ, World.size_alloc]) | (refine wpList_load_row rfl 24 (.tmp 5) rfl (w.heap.size + 2) rfl 24 _ (0, 0) _ hC0.out uWd rfl iM.out ?_; simp only [Act.put, List.setIfInBounds_toArray, List.set_cons_zero, List.set_cons_succ]) | (refine wpList_store_row rfl 24 (.tmp 6) (.tmp 12) rfl (w.heap.size + 3) _ rfl rfl 24 _ hD0.out iM.out rfl nM.out ?_; simp only [Act.put]))
    refine bodyPost_ret (results_cell_row rfl _ _ (w.heap.size + 3) 24 (cellsW m) (0, 0) _ rfl (heap_setRow' _ _ _ _ _ hD0.out) uWd rfl iM.out) rfl ⟨rfl, below_setRow' hb0 _ (by omega) _⟩
  · have HY := hid (show modW s m = s % m by unfold modW; rw [if_neg h0])
    rw [decide_eq_false h0] at he
    rw [HY.out]
    have hpos : 0 < m := Nat.pos_of_ne_zero h0
    have hr : s % m < 2 ^ 256 := Nat.lt_trans (Nat.mod_lt _ hpos) hm
    have hW := hid (fun v w h => wordN_any (s % m) v w h (by omega))
    rw [show (s % m) % 2 ^ 256 = s % m from Nat.mod_eq_of_lt hr] at hW
    obtain ⟨q, hq2⟩ : ∃ q, q = s / m := ⟨_, rfl⟩
    obtain ⟨r, hr2⟩ : ∃ r, r = s % m := ⟨_, rfl⟩
    have hQ := hid (fun va vb w ha hb => quo_any s m va vb w ha hb (by omega) (by omega) hpos)
    have hF := hid (fun va vb w ha hb => plus_any a b va vb w ha hb (by omega) (by omega))
    rw [← hs] at hF
    rw [← hr2] at hW ⊢
    rw [← hq2, ← hr2] at hQ
    clear h0 HY lr hr ha hb hm hpos hq2 hr2 hs
    unfold wd at *
    have iY := hid (iW r)
    have nY := hid (one_cellsW r)
    have hA0 := hid (show ArrW 24 ((((w.alloc (.cells (cellsW a) 24)).alloc (.cells (cellsW b) 24)).alloc (.cells (cellsW m) 24)).alloc (.cells (cellsW 0) 24)) w.heap.size a from (((ArrW.new _ w a).alloc _).alloc _).alloc _)
    have hB0 := hid (show ArrW 24 ((((w.alloc (.cells (cellsW a) 24)).alloc (.cells (cellsW b) 24)).alloc (.cells (cellsW m) 24)).alloc (.cells (cellsW 0) 24)) (w.heap.size + 1) b by
      have := ArrW.new 24 (w.alloc (.cells (cellsW a) 24)) b
      rw [World.size_alloc] at this; exact (this.alloc _).alloc _)
    have hC0 := hid (show ArrW 24 ((((w.alloc (.cells (cellsW a) 24)).alloc (.cells (cellsW b) 24)).alloc (.cells (cellsW m) 24)).alloc (.cells (cellsW 0) 24)) (w.heap.size + 2) m by
      have := ArrW.new 24 ((w.alloc (.cells (cellsW a) 24)).alloc (.cells (cellsW b) 24)) m
      rw [World.size_alloc, World.size_alloc] at this; exact this.alloc _)
    have hD0 := hid (show ArrW 24 ((((w.alloc (.cells (cellsW a) 24)).alloc (.cells (cellsW b) 24)).alloc (.cells (cellsW m) 24)).alloc (.cells (cellsW 0) 24)) (w.heap.size + 3) 0 by
      have := ArrW.new 24 (((w.alloc (.cells (cellsW a) 24)).alloc (.cells (cellsW b) 24)).alloc (.cells (cellsW m) 24)) 0
      rw [World.size_alloc, World.size_alloc, World.size_alloc] at this; exact this)
    have hb0 : Below w.heap.size w ((((w.alloc (.cells (cellsW a) 24)).alloc (.cells (cellsW b) 24)).alloc (.cells (cellsW m) 24)).alloc (.cells (cellsW 0) 24)) := ((((Below.refl _ _).alloc (Nat.le_refl _) _).alloc (by simp) _).alloc (by simp; omega) _).alloc (by simp; omega) _
    go_enter Try.func71, Try.ntmps71
    go_wp2_with (first | (refine wpList_alloc_new rfl 24 rfl (cellsW 0) zWd ?_; simp only [Act.put, List.setIfInBounds_toArray, List.set_cons_zero, List.set_cons_succ, World.size_alloc]) | (refine wpList_load_row rfl 24 (.tmp 5) rfl (w.heap.size + 2) rfl 24 _ (0, 0) _ hC0.out uWd rfl iM.out ?_; simp only [Act.put, List.setIfInBounds_toArray, List.set_cons_zero, List.set_cons_succ]))
    ((try simp only [World.size_alloc]); refine wp_region_loose [.kn (.agg (cellsW (a))), .lo (fun v w => RdN w v (a)), .kn (.agg (cellsW (b))), .lo (fun v w => RdN w v (b)), .lo (fun v w => RdN w v (s)), .kn (.agg (cellsW (m))), .lo (fun v w => RdN w v (m)), .lo (fun v w => ∃ v1 v2, v = .tuple #[v1, v2] ∧ RdN w v1 (q) ∧ RdN w v2 (r)), .lo (fun v w => ∃ v1 v2, v = .tuple #[v1, v2] ∧ RdN w v1 (q) ∧ RdN w v2 (r)), .lo (fun v w => RdN w v (q)), .lo (fun v w => RdN w v (r)), .lo (fun v w => RdN w v (q)), .lo (fun v w => RdN w v (r))] (by kernel_rfl) (by kernel_rfl) (by kernel_rfl) (by first | exact trivial | ((repeat (first | refine keepsAll_kn ?_ | (refine keepsAll_lo (fun v w w' h hb => ?_) ?_; first | exact RdN.below h hb | exact RdL.below h hb | exact RdY.below h hb | (obtain ⟨b, e, h1⟩ := h; exact ⟨b, e, ArrY.below h1 hb (ArrY.lt h1)⟩) | (obtain ⟨v1, v2, e, h1, h2⟩ := h; exact ⟨v1, v2, e, RdN.below h1 hb, RdN.below h2 hb⟩)))); exact trivial)) ?_)
    (refine loose_step_on rfl (fun W' hB' hd K hK => wp_load_block 24 (.tmp 3) rfl w.heap.size rfl 24 _ _ (ArrW.below hA0.out hB' (ArrW.lt hA0.out)) uWd rfl iA.out (hK _ _ (Below.refl _ _) rfl)) ?_; rintro _ rfl; simp only [Act.put, List.setIfInBounds_toArray, List.set_cons_zero, List.set_cons_succ])
    (refine loose_step_on rfl (fun W' hB' hd K hK => ?_) ?_; (focus (skip; clear hd; go_simp; refine (hOA.out _).mono ?_; rintro _ _ ⟨v', rfl, hr, hb'⟩; exact hK v' _ hb' hr)); intro v15 _; simp only [Act.put, List.setIfInBounds_toArray, List.set_cons_zero, List.set_cons_succ])
    (refine loose_step_on rfl (fun W' hB' hd K hK => wp_load_block 24 (.tmp 4) rfl (w.heap.size + 1) rfl 24 _ _ (ArrW.below hB0.out hB' (ArrW.lt hB0.out)) uWd rfl iB.out (hK _ _ (Below.refl _ _) rfl)) ?_; rintro _ rfl; simp only [Act.put, List.setIfInBounds_toArray, List.set_cons_zero, List.set_cons_succ])
    (refine loose_step_on rfl (fun W' hB' hd K hK => ?_) ?_; (focus (skip; clear hd; go_simp; refine (hOB.out _).mono ?_; rintro _ _ ⟨v', rfl, hr, hb'⟩; exact hK v' _ hb' hr)); intro v17 _; simp only [Act.put, List.setIfInBounds_toArray, List.set_cons_zero, List.set_cons_succ])
    (refine loose_step_on rfl (fun W' hB' hd K hK => ?_) ?_; (focus (have g15 : RdN W' v15 a := hd ⟨1, Ground.data⟩ (by simp) rfl _ 15 rfl rfl (by simp); have g17 : RdN W' v17 b := hd ⟨3, Ground.data⟩ (by simp) rfl _ 17 rfl rfl (by simp); clear hd; go_simp; refine (hF.out v15 v17 _ g15 g17).mono ?_; rintro _ _ ⟨v', rfl, hr, hb'⟩; exact hK v' _ hb' hr)); intro v18 _; simp only [Act.put, List.setIfInBounds_toArray, List.set_cons_zero, List.set_cons_succ])
    (refine loose_step_on rfl (fun W' hB' hd K hK => wp_load_block 24 (.tmp 5) rfl (w.heap.size + 2) rfl 24 _ _ (ArrW.below hC0.out hB' (ArrW.lt hC0.out)) uWd rfl iM.out (hK _ _ (Below.refl _ _) rfl)) ?_; rintro _ rfl; simp only [Act.put, List.setIfInBounds_toArray, List.set_cons_zero, List.set_cons_succ])
    (refine loose_step_on rfl (fun W' hB' hd K hK => ?_) ?_; (focus (skip; clear hd; go_simp; refine (hOM.out _).mono ?_; rintro _ _ ⟨v', rfl, hr, hb'⟩; exact hK v' _ hb' hr)); intro v20 _; simp only [Act.put, List.setIfInBounds_toArray, List.set_cons_zero, List.set_cons_succ])
    (refine loose_step_on rfl (fun W' hB' hd K hK => ?_) ?_; (focus (have g18 : RdN W' v18 s := hd ⟨4, Ground.data⟩ (by simp) rfl _ 18 rfl rfl (by simp); have g20 : RdN W' v20 m := hd ⟨6, Ground.data⟩ (by simp) rfl _ 20 rfl rfl (by simp); clear hd; go_simp; refine (hQ.out v18 v20 _ g18 g20).mono ?_; rintro _ _ ⟨v1', v2', rfl, hr1, hr2, hb'⟩; exact hK _ _ hb' ⟨v1', v2', rfl, hr1, hr2⟩)); intro v21 _; simp only [Act.put, List.setIfInBounds_toArray, List.set_cons_zero, List.set_cons_succ])
    (refine loose_step_on rfl (fun W' hB' hd K hK => ?_) ?_; (focus (have g21 : ∃ v1 v2, v21 = .tuple #[v1, v2] ∧ RdN W' v1 (q) ∧ RdN W' v2 (r) := hd ⟨7, Ground.data⟩ (by simp) rfl _ 21 rfl rfl (by simp); clear hd; go_simp; exact hK _ _ (Below.refl _ _) g21)); intro v13 _; simp only [Act.put, List.setIfInBounds_toArray, List.set_cons_zero, List.set_cons_succ])
    (refine loose_step_on rfl (fun W' hB' hd K hK => ?_) ?_; (focus (have g13 : ∃ v1 v2, v13 = .tuple #[v1, v2] ∧ RdN W' v1 (q) ∧ RdN W' v2 (r) := hd ⟨8, Ground.data⟩ (by simp) rfl _ 13 rfl rfl (by simp); clear hd; obtain ⟨x1, x2, rfl, h1, h2⟩ := g13; go_simp; exact hK _ _ (Below.refl _ _) h1)); intro v22 _; simp only [Act.put, List.setIfInBounds_toArray, List.set_cons_zero, List.set_cons_succ])
    (refine loose_step_on rfl (fun W' hB' hd K hK => ?_) ?_; (focus (have g13 : ∃ v1 v2, v13 = .tuple #[v1, v2] ∧ RdN W' v1 (q) ∧ RdN W' v2 (r) := hd ⟨8, Ground.data⟩ (by simp) rfl _ 13 rfl rfl (by simp); clear hd; obtain ⟨x1, x2, rfl, h1, h2⟩ := g13; go_simp; exact hK _ _ (Below.refl _ _) h2)); intro v23 _; simp only [Act.put, List.setIfInBounds_toArray, List.set_cons_zero, List.set_cons_succ])
    (refine loose_step_on rfl (fun W' hB' hd K hK => ?_) ?_; (focus (have g22 : RdN W' v22 q := hd ⟨9, Ground.data⟩ (by simp) rfl _ 22 rfl rfl (by simp); clear hd; go_simp; exact hK _ _ (Below.refl _ _) g22)); intro v7 _; simp only [Act.put, List.setIfInBounds_toArray, List.set_cons_zero, List.set_cons_succ])
    (refine loose_step_on rfl (fun W' hB' hd K hK => ?_) ?_; (focus (have g23 : RdN W' v23 r := hd ⟨10, Ground.data⟩ (by simp) rfl _ 23 rfl rfl (by simp); clear hd; go_simp; exact hK _ _ (Below.refl _ _) g23)); intro v8 _; simp only [Act.put, List.setIfInBounds_toArray, List.set_cons_zero, List.set_cons_succ])
    intro w6 hb6 hf
    have g8 : RdN w6 v8 r := hf 12 _ 8 (by first | omega | simp) rfl rfl (by simp)
    clear hf
    have hC6 := hid (hD0.out.below hb6 hD0.out.lt)
    have hb7 := hb0.trans (hb6.mono hb0.size)
    clear hA0 hB0 hC0 hD0 hb0 hb6
    go_wp2_with fail
    refine (hW.out _ _ g8).mono ?_
    rintro e w8 ⟨rfl, hb8⟩
    have hC8 := hid (hC6.out.below hb8 hC6.out.lt)
    go_wp2_with (refine wpList_store_row rfl 24 (.tmp 6) (.tmp 25) rfl (w.heap.size + 3) _ rfl rfl 24 _ hC8.out iY.out rfl nY.out ?_; simp only [Act.put])
    refine bodyPost_ret (results_cell_row rfl _ _ (w.heap.size + 3) 24 (cellsW r) (0, 0) _ rfl (heap_setRow' _ _ _ _ _ hC8.out) uWd rfl iY.out) rfl ⟨rfl, below_setRow' (hb7.trans (hb8.mono hb7.size)) _ (by omega) _⟩
set_option maxHeartbeats 1000000 in
theorem rmulm_any (a b m : Nat) (w : World) (ha : a < 2 ^ 256) (hb : b < 2 ^ 256) (hm : m < 2 ^ 256) : Calls Try.prog 73 #[wd a, wd b, wd m] w fun e w' => e = .returned (wd (modW (a * b) m)) ∧ Below w.heap.size w w' := by
  have hOA := hid (fun w => of_any a w ha)
  have hOB := hid (fun w => of_any b w hb)
  have hOM := hid (fun w => of_any m w hm)
  have la := dg_word_len a ha
  have lb := dg_word_len b hb
  have lm := dg_word_len m hm
  have lab := len_mul la lb
  obtain ⟨s, hs⟩ : ∃ s, s = a * b := ⟨_, rfl⟩
  rw [← hs] at lab ⊢
  have lr : (dg (s % m)).length ≤ 65536 := Nat.le_trans (dg_len_mono _ _ (Nat.mod_le _ _)) (by omega)
  have he : ∀ w, (Op.equalIn 10000 24 (.agg (cellsW m)) (.agg #[.int .u64 0, .int .u64 0, .int .u64 0, .int .u64 0])).run Try.prog w = .ok (decide (m = 0)) w := eq_wd m 0 hm (by decide)
  have iA := hid (iW a)
  have iB := hid (iW b)
  have iM := hid (iW m)
  have nM := hid (one_cellsW m)
  by_cases h0 : m = 0
  · have HY := hid (show modW s m = m by unfold modW; rw [if_pos h0, h0])
    rw [decide_eq_true h0] at he
    rw [HY.out]
    clear h0 HY hOA hOB hOM la lb lm lab lr ha hb hm hs
    unfold wd
    have hA0 := hid (show ArrW 24 ((((w.alloc (.cells (cellsW a) 24)).alloc (.cells (cellsW b) 24)).alloc (.cells (cellsW m) 24)).alloc (.cells (cellsW 0) 24)) w.heap.size a from (((ArrW.new _ w a).alloc _).alloc _).alloc _)
    have hB0 := hid (show ArrW 24 ((((w.alloc (.cells (cellsW a) 24)).alloc (.cells (cellsW b) 24)).alloc (.cells (cellsW m) 24)).alloc (.cells (cellsW 0) 24)) (w.heap.size + 1) b by
      have := ArrW.new 24 (w.alloc (.cells (cellsW a) 24)) b
      rw [World.size_alloc] at this; exact (this.alloc _).alloc _)
    have hC0 := hid (show ArrW 24 ((((w.alloc (.cells (cellsW a) 24)).alloc (.cells (cellsW b) 24)).alloc (.cells (cellsW m) 24)).alloc (.cells (cellsW 0) 24)) (w.heap.size + 2) m by
      have := ArrW.new 24 ((w.alloc (.cells (cellsW a) 24)).alloc (.cells (cellsW b) 24)) m
      rw [World.size_alloc, World.size_alloc] at this; exact this.alloc _)
    have hD0 := hid (show ArrW 24 ((((w.alloc (.cells (cellsW a) 24)).alloc (.cells (cellsW b) 24)).alloc (.cells (cellsW m) 24)).alloc (.cells (cellsW 0) 24)) (w.heap.size + 3) 0 by
      have := ArrW.new 24 (((w.alloc (.cells (cellsW a) 24)).alloc (.cells (cellsW b) 24)).alloc (.cells (cellsW m) 24)) 0
      rw [World.size_alloc, World.size_alloc, World.size_alloc] at this; exact this)
    have hb0 : Below w.heap.size w ((((w.alloc (.cells (cellsW a) 24)).alloc (.cells (cellsW b) 24)).alloc (.cells (cellsW m) 24)).alloc (.cells (cellsW 0) 24)) := ((((Below.refl _ _).alloc (Nat.le_refl _) _).alloc (by simp) _).alloc (by simp; omega) _).alloc (by simp; omega) _
    go_enter Try.func73, Try.ntmps73
    go_wp2_with (first | (refine wpList_alloc_new rfl 24 rfl (cellsW 0) zWd ?_; simp only [Act.put, List.setIfInBounds_toArray, List.set_cons_zero, List.set_cons_succ, World.size_alloc]) | (refine wpList_load_row rfl 24 (.tmp 5) rfl (w.heap.size + 2) rfl 24 _ (0, 0) _ hC0.out uWd rfl iM.out ?_; simp only [Act.put, List.setIfInBounds_toArray, List.set_cons_zero, List.set_cons_succ]) | (refine wpList_store_row rfl 24 (.tmp 6) (.tmp 12) rfl (w.heap.size + 3) _ rfl rfl 24 _ hD0.out iM.out rfl nM.out ?_; simp only [Act.put]))
    refine bodyPost_ret (results_cell_row rfl _ _ (w.heap.size + 3) 24 (cellsW m) (0, 0) _ rfl (heap_setRow' _ _ _ _ _ hD0.out) uWd rfl iM.out) rfl ⟨rfl, below_setRow' hb0 _ (by omega) _⟩
  · have HY := hid (show modW s m = s % m by unfold modW; rw [if_neg h0])
    rw [decide_eq_false h0] at he
    rw [HY.out]
    have hpos : 0 < m := Nat.pos_of_ne_zero h0
    have hr : s % m < 2 ^ 256 := Nat.lt_trans (Nat.mod_lt _ hpos) hm
    have hW := hid (fun v w h => wordN_any (s % m) v w h (by omega))
    rw [show (s % m) % 2 ^ 256 = s % m from Nat.mod_eq_of_lt hr] at hW
    obtain ⟨q, hq2⟩ : ∃ q, q = s / m := ⟨_, rfl⟩
    obtain ⟨r, hr2⟩ : ∃ r, r = s % m := ⟨_, rfl⟩
    have hQ := hid (fun va vb w ha hb => quo_any s m va vb w ha hb (by omega) (by omega) hpos)
    have hF := hid (fun va vb w ha hb => times_any a b va vb w ha hb (by omega) (by omega))
    rw [← hs] at hF
    rw [← hr2] at hW ⊢
    rw [← hq2, ← hr2] at hQ
    clear h0 HY lr hr ha hb hm hpos hq2 hr2 hs
    unfold wd at *
    have iY := hid (iW r)
    have nY := hid (one_cellsW r)
    have hA0 := hid (show ArrW 24 ((((w.alloc (.cells (cellsW a) 24)).alloc (.cells (cellsW b) 24)).alloc (.cells (cellsW m) 24)).alloc (.cells (cellsW 0) 24)) w.heap.size a from (((ArrW.new _ w a).alloc _).alloc _).alloc _)
    have hB0 := hid (show ArrW 24 ((((w.alloc (.cells (cellsW a) 24)).alloc (.cells (cellsW b) 24)).alloc (.cells (cellsW m) 24)).alloc (.cells (cellsW 0) 24)) (w.heap.size + 1) b by
      have := ArrW.new 24 (w.alloc (.cells (cellsW a) 24)) b
      rw [World.size_alloc] at this; exact (this.alloc _).alloc _)
    have hC0 := hid (show ArrW 24 ((((w.alloc (.cells (cellsW a) 24)).alloc (.cells (cellsW b) 24)).alloc (.cells (cellsW m) 24)).alloc (.cells (cellsW 0) 24)) (w.heap.size + 2) m by
      have := ArrW.new 24 ((w.alloc (.cells (cellsW a) 24)).alloc (.cells (cellsW b) 24)) m
      rw [World.size_alloc, World.size_alloc] at this; exact this.alloc _)
    have hD0 := hid (show ArrW 24 ((((w.alloc (.cells (cellsW a) 24)).alloc (.cells (cellsW b) 24)).alloc (.cells (cellsW m) 24)).alloc (.cells (cellsW 0) 24)) (w.heap.size + 3) 0 by
      have := ArrW.new 24 (((w.alloc (.cells (cellsW a) 24)).alloc (.cells (cellsW b) 24)).alloc (.cells (cellsW m) 24)) 0
      rw [World.size_alloc, World.size_alloc, World.size_alloc] at this; exact this)
    have hb0 : Below w.heap.size w ((((w.alloc (.cells (cellsW a) 24)).alloc (.cells (cellsW b) 24)).alloc (.cells (cellsW m) 24)).alloc (.cells (cellsW 0) 24)) := ((((Below.refl _ _).alloc (Nat.le_refl _) _).alloc (by simp) _).alloc (by simp; omega) _).alloc (by simp; omega) _
    go_enter Try.func73, Try.ntmps73
    go_wp2_with (first | (refine wpList_alloc_new rfl 24 rfl (cellsW 0) zWd ?_; simp only [Act.put, List.setIfInBounds_toArray, List.set_cons_zero, List.set_cons_succ, World.size_alloc]) | (refine wpList_load_row rfl 24 (.tmp 5) rfl (w.heap.size + 2) rfl 24 _ (0, 0) _ hC0.out uWd rfl iM.out ?_; simp only [Act.put, List.setIfInBounds_toArray, List.set_cons_zero, List.set_cons_succ]))
    ((try simp only [World.size_alloc]); refine wp_region_loose [.kn (.agg (cellsW (a))), .lo (fun v w => RdN w v (a)), .kn (.agg (cellsW (b))), .lo (fun v w => RdN w v (b)), .lo (fun v w => RdN w v (s)), .kn (.agg (cellsW (m))), .lo (fun v w => RdN w v (m)), .lo (fun v w => ∃ v1 v2, v = .tuple #[v1, v2] ∧ RdN w v1 (q) ∧ RdN w v2 (r)), .lo (fun v w => ∃ v1 v2, v = .tuple #[v1, v2] ∧ RdN w v1 (q) ∧ RdN w v2 (r)), .lo (fun v w => RdN w v (q)), .lo (fun v w => RdN w v (r)), .lo (fun v w => RdN w v (q)), .lo (fun v w => RdN w v (r))] (by kernel_rfl) (by kernel_rfl) (by kernel_rfl) (by first | exact trivial | ((repeat (first | refine keepsAll_kn ?_ | (refine keepsAll_lo (fun v w w' h hb => ?_) ?_; first | exact RdN.below h hb | exact RdL.below h hb | exact RdY.below h hb | (obtain ⟨b, e, h1⟩ := h; exact ⟨b, e, ArrY.below h1 hb (ArrY.lt h1)⟩) | (obtain ⟨v1, v2, e, h1, h2⟩ := h; exact ⟨v1, v2, e, RdN.below h1 hb, RdN.below h2 hb⟩)))); exact trivial)) ?_)
    (refine loose_step_on rfl (fun W' hB' hd K hK => wp_load_block 24 (.tmp 3) rfl w.heap.size rfl 24 _ _ (ArrW.below hA0.out hB' (ArrW.lt hA0.out)) uWd rfl iA.out (hK _ _ (Below.refl _ _) rfl)) ?_; rintro _ rfl; simp only [Act.put, List.setIfInBounds_toArray, List.set_cons_zero, List.set_cons_succ])
    (refine loose_step_on rfl (fun W' hB' hd K hK => ?_) ?_; (focus (skip; clear hd; go_simp; refine (hOA.out _).mono ?_; rintro _ _ ⟨v', rfl, hr, hb'⟩; exact hK v' _ hb' hr)); intro v15 _; simp only [Act.put, List.setIfInBounds_toArray, List.set_cons_zero, List.set_cons_succ])
    (refine loose_step_on rfl (fun W' hB' hd K hK => wp_load_block 24 (.tmp 4) rfl (w.heap.size + 1) rfl 24 _ _ (ArrW.below hB0.out hB' (ArrW.lt hB0.out)) uWd rfl iB.out (hK _ _ (Below.refl _ _) rfl)) ?_; rintro _ rfl; simp only [Act.put, List.setIfInBounds_toArray, List.set_cons_zero, List.set_cons_succ])
    (refine loose_step_on rfl (fun W' hB' hd K hK => ?_) ?_; (focus (skip; clear hd; go_simp; refine (hOB.out _).mono ?_; rintro _ _ ⟨v', rfl, hr, hb'⟩; exact hK v' _ hb' hr)); intro v17 _; simp only [Act.put, List.setIfInBounds_toArray, List.set_cons_zero, List.set_cons_succ])
    (refine loose_step_on rfl (fun W' hB' hd K hK => ?_) ?_; (focus (have g15 : RdN W' v15 a := hd ⟨1, Ground.data⟩ (by simp) rfl _ 15 rfl rfl (by simp); have g17 : RdN W' v17 b := hd ⟨3, Ground.data⟩ (by simp) rfl _ 17 rfl rfl (by simp); clear hd; go_simp; refine (hF.out v15 v17 _ g15 g17).mono ?_; rintro _ _ ⟨v', rfl, hr, hb'⟩; exact hK v' _ hb' hr)); intro v18 _; simp only [Act.put, List.setIfInBounds_toArray, List.set_cons_zero, List.set_cons_succ])
    (refine loose_step_on rfl (fun W' hB' hd K hK => wp_load_block 24 (.tmp 5) rfl (w.heap.size + 2) rfl 24 _ _ (ArrW.below hC0.out hB' (ArrW.lt hC0.out)) uWd rfl iM.out (hK _ _ (Below.refl _ _) rfl)) ?_; rintro _ rfl; simp only [Act.put, List.setIfInBounds_toArray, List.set_cons_zero, List.set_cons_succ])
    (refine loose_step_on rfl (fun W' hB' hd K hK => ?_) ?_; (focus (skip; clear hd; go_simp; refine (hOM.out _).mono ?_; rintro _ _ ⟨v', rfl, hr, hb'⟩; exact hK v' _ hb' hr)); intro v20 _; simp only [Act.put, List.setIfInBounds_toArray, List.set_cons_zero, List.set_cons_succ])
    (refine loose_step_on rfl (fun W' hB' hd K hK => ?_) ?_; (focus (have g18 : RdN W' v18 s := hd ⟨4, Ground.data⟩ (by simp) rfl _ 18 rfl rfl (by simp); have g20 : RdN W' v20 m := hd ⟨6, Ground.data⟩ (by simp) rfl _ 20 rfl rfl (by simp); clear hd; go_simp; refine (hQ.out v18 v20 _ g18 g20).mono ?_; rintro _ _ ⟨v1', v2', rfl, hr1, hr2, hb'⟩; exact hK _ _ hb' ⟨v1', v2', rfl, hr1, hr2⟩)); intro v21 _; simp only [Act.put, List.setIfInBounds_toArray, List.set_cons_zero, List.set_cons_succ])
    (refine loose_step_on rfl (fun W' hB' hd K hK => ?_) ?_; (focus (have g21 : ∃ v1 v2, v21 = .tuple #[v1, v2] ∧ RdN W' v1 (q) ∧ RdN W' v2 (r) := hd ⟨7, Ground.data⟩ (by simp) rfl _ 21 rfl rfl (by simp); clear hd; go_simp; exact hK _ _ (Below.refl _ _) g21)); intro v13 _; simp only [Act.put, List.setIfInBounds_toArray, List.set_cons_zero, List.set_cons_succ])
    (refine loose_step_on rfl (fun W' hB' hd K hK => ?_) ?_; (focus (have g13 : ∃ v1 v2, v13 = .tuple #[v1, v2] ∧ RdN W' v1 (q) ∧ RdN W' v2 (r) := hd ⟨8, Ground.data⟩ (by simp) rfl _ 13 rfl rfl (by simp); clear hd; obtain ⟨x1, x2, rfl, h1, h2⟩ := g13; go_simp; exact hK _ _ (Below.refl _ _) h1)); intro v22 _; simp only [Act.put, List.setIfInBounds_toArray, List.set_cons_zero, List.set_cons_succ])
    (refine loose_step_on rfl (fun W' hB' hd K hK => ?_) ?_; (focus (have g13 : ∃ v1 v2, v13 = .tuple #[v1, v2] ∧ RdN W' v1 (q) ∧ RdN W' v2 (r) := hd ⟨8, Ground.data⟩ (by simp) rfl _ 13 rfl rfl (by simp); clear hd; obtain ⟨x1, x2, rfl, h1, h2⟩ := g13; go_simp; exact hK _ _ (Below.refl _ _) h2)); intro v23 _; simp only [Act.put, List.setIfInBounds_toArray, List.set_cons_zero, List.set_cons_succ])
    (refine loose_step_on rfl (fun W' hB' hd K hK => ?_) ?_; (focus (have g22 : RdN W' v22 q := hd ⟨9, Ground.data⟩ (by simp) rfl _ 22 rfl rfl (by simp); clear hd; go_simp; exact hK _ _ (Below.refl _ _) g22)); intro v7 _; simp only [Act.put, List.setIfInBounds_toArray, List.set_cons_zero, List.set_cons_succ])
    (refine loose_step_on rfl (fun W' hB' hd K hK => ?_) ?_; (focus (have g23 : RdN W' v23 r := hd ⟨10, Ground.data⟩ (by simp) rfl _ 23 rfl rfl (by simp); clear hd; go_simp; exact hK _ _ (Below.refl _ _) g23)); intro v8 _; simp only [Act.put, List.setIfInBounds_toArray, List.set_cons_zero, List.set_cons_succ])
    intro w6 hb6 hf
    have g8 : RdN w6 v8 r := hf 12 _ 8 (by first | omega | simp) rfl rfl (by simp)
    clear hf
    have hC6 := hid (hD0.out.below hb6 hD0.out.lt)
    have hb7 := hb0.trans (hb6.mono hb0.size)
    clear hA0 hB0 hC0 hD0 hb0 hb6
    go_wp2_with fail
    refine (hW.out _ _ g8).mono ?_
    rintro e w8 ⟨rfl, hb8⟩
    have hC8 := hid (hC6.out.below hb8 hC6.out.lt)
    go_wp2_with (refine wpList_store_row rfl 24 (.tmp 6) (.tmp 25) rfl (w.heap.size + 3) _ rfl rfl 24 _ hC8.out iY.out rfl nY.out ?_; simp only [Act.put])
    refine bodyPost_ret (results_cell_row rfl _ _ (w.heap.size + 3) 24 (cellsW r) (0, 0) _ rfl (heap_setRow' _ _ _ _ _ hC8.out) uWd rfl iY.out) rfl ⟨rfl, below_setRow' (hb7.trans (hb8.mono hb7.size)) _ (by omega) _⟩

set_option maxHeartbeats 1000000 in
theorem small_any (x m : Nat) (w : World) (hx : x < 2 ^ 256) (hm : m < 2 ^ 63) : Calls Try.prog 103 #[wd x, .int .i64 (m : Int)] w fun e w' => e = .returned (.int .i64 ((upT x m : Nat) : Int)) ∧ Below w.heap.size w w' := by
  have hl := limbs_sum x hx
  have g0 := lmN_lt x 0
  have g1 := lmN_lt x 1
  have g2 := lmN_lt x 2
  have g3 := lmN_lt x 3
  have q0 := cellsW_at x 0 (by omega)
  have q1 := cellsW_at x 1 (by omega)
  have q2 := cellsW_at x 2 (by omega)
  have q3 := cellsW_at x 3 (by omega)
  have hor : bits .or .u64 (bits .or .u64 (lm x 1) (lm x 2)) (lm x 3) = ((lmN x 1 ||| lmN x 2 ||| lmN x 3 : Nat) : Int) := by
    unfold lm
    rw [u64_or_nat _ _ g1 g2, u64_or_nat _ _ (show lmN x 1 ||| lmN x 2 < 2 ^ 64 from Nat.or_lt_two_pow (n := 64) g1 g2) g3]
  have hz : (lmN x 1 ||| lmN x 2 ||| lmN x 3) = 0 ↔ lmN x 1 = 0 ∧ lmN x 2 = 0 ∧ lmN x 3 = 0 := by
    rw [Nat.or_eq_zero_iff, Nat.or_eq_zero_iff, and_assoc]
  have hb : Below w.heap.size w (w.alloc (.cells (cellsW x) 24)) := (Below.refl _ _).alloc (Nat.le_refl _) _
  by_cases h : lmN x 1 = 0 ∧ lmN x 2 = 0 ∧ lmN x 3 = 0
  · have h1 := hz.2 h
    rw [h1] at hor
    have hx0 : x = lmN x 0 := by obtain ⟨h1, h2, h3⟩ := h; rw [h1, h2, h3] at hl; omega
    have e0 : lm x 0 = (x : Int) := by unfold lm; omega
    rw [e0] at q0
    have hxs : x < 18446744073709551616 := by omega
    by_cases hlt : x < m
    · have HU := hid (show upT x m = x by unfold upT; rw [if_pos hlt])
      have h4 : ¬ m ≤ x := by omega
      rw [HU.out]
      clear hl hz h h1 e0 HU hx hx0
      unfold wd
      go_enter Try.func103, Try.ntmps103
      go_wp2
      go_ret
      exact ⟨rfl, hb⟩
    · have HU := hid (show upT x m = m by unfold upT; rw [if_neg hlt])
      have h4 : m ≤ x := by omega
      rw [HU.out]
      clear hl hz h h1 e0 HU hx hx0
      unfold wd
      go_enter Try.func103, Try.ntmps103
      go_wp2
      go_ret
      exact ⟨rfl, hb⟩
  · have hne : ¬ (lmN x 1 ||| lmN x 2 ||| lmN x 3) = 0 := fun e => h (hz.1 e)
    have hx0 : ¬ x < m := by
      intro hlt
      apply h
      have e : ∀ i, 1 ≤ i → lmN x i = 0 := fun i hi => lmN_hi x i (by
        have h2 : 2 ^ 64 ≤ 2 ^ (64 * i) := Nat.pow_le_pow_right (by omega) (by omega)
        omega)
      exact ⟨e 1 (by omega), e 2 (by omega), e 3 (by omega)⟩
    have HU := hid (show upT x m = m by unfold upT; rw [if_neg hx0])
    rw [HU.out]
    obtain ⟨r, hr⟩ : ∃ r, r = lmN x 1 ||| lmN x 2 ||| lmN x 3 := ⟨_, rfl⟩
    rw [← hr] at hor hne
    clear hl hz h HU hx hx0 hr
    unfold wd
    go_enter Try.func103, Try.ntmps103
    go_wp2
    go_ret
    exact ⟨rfl, hb⟩

set_option maxHeartbeats 1000000 in
theorem rshr_any (n x : Nat) (w : World) (hn : n < 2 ^ 256) (hx : x < 2 ^ 256) : Calls Try.prog 33 #[wd n, wd x] w fun e w' => e = .returned (wd (x / 2 ^ upT n 256)) ∧ Below w.heap.size w w' := by
  have hOX := hid (fun w => of_any x w hx)
  have hU := hid (fun w => small_any n 256 w hn (by omega))
  have hk := upT_le n 256
  obtain ⟨k, hk2⟩ : ∃ k, k = upT n 256 := ⟨_, rfl⟩
  rw [← hk2] at hU hk ⊢
  have hP := hid (fun w => power_any k w (by omega))
  have lx := dg_word_len x hx
  have lp := len_pow k
  have hpos : 0 < 2 ^ k := Nat.pow_pos (by omega)
  have lq : (dg (x / 2 ^ k)).length ≤ 65536 := Nat.le_trans (dg_len_mono _ _ (Nat.div_le_self _ _)) (by omega)
  have hlt : x / 2 ^ k < 2 ^ 256 := Nat.lt_of_le_of_lt (Nat.div_le_self _ _) hx
  have hW := hid (fun v w h => wordN_any (x / 2 ^ k) v w h lq)
  rw [Nat.mod_eq_of_lt hlt] at hW
  have hQ := hid (fun va vb w ha hb => quo_any x (2 ^ k) va vb w ha hb (by omega) (by omega) hpos)
  obtain ⟨y, hy⟩ : ∃ y, y = x / 2 ^ k := ⟨_, rfl⟩
  obtain ⟨r, hr⟩ : ∃ r, r = x % 2 ^ k := ⟨_, rfl⟩
  rw [← hy] at hW hQ ⊢
  rw [← hr] at hQ
  obtain ⟨p, hp⟩ : ∃ p, p = 2 ^ k := ⟨_, rfl⟩
  rw [← hp] at hQ hP
  clear hn hk2 hx hy hr hp hpos lq hlt lp lx
  unfold wd at *
  have iN := hid (iW n)
  have iX := hid (iW x)
  have iY := hid (iW y)
  have nY := hid (one_cellsW y)
  have hA0 := hid (show ArrW 24 (((w.alloc (.cells (cellsW n) 24)).alloc (.cells (cellsW x) 24)).alloc (.cells (cellsW 0) 24)) w.heap.size n from ((ArrW.new _ w n).alloc _).alloc _)
  have hB0 := hid (show ArrW 24 (((w.alloc (.cells (cellsW n) 24)).alloc (.cells (cellsW x) 24)).alloc (.cells (cellsW 0) 24)) (w.heap.size + 1) x by
    have := ArrW.new 24 (w.alloc (.cells (cellsW n) 24)) x
    rw [World.size_alloc] at this; exact this.alloc _)
  have hC0 := hid (show ArrW 24 (((w.alloc (.cells (cellsW n) 24)).alloc (.cells (cellsW x) 24)).alloc (.cells (cellsW 0) 24)) (w.heap.size + 2) 0 by
    have := ArrW.new 24 ((w.alloc (.cells (cellsW n) 24)).alloc (.cells (cellsW x) 24)) 0
    rw [World.size_alloc, World.size_alloc] at this; exact this)
  have hb0 : Below w.heap.size w (((w.alloc (.cells (cellsW n) 24)).alloc (.cells (cellsW x) 24)).alloc (.cells (cellsW 0) 24)) := (((Below.refl _ _).alloc (Nat.le_refl _) _).alloc (by simp) _).alloc (by simp; omega) _
  go_enter Try.func33, Try.ntmps33
  go_wp2_with (refine wpList_alloc_new rfl 24 rfl (cellsW 0) zWd ?_; simp only [Act.put, List.setIfInBounds_toArray, List.set_cons_zero, List.set_cons_succ, World.size_alloc])
  ((try simp only [World.size_alloc]); refine wp_region_loose [.kn (.agg (cellsW (x))), .lo (fun v w => RdN w v (x)), .kn (.agg (cellsW (n))), .kn (.int .i64 (k : Int)), .lo (fun v w => RdN w v (p)), .lo (fun v w => ∃ v1 v2, v = .tuple #[v1, v2] ∧ RdN w v1 (y) ∧ RdN w v2 (r)), .lo (fun v w => ∃ v1 v2, v = .tuple #[v1, v2] ∧ RdN w v1 (y) ∧ RdN w v2 (r)), .lo (fun v w => RdN w v (y)), .lo (fun v w => RdN w v (r)), .lo (fun v w => RdN w v (y)), .lo (fun v w => RdN w v (r))] (by kernel_rfl) (by kernel_rfl) (by kernel_rfl) (by first | exact trivial | ((repeat (first | refine keepsAll_kn ?_ | (refine keepsAll_lo (fun v w w' h hb => ?_) ?_; first | exact RdN.below h hb | exact RdL.below h hb | exact RdY.below h hb | (obtain ⟨b, e, h1⟩ := h; exact ⟨b, e, ArrY.below h1 hb (ArrY.lt h1)⟩) | (obtain ⟨v1, v2, e, h1, h2⟩ := h; exact ⟨v1, v2, e, RdN.below h1 hb, RdN.below h2 hb⟩)))); exact trivial)) ?_)
  (refine loose_step_on rfl (fun W' hB' hd K hK => wp_load_block 24 (.tmp 3) rfl (w.heap.size + 1) rfl 24 _ _ (ArrW.below hB0.out hB' (ArrW.lt hB0.out)) uWd rfl iX.out (hK _ _ (Below.refl _ _) rfl)) ?_; rintro _ rfl; simp only [Act.put, List.setIfInBounds_toArray, List.set_cons_zero, List.set_cons_succ])
  (refine loose_step_on rfl (fun W' hB' hd K hK => ?_) ?_; (focus (skip; clear hd; go_simp; refine (hOX.out _).mono ?_; rintro _ _ ⟨v', rfl, hr, hb'⟩; exact hK v' _ hb' hr)); intro v9 _; simp only [Act.put, List.setIfInBounds_toArray, List.set_cons_zero, List.set_cons_succ])
  (refine loose_step_on rfl (fun W' hB' hd K hK => wp_load_block 24 (.tmp 2) rfl w.heap.size rfl 24 _ _ (ArrW.below hA0.out hB' (ArrW.lt hA0.out)) uWd rfl iN.out (hK _ _ (Below.refl _ _) rfl)) ?_; rintro _ rfl; simp only [Act.put, List.setIfInBounds_toArray, List.set_cons_zero, List.set_cons_succ])
  (refine loose_step_on rfl (fun W' hB' hd K hK => ?_) ?_; (focus (skip; clear hd; go_simp; refine (hU.out _).mono ?_; rintro _ _ ⟨rfl, hb'⟩; exact hK _ _ hb' rfl)); rintro _ rfl; simp only [Act.put, List.setIfInBounds_toArray, List.set_cons_zero, List.set_cons_succ])
  (refine loose_step_on rfl (fun W' hB' hd K hK => ?_) ?_; (focus (skip; clear hd; go_simp; refine (hP.out _).mono ?_; rintro _ _ ⟨v', rfl, hr, hb'⟩; exact hK v' _ hb' hr)); intro v12 _; simp only [Act.put, List.setIfInBounds_toArray, List.set_cons_zero, List.set_cons_succ])
  (refine loose_step_on rfl (fun W' hB' hd K hK => ?_) ?_; (focus (have g9 : RdN W' v9 x := hd ⟨1, Ground.data⟩ (by simp) rfl _ 9 rfl rfl (by simp); have g12 : RdN W' v12 p := hd ⟨4, Ground.data⟩ (by simp) rfl _ 12 rfl rfl (by simp); clear hd; go_simp; refine (hQ.out v9 v12 _ g9 g12).mono ?_; rintro _ _ ⟨v1', v2', rfl, hr1, hr2, hb'⟩; exact hK _ _ hb' ⟨v1', v2', rfl, hr1, hr2⟩)); intro v13 _; simp only [Act.put, List.setIfInBounds_toArray, List.set_cons_zero, List.set_cons_succ])
  (refine loose_step_on rfl (fun W' hB' hd K hK => ?_) ?_; (focus (have g13 : ∃ v1 v2, v13 = .tuple #[v1, v2] ∧ RdN W' v1 (y) ∧ RdN W' v2 (r) := hd ⟨5, Ground.data⟩ (by simp) rfl _ 13 rfl rfl (by simp); clear hd; go_simp; exact hK _ _ (Below.refl _ _) g13)); intro v7 _; simp only [Act.put, List.setIfInBounds_toArray, List.set_cons_zero, List.set_cons_succ])
  (refine loose_step_on rfl (fun W' hB' hd K hK => ?_) ?_; (focus (have g7 : ∃ v1 v2, v7 = .tuple #[v1, v2] ∧ RdN W' v1 (y) ∧ RdN W' v2 (r) := hd ⟨6, Ground.data⟩ (by simp) rfl _ 7 rfl rfl (by simp); clear hd; obtain ⟨x1, x2, rfl, h1, h2⟩ := g7; go_simp; exact hK _ _ (Below.refl _ _) h1)); intro v14 _; simp only [Act.put, List.setIfInBounds_toArray, List.set_cons_zero, List.set_cons_succ])
  (refine loose_step_on rfl (fun W' hB' hd K hK => ?_) ?_; (focus (have g7 : ∃ v1 v2, v7 = .tuple #[v1, v2] ∧ RdN W' v1 (y) ∧ RdN W' v2 (r) := hd ⟨6, Ground.data⟩ (by simp) rfl _ 7 rfl rfl (by simp); clear hd; obtain ⟨x1, x2, rfl, h1, h2⟩ := g7; go_simp; exact hK _ _ (Below.refl _ _) h2)); intro v15 _; simp only [Act.put, List.setIfInBounds_toArray, List.set_cons_zero, List.set_cons_succ])
  (refine loose_step_on rfl (fun W' hB' hd K hK => ?_) ?_; (focus (have g14 : RdN W' v14 y := hd ⟨7, Ground.data⟩ (by simp) rfl _ 14 rfl rfl (by simp); clear hd; go_simp; exact hK _ _ (Below.refl _ _) g14)); intro v5 _; simp only [Act.put, List.setIfInBounds_toArray, List.set_cons_zero, List.set_cons_succ])
  (refine loose_step_on rfl (fun W' hB' hd K hK => ?_) ?_; (focus (have g15 : RdN W' v15 r := hd ⟨8, Ground.data⟩ (by simp) rfl _ 15 rfl rfl (by simp); clear hd; go_simp; exact hK _ _ (Below.refl _ _) g15)); intro v6 _; simp only [Act.put, List.setIfInBounds_toArray, List.set_cons_zero, List.set_cons_succ])
  intro w6 hb6 hf
  have g5 : RdN w6 v5 y := hf 9 _ 5 (by first | omega | simp) rfl rfl (by simp)
  clear hf
  have hC6 := hid (hC0.out.below hb6 hC0.out.lt)
  have hb7 := hb0.trans (hb6.mono hb0.size)
  clear hA0 hB0 hC0 hb0 hb6
  go_wp2_with fail
  refine (hW.out _ _ g5).mono ?_
  rintro e w8 ⟨rfl, hb8⟩
  have hC8 := hid (hC6.out.below hb8 hC6.out.lt)
  go_wp2_with (refine wpList_store_row rfl 24 (.tmp 4) (.tmp 17) rfl (w.heap.size + 2) _ rfl rfl 24 _ hC8.out iY.out rfl nY.out ?_; simp only [Act.put])
  refine bodyPost_ret (results_cell_row rfl _ _ (w.heap.size + 2) 24 (cellsW y) (0, 0) _ rfl (heap_setRow' _ _ _ _ _ hC8.out) uWd rfl iY.out) rfl ⟨rfl, below_setRow' (hb7.trans (hb8.mono hb7.size)) _ (by omega) _⟩
end Go.Proofs.Ytfidbiabgmioaaa

/-! conclaveref01: Neg, Size, Minus, Sdiv, Smod, Shl, Sar, Signext, Scmp. -/
namespace Go.Proofs.Ytfidbiabgmioaaa
open Go.RowKit

theorem rneg_any (a : Nat) (w : World) (h : a < 2 ^ 256) : Calls Try.prog 108 #[wd a] w fun e w' => e = .returned (.bool (negW a)) ∧ Below w.heap.size w w' := by
  rw [← lm_neg a h]
  clear h
  unfold wd cellsW
  go_enter Try.func108, Try.ntmps108
  go_wp2
  go_ret
  exact ⟨rfl, (by repeat (first | (with_reducible first | exact Below.refl _ _ | assumption | refine World.ext_below_of ?_ ?_ _ | refine Below.setCell ?_ ?_ _ | refine Below.alloc ?_ ?_ _ | refine Below.drew ?_ | refine World.size_le_ext _ _ _ ?_) | (solve | simp [go_sem] | (simp [go_sem]; omega) | omega)))⟩
theorem negW_pos {a : Nat} (h : negW a = true) (ha : a < 2 ^ 256) : 2 ^ 256 - a = sizeW a := by
  unfold sizeW subW; rw [if_pos h]
  unfold negW at h
  have := of_decide_eq_true h
  rw [Nat.zero_add]
  exact (Nat.mod_eq_of_lt (by have : 0 < 2 ^ 255 := Nat.pow_pos (by omega); omega)).symm

set_option maxHeartbeats 1000000 in
theorem rsize_any (a : Nat) (w : World) (h : a < 2 ^ 256) : Calls Try.prog 118 #[wd a] w fun e w' => ∃ v', e = .returned v' ∧ RdN w' v' (sizeW a) ∧ Below w.heap.size w w' := by
  have hN := hid (fun w => rneg_any a w h)
  have hO := hid (fun w => of_any a w h)
  have la := dg_word_len a h
  have iA := hid (iW a)
  cases hn : negW a with
  | true =>
    rw [hn] at hN
    have hs := negW_pos hn h
    have hle : a ≤ 2 ^ 256 := Nat.le_of_lt h
    have hP := hid (fun w => power_any 256 w (by omega))
    have lp := len_pow 256
    obtain ⟨s, hs2⟩ : ∃ s, s = sizeW a := ⟨_, rfl⟩
    rw [← hs2] at hs ⊢
    obtain ⟨p, hp⟩ : ∃ p : Nat, p = 2 ^ 256 := ⟨_, rfl⟩
    rw [← hp] at hs hle hP lp
    have hL := hid (fun va vb w ha hb => less_any p a va vb w ha hb (by omega) hle)
    rw [hs] at hL
    clear h hn hs2 hp hle lp hs
    unfold wd at *
    have hA0 := hid (ArrW.new 24 w a)
    have hb0 : Below w.heap.size w (w.alloc (.cells (cellsW a) 24)) := (Below.refl _ _).alloc (Nat.le_refl _) _
    go_enter Try.func118, Try.ntmps118
    go_wp2_with (refine wpList_load_row rfl 24 (.tmp 1) rfl w.heap.size rfl 24 _ (0, 0) _ hA0.out uWd rfl iA.out ?_; simp only [Act.put, List.setIfInBounds_toArray, List.set_cons_zero, List.set_cons_succ])
    refine (hN.out _).mono ?_
    rintro e w1 ⟨rfl, hb1⟩
    have hA1 := hid (hA0.out.below hb1 hA0.out.lt)
    have hb2 := hb0.trans (hb1.mono hb0.size)
    clear hA0 hb0 hb1
    go_wp2_with fail
    ((try simp only [World.size_alloc]); refine wp_region_loose [.lo (fun v w => RdN w v (p)), .kn (.agg (cellsW (a))), .lo (fun v w => RdN w v (a)), .lo (fun v w => RdN w v (s)), .lo (fun v w => RdN w v (s))] (by kernel_rfl) (by kernel_rfl) (by kernel_rfl) (by first | exact trivial | ((repeat (first | refine keepsAll_kn ?_ | (refine keepsAll_lo (fun v w w' h hb => ?_) ?_; first | exact RdN.below h hb | exact RdL.below h hb | exact RdY.below h hb | (obtain ⟨b, e, h1⟩ := h; exact ⟨b, e, ArrY.below h1 hb (ArrY.lt h1)⟩) | (obtain ⟨v1, v2, e, h1, h2⟩ := h; exact ⟨v1, v2, e, RdN.below h1 hb, RdN.below h2 hb⟩)))); exact trivial)) ?_)
    (refine loose_step_on rfl (fun W' hB' hd K hK => ?_) ?_; (focus (skip; clear hd; go_simp; refine (hP.out _).mono ?_; rintro _ _ ⟨v', rfl, hr, hb'⟩; exact hK v' _ hb' hr)); intro v5 _; simp only [Act.put, List.setIfInBounds_toArray, List.set_cons_zero, List.set_cons_succ])
    (refine loose_step_on rfl (fun W' hB' hd K hK => wp_load_block 24 (.tmp 1) rfl w.heap.size rfl 24 _ _ (ArrW.below hA1.out hB' (ArrW.lt hA1.out)) uWd rfl iA.out (hK _ _ (Below.refl _ _) rfl)) ?_; rintro _ rfl; simp only [Act.put, List.setIfInBounds_toArray, List.set_cons_zero, List.set_cons_succ])
    (refine loose_step_on rfl (fun W' hB' hd K hK => ?_) ?_; (focus (skip; clear hd; go_simp; refine (hO.out _).mono ?_; rintro _ _ ⟨v', rfl, hr, hb'⟩; exact hK v' _ hb' hr)); intro v7 _; simp only [Act.put, List.setIfInBounds_toArray, List.set_cons_zero, List.set_cons_succ])
    (refine loose_step_on rfl (fun W' hB' hd K hK => ?_) ?_; (focus (have g5 : RdN W' v5 p := hd ⟨0, Ground.data⟩ (by simp) rfl _ 5 rfl rfl (by simp); have g7 : RdN W' v7 a := hd ⟨2, Ground.data⟩ (by simp) rfl _ 7 rfl rfl (by simp); clear hd; go_simp; refine (hL.out v5 v7 _ g5 g7).mono ?_; rintro _ _ ⟨v', rfl, hr, hb'⟩; exact hK v' _ hb' hr)); intro v8 _; simp only [Act.put, List.setIfInBounds_toArray, List.set_cons_zero, List.set_cons_succ])
    (refine loose_step_on rfl (fun W' hB' hd K hK => ?_) ?_; (focus (have g8 : RdN W' v8 s := hd ⟨3, Ground.data⟩ (by simp) rfl _ 8 rfl rfl (by simp); clear hd; go_simp; exact hK _ _ (Below.refl _ _) g8)); intro v2 _; simp only [Act.put, List.setIfInBounds_toArray, List.set_cons_zero, List.set_cons_succ])
    intro w6 hb6 hf
    have g2 : RdN w6 v2 s := hf 4 _ 2 (by first | omega | simp) rfl rfl (by simp)
    clear hf
    go_wp2
    go_ret
    exact ⟨_, rfl, g2, hb2.trans (hb6.mono hb2.size)⟩
  | false =>
    rw [hn] at hN
    have HS := hid (show sizeW a = a by unfold sizeW; rw [if_neg (by rw [hn]; decide)])
    rw [HS.out]
    clear h hn HS
    unfold wd at *
    have hA0 := hid (ArrW.new 24 w a)
    have hb0 : Below w.heap.size w (w.alloc (.cells (cellsW a) 24)) := (Below.refl _ _).alloc (Nat.le_refl _) _
    go_enter Try.func118, Try.ntmps118
    go_wp2_with (refine wpList_load_row rfl 24 (.tmp 1) rfl w.heap.size rfl 24 _ (0, 0) _ hA0.out uWd rfl iA.out ?_; simp only [Act.put, List.setIfInBounds_toArray, List.set_cons_zero, List.set_cons_succ])
    refine (hN.out _).mono ?_
    rintro e w1 ⟨rfl, hb1⟩
    have hA1 := hid (hA0.out.below hb1 hA0.out.lt)
    have hb2 := hb0.trans (hb1.mono hb0.size)
    clear hA0 hb0 hb1
    go_wp2_with (refine wpList_load_row rfl 24 (.tmp 1) rfl w.heap.size rfl 24 _ (0, 0) _ hA1.out uWd rfl iA.out ?_; simp only [Act.put, List.setIfInBounds_toArray, List.set_cons_zero, List.set_cons_succ])
    refine (hO.out _).mono ?_
    rintro e w2 ⟨v', rfl, hr, hb3⟩
    go_wp2
    go_ret
    exact ⟨_, rfl, hr, hb2.trans (hb3.mono hb2.size)⟩

set_option maxHeartbeats 1000000 in
theorem rminus_any (n : Nat) (v : Value) (w : World) (hv : RdN w v n) (hl : (dg n).length ≤ 65536) : Calls Try.prog 119 #[v] w fun e w' => e = .returned (wd (subW 0 (n % 2 ^ 256))) ∧ Below w.heap.size w w' := by
  have hP := hid (fun w => power_any 256 w (by omega))
  have lp := len_pow 256
  have hpos : 0 < 2 ^ 256 := Nat.pow_pos (by omega)
  have hQ := hid (fun va vb w ha hb => quo_any n (2 ^ 256) va vb w ha hb hl (by omega) hpos)
  have hlt : n % 2 ^ 256 < 2 ^ 256 := Nat.mod_lt _ hpos
  have lr := dg_word_len _ hlt
  have lm : (dg (2 ^ 256 - n % 2 ^ 256)).length ≤ 33 := len_le (Nat.sub_le _ _) lp
  have hW := hid (fun v w h => wordN_any (2 ^ 256 - n % 2 ^ 256) v w h (by omega))
  obtain ⟨y, hy⟩ : ∃ y, y = subW 0 (n % 2 ^ 256) := ⟨_, rfl⟩
  rw [show (2 ^ 256 - n % 2 ^ 256) % 2 ^ 256 = y by rw [hy]; unfold subW; rw [Nat.zero_add]] at hW
  rw [← hy]
  have hL := hid (fun va vb w ha hb => less_any (2 ^ 256) (n % 2 ^ 256) va vb w ha hb (by omega) (Nat.le_of_lt hlt))
  obtain ⟨q, hq⟩ : ∃ q, q = n / 2 ^ 256 := ⟨_, rfl⟩
  obtain ⟨r, hr⟩ : ∃ r, r = n % 2 ^ 256 := ⟨_, rfl⟩
  rw [← hq, ← hr] at hQ
  rw [← hr] at hL hW
  obtain ⟨p, hp⟩ : ∃ p : Nat, p = 2 ^ 256 := ⟨_, rfl⟩
  rw [← hp] at hP hQ hL hW
  clear hy hlt lr lm hpos lp hq hr hp hl
  have HV := hid hv
  clear hv
  unfold wd at *
  have iY := hid (iW y)
  have nY := hid (one_cellsW y)
  have hA0 := hid (ArrW.new 24 w 0)
  have hb0 : Below w.heap.size w (w.alloc (.cells (cellsW 0) 24)) := (Below.refl _ _).alloc (Nat.le_refl _) _
  have hv0 := hid (HV.out.below hb0)
  go_enter Try.func119, Try.ntmps119
  go_wp2_with (refine wpList_alloc_new rfl 24 rfl (cellsW 0) zWd ?_; simp only [Act.put, List.setIfInBounds_toArray, List.set_cons_zero, List.set_cons_succ, World.size_alloc])
  refine (hP.out _).mono ?_
  rintro e w1 ⟨v1, rfl, hr1, hb1⟩
  have hA1 := hid (hA0.out.below hb1 hA0.out.lt)
  have hv1 := hid (hv0.out.below hb1)
  have hb2 := hb0.trans (hb1.mono hb0.size)
  clear hA0 hv0 hb0 hb1
  go_wp2_with fail
  refine (hQ.out _ _ _ hv1.out hr1).mono ?_
  rintro e w2 ⟨v2, v3, rfl, hr2, hr3, hb3⟩
  have hA2 := hid (hA1.out.below hb3 hA1.out.lt)
  have hb4 := hb2.trans (hb3.mono hb2.size)
  clear hA1 hv1 hb2 hb3 hr1 hr2
  go_wp2_with fail
  refine (hP.out _).mono ?_
  rintro e w3 ⟨v4, rfl, hr4, hb5⟩
  have hA3 := hid (hA2.out.below hb5 hA2.out.lt)
  have hr3' := hr3.below hb5
  have hb6 := hb4.trans (hb5.mono hb4.size)
  clear hA2 hb4 hb5 hr3
  go_wp2_with fail
  refine (hL.out _ _ _ hr4 hr3').mono ?_
  rintro e w4 ⟨v5, rfl, hr5, hb7⟩
  have hA4 := hid (hA3.out.below hb7 hA3.out.lt)
  have hb8 := hb6.trans (hb7.mono hb6.size)
  clear hA3 hb6 hb7 hr4 hr3'
  go_wp2_with fail
  refine (hW.out _ _ hr5).mono ?_
  rintro e w5 ⟨rfl, hb9⟩
  have hA5 := hid (hA4.out.below hb9 hA4.out.lt)
  have hb10 := hb8.trans (hb9.mono hb8.size)
  clear hA4 hb8 hb9 hr5
  go_wp2_with (refine wpList_store_row rfl 24 (.tmp 2) (.tmp 14) rfl w.heap.size _ rfl rfl 24 _ hA5.out iY.out rfl nY.out ?_; simp only [Act.put])
  refine bodyPost_ret (results_cell_row rfl _ _ w.heap.size 24 (cellsW y) (0, 0) _ rfl (heap_setRow' _ _ _ _ _ hA5.out) uWd rfl iY.out) rfl ⟨rfl, below_setRow' hb10 _ (by omega) _⟩

/-- Signed quotients, and what is left. -/
def sdivW (a b : Nat) : Nat := signW (sizeW a / sizeW b) (negW a != negW b)
def smodW (a b : Nat) : Nat := signW (modW (sizeW a) (sizeW b)) (negW a)
theorem sizeW_zero : sizeW 0 = 0 := rfl
theorem sizeW_pos {b : Nat} (hb : b < 2 ^ 256) (h : b ≠ 0) : 0 < sizeW b := by
  cases hn : negW b with
  | true => rw [← negW_pos hn hb]; omega
  | false => unfold sizeW; rw [if_neg (by rw [hn]; decide)]; omega
theorem signW_zero (n : Bool) : signW 0 n = 0 := by cases n <;> rfl

set_option maxHeartbeats 2000000 in
theorem rsdiv_any (a b : Nat) (w : World) (ha : a < 2 ^ 256) (hb : b < 2 ^ 256) : Calls Try.prog 67 #[wd a, wd b] w fun e w' => e = .returned (wd (sdivW a b)) ∧ Below w.heap.size w w' := by
  have hOA := hid (fun w => rsize_any a w ha)
  have hOB := hid (fun w => rsize_any b w hb)
  have hNA := hid (fun w => rneg_any a w ha)
  have hNB := hid (fun w => rneg_any b w hb)
  have sa := sizeW_lt a ha
  have sb := sizeW_lt b hb
  have la := dg_word_len _ sa
  have lb := dg_word_len _ sb
  have he : ∀ w, (Op.equalIn 10000 24 (.agg (cellsW b)) (.agg #[.int .u64 0, .int .u64 0, .int .u64 0, .int .u64 0])).run Try.prog w = .ok (decide (b = 0)) w := eq_wd b 0 hb (by decide)
  have iA := hid (iW a)
  have iB := hid (iW b)
  have nB := hid (one_cellsW b)
  by_cases h0 : b = 0
  · have HY := hid (show sdivW a b = b by unfold sdivW; rw [h0, sizeW_zero, Nat.div_zero, signW_zero])
    rw [decide_eq_true h0] at he
    rw [HY.out]
    clear h0 HY hOA hOB hNA hNB la lb sa sb ha hb
    unfold wd
    have hA0 := hid (show ArrW 24 (((w.alloc (.cells (cellsW a) 24)).alloc (.cells (cellsW b) 24)).alloc (.cells (cellsW 0) 24)) w.heap.size a from ((ArrW.new _ w a).alloc _).alloc _)
    have hB0 := hid (show ArrW 24 (((w.alloc (.cells (cellsW a) 24)).alloc (.cells (cellsW b) 24)).alloc (.cells (cellsW 0) 24)) (w.heap.size + 1) b by
      have := ArrW.new 24 (w.alloc (.cells (cellsW a) 24)) b
      rw [World.size_alloc] at this; exact this.alloc _)
    have hC0 := hid (show ArrW 24 (((w.alloc (.cells (cellsW a) 24)).alloc (.cells (cellsW b) 24)).alloc (.cells (cellsW 0) 24)) (w.heap.size + 2) 0 by
      have := ArrW.new 24 ((w.alloc (.cells (cellsW a) 24)).alloc (.cells (cellsW b) 24)) 0
      rw [World.size_alloc, World.size_alloc] at this; exact this)
    have hb0 : Below w.heap.size w (((w.alloc (.cells (cellsW a) 24)).alloc (.cells (cellsW b) 24)).alloc (.cells (cellsW 0) 24)) := (((Below.refl _ _).alloc (Nat.le_refl _) _).alloc (by simp) _).alloc (by simp; omega) _
    go_enter Try.func67, Try.ntmps67
    go_wp2_with (first | (refine wpList_alloc_new rfl 24 rfl (cellsW 0) zWd ?_; simp only [Act.put, List.setIfInBounds_toArray, List.set_cons_zero, List.set_cons_succ, World.size_alloc]) | (refine wpList_load_row rfl 24 (.tmp 3) rfl (w.heap.size + 1) rfl 24 _ (0, 0) _ hB0.out uWd rfl iB.out ?_; simp only [Act.put, List.setIfInBounds_toArray, List.set_cons_zero, List.set_cons_succ]) | (refine wpList_store_row rfl 24 (.tmp 4) (.tmp 10) rfl (w.heap.size + 2) _ rfl rfl 24 _ hC0.out iB.out rfl nB.out ?_; simp only [Act.put]))
    refine bodyPost_ret (results_cell_row rfl _ _ (w.heap.size + 2) 24 (cellsW b) (0, 0) _ rfl (heap_setRow' _ _ _ _ _ hC0.out) uWd rfl iB.out) rfl ⟨rfl, below_setRow' hb0 _ (by omega) _⟩
  · rw [decide_eq_false h0] at he
    have hpos := sizeW_pos hb h0
    have HY := hid (show sdivW a b = signW (sizeW a / sizeW b) (negW a != negW b) from rfl)
    obtain ⟨y, hy⟩ : ∃ y, y = sdivW a b := ⟨_, rfl⟩
    rw [← hy] at HY ⊢
    obtain ⟨A, hA⟩ : ∃ A, A = sizeW a := ⟨_, rfl⟩
    obtain ⟨B, hB⟩ : ∃ B, B = sizeW b := ⟨_, rfl⟩
    obtain ⟨n1, hn1⟩ : ∃ n1, n1 = negW a := ⟨_, rfl⟩
    obtain ⟨n2, hn2⟩ : ∃ n2, n2 = negW b := ⟨_, rfl⟩
    rw [← hA, ← hB, ← hn1, ← hn2] at HY
    rw [← hA] at sa la hOA
    rw [← hB] at sb lb hOB hpos
    rw [← hn1] at hNA
    rw [← hn2] at hNB
    have lq : (dg (A / B)).length ≤ 65536 := Nat.le_trans (dg_len_mono _ _ (Nat.div_le_self _ _)) (by omega)
    have hq : A / B < 2 ^ 256 := Nat.lt_of_le_of_lt (Nat.div_le_self _ _) sa
    have hW := hid (fun v w h => wordN_any (A / B) v w h lq)
    have hM := hid (fun v w h => rminus_any (A / B) v w h lq)
    rw [Nat.mod_eq_of_lt hq] at hW hM
    have hQ := hid (fun va vb w ha hb => quo_any A B va vb w ha hb (by omega) (by omega) hpos)
    obtain ⟨q, hq2⟩ : ∃ q, q = A / B := ⟨_, rfl⟩
    obtain ⟨r, hr2⟩ : ∃ r, r = A % B := ⟨_, rfl⟩
    rw [← hq2, ← hr2] at hQ
    rw [← hq2] at hW hM HY
    clear h0 sa sb la lb hpos lq hq hq2 hr2 ha hb hy hA hB hn1 hn2
    unfold wd at *
    have hA0 := hid (show ArrW 24 (((w.alloc (.cells (cellsW a) 24)).alloc (.cells (cellsW b) 24)).alloc (.cells (cellsW 0) 24)) w.heap.size a from ((ArrW.new _ w a).alloc _).alloc _)
    have hB0 := hid (show ArrW 24 (((w.alloc (.cells (cellsW a) 24)).alloc (.cells (cellsW b) 24)).alloc (.cells (cellsW 0) 24)) (w.heap.size + 1) b by
      have := ArrW.new 24 (w.alloc (.cells (cellsW a) 24)) b
      rw [World.size_alloc] at this; exact this.alloc _)
    have hC0 := hid (show ArrW 24 (((w.alloc (.cells (cellsW a) 24)).alloc (.cells (cellsW b) 24)).alloc (.cells (cellsW 0) 24)) (w.heap.size + 2) 0 by
      have := ArrW.new 24 ((w.alloc (.cells (cellsW a) 24)).alloc (.cells (cellsW b) 24)) 0
      rw [World.size_alloc, World.size_alloc] at this; exact this)
    have hb0 : Below w.heap.size w (((w.alloc (.cells (cellsW a) 24)).alloc (.cells (cellsW b) 24)).alloc (.cells (cellsW 0) 24)) := (((Below.refl _ _).alloc (Nat.le_refl _) _).alloc (by simp) _).alloc (by simp; omega) _
    go_enter Try.func67, Try.ntmps67
    go_wp2_with (first | (refine wpList_alloc_new rfl 24 rfl (cellsW 0) zWd ?_; simp only [Act.put, List.setIfInBounds_toArray, List.set_cons_zero, List.set_cons_succ, World.size_alloc]) | (refine wpList_load_row rfl 24 (.tmp 3) rfl (w.heap.size + 1) rfl 24 _ (0, 0) _ hB0.out uWd rfl iB.out ?_; simp only [Act.put, List.setIfInBounds_toArray, List.set_cons_zero, List.set_cons_succ]))
    ((try simp only [World.size_alloc]); refine wp_region_loose [.kn (.agg (cellsW (a))), .lo (fun v w => RdN w v (A)), .kn (.agg (cellsW (b))), .lo (fun v w => RdN w v (B)), .lo (fun v w => ∃ v1 v2, v = .tuple #[v1, v2] ∧ RdN w v1 (q) ∧ RdN w v2 (r)), .lo (fun v w => ∃ v1 v2, v = .tuple #[v1, v2] ∧ RdN w v1 (q) ∧ RdN w v2 (r)), .lo (fun v w => RdN w v (q)), .lo (fun v w => RdN w v (r)), .lo (fun v w => RdN w v (q)), .lo (fun v w => RdN w v (r))] (by kernel_rfl) (by kernel_rfl) (by kernel_rfl) (by first | exact trivial | ((repeat (first | refine keepsAll_kn ?_ | (refine keepsAll_lo (fun v w w' h hb => ?_) ?_; first | exact RdN.below h hb | exact RdL.below h hb | exact RdY.below h hb | (obtain ⟨b, e, h1⟩ := h; exact ⟨b, e, ArrY.below h1 hb (ArrY.lt h1)⟩) | (obtain ⟨v1, v2, e, h1, h2⟩ := h; exact ⟨v1, v2, e, RdN.below h1 hb, RdN.below h2 hb⟩)))); exact trivial)) ?_)
    (refine loose_step_on rfl (fun W' hB' hd K hK => wp_load_block 24 (.tmp 2) rfl w.heap.size rfl 24 _ _ (ArrW.below hA0.out hB' (ArrW.lt hA0.out)) uWd rfl iA.out (hK _ _ (Below.refl _ _) rfl)) ?_; rintro _ rfl; simp only [Act.put, List.setIfInBounds_toArray, List.set_cons_zero, List.set_cons_succ])
    (refine loose_step_on rfl (fun W' hB' hd K hK => ?_) ?_; (focus (skip; clear hd; go_simp; refine (hOA.out _).mono ?_; rintro _ _ ⟨v', rfl, hr, hb'⟩; exact hK v' _ hb' hr)); intro v13 _; simp only [Act.put, List.setIfInBounds_toArray, List.set_cons_zero, List.set_cons_succ])
    (refine loose_step_on rfl (fun W' hB' hd K hK => wp_load_block 24 (.tmp 3) rfl (w.heap.size + 1) rfl 24 _ _ (ArrW.below hB0.out hB' (ArrW.lt hB0.out)) uWd rfl iB.out (hK _ _ (Below.refl _ _) rfl)) ?_; rintro _ rfl; simp only [Act.put, List.setIfInBounds_toArray, List.set_cons_zero, List.set_cons_succ])
    (refine loose_step_on rfl (fun W' hB' hd K hK => ?_) ?_; (focus (skip; clear hd; go_simp; refine (hOB.out _).mono ?_; rintro _ _ ⟨v', rfl, hr, hb'⟩; exact hK v' _ hb' hr)); intro v15 _; simp only [Act.put, List.setIfInBounds_toArray, List.set_cons_zero, List.set_cons_succ])
    (refine loose_step_on rfl (fun W' hB' hd K hK => ?_) ?_; (focus (have g13 : RdN W' v13 A := hd ⟨1, Ground.data⟩ (by simp) rfl _ 13 rfl rfl (by simp); have g15 : RdN W' v15 B := hd ⟨3, Ground.data⟩ (by simp) rfl _ 15 rfl rfl (by simp); clear hd; go_simp; refine (hQ.out v13 v15 _ g13 g15).mono ?_; rintro _ _ ⟨v1', v2', rfl, hr1, hr2, hb'⟩; exact hK _ _ hb' ⟨v1', v2', rfl, hr1, hr2⟩)); intro v16 _; simp only [Act.put, List.setIfInBounds_toArray, List.set_cons_zero, List.set_cons_succ])
    (refine loose_step_on rfl (fun W' hB' hd K hK => ?_) ?_; (focus (have g16 : ∃ v1 v2, v16 = .tuple #[v1, v2] ∧ RdN W' v1 (q) ∧ RdN W' v2 (r) := hd ⟨4, Ground.data⟩ (by simp) rfl _ 16 rfl rfl (by simp); clear hd; go_simp; exact hK _ _ (Below.refl _ _) g16)); intro v11 _; simp only [Act.put, List.setIfInBounds_toArray, List.set_cons_zero, List.set_cons_succ])
    (refine loose_step_on rfl (fun W' hB' hd K hK => ?_) ?_; (focus (have g11 : ∃ v1 v2, v11 = .tuple #[v1, v2] ∧ RdN W' v1 (q) ∧ RdN W' v2 (r) := hd ⟨5, Ground.data⟩ (by simp) rfl _ 11 rfl rfl (by simp); clear hd; obtain ⟨x1, x2, rfl, h1, h2⟩ := g11; go_simp; exact hK _ _ (Below.refl _ _) h1)); intro v17 _; simp only [Act.put, List.setIfInBounds_toArray, List.set_cons_zero, List.set_cons_succ])
    (refine loose_step_on rfl (fun W' hB' hd K hK => ?_) ?_; (focus (have g11 : ∃ v1 v2, v11 = .tuple #[v1, v2] ∧ RdN W' v1 (q) ∧ RdN W' v2 (r) := hd ⟨5, Ground.data⟩ (by simp) rfl _ 11 rfl rfl (by simp); clear hd; obtain ⟨x1, x2, rfl, h1, h2⟩ := g11; go_simp; exact hK _ _ (Below.refl _ _) h2)); intro v18 _; simp only [Act.put, List.setIfInBounds_toArray, List.set_cons_zero, List.set_cons_succ])
    (refine loose_step_on rfl (fun W' hB' hd K hK => ?_) ?_; (focus (have g17 : RdN W' v17 q := hd ⟨6, Ground.data⟩ (by simp) rfl _ 17 rfl rfl (by simp); clear hd; go_simp; exact hK _ _ (Below.refl _ _) g17)); intro v5 _; simp only [Act.put, List.setIfInBounds_toArray, List.set_cons_zero, List.set_cons_succ])
    (refine loose_step_on rfl (fun W' hB' hd K hK => ?_) ?_; (focus (have g18 : RdN W' v18 r := hd ⟨7, Ground.data⟩ (by simp) rfl _ 18 rfl rfl (by simp); clear hd; go_simp; exact hK _ _ (Below.refl _ _) g18)); intro v6 _; simp only [Act.put, List.setIfInBounds_toArray, List.set_cons_zero, List.set_cons_succ])
    intro w6 hb6 hf
    have g5 : RdN w6 v5 q := hf 8 _ 5 (by first | omega | simp) rfl rfl (by simp)
    clear hf
    have hA6 := hid (hA0.out.below hb6 hA0.out.lt)
    have hB6 := hid (hB0.out.below hb6 hB0.out.lt)
    have hC6 := hid (hC0.out.below hb6 hC0.out.lt)
    have hb7 := hb0.trans (hb6.mono hb0.size)
    clear hA0 hB0 hC0 hb0 hb6
    go_wp2_with fail
    ((try simp only [World.size_alloc]); refine wp_region_ext (by kernel_rfl) (by kernel_rfl) ?_; (try simp only [List.append_eq, List.cons_append, List.nil_append]); (repeat (first | (refine wpQuiet_load_part rfl 24 (.tmp 2) rfl w.heap.size 0 rfl 24 _ (cellsW _) (0, 0) _ hA6.out (fun j v h => by rw [Nat.zero_add]; exact h) uWd rfl iA.out ?_; simp only [Act.put, List.setIfInBounds_toArray, List.set_cons_zero, List.set_cons_succ]) | (refine wpQuiet_load_part rfl 24 (.tmp 3) rfl (w.heap.size + 1) 0 rfl 24 _ (cellsW _) (0, 0) _ hB6.out (fun j v h => by rw [Nat.zero_add]; exact h) uWd rfl iB.out ?_; simp only [Act.put, List.setIfInBounds_toArray, List.set_cons_zero, List.set_cons_succ]) | go_big_quiet_step (first | (go_at_call 108; with_reducible refine Calls.ext_of (hNA.out _)) | (go_at_call 108; with_reducible refine Calls.ext_of (hNB.out _))))); refine wpQuiet_nil ?_; rintro _ ⟨xw, rfl⟩)
    have hC7 := hid (hC6.out.ext xw)
    have hr7 := g5.ext xw
    have hb8 := World.ext_below_of hb7 hb7.size xw
    clear hA6 hB6 hC6 hb7 g5
    generalize w6.ext xw = w7 at hC7 hr7 hb8 ⊢
    have i1 := hid (iW (subW 0 q))
    have i2 := hid (iW q)
    have o1 := hid (one_cellsW (subW 0 q))
    have o2 := hid (one_cellsW q)
    clear hOA hOB hNA hNB hQ he iA iB nB
    cases n1 <;> cases n2
    all_goals
      go_wp2_with fail
      first | refine (hM.out _ _ hr7).mono ?_ | refine (hW.out _ _ hr7).mono ?_
      rintro e w8 ⟨rfl, hb9⟩
      have hC8 := hid (hC7.out.below hb9 hC7.out.lt)
      have hb10 := hb8.trans (hb9.mono hb8.size)
      go_wp2_with (first | (refine wpList_store_row rfl 24 (.tmp 4) (.tmp 25) rfl (w.heap.size + 2) _ rfl rfl 24 _ hC8.out i1.out rfl o1.out ?_; simp only [Act.put]) | (refine wpList_store_row rfl 24 (.tmp 4) (.tmp 27) rfl (w.heap.size + 2) _ rfl rfl 24 _ hC8.out i2.out rfl o2.out ?_; simp only [Act.put]))
      first | (refine bodyPost_ret (results_cell_row rfl _ _ (w.heap.size + 2) 24 (cellsW (subW 0 q)) (0, 0) _ rfl (heap_setRow' _ _ _ _ _ hC8.out) uWd rfl i1.out) rfl ⟨by rw [HY.out]; rfl, below_setRow' hb10 _ (by omega) _⟩) | (refine bodyPost_ret (results_cell_row rfl _ _ (w.heap.size + 2) 24 (cellsW q) (0, 0) _ rfl (heap_setRow' _ _ _ _ _ hC8.out) uWd rfl i2.out) rfl ⟨by rw [HY.out]; rfl, below_setRow' hb10 _ (by omega) _⟩)

set_option maxHeartbeats 2000000 in
theorem rsmod_any (a b : Nat) (w : World) (ha : a < 2 ^ 256) (hb : b < 2 ^ 256) : Calls Try.prog 69 #[wd a, wd b] w fun e w' => e = .returned (wd (smodW a b)) ∧ Below w.heap.size w w' := by
  have hOA := hid (fun w => rsize_any a w ha)
  have hOB := hid (fun w => rsize_any b w hb)
  have hNA := hid (fun w => rneg_any a w ha)
  have sa := sizeW_lt a ha
  have sb := sizeW_lt b hb
  have la := dg_word_len _ sa
  have lb := dg_word_len _ sb
  have he : ∀ w, (Op.equalIn 10000 24 (.agg (cellsW b)) (.agg #[.int .u64 0, .int .u64 0, .int .u64 0, .int .u64 0])).run Try.prog w = .ok (decide (b = 0)) w := eq_wd b 0 hb (by decide)
  have iA := hid (iW a)
  have iB := hid (iW b)
  have nB := hid (one_cellsW b)
  by_cases h0 : b = 0
  · have HY := hid (show smodW a b = b by unfold smodW; rw [h0, sizeW_zero]; unfold modW; rw [if_pos rfl, signW_zero])
    rw [decide_eq_true h0] at he
    rw [HY.out]
    clear h0 HY hOA hOB hNA la lb sa sb ha hb
    unfold wd
    have hA0 := hid (show ArrW 24 (((w.alloc (.cells (cellsW a) 24)).alloc (.cells (cellsW b) 24)).alloc (.cells (cellsW 0) 24)) w.heap.size a from ((ArrW.new _ w a).alloc _).alloc _)
    have hB0 := hid (show ArrW 24 (((w.alloc (.cells (cellsW a) 24)).alloc (.cells (cellsW b) 24)).alloc (.cells (cellsW 0) 24)) (w.heap.size + 1) b by
      have := ArrW.new 24 (w.alloc (.cells (cellsW a) 24)) b
      rw [World.size_alloc] at this; exact this.alloc _)
    have hC0 := hid (show ArrW 24 (((w.alloc (.cells (cellsW a) 24)).alloc (.cells (cellsW b) 24)).alloc (.cells (cellsW 0) 24)) (w.heap.size + 2) 0 by
      have := ArrW.new 24 ((w.alloc (.cells (cellsW a) 24)).alloc (.cells (cellsW b) 24)) 0
      rw [World.size_alloc, World.size_alloc] at this; exact this)
    have hb0 : Below w.heap.size w (((w.alloc (.cells (cellsW a) 24)).alloc (.cells (cellsW b) 24)).alloc (.cells (cellsW 0) 24)) := (((Below.refl _ _).alloc (Nat.le_refl _) _).alloc (by simp) _).alloc (by simp; omega) _
    go_enter Try.func69, Try.ntmps69
    go_wp2_with (first | (refine wpList_alloc_new rfl 24 rfl (cellsW 0) zWd ?_; simp only [Act.put, List.setIfInBounds_toArray, List.set_cons_zero, List.set_cons_succ, World.size_alloc]) | (refine wpList_load_row rfl 24 (.tmp 3) rfl (w.heap.size + 1) rfl 24 _ (0, 0) _ hB0.out uWd rfl iB.out ?_; simp only [Act.put, List.setIfInBounds_toArray, List.set_cons_zero, List.set_cons_succ]) | (refine wpList_store_row rfl 24 (.tmp 4) (.tmp 10) rfl (w.heap.size + 2) _ rfl rfl 24 _ hC0.out iB.out rfl nB.out ?_; simp only [Act.put]))
    refine bodyPost_ret (results_cell_row rfl _ _ (w.heap.size + 2) 24 (cellsW b) (0, 0) _ rfl (heap_setRow' _ _ _ _ _ hC0.out) uWd rfl iB.out) rfl ⟨rfl, below_setRow' hb0 _ (by omega) _⟩
  · rw [decide_eq_false h0] at he
    have hpos := sizeW_pos hb h0
    have HY := hid (show smodW a b = signW (sizeW a % sizeW b) (negW a) by unfold smodW modW; rw [if_neg (by omega)])
    obtain ⟨y, hy⟩ : ∃ y, y = smodW a b := ⟨_, rfl⟩
    rw [← hy] at HY ⊢
    obtain ⟨A, hA⟩ : ∃ A, A = sizeW a := ⟨_, rfl⟩
    obtain ⟨B, hB⟩ : ∃ B, B = sizeW b := ⟨_, rfl⟩
    obtain ⟨n1, hn1⟩ : ∃ n1, n1 = negW a := ⟨_, rfl⟩
    rw [← hA, ← hB, ← hn1] at HY
    rw [← hA] at sa la hOA
    rw [← hB] at sb lb hOB hpos
    rw [← hn1] at hNA
    have lr : (dg (A % B)).length ≤ 65536 := Nat.le_trans (dg_len_mono _ _ (Nat.mod_le _ _)) (by omega)
    have hr : A % B < 2 ^ 256 := Nat.lt_of_le_of_lt (Nat.mod_le _ _) sa
    have hW := hid (fun v w h => wordN_any (A % B) v w h lr)
    have hM := hid (fun v w h => rminus_any (A % B) v w h lr)
    rw [show A % B % 2 ^ 256 = A % B from Nat.mod_eq_of_lt hr] at hW hM
    have hQ := hid (fun va vb w ha hb => quo_any A B va vb w ha hb (by omega) (by omega) hpos)
    obtain ⟨q, hq2⟩ : ∃ q, q = A / B := ⟨_, rfl⟩
    obtain ⟨r, hr2⟩ : ∃ r, r = A % B := ⟨_, rfl⟩
    rw [← hq2, ← hr2] at hQ
    rw [← hr2] at hW hM HY
    clear h0 sa sb la lb hpos lr hr hq2 hr2 ha hb hy hA hB hn1
    unfold wd at *
    have hA0 := hid (show ArrW 24 (((w.alloc (.cells (cellsW a) 24)).alloc (.cells (cellsW b) 24)).alloc (.cells (cellsW 0) 24)) w.heap.size a from ((ArrW.new _ w a).alloc _).alloc _)
    have hB0 := hid (show ArrW 24 (((w.alloc (.cells (cellsW a) 24)).alloc (.cells (cellsW b) 24)).alloc (.cells (cellsW 0) 24)) (w.heap.size + 1) b by
      have := ArrW.new 24 (w.alloc (.cells (cellsW a) 24)) b
      rw [World.size_alloc] at this; exact this.alloc _)
    have hC0 := hid (show ArrW 24 (((w.alloc (.cells (cellsW a) 24)).alloc (.cells (cellsW b) 24)).alloc (.cells (cellsW 0) 24)) (w.heap.size + 2) 0 by
      have := ArrW.new 24 ((w.alloc (.cells (cellsW a) 24)).alloc (.cells (cellsW b) 24)) 0
      rw [World.size_alloc, World.size_alloc] at this; exact this)
    have hb0 : Below w.heap.size w (((w.alloc (.cells (cellsW a) 24)).alloc (.cells (cellsW b) 24)).alloc (.cells (cellsW 0) 24)) := (((Below.refl _ _).alloc (Nat.le_refl _) _).alloc (by simp) _).alloc (by simp; omega) _
    go_enter Try.func69, Try.ntmps69
    go_wp2_with (first | (refine wpList_alloc_new rfl 24 rfl (cellsW 0) zWd ?_; simp only [Act.put, List.setIfInBounds_toArray, List.set_cons_zero, List.set_cons_succ, World.size_alloc]) | (refine wpList_load_row rfl 24 (.tmp 3) rfl (w.heap.size + 1) rfl 24 _ (0, 0) _ hB0.out uWd rfl iB.out ?_; simp only [Act.put, List.setIfInBounds_toArray, List.set_cons_zero, List.set_cons_succ]))
    ((try simp only [World.size_alloc]); refine wp_region_loose [.kn (.agg (cellsW (a))), .lo (fun v w => RdN w v (A)), .kn (.agg (cellsW (b))), .lo (fun v w => RdN w v (B)), .lo (fun v w => ∃ v1 v2, v = .tuple #[v1, v2] ∧ RdN w v1 (q) ∧ RdN w v2 (r)), .lo (fun v w => ∃ v1 v2, v = .tuple #[v1, v2] ∧ RdN w v1 (q) ∧ RdN w v2 (r)), .lo (fun v w => RdN w v (q)), .lo (fun v w => RdN w v (r)), .lo (fun v w => RdN w v (q)), .lo (fun v w => RdN w v (r))] (by kernel_rfl) (by kernel_rfl) (by kernel_rfl) (by first | exact trivial | ((repeat (first | refine keepsAll_kn ?_ | (refine keepsAll_lo (fun v w w' h hb => ?_) ?_; first | exact RdN.below h hb | exact RdL.below h hb | exact RdY.below h hb | (obtain ⟨b, e, h1⟩ := h; exact ⟨b, e, ArrY.below h1 hb (ArrY.lt h1)⟩) | (obtain ⟨v1, v2, e, h1, h2⟩ := h; exact ⟨v1, v2, e, RdN.below h1 hb, RdN.below h2 hb⟩)))); exact trivial)) ?_)
    (refine loose_step_on rfl (fun W' hB' hd K hK => wp_load_block 24 (.tmp 2) rfl w.heap.size rfl 24 _ _ (ArrW.below hA0.out hB' (ArrW.lt hA0.out)) uWd rfl iA.out (hK _ _ (Below.refl _ _) rfl)) ?_; rintro _ rfl; simp only [Act.put, List.setIfInBounds_toArray, List.set_cons_zero, List.set_cons_succ])
    (refine loose_step_on rfl (fun W' hB' hd K hK => ?_) ?_; (focus (skip; clear hd; go_simp; refine (hOA.out _).mono ?_; rintro _ _ ⟨v', rfl, hr, hb'⟩; exact hK v' _ hb' hr)); intro v13 _; simp only [Act.put, List.setIfInBounds_toArray, List.set_cons_zero, List.set_cons_succ])
    (refine loose_step_on rfl (fun W' hB' hd K hK => wp_load_block 24 (.tmp 3) rfl (w.heap.size + 1) rfl 24 _ _ (ArrW.below hB0.out hB' (ArrW.lt hB0.out)) uWd rfl iB.out (hK _ _ (Below.refl _ _) rfl)) ?_; rintro _ rfl; simp only [Act.put, List.setIfInBounds_toArray, List.set_cons_zero, List.set_cons_succ])
    (refine loose_step_on rfl (fun W' hB' hd K hK => ?_) ?_; (focus (skip; clear hd; go_simp; refine (hOB.out _).mono ?_; rintro _ _ ⟨v', rfl, hr, hb'⟩; exact hK v' _ hb' hr)); intro v15 _; simp only [Act.put, List.setIfInBounds_toArray, List.set_cons_zero, List.set_cons_succ])
    (refine loose_step_on rfl (fun W' hB' hd K hK => ?_) ?_; (focus (have g13 : RdN W' v13 A := hd ⟨1, Ground.data⟩ (by simp) rfl _ 13 rfl rfl (by simp); have g15 : RdN W' v15 B := hd ⟨3, Ground.data⟩ (by simp) rfl _ 15 rfl rfl (by simp); clear hd; go_simp; refine (hQ.out v13 v15 _ g13 g15).mono ?_; rintro _ _ ⟨v1', v2', rfl, hr1, hr2, hb'⟩; exact hK _ _ hb' ⟨v1', v2', rfl, hr1, hr2⟩)); intro v16 _; simp only [Act.put, List.setIfInBounds_toArray, List.set_cons_zero, List.set_cons_succ])
    (refine loose_step_on rfl (fun W' hB' hd K hK => ?_) ?_; (focus (have g16 : ∃ v1 v2, v16 = .tuple #[v1, v2] ∧ RdN W' v1 (q) ∧ RdN W' v2 (r) := hd ⟨4, Ground.data⟩ (by simp) rfl _ 16 rfl rfl (by simp); clear hd; go_simp; exact hK _ _ (Below.refl _ _) g16)); intro v11 _; simp only [Act.put, List.setIfInBounds_toArray, List.set_cons_zero, List.set_cons_succ])
    (refine loose_step_on rfl (fun W' hB' hd K hK => ?_) ?_; (focus (have g11 : ∃ v1 v2, v11 = .tuple #[v1, v2] ∧ RdN W' v1 (q) ∧ RdN W' v2 (r) := hd ⟨5, Ground.data⟩ (by simp) rfl _ 11 rfl rfl (by simp); clear hd; obtain ⟨x1, x2, rfl, h1, h2⟩ := g11; go_simp; exact hK _ _ (Below.refl _ _) h1)); intro v17 _; simp only [Act.put, List.setIfInBounds_toArray, List.set_cons_zero, List.set_cons_succ])
    (refine loose_step_on rfl (fun W' hB' hd K hK => ?_) ?_; (focus (have g11 : ∃ v1 v2, v11 = .tuple #[v1, v2] ∧ RdN W' v1 (q) ∧ RdN W' v2 (r) := hd ⟨5, Ground.data⟩ (by simp) rfl _ 11 rfl rfl (by simp); clear hd; obtain ⟨x1, x2, rfl, h1, h2⟩ := g11; go_simp; exact hK _ _ (Below.refl _ _) h2)); intro v18 _; simp only [Act.put, List.setIfInBounds_toArray, List.set_cons_zero, List.set_cons_succ])
    (refine loose_step_on rfl (fun W' hB' hd K hK => ?_) ?_; (focus (have g17 : RdN W' v17 q := hd ⟨6, Ground.data⟩ (by simp) rfl _ 17 rfl rfl (by simp); clear hd; go_simp; exact hK _ _ (Below.refl _ _) g17)); intro v5 _; simp only [Act.put, List.setIfInBounds_toArray, List.set_cons_zero, List.set_cons_succ])
    (refine loose_step_on rfl (fun W' hB' hd K hK => ?_) ?_; (focus (have g18 : RdN W' v18 r := hd ⟨7, Ground.data⟩ (by simp) rfl _ 18 rfl rfl (by simp); clear hd; go_simp; exact hK _ _ (Below.refl _ _) g18)); intro v6 _; simp only [Act.put, List.setIfInBounds_toArray, List.set_cons_zero, List.set_cons_succ])
    intro w6 hb6 hf
    have g6 : RdN w6 v6 r := hf 9 _ 6 (by first | omega | simp) rfl rfl (by simp)
    clear hf
    have hA6 := hid (hA0.out.below hb6 hA0.out.lt)
    have hC6 := hid (hC0.out.below hb6 hC0.out.lt)
    have hb7 := hb0.trans (hb6.mono hb0.size)
    clear hA0 hB0 hC0 hb0 hb6
    go_wp2_with (refine wpList_load_row rfl 24 (.tmp 2) rfl w.heap.size rfl 24 _ (0, 0) _ hA6.out uWd rfl iA.out ?_; simp only [Act.put, List.setIfInBounds_toArray, List.set_cons_zero, List.set_cons_succ])
    refine (hNA.out _).mono ?_
    rintro e w7 ⟨rfl, hb8⟩
    have hC7 := hid (hC6.out.below hb8 hC6.out.lt)
    have hr7 := g6.below hb8
    have hb9 := hb7.trans (hb8.mono hb7.size)
    clear hA6 hC6 hb7 g6 hb8
    have i1 := hid (iW (subW 0 r))
    have i2 := hid (iW r)
    have o1 := hid (one_cellsW (subW 0 r))
    have o2 := hid (one_cellsW r)
    clear hOA hOB hNA hQ he iA iB nB
    cases n1
    all_goals
      go_wp2_with fail
      first | refine (hM.out _ _ hr7).mono ?_ | refine (hW.out _ _ hr7).mono ?_
      rintro e w8 ⟨rfl, hb10⟩
      have hC8 := hid (hC7.out.below hb10 hC7.out.lt)
      have hb11 := hb9.trans (hb10.mono hb9.size)
      go_wp2_with (first | (refine wpList_store_row rfl 24 (.tmp 4) (.tmp 22) rfl (w.heap.size + 2) _ rfl rfl 24 _ hC8.out i1.out rfl o1.out ?_; simp only [Act.put]) | (refine wpList_store_row rfl 24 (.tmp 4) (.tmp 24) rfl (w.heap.size + 2) _ rfl rfl 24 _ hC8.out i2.out rfl o2.out ?_; simp only [Act.put]))
      first | (refine bodyPost_ret (results_cell_row rfl _ _ (w.heap.size + 2) 24 (cellsW (subW 0 r)) (0, 0) _ rfl (heap_setRow' _ _ _ _ _ hC8.out) uWd rfl i1.out) rfl ⟨by rw [HY.out]; rfl, below_setRow' hb11 _ (by omega) _⟩) | (refine bodyPost_ret (results_cell_row rfl _ _ (w.heap.size + 2) 24 (cellsW r) (0, 0) _ rfl (heap_setRow' _ _ _ _ _ hC8.out) uWd rfl i2.out) rfl ⟨by rw [HY.out]; rfl, below_setRow' hb11 _ (by omega) _⟩)
end Go.Proofs.Ytfidbiabgmioaaa

/-! conclaveref01: Shl, Sar, Signext, Scmp. -/
namespace Go.Proofs.Ytfidbiabgmioaaa
open Go.RowKit

set_option maxHeartbeats 1000000 in
theorem rshl_any (n x : Nat) (w : World) (hn : n < 2 ^ 256) (hx : x < 2 ^ 256) : Calls Try.prog 31 #[wd n, wd x] w fun e w' => e = .returned (wd (x * 2 ^ upT n 256 % 2 ^ 256)) ∧ Below w.heap.size w w' := by
  have hOX := hid (fun w => of_any x w hx)
  have hU := hid (fun w => small_any n 256 w hn (by omega))
  have hk := upT_le n 256
  obtain ⟨k, hk2⟩ : ∃ k, k = upT n 256 := ⟨_, rfl⟩
  rw [← hk2] at hU hk ⊢
  have iN := hid (iW n)
  have iX := hid (iW x)
  by_cases h256 : k = 256
  · have HY := hid (show x * 2 ^ k % 2 ^ 256 = 0 by rw [h256]; exact Nat.mul_mod_left _ _)
    rw [HY.out]
    have iY := hid (iW 0)
    have nY := hid (one_cellsW 0)
    have b0 : Try.prog.built 24 [] = some (cellsW 0) := by kernel_rfl
    clear HY hOX hx hn hk2 hk
    unfold wd at *
    have hA0 := hid (show ArrW 24 (((w.alloc (.cells (cellsW n) 24)).alloc (.cells (cellsW x) 24)).alloc (.cells (cellsW 0) 24)) w.heap.size n from ((ArrW.new _ w n).alloc _).alloc _)
    have hB0 := hid (show ArrW 24 (((w.alloc (.cells (cellsW n) 24)).alloc (.cells (cellsW x) 24)).alloc (.cells (cellsW 0) 24)) (w.heap.size + 1) x by
      have := ArrW.new 24 (w.alloc (.cells (cellsW n) 24)) x
      rw [World.size_alloc] at this; exact this.alloc _)
    have hC0 := hid (show ArrW 24 (((w.alloc (.cells (cellsW n) 24)).alloc (.cells (cellsW x) 24)).alloc (.cells (cellsW 0) 24)) (w.heap.size + 2) 0 by
      have := ArrW.new 24 ((w.alloc (.cells (cellsW n) 24)).alloc (.cells (cellsW x) 24)) 0
      rw [World.size_alloc, World.size_alloc] at this; exact this)
    have hb0 : Below w.heap.size w (((w.alloc (.cells (cellsW n) 24)).alloc (.cells (cellsW x) 24)).alloc (.cells (cellsW 0) 24)) := (((Below.refl _ _).alloc (Nat.le_refl _) _).alloc (by simp) _).alloc (by simp; omega) _
    go_enter Try.func31, Try.ntmps31
    go_wp2_with (first | (refine wpList_alloc_new rfl 24 rfl (cellsW 0) zWd ?_; simp only [Act.put, List.setIfInBounds_toArray, List.set_cons_zero, List.set_cons_succ, World.size_alloc]) | (refine wpList_load_row rfl 24 (.tmp 2) rfl w.heap.size rfl 24 _ (0, 0) _ hA0.out uWd rfl iN.out ?_; simp only [Act.put, List.setIfInBounds_toArray, List.set_cons_zero, List.set_cons_succ]))
    refine (hU.out _).mono ?_
    rintro e w1 ⟨rfl, hb1⟩
    have hC1 := hid (hC0.out.below hb1 hC0.out.lt)
    have hb2 := hb0.trans (hb1.mono hb0.size)
    clear hA0 hB0 hC0 hb0 hb1
    go_wp2_with (refine wpList_store_row rfl 24 (.tmp 4) (.tmp 10) rfl (w.heap.size + 2) _ rfl rfl 24 _ hC1.out iY.out rfl nY.out ?_; simp only [Act.put])
    refine bodyPost_ret (results_cell_row rfl _ _ (w.heap.size + 2) 24 (cellsW 0) (0, 0) _ rfl (heap_setRow' _ _ _ _ _ hC1.out) uWd rfl iY.out) rfl ⟨rfl, below_setRow' hb2 _ (by omega) _⟩
  · have hP := hid (fun w => power_any k w (by omega))
    have lx := dg_word_len x hx
    have lp := len_pow k
    have lm := len_mul lx lp
    have hM := hid (fun va vb w ha hb => times_any x (2 ^ k) va vb w ha hb (by omega) (by omega))
    have hW := hid (fun v w h => wordN_any (x * 2 ^ k) v w h (by omega))
    have hne : ¬ (k : Int) = 256 := by omega
    obtain ⟨y, hy⟩ : ∃ y, y = x * 2 ^ k % 2 ^ 256 := ⟨_, rfl⟩
    rw [← hy] at hW ⊢
    obtain ⟨m, hm⟩ : ∃ m, m = x * 2 ^ k := ⟨_, rfl⟩
    rw [← hm] at hW hM
    obtain ⟨p, hp⟩ : ∃ p, p = 2 ^ k := ⟨_, rfl⟩
    rw [← hp] at hM hP
    clear hn hk2 hx hy hm hp lm lp lx h256 hk
    unfold wd at *
    have iY := hid (iW y)
    have nY := hid (one_cellsW y)
    have hA0 := hid (show ArrW 24 (((w.alloc (.cells (cellsW n) 24)).alloc (.cells (cellsW x) 24)).alloc (.cells (cellsW 0) 24)) w.heap.size n from ((ArrW.new _ w n).alloc _).alloc _)
    have hB0 := hid (show ArrW 24 (((w.alloc (.cells (cellsW n) 24)).alloc (.cells (cellsW x) 24)).alloc (.cells (cellsW 0) 24)) (w.heap.size + 1) x by
      have := ArrW.new 24 (w.alloc (.cells (cellsW n) 24)) x
      rw [World.size_alloc] at this; exact this.alloc _)
    have hC0 := hid (show ArrW 24 (((w.alloc (.cells (cellsW n) 24)).alloc (.cells (cellsW x) 24)).alloc (.cells (cellsW 0) 24)) (w.heap.size + 2) 0 by
      have := ArrW.new 24 ((w.alloc (.cells (cellsW n) 24)).alloc (.cells (cellsW x) 24)) 0
      rw [World.size_alloc, World.size_alloc] at this; exact this)
    have hb0 : Below w.heap.size w (((w.alloc (.cells (cellsW n) 24)).alloc (.cells (cellsW x) 24)).alloc (.cells (cellsW 0) 24)) := (((Below.refl _ _).alloc (Nat.le_refl _) _).alloc (by simp) _).alloc (by simp; omega) _
    go_enter Try.func31, Try.ntmps31
    go_wp2_with (first | (refine wpList_alloc_new rfl 24 rfl (cellsW 0) zWd ?_; simp only [Act.put, List.setIfInBounds_toArray, List.set_cons_zero, List.set_cons_succ, World.size_alloc]) | (refine wpList_load_row rfl 24 (.tmp 2) rfl w.heap.size rfl 24 _ (0, 0) _ hA0.out uWd rfl iN.out ?_; simp only [Act.put, List.setIfInBounds_toArray, List.set_cons_zero, List.set_cons_succ]))
    refine (hU.out _).mono ?_
    rintro e w1 ⟨rfl, hb1⟩
    have hB1 := hid (hB0.out.below hb1 hB0.out.lt)
    have hC1 := hid (hC0.out.below hb1 hC0.out.lt)
    have hb2 := hb0.trans (hb1.mono hb0.size)
    clear hA0 hB0 hC0 hb0 hb1
    go_wp2_with (refine wpList_load_row rfl 24 (.tmp 3) rfl (w.heap.size + 1) rfl 24 _ (0, 0) _ hB1.out uWd rfl iX.out ?_; simp only [Act.put, List.setIfInBounds_toArray, List.set_cons_zero, List.set_cons_succ])
    refine (hOX.out _).mono ?_
    rintro e w2 ⟨v1, rfl, hr1, hb3⟩
    have hC2 := hid (hC1.out.below hb3 hC1.out.lt)
    have hb4 := hb2.trans (hb3.mono hb2.size)
    clear hB1 hC1 hb2 hb3
    go_wp2_with fail
    refine (hP.out _).mono ?_
    rintro e w3 ⟨v2, rfl, hr2, hb5⟩
    have hC3 := hid (hC2.out.below hb5 hC2.out.lt)
    have hr1' := hr1.below hb5
    have hb6 := hb4.trans (hb5.mono hb4.size)
    clear hC2 hb4 hb5 hr1
    go_wp2_with fail
    refine (hM.out _ _ _ hr1' hr2).mono ?_
    rintro e w4 ⟨v3, rfl, hr3, hb7⟩
    have hC4 := hid (hC3.out.below hb7 hC3.out.lt)
    have hb8 := hb6.trans (hb7.mono hb6.size)
    clear hC3 hb6 hb7 hr1' hr2
    go_wp2_with fail
    refine (hW.out _ _ hr3).mono ?_
    rintro e w5 ⟨rfl, hb9⟩
    have hC5 := hid (hC4.out.below hb9 hC4.out.lt)
    have hb10 := hb8.trans (hb9.mono hb8.size)
    clear hC4 hb8 hb9 hr3
    go_wp2_with (refine wpList_store_row rfl 24 (.tmp 4) (.tmp 16) rfl (w.heap.size + 2) _ rfl rfl 24 _ hC5.out iY.out rfl nY.out ?_; simp only [Act.put])
    refine bodyPost_ret (results_cell_row rfl _ _ (w.heap.size + 2) 24 (cellsW y) (0, 0) _ rfl (heap_setRow' _ _ _ _ _ hC5.out) uWd rfl iY.out) rfl ⟨rfl, below_setRow' hb10 _ (by omega) _⟩

theorem ArrW.step {t : TypeId} {w w' : World} {b x : Nat} (h : ArrW t w b x) (hb : Below w.heap.size w w') : ArrW t w' b x := h.below hb h.lt
theorem onesW_eq : onesW + 1 = 2 ^ 256 * 2 ^ 64 := by
  rw [show (2 : Nat) ^ 256 = 115792089237316195423570985008687907853269984665640564039457584007913129639936 from by decide, show (2 : Nat) ^ 64 = 18446744073709551616 from by decide]
  rfl
/-- Shifted down with the sign, as the document has it. -/
theorem sarW_ref (x k : Nat) (hk : k ≤ 256) (hn : negW x = true) : (x / 2 ^ k + (2 ^ 256 - 2 ^ (256 - k))) % 2 ^ 256 = sarW x k := by
  unfold sarW
  rw [if_pos hn]
  have e1 : (2 : Nat) ^ 256 = 2 ^ k * 2 ^ (256 - k) := by rw [← Nat.pow_add]; congr 1; omega
  have e2 : (x + 2 ^ 256 * onesW) / 2 ^ k = x / 2 ^ k + 2 ^ (256 - k) * onesW := by
    rw [e1, Nat.mul_assoc, Nat.add_mul_div_left _ _ (Nat.pow_pos (by omega))]
  rw [e2]
  have h1 : 2 ^ (256 - k) ≤ 2 ^ 256 := Nat.pow_le_pow_right (by omega) (by omega)
  have hp : 0 < 2 ^ (256 - k) := Nat.pow_pos (by omega)
  have e3 : 2 ^ (256 - k) * onesW + 2 ^ (256 - k) = 2 ^ 256 * (2 ^ (256 - k) * 2 ^ 64) := by
    rw [← Nat.mul_succ, Nat.succ_eq_add_one, onesW_eq, Nat.mul_left_comm]
  have e4 : 1 ≤ 2 ^ (256 - k) * 2 ^ 64 := Nat.mul_pos hp (by decide)
  obtain ⟨t, ht⟩ : ∃ t, 2 ^ (256 - k) * 2 ^ 64 = t + 1 := ⟨2 ^ (256 - k) * 2 ^ 64 - 1, by omega⟩
  rw [ht, Nat.mul_add, Nat.mul_one] at e3
  have e5 : x / 2 ^ k + 2 ^ (256 - k) * onesW = x / 2 ^ k + (2 ^ 256 - 2 ^ (256 - k)) + 2 ^ 256 * t := by omega
  rw [e5, Nat.add_mul_mod_self_left]

set_option maxHeartbeats 1000000 in
theorem rsar_any (n x : Nat) (w : World) (hn : n < 2 ^ 256) (hx : x < 2 ^ 256) : Calls Try.prog 35 #[wd n, wd x] w fun e w' => e = .returned (wd (sarW x (upT n 256))) ∧ Below w.heap.size w w' := by
  have hU := hid (fun w => small_any n 256 w hn (by omega))
  have hSh := hid (fun w => rshr_any n x w hn hx)
  have hN := hid (fun w => rneg_any x w hx)
  have hk := upT_le n 256
  obtain ⟨k, hk2⟩ : ∃ k, k = upT n 256 := ⟨_, rfl⟩
  rw [← hk2] at hU hk hSh ⊢
  have iN := hid (iW n)
  have iX := hid (iW x)
  have hzl : x / 2 ^ k < 2 ^ 256 := Nat.lt_of_le_of_lt (Nat.div_le_self _ _) hx
  obtain ⟨z, hz⟩ : ∃ z, z = x / 2 ^ k := ⟨_, rfl⟩
  rw [← hz] at hSh hzl
  have iZ := hid (iW z)
  have nZ := hid (one_cellsW z)
  cases hs : negW x with
  | false =>
    have HY := hid (show sarW x k = z by unfold sarW; rw [if_neg (by rw [hs]; decide), hz])
    rw [hs] at hN
    rw [HY.out]
    clear HY hs hzl hz hk hk2 hn hx
    unfold wd at *
    have hA0 := hid (show ArrW 24 (((w.alloc (.cells (cellsW n) 24)).alloc (.cells (cellsW x) 24)).alloc (.cells (cellsW 0) 24)) w.heap.size n from ((ArrW.new _ w n).alloc _).alloc _)
    have hB0 := hid (show ArrW 24 (((w.alloc (.cells (cellsW n) 24)).alloc (.cells (cellsW x) 24)).alloc (.cells (cellsW 0) 24)) (w.heap.size + 1) x by
      have := ArrW.new 24 (w.alloc (.cells (cellsW n) 24)) x
      rw [World.size_alloc] at this; exact this.alloc _)
    have hC0 := hid (show ArrW 24 (((w.alloc (.cells (cellsW n) 24)).alloc (.cells (cellsW x) 24)).alloc (.cells (cellsW 0) 24)) (w.heap.size + 2) 0 by
      have := ArrW.new 24 ((w.alloc (.cells (cellsW n) 24)).alloc (.cells (cellsW x) 24)) 0
      rw [World.size_alloc, World.size_alloc] at this; exact this)
    have hb0 : Below w.heap.size w (((w.alloc (.cells (cellsW n) 24)).alloc (.cells (cellsW x) 24)).alloc (.cells (cellsW 0) 24)) := (((Below.refl _ _).alloc (Nat.le_refl _) _).alloc (by simp) _).alloc (by simp; omega) _
    go_enter Try.func35, Try.ntmps35
    go_wp2_with (first | (refine wpList_alloc_new rfl 24 rfl (cellsW 0) zWd ?_; simp only [Act.put, List.setIfInBounds_toArray, List.set_cons_zero, List.set_cons_succ, World.size_alloc]) | (refine wpList_load_row rfl 24 (.tmp 2) rfl w.heap.size rfl 24 _ (0, 0) _ hA0.out uWd rfl iN.out ?_; simp only [Act.put, List.setIfInBounds_toArray, List.set_cons_zero, List.set_cons_succ]))
    refine (hU.out _).mono ?_
    rintro e w1 ⟨rfl, hb1⟩
    have hA1 := hid (hA0.out.below hb1 hA0.out.lt)
    have hB1 := hid (hB0.out.below hb1 hB0.out.lt)
    have hC1 := hid (hC0.out.below hb1 hC0.out.lt)
    have hb2 := hb0.trans (hb1.mono hb0.size)
    clear hA0 hB0 hC0 hb0 hb1
    go_wp2_with (first | (refine wpList_load_row rfl 24 (.tmp 2) rfl w.heap.size rfl 24 _ (0, 0) _ hA1.out uWd rfl iN.out ?_; simp only [Act.put, List.setIfInBounds_toArray, List.set_cons_zero, List.set_cons_succ]) | (refine wpList_load_row rfl 24 (.tmp 3) rfl (w.heap.size + 1) rfl 24 _ (0, 0) _ hB1.out uWd rfl iX.out ?_; simp only [Act.put, List.setIfInBounds_toArray, List.set_cons_zero, List.set_cons_succ]))
    refine (hSh.out _).mono ?_
    rintro e w2 ⟨rfl, hb3⟩
    have hB2 := hid ((hB1.out.below hb3 hB1.out.lt).alloc (.cells (cellsW z) 24))
    have hC2 := hid ((hC1.out.below hb3 hC1.out.lt).alloc (.cells (cellsW z) 24))
    have hD2 := hid (ArrW.new 24 w2 z)
    have hb4 := hb2.trans (hb3.mono hb2.size)
    have hb5 := hb4.alloc hb4.size (.cells (cellsW z) 24)
    have hsz : w.heap.size + 3 ≤ w2.heap.size := by have h1 := (hC1.out.below hb3 hC1.out.lt).lt; omega
    clear hA1 hB1 hC1 hb2 hb3
    go_wp2_with (first | (refine wpList_allocStore 24 11 6 (cellsW z) (cellsW 0) rfl rfl rfl rfl rfl rfl (by decide) (by simp) rfl (by kernel_rfl) rfl iZ.out nZ.out ?_; simp only [Act.put, List.setIfInBounds_toArray, List.set_cons_zero, List.set_cons_succ]) | (refine wpList_load_row rfl 24 (.tmp 3) rfl (w.heap.size + 1) rfl 24 _ (0, 0) _ hB2.out uWd rfl iX.out ?_; simp only [Act.put, List.setIfInBounds_toArray, List.set_cons_zero, List.set_cons_succ]))
    refine (hN.out _).mono ?_
    rintro e w3 ⟨rfl, hb6⟩
    have hC3 := hid (hC2.out.below hb6 hC2.out.lt)
    have hD3 := hid (hD2.out.below hb6 hD2.out.lt)
    have hb7 := hb5.trans (hb6.mono hb5.size)
    clear hB2 hC2 hD2 hb5 hb6
    go_wp2_with (first | (refine wpList_load_row rfl 24 (.tmp 6) rfl w2.heap.size rfl 24 _ (0, 0) _ hD3.out uWd rfl iZ.out ?_; simp only [Act.put, List.setIfInBounds_toArray, List.set_cons_zero, List.set_cons_succ]) | (refine wpList_store_row rfl 24 (.tmp 4) (.tmp 23) rfl (w.heap.size + 2) _ rfl rfl 24 _ hC3.out iZ.out rfl nZ.out ?_; simp only [Act.put]))
    refine bodyPost_ret (results_cell_row rfl _ _ (w.heap.size + 2) 24 (cellsW z) (0, 0) _ rfl (heap_setRow' _ _ _ _ _ hC3.out) uWd rfl iZ.out) rfl ⟨rfl, below_setRow' hb7 _ (by omega) _⟩
  | true =>
    have hOf := hid (fun w => of_any z w hzl)
    have hP1 := hid (fun w => power_any 256 w (by omega))
    have hP2 := hid (fun w => power_any (256 - k) w (by omega))
    have l1 := len_pow 256
    have l2 := len_pow (256 - k)
    have lz := dg_word_len z hzl
    have hle : 2 ^ (256 - k) ≤ 2 ^ 256 := Nat.pow_le_pow_right (by omega) (by omega)
    have hL := hid (fun va vb w ha hb => less_any (2 ^ 256) (2 ^ (256 - k)) va vb w ha hb (by omega) hle)
    have ld : (dg (2 ^ 256 - 2 ^ (256 - k))).length ≤ 33 := len_le (Nat.sub_le _ _) l1
    have ls := len_add (Nat.le_trans lz (by omega : _ ≤ 33)) ld
    have hS := hid (fun va vb w ha hb => plus_any z (2 ^ 256 - 2 ^ (256 - k)) va vb w ha hb (by omega) (by omega))
    have hW := hid (fun v w h => wordN_any (z + (2 ^ 256 - 2 ^ (256 - k))) v w h (by omega))
    have hy := sarW_ref x k hk hs
    rw [← hz] at hy
    rw [hy] at hW
    obtain ⟨y, hy2⟩ : ∃ y, y = sarW x k := ⟨_, rfl⟩
    rw [← hy2] at hW ⊢
    obtain ⟨d, hd⟩ : ∃ d, d = 2 ^ 256 - 2 ^ (256 - k) := ⟨_, rfl⟩
    rw [← hd] at hW hS hL
    obtain ⟨p1, hp1⟩ : ∃ p : Nat, p = 2 ^ 256 := ⟨_, rfl⟩
    rw [← hp1] at hP1 hL
    obtain ⟨p2, hp2⟩ : ∃ p, p = 2 ^ (256 - k) := ⟨_, rfl⟩
    rw [← hp2] at hP2 hL
    obtain ⟨s, hs2⟩ : ∃ s, s = z + d := ⟨_, rfl⟩
    rw [← hs2] at hS hW
    rw [hs] at hN
    obtain ⟨j, hj⟩ : ∃ j, j = 256 - k := ⟨_, rfl⟩
    rw [← hj] at hP2
    have ej : (256 - (k : Int)) = (j : Int) := by omega
    clear hn hx hk hk2 hz hzl hs l1 l2 lz hle ld ls hy hy2 hd hp1 hp2 hs2 hj
    have iY := hid (iW y)
    have nY := hid (one_cellsW y)
    unfold wd at *
    have hA0 := hid (show ArrW 24 (((w.alloc (.cells (cellsW n) 24)).alloc (.cells (cellsW x) 24)).alloc (.cells (cellsW 0) 24)) w.heap.size n from ((ArrW.new _ w n).alloc _).alloc _)
    have hB0 := hid (show ArrW 24 (((w.alloc (.cells (cellsW n) 24)).alloc (.cells (cellsW x) 24)).alloc (.cells (cellsW 0) 24)) (w.heap.size + 1) x by
      have := ArrW.new 24 (w.alloc (.cells (cellsW n) 24)) x
      rw [World.size_alloc] at this; exact this.alloc _)
    have hC0 := hid (show ArrW 24 (((w.alloc (.cells (cellsW n) 24)).alloc (.cells (cellsW x) 24)).alloc (.cells (cellsW 0) 24)) (w.heap.size + 2) 0 by
      have := ArrW.new 24 ((w.alloc (.cells (cellsW n) 24)).alloc (.cells (cellsW x) 24)) 0
      rw [World.size_alloc, World.size_alloc] at this; exact this)
    have hb0 : Below w.heap.size w (((w.alloc (.cells (cellsW n) 24)).alloc (.cells (cellsW x) 24)).alloc (.cells (cellsW 0) 24)) := (((Below.refl _ _).alloc (Nat.le_refl _) _).alloc (by simp) _).alloc (by simp; omega) _
    go_enter Try.func35, Try.ntmps35
    go_wp2_with (first | (refine wpList_alloc_new rfl 24 rfl (cellsW 0) zWd ?_; simp only [Act.put, List.setIfInBounds_toArray, List.set_cons_zero, List.set_cons_succ, World.size_alloc]) | (refine wpList_load_row rfl 24 (.tmp 2) rfl w.heap.size rfl 24 _ (0, 0) _ hA0.out uWd rfl iN.out ?_; simp only [Act.put, List.setIfInBounds_toArray, List.set_cons_zero, List.set_cons_succ]))
    refine (hU.out _).mono ?_
    rintro e w1 ⟨rfl, hb1⟩
    have hA1 := hid (hA0.out.below hb1 hA0.out.lt)
    have hB1 := hid (hB0.out.below hb1 hB0.out.lt)
    have hC1 := hid (hC0.out.below hb1 hC0.out.lt)
    have hb2 := hb0.trans (hb1.mono hb0.size)
    clear hA0 hB0 hC0 hb0 hb1
    go_wp2_with (first | (refine wpList_load_row rfl 24 (.tmp 2) rfl w.heap.size rfl 24 _ (0, 0) _ hA1.out uWd rfl iN.out ?_; simp only [Act.put, List.setIfInBounds_toArray, List.set_cons_zero, List.set_cons_succ]) | (refine wpList_load_row rfl 24 (.tmp 3) rfl (w.heap.size + 1) rfl 24 _ (0, 0) _ hB1.out uWd rfl iX.out ?_; simp only [Act.put, List.setIfInBounds_toArray, List.set_cons_zero, List.set_cons_succ]))
    refine (hSh.out _).mono ?_
    rintro e w2 ⟨rfl, hb3⟩
    have hB2 := hid ((hB1.out.below hb3 hB1.out.lt).alloc (.cells (cellsW z) 24))
    have hC2 := hid ((hC1.out.below hb3 hC1.out.lt).alloc (.cells (cellsW z) 24))
    have hD2 := hid (ArrW.new 24 w2 z)
    have hb4 := hb2.trans (hb3.mono hb2.size)
    have hb5 := hb4.alloc hb4.size (.cells (cellsW z) 24)
    have hsz : w.heap.size + 3 ≤ w2.heap.size := by have h1 := (hC1.out.below hb3 hC1.out.lt).lt; omega
    clear hA1 hB1 hC1 hb2 hb3
    go_wp2_with (first | (refine wpList_allocStore 24 11 6 (cellsW z) (cellsW 0) rfl rfl rfl rfl rfl rfl (by decide) (by simp) rfl (by kernel_rfl) rfl iZ.out nZ.out ?_; simp only [Act.put, List.setIfInBounds_toArray, List.set_cons_zero, List.set_cons_succ]) | (refine wpList_load_row rfl 24 (.tmp 3) rfl (w.heap.size + 1) rfl 24 _ (0, 0) _ hB2.out uWd rfl iX.out ?_; simp only [Act.put, List.setIfInBounds_toArray, List.set_cons_zero, List.set_cons_succ]))
    refine (hN.out _).mono ?_
    rintro e w3 ⟨rfl, hb6⟩
    have hC3 := hid (hC2.out.below hb6 hC2.out.lt)
    have hD3 := hid (hD2.out.below hb6 hD2.out.lt)
    have hb7 := hb5.trans (hb6.mono hb5.size)
    clear hB2 hC2 hD2 hb5 hb6
    go_wp2_with (first | (refine wpList_load_row rfl 24 (.tmp 6) rfl w2.heap.size rfl 24 _ (0, 0) _ hD3.out uWd rfl iZ.out ?_; simp only [Act.put, List.setIfInBounds_toArray, List.set_cons_zero, List.set_cons_succ]))
    have hC := hC3.out
    (refine (hOf.out _).mono ?_; rintro _ w4 ⟨v4, rfl, hr4, hs4⟩)
    go_wp2_with fail
    (refine (hP1.out _).mono ?_; rintro _ w5 ⟨v5, rfl, hr5, hs5⟩)
    go_wp2_with fail
    (refine (hP2.out _).mono ?_; rintro _ w6 ⟨v6, rfl, hr6, hs6⟩)
    go_wp2_with fail
    (refine (hL.out _ _ _ (by (repeat (first | assumption | refine RdN.below ?_ (by assumption)))) (by (repeat (first | assumption | refine RdN.below ?_ (by assumption))))).mono ?_; rintro _ w7 ⟨v7, rfl, hr7, hs7⟩)
    go_wp2_with fail
    (refine (hS.out _ _ _ (by (repeat (first | assumption | refine RdN.below ?_ (by assumption)))) (by (repeat (first | assumption | refine RdN.below ?_ (by assumption))))).mono ?_; rintro _ w8 ⟨v8, rfl, hr8, hs8⟩)
    go_wp2_with fail
    (refine (hW.out _ _ (by (repeat (first | assumption | refine RdN.below ?_ (by assumption))))).mono ?_; rintro _ w9 ⟨rfl, hs9⟩)
    have hD := hD3.out
    have hC9 : ArrW 24 w9 (w.heap.size + 2) 0 := (by (repeat (first | assumption | refine ArrW.step ?_ (by assumption))))
    have hD9 : ArrW 24 w9 w2.heap.size z := (by (repeat (first | assumption | refine ArrW.step ?_ (by assumption))))
    have hb9 : Below w.heap.size w w9 := (by (repeat (first | assumption | refine below_next ?_ (Nat.le_refl _) (by assumption))))
    clear hC3 hD3 hb7 hC hD hs4 hs5 hs6 hs7 hs8 hs9 hr4 hr5 hr6 hr7 hr8
    have hD10 := hid (hD9.row y)
    have hC10 := hid (hC9.otherRow (show w.heap.size + 2 ≠ w2.heap.size by omega) (cellsW y))
    go_wp2_with (first | (refine wpList_store_row rfl 24 (.tmp 6) (.tmp 22) rfl w2.heap.size _ rfl rfl 24 _ hD9 iY.out rfl nY.out ?_; simp only [Act.put]) | (refine wpList_load_row rfl 24 (.tmp 6) rfl w2.heap.size rfl 24 _ (0, 0) _ hD10.out uWd rfl iY.out ?_; simp only [Act.put, List.setIfInBounds_toArray, List.set_cons_zero, List.set_cons_succ]) | (refine wpList_store_row rfl 24 (.tmp 4) (.tmp 23) rfl (w.heap.size + 2) _ rfl rfl 24 _ hC10.out iY.out rfl nY.out ?_; simp only [Act.put]))
    refine bodyPost_ret (results_cell_row rfl _ _ (w.heap.size + 2) 24 (cellsW y) (0, 0) _ rfl (heap_setRow' _ _ _ _ _ hC10.out) uWd rfl iY.out) rfl ⟨rfl, below_setRow' (below_setRow' hb9 _ (by omega) _) _ (by omega) _⟩

/-- A sign drawn out, as the document has it. -/
theorem negW_shl (x n : Nat) (hn : n < 31) : negW (x * 2 ^ (248 - 8 * n) % 2 ^ 256) = decide (x / 2 ^ (8 * n + 7) % 2 = 1) := by
  unfold negW
  congr 1
  apply propext
  have e1 : (2 : Nat) ^ 256 = 2 ^ (248 - 8 * n) * 2 ^ (8 * n + 8) := by rw [← Nat.pow_add]; congr 1; omega
  have e2 : (2 : Nat) ^ 255 = 2 ^ (248 - 8 * n) * 2 ^ (8 * n + 7) := by rw [← Nat.pow_add]; congr 1; omega
  have hp : 0 < 2 ^ (248 - 8 * n) := Nat.pow_pos (by omega)
  rw [e1, Nat.mul_comm x, Nat.mul_mod_mul_left, e2, Nat.mul_le_mul_left_iff hp]
  have e3 : (2 : Nat) ^ (8 * n + 8) = 2 ^ (8 * n + 7) * 2 := Nat.pow_succ ..
  have hq : 0 < 2 ^ (8 * n + 7) := Nat.pow_pos (by omega)
  rw [e3, Nat.mod_mul]
  have h1 := Nat.mod_lt x hq
  have h2 := Nat.mod_lt (x / 2 ^ (8 * n + 7)) (by omega : 0 < 2)
  constructor
  · intro h
    rcases Nat.lt_or_ge (x / 2 ^ (8 * n + 7) % 2) 1 with h3 | h3
    · have : x / 2 ^ (8 * n + 7) % 2 = 0 := by omega
      rw [this, Nat.mul_zero] at h; omega
    · omega
  · intro h
    rw [h, Nat.mul_one]; omega
theorem sex_low (x n : Nat) (hn : n < 31) : x * 2 ^ (248 - 8 * n) % 2 ^ 256 / 2 ^ (248 - 8 * n) = x % 2 ^ (8 * n + 8) := by
  have e1 : (2 : Nat) ^ 256 = 2 ^ (248 - 8 * n) * 2 ^ (8 * n + 8) := by rw [← Nat.pow_add]; congr 1; omega
  have hp : 0 < 2 ^ (248 - 8 * n) := Nat.pow_pos (by omega)
  rw [e1, Nat.mul_comm x, Nat.mul_mod_mul_left, Nat.mul_div_cancel_left _ hp]
theorem sexW_31 (k x : Nat) (hx : x < 2 ^ 256) (h : upT k 31 = 31) : sexW k x = x := by
  unfold sexW
  rw [h, show upT (248 - 8 * 31) 256 = 0 from rfl, Nat.pow_zero, Nat.mul_one, Nat.mod_eq_of_lt hx]
  unfold sarW
  rw [Nat.pow_zero, Nat.div_one, Nat.div_one, Nat.add_mul_mod_self_left, Nat.mod_eq_of_lt hx]
  split <;> rfl
theorem sexW_low (k x n : Nat) (h : upT k 31 = n) (hn : n < 31) : sexW k x = if x / 2 ^ (8 * n + 7) % 2 = 1 then (x % 2 ^ (8 * n + 8) + (2 ^ 256 - 2 ^ (8 * n + 8))) % 2 ^ 256 else x % 2 ^ (8 * n + 8) := by
  unfold sexW
  rw [h]
  have hu : upT (248 - 8 * n) 256 = 248 - 8 * n := by unfold upT; rw [if_pos (by omega)]
  rw [hu]
  have hs := negW_shl x n hn
  by_cases hb : x / 2 ^ (8 * n + 7) % 2 = 1
  · rw [decide_eq_true hb] at hs
    rw [if_pos hb, ← sarW_ref _ _ (by omega) hs, sex_low x n hn, show 256 - (248 - 8 * n) = 8 * n + 8 by omega]
  · rw [decide_eq_false hb] at hs
    rw [if_neg hb]
    unfold sarW
    rw [if_neg (by rw [hs]; decide), sex_low x n hn]
end Go.Proofs.Ytfidbiabgmioaaa

/-! conclaveref01: Signext, Scmp, Exp. -/
namespace Go.Proofs.Ytfidbiabgmioaaa
open Go.RowKit

set_option maxHeartbeats 2000000 in
theorem rsext_any (a x : Nat) (w : World) (ha : a < 2 ^ 256) (hx : x < 2 ^ 256) : Calls Try.prog 37 #[wd a, wd x] w fun e w' => e = .returned (wd (sexW a x)) ∧ Below w.heap.size w w' := by
  have hU := hid (fun w => small_any a 31 w ha (by omega))
  have hk := upT_le a 31
  obtain ⟨n, hn⟩ : ∃ n, n = upT a 31 := ⟨_, rfl⟩
  rw [← hn] at hU hk
  have iA := hid (iW a)
  have iX := hid (iW x)
  have nX := hid (one_cellsW x)
  by_cases h31 : n = 31
  · have HY := hid (sexW_31 a x hx (by omega))
    subst h31
    rw [HY.out]
    clear HY hx hn hk ha
    unfold wd at *
    have hA0 := hid (show ArrW 24 (((w.alloc (.cells (cellsW a) 24)).alloc (.cells (cellsW x) 24)).alloc (.cells (cellsW 0) 24)) w.heap.size a from ((ArrW.new _ w a).alloc _).alloc _)
    have hB0 := hid (show ArrW 24 (((w.alloc (.cells (cellsW a) 24)).alloc (.cells (cellsW x) 24)).alloc (.cells (cellsW 0) 24)) (w.heap.size + 1) x by
      have := ArrW.new 24 (w.alloc (.cells (cellsW a) 24)) x
      rw [World.size_alloc] at this; exact this.alloc _)
    have hC0 := hid (show ArrW 24 (((w.alloc (.cells (cellsW a) 24)).alloc (.cells (cellsW x) 24)).alloc (.cells (cellsW 0) 24)) (w.heap.size + 2) 0 by
      have := ArrW.new 24 ((w.alloc (.cells (cellsW a) 24)).alloc (.cells (cellsW x) 24)) 0
      rw [World.size_alloc, World.size_alloc] at this; exact this)
    have hb0 : Below w.heap.size w (((w.alloc (.cells (cellsW a) 24)).alloc (.cells (cellsW x) 24)).alloc (.cells (cellsW 0) 24)) := (((Below.refl _ _).alloc (Nat.le_refl _) _).alloc (by simp) _).alloc (by simp; omega) _
    go_enter Try.func37, Try.ntmps37
    go_wp2_with (first | (refine wpList_alloc_new rfl 24 rfl (cellsW 0) zWd ?_; simp only [Act.put, List.setIfInBounds_toArray, List.set_cons_zero, List.set_cons_succ, World.size_alloc]) | (refine wpList_load_row rfl 24 (.tmp 2) rfl w.heap.size rfl 24 _ (0, 0) _ hA0.out uWd rfl iA.out ?_; simp only [Act.put, List.setIfInBounds_toArray, List.set_cons_zero, List.set_cons_succ]))
    refine (hU.out _).mono ?_
    rintro e w1 ⟨rfl, hb1⟩
    have hB1 := hid (hB0.out.below hb1 hB0.out.lt)
    have hC1 := hid (hC0.out.below hb1 hC0.out.lt)
    have hb2 := hb0.trans (hb1.mono hb0.size)
    clear hA0 hB0 hC0 hb0 hb1
    go_wp2_with (first | (refine wpList_load_row rfl 24 (.tmp 3) rfl (w.heap.size + 1) rfl 24 _ (0, 0) _ hB1.out uWd rfl iX.out ?_; simp only [Act.put, List.setIfInBounds_toArray, List.set_cons_zero, List.set_cons_succ]) | (refine wpList_store_row rfl 24 (.tmp 4) (.tmp 12) rfl (w.heap.size + 2) _ rfl rfl 24 _ hC1.out iX.out rfl nX.out ?_; simp only [Act.put]))
    refine bodyPost_ret (results_cell_row rfl _ _ (w.heap.size + 2) 24 (cellsW x) (0, 0) _ rfl (heap_setRow' _ _ _ _ _ hC1.out) uWd rfl iX.out) rfl ⟨rfl, below_setRow' hb2 _ (by omega) _⟩
  · have HY := hid (sexW_low a x n hn.symm (by omega))
    have hOX := hid (fun w => of_any x w hx)
    have lx := dg_word_len x hx
    have lp := len_pow (8 * n + 8)
    have l1 := len_pow 256
    have hP := hid (fun w => power_any (8 * n + 8) w (by omega))
    have hP1 := hid (fun w => power_any 256 w (by omega))
    have hpos : 0 < 2 ^ (8 * n + 8) := Nat.pow_pos (by omega)
    have hQ := hid (fun va vb w ha hb => quo_any x (2 ^ (8 * n + 8)) va vb w ha hb (by omega) (by omega) hpos)
    have hlow : x % 2 ^ (8 * n + 8) < 2 ^ 256 := Nat.lt_of_le_of_lt (Nat.mod_le _ _) hx
    have ll := dg_word_len _ hlow
    have hle : 2 ^ (8 * n + 8) ≤ 2 ^ 256 := Nat.pow_le_pow_right (by omega) (by omega)
    have hL := hid (fun va vb w ha hb => less_any (2 ^ 256) (2 ^ (8 * n + 8)) va vb w ha hb (by omega) hle)
    have ld : (dg (2 ^ 256 - 2 ^ (8 * n + 8))).length ≤ 33 := len_le (Nat.sub_le _ _) l1
    have ls := len_add (Nat.le_trans ll (by omega : _ ≤ 33)) ld
    have hS := hid (fun va vb w ha hb => plus_any (x % 2 ^ (8 * n + 8)) (2 ^ 256 - 2 ^ (8 * n + 8)) va vb w ha hb (by omega) (by omega))
    have hW1 := hid (fun v w h => wordN_any (x % 2 ^ (8 * n + 8) + (2 ^ 256 - 2 ^ (8 * n + 8))) v w h (by omega))
    have hW0 := hid (fun v w h => wordN_any (x % 2 ^ (8 * n + 8)) v w h (by omega))
    rw [Nat.mod_eq_of_lt hlow] at hW0
    have hbit := lm_bit x (8 * n + 7)
    rw [show (8 * n + 7) / 64 = n / 8 by omega, show (8 * n + 7) % 64 = 8 * (n % 8) + 7 by omega] at hbit
    obtain ⟨y, hy⟩ : ∃ y, y = sexW a x := ⟨_, rfl⟩
    rw [← hy] at HY ⊢
    obtain ⟨q, hq⟩ : ∃ q, q = x / 2 ^ (8 * n + 8) := ⟨_, rfl⟩
    obtain ⟨r, hr⟩ : ∃ r, r = x % 2 ^ (8 * n + 8) := ⟨_, rfl⟩
    obtain ⟨p, hp⟩ : ∃ p, p = 2 ^ (8 * n + 8) := ⟨_, rfl⟩
    obtain ⟨p1, hp1⟩ : ∃ p : Nat, p = 2 ^ 256 := ⟨_, rfl⟩
    obtain ⟨b, hb⟩ : ∃ b, b = x / 2 ^ (8 * n + 7) % 2 := ⟨_, rfl⟩
    have hb2 : b = 0 ∨ b = 1 := by omega
    rw [← hr] at hQ hW1 hW0 hS HY
    rw [← hq] at hQ
    rw [← hb] at hbit HY
    rw [← hp] at hP hQ hL hW1 hS HY
    obtain ⟨d, hd⟩ : ∃ d, d = 2 ^ 256 - p := ⟨_, rfl⟩
    rw [← hd] at hL hS hW1 HY
    rw [← hp1] at hP1 hL
    obtain ⟨s, hs⟩ : ∃ s, s = r + d := ⟨_, rfl⟩
    rw [← hs] at hS hW1 HY
    obtain ⟨z, hz⟩ : ∃ z, z = s % 2 ^ 256 := ⟨_, rfl⟩
    rw [← hz] at hW1 HY
    have g1 := lm_nonneg x (n / 8)
    have g2 := lm_lt x (n / 8)
    have hn30 : n ≤ 30 := by omega
    have hne : ¬ (n : Int) = 31 := by omega
    have hsh : (8 * ((n : Int) % 8) + 7).toNat = 8 * (n % 8) + 7 := by omega
    clear h31 hn hk ha hx lx lp l1 hpos hlow ll hle ld ls hy hq hr hp hp1 hb hd hs hz
    have iR := hid (iW r)
    have nR := hid (one_cellsW r)
    have iZ := hid (iW z)
    have nZ := hid (one_cellsW z)
    unfold wd at *
    have hA0 := hid (show ArrW 24 (((w.alloc (.cells (cellsW a) 24)).alloc (.cells (cellsW x) 24)).alloc (.cells (cellsW 0) 24)) w.heap.size a from ((ArrW.new _ w a).alloc _).alloc _)
    have hB0 := hid (show ArrW 24 (((w.alloc (.cells (cellsW a) 24)).alloc (.cells (cellsW x) 24)).alloc (.cells (cellsW 0) 24)) (w.heap.size + 1) x by
      have := ArrW.new 24 (w.alloc (.cells (cellsW a) 24)) x
      rw [World.size_alloc] at this; exact this.alloc _)
    have hC0 := hid (show ArrW 24 (((w.alloc (.cells (cellsW a) 24)).alloc (.cells (cellsW x) 24)).alloc (.cells (cellsW 0) 24)) (w.heap.size + 2) 0 by
      have := ArrW.new 24 ((w.alloc (.cells (cellsW a) 24)).alloc (.cells (cellsW x) 24)) 0
      rw [World.size_alloc, World.size_alloc] at this; exact this)
    have hb0 : Below w.heap.size w (((w.alloc (.cells (cellsW a) 24)).alloc (.cells (cellsW x) 24)).alloc (.cells (cellsW 0) 24)) := (((Below.refl _ _).alloc (Nat.le_refl _) _).alloc (by simp) _).alloc (by simp; omega) _
    go_enter Try.func37, Try.ntmps37
    go_wp2_with (first | (refine wpList_alloc_new rfl 24 rfl (cellsW 0) zWd ?_; simp only [Act.put, List.setIfInBounds_toArray, List.set_cons_zero, List.set_cons_succ, World.size_alloc]) | (refine wpList_load_row rfl 24 (.tmp 2) rfl w.heap.size rfl 24 _ (0, 0) _ hA0.out uWd rfl iA.out ?_; simp only [Act.put, List.setIfInBounds_toArray, List.set_cons_zero, List.set_cons_succ]))
    refine (hU.out _).mono ?_
    rintro e w1 ⟨rfl, hb1⟩
    have hB1 := hid (hB0.out.below hb1 hB0.out.lt)
    have hC1 := hid (hC0.out.below hb1 hC0.out.lt)
    have hb3 := hb0.trans (hb1.mono hb0.size)
    clear hA0 hB0 hC0 hb0 hb1
    go_wp2_with (first | (refine wpList_load_row rfl 24 (.tmp 3) rfl (w.heap.size + 1) rfl 24 _ (0, 0) _ hB1.out uWd rfl iX.out ?_; simp only [Act.put, List.setIfInBounds_toArray, List.set_cons_zero, List.set_cons_succ]))
    (refine (hOX.out _).mono ?_; rintro _ w2 ⟨v2, rfl, hr2, hs2⟩)
    go_wp2_with fail
    (refine (hP.out _).mono ?_; rintro _ w3 ⟨v3, rfl, hr3, hs3⟩)
    go_wp2_with fail
    refine (hQ.out _ _ _ (by (repeat (first | assumption | refine RdN.below ?_ (by assumption)))) (by (repeat (first | assumption | refine RdN.below ?_ (by assumption))))).mono ?_
    rintro _ w4 ⟨v4, v5, rfl, hr4, hr5, hs4⟩
    have hB := hB1.out
    have hC := hC1.out
    have hB4 : ArrW 24 w4 (w.heap.size + 1) x := (by (repeat (first | assumption | refine ArrW.step ?_ (by assumption))))
    have hC4 : ArrW 24 w4 (w.heap.size + 2) 0 := (by (repeat (first | assumption | refine ArrW.step ?_ (by assumption))))
    have hb4 : Below w.heap.size w w4 := (by (repeat (first | assumption | refine below_next ?_ (Nat.le_refl _) (by assumption))))
    clear hB hC hB1 hC1 hs2 hs3 hs4 hr2 hr3 hr4 hb3
    have hB := hid hB4
    have hC := hid hC4
    have c1 := hB.out.cell (n / 8) (by omega)
    have l1 := hB.out.lt
    clear hB4 hC4
    rcases hb2 with rfl | rfl
    · rw [if_neg (by decide)] at HY
      go_wp2_with fail
      (refine (hW0.out _ _ hr5).mono ?_; rintro _ w5 ⟨rfl, hs5⟩)
      have hC5 := hid (hC.out.step hs5)
      have hb5 : Below w.heap.size w w5 := (by (repeat (first | assumption | refine below_next ?_ (Nat.le_refl _) (by assumption))))
      go_wp2_with (refine wpList_store_row rfl 24 (.tmp 4) (.tmp 45) rfl (w.heap.size + 2) _ rfl rfl 24 _ hC5.out iR.out rfl nR.out ?_; simp only [Act.put])
      refine bodyPost_ret (results_cell_row rfl _ _ (w.heap.size + 2) 24 (cellsW r) (0, 0) _ rfl (heap_setRow' _ _ _ _ _ hC5.out) uWd rfl iR.out) rfl ⟨by rw [HY.out], below_setRow' hb5 _ (by omega) _⟩
    · rw [if_pos rfl] at HY
      go_wp2_with fail
      (refine (hP1.out _).mono ?_; rintro _ w5 ⟨v5, rfl, hr5, hs5⟩)
      go_wp2_with fail
      (refine (hP.out _).mono ?_; rintro _ w6 ⟨v6, rfl, hr6, hs6⟩)
      go_wp2_with fail
      (refine (hL.out _ _ _ (by (repeat (first | assumption | refine RdN.below ?_ (by assumption)))) (by (repeat (first | assumption | refine RdN.below ?_ (by assumption))))).mono ?_; rintro _ w7 ⟨v7, rfl, hr7, hs7⟩)
      go_wp2_with fail
      (refine (hS.out _ _ _ (by (repeat (first | assumption | refine RdN.below ?_ (by assumption)))) (by (repeat (first | assumption | refine RdN.below ?_ (by assumption))))).mono ?_; rintro _ w8 ⟨v8, rfl, hr8, hs8⟩)
      go_wp2_with fail
      (refine (hW1.out _ _ hr8).mono ?_; rintro _ w9 ⟨rfl, hs9⟩)
      have hC0 := hC.out
      have hC9 : ArrW 24 w9 (w.heap.size + 2) 0 := (by (repeat (first | assumption | refine ArrW.step ?_ (by assumption))))
      have hb9 : Below w.heap.size w w9 := (by (repeat (first | assumption | refine below_next ?_ (Nat.le_refl _) (by assumption))))
      have hC5 := hid hC9
      clear hC0 hC9
      go_wp2_with (refine wpList_store_row rfl 24 (.tmp 4) (.tmp 43) rfl (w.heap.size + 2) _ rfl rfl 24 _ hC5.out iZ.out rfl nZ.out ?_; simp only [Act.put])
      refine bodyPost_ret (results_cell_row rfl _ _ (w.heap.size + 2) 24 (cellsW z) (0, 0) _ rfl (heap_setRow' _ _ _ _ _ hC5.out) uWd rfl iZ.out) rfl ⟨by rw [HY.out], below_setRow' hb9 _ (by omega) _⟩

theorem cmpN_any (a b : Nat) (va vb : Value) (w : World) (ha : RdN w va a) (hb : RdN w vb b) (la : (dg a).length ≤ 65536) (lb : (dg b).length ≤ 65536) : Calls Try.prog 43 #[va, vb] w fun e w' => e = .returned (.int .i64 (cmpI a b)) ∧ Below w.heap.size w w' := by
  have := cmp_any (dg a) (dg b) va vb w ha hb (dg_dig _) (dg_dig _) la lb
  rw [num_dg, num_dg] at this
  exact this.mono fun e w' ⟨h1, h2⟩ => ⟨h1, h2 ▸ Below.refl _ _⟩

set_option maxHeartbeats 2000000 in
theorem rscmp_any (a b : Nat) (w : World) (ha : a < 2 ^ 256) (hb : b < 2 ^ 256) : Calls Try.prog 46 #[wd a, wd b] w fun e w' => e = .returned (.int .i64 (cmpI (flipW a) (flipW b))) ∧ Below w.heap.size w w' := by
  have hOA := hid (fun w => of_any a w ha)
  have hOB := hid (fun w => of_any b w hb)
  have la := dg_word_len a ha
  have lb := dg_word_len b hb
  have lp := len_pow 255
  have hP := hid (fun w => power_any 255 w (by omega))
  have hSA := hid (fun va vb w ha hb => plus_any a (2 ^ 255) va vb w ha hb (by omega) (by omega))
  have hSB := hid (fun va vb w ha hb => plus_any b (2 ^ 255) va vb w ha hb (by omega) (by omega))
  have lsa := len_add (Nat.le_trans la (by omega : _ ≤ 33)) (Nat.le_trans lp (by omega))
  have lsb := len_add (Nat.le_trans lb (by omega : _ ≤ 33)) (Nat.le_trans lp (by omega))
  have hWA := hid (fun v w h => wordN_any (a + 2 ^ 255) v w h (by omega))
  have hWB := hid (fun v w h => wordN_any (b + 2 ^ 255) v w h (by omega))
  rw [show (a + 2 ^ 255) % 2 ^ 256 = flipW a from rfl] at hWA
  rw [show (b + 2 ^ 255) % 2 ^ 256 = flipW b from rfl] at hWB
  have hFA := hid (fun w => of_any (flipW a) w (flipW_lt a))
  have hFB := hid (fun w => of_any (flipW b) w (flipW_lt b))
  have hC := hid (fun va vb w h1 h2 => cmpN_any (flipW a) (flipW b) va vb w h1 h2 (Nat.le_trans (dg_word_len _ (flipW_lt a)) (by omega)) (Nat.le_trans (dg_word_len _ (flipW_lt b)) (by omega)))
  obtain ⟨f, hf⟩ : ∃ f, f = flipW a := ⟨_, rfl⟩
  obtain ⟨g, hg⟩ : ∃ g, g = flipW b := ⟨_, rfl⟩
  rw [← hf, ← hg] at hC ⊢
  rw [← hf] at hWA hFA
  rw [← hg] at hWB hFB
  obtain ⟨sa, hsa⟩ : ∃ s, s = a + 2 ^ 255 := ⟨_, rfl⟩
  obtain ⟨sb, hsb⟩ : ∃ s, s = b + 2 ^ 255 := ⟨_, rfl⟩
  rw [← hsa] at hSA hWA
  rw [← hsb] at hSB hWB
  obtain ⟨p, hp⟩ : ∃ p : Nat, p = 2 ^ 255 := ⟨_, rfl⟩
  rw [← hp] at hP hSA hSB
  clear ha hb la lb lp lsa lsb hf hg hsa hsb hp
  have iA := hid (iW a)
  have iB := hid (iW b)
  unfold wd at *
  have hA0 := hid (show ArrW 24 ((w.alloc (.cells (cellsW a) 24)).alloc (.cells (cellsW b) 24)) w.heap.size a from (ArrW.new _ w a).alloc _)
  have hB0 := hid (show ArrW 24 ((w.alloc (.cells (cellsW a) 24)).alloc (.cells (cellsW b) 24)) (w.heap.size + 1) b by
    have := ArrW.new 24 (w.alloc (.cells (cellsW a) 24)) b
    rw [World.size_alloc] at this; exact this)
  have hb0 : Below w.heap.size w ((w.alloc (.cells (cellsW a) 24)).alloc (.cells (cellsW b) 24)) := ((Below.refl _ _).alloc (Nat.le_refl _) _).alloc (by simp) _
  go_enter Try.func46, Try.ntmps46
  go_wp2_with (refine wpList_load_row rfl 24 (.tmp 2) rfl w.heap.size rfl 24 _ (0, 0) _ hA0.out uWd rfl iA.out ?_; simp only [Act.put, List.setIfInBounds_toArray, List.set_cons_zero, List.set_cons_succ])
  (refine (hOA.out _).mono ?_; rintro _ w2 ⟨v2, rfl, hr2, hs2⟩)
  go_wp2_with fail
  (refine (hP.out _).mono ?_; rintro _ w3 ⟨v3, rfl, hr3, hs3⟩)
  go_wp2_with fail
  (refine (hSA.out _ _ _ (by (repeat (first | assumption | refine RdN.below ?_ (by assumption)))) (by (repeat (first | assumption | refine RdN.below ?_ (by assumption))))).mono ?_; rintro _ w4 ⟨v4, rfl, hr4, hs4⟩)
  have hB := hB0.out
  have hB4 : ArrW 24 w4 (w.heap.size + 1) b := (by (repeat (first | assumption | refine ArrW.step ?_ (by assumption))))
  have hb4 : Below w.heap.size w w4 := (by (repeat (first | assumption | refine below_next ?_ (Nat.le_refl _) (by assumption))))
  clear hB hA0 hB0 hb0 hs2 hs3 hs4 hr2 hr3
  go_wp2_with (refine wpList_load_row rfl 24 (.tmp 3) rfl (w.heap.size + 1) rfl 24 _ (0, 0) _ hB4 uWd rfl iB.out ?_; simp only [Act.put, List.setIfInBounds_toArray, List.set_cons_zero, List.set_cons_succ])
  (refine (hOB.out _).mono ?_; rintro _ w5 ⟨v5, rfl, hr5, hs5⟩)
  go_wp2_with fail
  (refine (hP.out _).mono ?_; rintro _ w6 ⟨v6, rfl, hr6, hs6⟩)
  go_wp2_with fail
  (refine (hSB.out _ _ _ (by (repeat (first | assumption | refine RdN.below ?_ (by assumption)))) (by (repeat (first | assumption | refine RdN.below ?_ (by assumption))))).mono ?_; rintro _ w7 ⟨v7, rfl, hr7, hs7⟩)
  go_wp2_with fail
  (refine (hWA.out _ _ (by (repeat (first | assumption | refine RdN.below ?_ (by assumption))))).mono ?_; rintro _ w8 ⟨rfl, hs8⟩)
  go_wp2_with fail
  (refine (hFA.out _).mono ?_; rintro _ w9 ⟨v9, rfl, hr9, hs9⟩)
  go_wp2_with fail
  (refine (hWB.out _ _ (by (repeat (first | assumption | refine RdN.below ?_ (by assumption))))).mono ?_; rintro _ w10 ⟨rfl, hs10⟩)
  go_wp2_with fail
  (refine (hFB.out _).mono ?_; rintro _ w11 ⟨v11, rfl, hr11, hs11⟩)
  go_wp2_with fail
  (refine (hC.out _ _ _ (by (repeat (first | assumption | refine RdN.below ?_ (by assumption)))) (by (repeat (first | assumption | refine RdN.below ?_ (by assumption))))).mono ?_; rintro _ w12 ⟨rfl, hs12⟩)
  go_wp2
  go_ret
  exact ⟨rfl, (by (repeat (first | assumption | refine below_next ?_ (Nat.le_refl _) (by assumption))))⟩

theorem exp_top (a b : Nat) : powW a (b / 2 ^ (8 * (dg b).length)) = 1 := by
  rw [Nat.div_eq_of_lt (by have := lt_len b; rw [show (256 : Nat) = 2 ^ 8 from rfl, ← Nat.pow_mul] at this; exact this)]; rfl
theorem exp_bit (b i : Nat) : b / 2 ^ i = b / 2 ^ (i + 1) + b / 2 ^ (i + 1) + b / 2 ^ i % 2 := by
  rw [Nat.pow_succ, ← Nat.div_div_eq_div_mul]; omega
def RExpI (a b N S : Nat) (w wr : World) (i : Nat) : Prop :=
  ArrW 24 wr N a ∧ ArrW 24 wr (N + 1) b ∧ ArrW 24 wr (N + 2) 0 ∧ ArrW 24 wr S (powW a (b / 2 ^ i)) ∧ Below N w wr

set_option maxHeartbeats 2000000 in
theorem rexp_any (a b : Nat) (w : World) (ha : a < 2 ^ 256) (hb : b < 2 ^ 256) : Calls Try.prog 61 #[wd a, wd b] w fun e w' => e = .returned (wd (powW a b)) ∧ Below w.heap.size w w' := by
  have hM := hid (fun x y w hx hy => rmul_any x y w hx hy)
  have hO := hid (fun w => of_any b w hb)
  have hl := dg_word_len b hb
  have htop := hid (exp_top a b)
  have HA := hid ha
  have h1 := hid (powW_one a ha)
  clear ha hb
  obtain ⟨n, hn⟩ : ∃ n, n = (dg b).length := ⟨_, rfl⟩
  rw [← hn] at hl htop
  unfold wd at *
  have i1 := hid (iW 1)
  have n1 := hid (one_cellsW 1)
  have iA := hid (iW a)
  have iB := hid (iW b)
  have b1 : Try.prog.built 24 [(0, .int .u64 1)] = some (cellsW 1) := by kernel_rfl
  have hA0 := hid (show ArrW 24 (((w.alloc (.cells (cellsW a) 24)).alloc (.cells (cellsW b) 24)).alloc (.cells (cellsW 0) 24)) w.heap.size a from ((ArrW.new _ w a).alloc _).alloc _)
  have hB0 := hid (show ArrW 24 (((w.alloc (.cells (cellsW a) 24)).alloc (.cells (cellsW b) 24)).alloc (.cells (cellsW 0) 24)) (w.heap.size + 1) b by
    have := ArrW.new 24 (w.alloc (.cells (cellsW a) 24)) b
    rw [World.size_alloc] at this; exact this.alloc _)
  have hC0 := hid (show ArrW 24 (((w.alloc (.cells (cellsW a) 24)).alloc (.cells (cellsW b) 24)).alloc (.cells (cellsW 0) 24)) (w.heap.size + 2) 0 by
    have := ArrW.new 24 ((w.alloc (.cells (cellsW a) 24)).alloc (.cells (cellsW b) 24)) 0
    rw [World.size_alloc, World.size_alloc] at this; exact this)
  have hb0 : Below w.heap.size w (((w.alloc (.cells (cellsW a) 24)).alloc (.cells (cellsW b) 24)).alloc (.cells (cellsW 0) 24)) := (((Below.refl _ _).alloc (Nat.le_refl _) _).alloc (by simp) _).alloc (by simp; omega) _
  go_enter Try.func61, Try.ntmps61
  have hA1 := hid (hA0.out.alloc (.cells (cellsW 1) 24))
  have hB1 := hid (hB0.out.alloc (.cells (cellsW 1) 24))
  have hC1 := hid (hC0.out.alloc (.cells (cellsW 1) 24))
  have hS1 := hid (show ArrW 24 ((((w.alloc (.cells (cellsW a) 24)).alloc (.cells (cellsW b) 24)).alloc (.cells (cellsW 0) 24)).alloc (.cells (cellsW 1) 24)) (w.heap.size + 3) 1 by
    have := ArrW.new 24 (((w.alloc (.cells (cellsW a) 24)).alloc (.cells (cellsW b) 24)).alloc (.cells (cellsW 0) 24)) 1
    rw [World.size_alloc, World.size_alloc, World.size_alloc] at this; exact this)
  have hb1 := hb0.alloc hb0.size (.cells (cellsW 1) 24)
  go_wp2_with (first | (refine wpList_allocStore 24 7 5 (cellsW 1) (cellsW 0) rfl rfl rfl rfl rfl rfl (by decide) (by simp) rfl (by kernel_rfl) rfl i1.out n1.out ?_; simp only [Act.put, List.setIfInBounds_toArray, List.set_cons_zero, List.set_cons_succ]) | (refine wpList_alloc_new rfl 24 rfl (cellsW 0) zWd ?_; simp only [Act.put, List.setIfInBounds_toArray, List.set_cons_zero, List.set_cons_succ, World.size_alloc]) | (refine wpList_load_row rfl 24 (.tmp 3) rfl (w.heap.size + 1) rfl 24 _ (0, 0) _ hB1.out uWd rfl iB.out ?_; simp only [Act.put, List.setIfInBounds_toArray, List.set_cons_zero, List.set_cons_succ]))
  refine (hO.out _).mono ?_
  rintro e w1 ⟨v9, rfl, hr, hb2⟩
  have hA2 := hid (hA1.out.below hb2 hA1.out.lt)
  have hB2 := hid (hB1.out.below hb2 hB1.out.lt)
  have hC2 := hid (hC1.out.below hb2 hC1.out.lt)
  have hS2 := hid (hS1.out.below hb2 hS1.out.lt)
  have hb3 := hb1.trans (hb2.mono hb1.size)
  obtain ⟨va, vc, rfl, hvc, _⟩ := hr
  rw [← hn] at *
  clear hA0 hB0 hC0 hA1 hB1 hC1 hS1 hb0 hb1 hb2 hn
  have hI : Hid (RExpI a b w.heap.size (w.heap.size + 3) w w1 (8 * n)) := hid ⟨hA2.out, hB2.out, hC2.out, by rw [htop.out]; exact hS2.out, hb3⟩
  clear hA2 hB2 hC2 hS2 hb3
  go_wp2
  go_loopw [6] (fun iv wr => ∃ i : Nat, i ≤ 8 * n ∧ iv = .int .i64 ((i : Int) - 1) ∧ Hid (RExpI a b w.heap.size (w.heap.size + 3) w wr i))
    (fun iv _ => (intOf iv + 1).toNat)
  case atStart => exact ⟨8 * n, by omega, by go_num, hI⟩
  case round =>
    clear hI
    obtain ⟨i, hi, rfl, hI⟩ := hrel
    have hA := hid hI.out.1
    have hB := hid hI.out.2.1
    have hC := hid hI.out.2.2.1
    have hD := hid hI.out.2.2.2.1
    have hb := hI.out.2.2.2.2
    by_cases h0 : i = 0
    · subst h0
      have hD0 := hD.out
      rw [Nat.pow_zero, Nat.div_one] at hD0
      obtain ⟨y, hy⟩ : ∃ y, y = powW a b := ⟨_, rfl⟩
      rw [← hy] at hD0
      have HY := hid hy
      have HD := hid hD0
      have iY := hid (iW y)
      have nY := hid (one_cellsW y)
      clear hy hI hi hD hD0
      go_wp2_with (first | (refine wpList_load_row rfl 24 (.tmp 5) rfl (w.heap.size + 3) rfl 24 _ (0, 0) _ HD.out uWd rfl iY.out ?_; simp only [Act.put, List.setIfInBounds_toArray, List.set_cons_zero, List.set_cons_succ]) | (refine wpList_store_row rfl 24 (.tmp 4) (.tmp 33) rfl (w.heap.size + 2) _ rfl rfl 24 _ hC.out iY.out rfl nY.out ?_; simp only [Act.put]))
      refine bodyPost_ret (results_cell_row rfl _ _ (w.heap.size + 2) 24 (cellsW y) (0, 0) _ rfl (heap_setRow' _ _ _ _ _ hC.out) uWd rfl iY.out) rfl ⟨by rw [HY.out], below_setRow' hb _ (by omega) _⟩
    · obtain ⟨k, rfl⟩ : ∃ k, i = k + 1 := ⟨i - 1, by omega⟩
      have e1 : (((k + 1 : Nat) : Int) - 1) = (k : Int) := by omega
      rw [e1]
      clear e1 h0
      have hbit := lm_bit b k
      have heb := exp_bit b k
      have n1 := lm_nonneg b (k / 64)
      have n2 := lm_lt b (k / 64)
      have q1 : powW a (b / 2 ^ (k + 1)) * powW a (b / 2 ^ (k + 1)) % 2 ^ 256 = powW a (b / 2 ^ (k + 1) + b / 2 ^ (k + 1)) := powW_add _ _ _
      have HS := hid (fun w => hM.out (powW a (b / 2 ^ (k + 1))) (powW a (b / 2 ^ (k + 1))) w (powW_lt _ _) (powW_lt _ _))
      rw [q1] at HS
      have HT := hid (fun w => hM.out (powW a (b / 2 ^ (k + 1) + b / 2 ^ (k + 1))) a w (powW_lt _ _) HA.out)
      have hq2 : powW a (b / 2 ^ (k + 1) + b / 2 ^ (k + 1)) * a % 2 ^ 256 = powW a (b / 2 ^ (k + 1) + b / 2 ^ (k + 1) + 1) := by
        have := powW_add a (b / 2 ^ (k + 1) + b / 2 ^ (k + 1)) 1
        rw [h1.out] at this; exact this
      rw [hq2] at HT
      obtain ⟨p, hp⟩ : ∃ p, p = powW a (b / 2 ^ (k + 1)) := ⟨_, rfl⟩
      obtain ⟨z, hz⟩ : ∃ z, z = powW a (b / 2 ^ (k + 1) + b / 2 ^ (k + 1)) := ⟨_, rfl⟩
      rw [← hp] at hD HS
      rw [← hz] at HS HT
      have iP := hid (iW p)
      have iZ := hid (iW z)
      have nZ := hid (one_cellsW z)
      have hk31 : k / 64 < 4 := by omega
      have hd2 : b / 2 ^ k % 2 = 0 ∨ b / 2 ^ k % 2 = 1 := by omega
      have HE := hid heb
      have HZZ := hid hz
      clear hq2 q1 heb hI hp hz
      go_wp2_with (first | (refine wpList_load_row rfl 24 (.tmp 5) rfl (w.heap.size + 3) rfl 24 _ (0, 0) _ hD.out uWd rfl iP.out ?_; simp only [Act.put, List.setIfInBounds_toArray, List.set_cons_zero, List.set_cons_succ]))
      refine (HS.out _).mono ?_
      rintro e w3 ⟨rfl, hb5⟩
      have hA2 := hid ((hA.out.below hb5 hA.out.lt).otherRow (show w.heap.size ≠ w.heap.size + 3 by omega) (cellsW z))
      have hB2 := hid ((hB.out.below hb5 hB.out.lt).otherRow (show w.heap.size + 1 ≠ w.heap.size + 3 by omega) (cellsW z))
      have hC2 := hid ((hC.out.below hb5 hC.out.lt).otherRow (show w.heap.size + 2 ≠ w.heap.size + 3 by omega) (cellsW z))
      have hD2 := hid (hD.out.below hb5 hD.out.lt)
      have hD3 := hid (hD2.out.row z)
      have hb6 := below_setRow' (hb.trans (hb5.mono hb.size)) (w.heap.size + 3) (by omega) (cellsW z)
      have c1 := hB2.out.cell (k / 64) hk31
      have l1 := hB2.out.lt
      clear hA hB hC hD hb hb5
      rcases hd2 with hz0 | hz0
      · rw [hz0] at hbit HE
        rw [Nat.add_zero] at HE
        have HZ := hid (show powW a (b / 2 ^ k) = z by rw [HE.out, HZZ.out])
        clear hz0 HE HT
        go_wp2_with (first | (refine wpList_store_row rfl 24 (.tmp 5) (.tmp 19) rfl (w.heap.size + 3) _ rfl rfl 24 _ hD2.out iZ.out rfl nZ.out ?_; simp only [Act.put]))
        go_roundw
        case rel => exact ⟨k, by omega, by go_num, hid ⟨hA2.out, hB2.out, hC2.out, by rw [HZ.out]; exact hD3.out, hb6⟩⟩
        case measure => simp [intOf]
      · rw [hz0] at hbit HE
        obtain ⟨u, hu⟩ : ∃ u, u = powW a (b / 2 ^ (k + 1) + b / 2 ^ (k + 1) + 1) := ⟨_, rfl⟩
        rw [← hu] at HT
        have HU := hid (show powW a (b / 2 ^ k) = u by rw [HE.out, hu])
        have iU := hid (iW u)
        have nU := hid (one_cellsW u)
        clear hz0 HE hu
        go_wp2_with (first | (refine wpList_store_row rfl 24 (.tmp 5) (.tmp 19) rfl (w.heap.size + 3) _ rfl rfl 24 _ hD2.out iZ.out rfl nZ.out ?_; simp only [Act.put]) | (refine wpList_load_row rfl 24 (.tmp 5) rfl (w.heap.size + 3) rfl 24 _ (0, 0) _ hD3.out uWd rfl iZ.out ?_; simp only [Act.put, List.setIfInBounds_toArray, List.set_cons_zero, List.set_cons_succ]) | (refine wpList_load_row rfl 24 (.tmp 2) rfl w.heap.size rfl 24 _ (0, 0) _ hA2.out uWd rfl iA.out ?_; simp only [Act.put, List.setIfInBounds_toArray, List.set_cons_zero, List.set_cons_succ]))
        refine (HT.out _).mono ?_
        rintro e w4 ⟨rfl, hb7⟩
        have hA4 := hid ((hA2.out.below hb7 hA2.out.lt).otherRow (show w.heap.size ≠ w.heap.size + 3 by omega) (cellsW u))
        have hB4 := hid ((hB2.out.below hb7 hB2.out.lt).otherRow (show w.heap.size + 1 ≠ w.heap.size + 3 by omega) (cellsW u))
        have hC4 := hid ((hC2.out.below hb7 hC2.out.lt).otherRow (show w.heap.size + 2 ≠ w.heap.size + 3 by omega) (cellsW u))
        have hD4 := hid (hD3.out.below hb7 hD3.out.lt)
        have hb8 := below_setRow' (hb6.trans (hb7.mono hb6.size)) (w.heap.size + 3) (by omega) (cellsW u)
        clear hA2 hB2 hC2 hD2 hD3 hb6 hb7 c1 l1
        go_wp2_with (first | (refine wpList_store_row rfl 24 (.tmp 5) (.tmp 32) rfl (w.heap.size + 3) _ rfl rfl 24 _ hD4.out iU.out rfl nU.out ?_; simp only [Act.put]))
        go_roundw
        case rel => exact ⟨k, by omega, by go_num, hid ⟨hA4.out, hB4.out, hC4.out, by rw [HU.out]; exact hD4.out.row u, hb8⟩⟩
        case measure => simp [intOf]
end Go.Proofs.Ytfidbiabgmioaaa
