import Derived.Test.YtfidbiabgmioaaaDivH
/-! word: Sdiv, Smod, Addmod. -/
set_option maxRecDepth 4000
set_option linter.unusedVariables false
set_option linter.unusedSimpArgs false
namespace Go.Proofs.Ytfidbiabgmioaaa
open Go.RowKit

theorem modW_lt (a b : Nat) (h : a < 2 ^ 256) : modW a b < 2 ^ 256 := by
  unfold modW; split
  · exact Nat.pow_pos (by omega)
  · exact Nat.lt_of_le_of_lt (Nat.mod_le _ _) h

set_option maxHeartbeats 4000000 in
theorem wsdiv_any (a b : Nat) (w : World) (ha : a < 2 ^ 256) (hb : b < 2 ^ 256) : Calls Try.prog 66 #[wd a, wd b] w fun e w' => e = .returned (wd (sdivW a b)) ∧ Below w.heap.size w w' := by
  have hSA := hid (fun w => wsize_any a w ha)
  have hSB := hid (fun w => wsize_any b w hb)
  have hNA := hid (fun w => wneg_any a w ha)
  have hNB := hid (fun w => wneg_any b w hb)
  have hD := hid (fun w => wdiv_any (sizeW a) (sizeW b) w (sizeW_lt a ha) (sizeW_lt b hb))
  have hq : sizeW a / sizeW b < 2 ^ 256 := Nat.lt_of_le_of_lt (Nat.div_le_self _ _) (sizeW_lt a ha)
  have hT := hid (fun n w => wsigned_any (sizeW a / sizeW b) n w hq)
  have HY := hid (show sdivW a b = signW (sizeW a / sizeW b) (negW a != negW b) from rfl)
  obtain ⟨y, hy⟩ : ∃ y, y = sdivW a b := ⟨_, rfl⟩
  rw [← hy] at HY ⊢
  clear ha hb hq hy
  generalize sizeW a / sizeW b = q at *
  generalize sizeW a = A at *
  generalize sizeW b = B at *
  generalize negW a = n1 at *
  generalize negW b = n2 at *
  unfold wd at *
  have iA := hid (iW a)
  have iB := hid (iW b)
  cases n1 <;> cases n2
  all_goals
    rw [show y = _ from HY.out]
    have iY := hid (iW (signW q false))
    have nY := hid (one_cellsW (signW q false))
    have iZ := hid (iW (signW q true))
    have nZ := hid (one_cellsW (signW q true))
    have hF := hid (hT.out false)
    have hG := hid (hT.out true)
    clear HY hT
    have hA0 := hid (show ArrW 24 (((w.alloc (.cells (cellsW a) 24)).alloc (.cells (cellsW b) 24)).alloc (.cells (cellsW 0) 24)) w.heap.size a from ((ArrW.new _ w a).alloc _).alloc _)
    have hB0 := hid (show ArrW 24 (((w.alloc (.cells (cellsW a) 24)).alloc (.cells (cellsW b) 24)).alloc (.cells (cellsW 0) 24)) (w.heap.size + 1) b by
      have := ArrW.new 24 (w.alloc (.cells (cellsW a) 24)) b
      rw [World.size_alloc] at this; exact this.alloc _)
    have hC0 := hid (show ArrW 24 (((w.alloc (.cells (cellsW a) 24)).alloc (.cells (cellsW b) 24)).alloc (.cells (cellsW 0) 24)) (w.heap.size + 2) 0 by
      have := ArrW.new 24 ((w.alloc (.cells (cellsW a) 24)).alloc (.cells (cellsW b) 24)) 0
      rw [World.size_alloc, World.size_alloc] at this; exact this)
    have hb0 : Below w.heap.size w (((w.alloc (.cells (cellsW a) 24)).alloc (.cells (cellsW b) 24)).alloc (.cells (cellsW 0) 24)) := (((Below.refl _ _).alloc (Nat.le_refl _) _).alloc (by simp) _).alloc (by simp; omega) _
    go_enter Try.func66, Try.ntmps66
    go_wp2_with (refine wpList_alloc_new rfl 24 rfl (cellsW 0) zWd ?_; simp only [Act.put, List.setIfInBounds_toArray, List.set_cons_zero, List.set_cons_succ, World.size_alloc])
    ((try simp only [World.size_alloc]); refine wp_region_ext_tail 11 (by kernel_rfl) (by kernel_rfl) ?_; simp only [List.take_succ_cons, List.take_zero, List.drop_succ_cons, List.drop_zero]; (repeat (first | (refine wpQuiet_load_part rfl 24 (.tmp 2) rfl w.heap.size 0 rfl 24 _ (cellsW _) (0, 0) _ hA0.out (fun j v h => by rw [Nat.zero_add]; exact h) uWd rfl iA.out ?_; simp only [Act.put, List.setIfInBounds_toArray, List.set_cons_zero, List.set_cons_succ]) | (refine wpQuiet_load_part rfl 24 (.tmp 3) rfl (w.heap.size + 1) 0 rfl 24 _ (cellsW _) (0, 0) _ hB0.out (fun j v h => by rw [Nat.zero_add]; exact h) uWd rfl iB.out ?_; simp only [Act.put, List.setIfInBounds_toArray, List.set_cons_zero, List.set_cons_succ]) | go_big_quiet_step (first | (go_at_call 117; with_reducible refine Calls.ext_of (hSA.out _)) | (go_at_call 117; with_reducible refine Calls.ext_of (hSB.out _)) | (go_at_call 107; with_reducible refine Calls.ext_of (hNA.out _)) | (go_at_call 107; with_reducible refine Calls.ext_of (hNB.out _)) | (go_at_call 62; with_reducible refine Calls.ext_of (hD.out _)) | (go_at_call 116; with_reducible refine Calls.ext_of (hF.out _)) | (go_at_call 116; with_reducible refine Calls.ext_of (hG.out _))))); refine wpQuiet_nil ?_; rintro _ ⟨xw, rfl⟩)
    first
    | (go_wp2_with (refine wpList_store_row rfl 24 (.tmp 4) (.tmp 15) rfl (w.heap.size + 2) _ rfl rfl 24 _ (hC0.out.ext _) iY.out rfl nY.out ?_; simp only [Act.put]); refine bodyPost_ret (results_cell_row rfl _ _ (w.heap.size + 2) 24 (cellsW (signW q false)) (0, 0) _ rfl (heap_setRow' _ _ _ _ _ (hC0.out.ext _)) uWd rfl iY.out) rfl ⟨rfl, below_setRow' (World.ext_below_of hb0 hb0.size _) _ (by omega) _⟩)
    | (go_wp2_with (refine wpList_store_row rfl 24 (.tmp 4) (.tmp 15) rfl (w.heap.size + 2) _ rfl rfl 24 _ (hC0.out.ext _) iZ.out rfl nZ.out ?_; simp only [Act.put]); refine bodyPost_ret (results_cell_row rfl _ _ (w.heap.size + 2) 24 (cellsW (signW q true)) (0, 0) _ rfl (heap_setRow' _ _ _ _ _ (hC0.out.ext _)) uWd rfl iZ.out) rfl ⟨rfl, below_setRow' (World.ext_below_of hb0 hb0.size _) _ (by omega) _⟩)

set_option maxHeartbeats 4000000 in
theorem wsmod_any (a b : Nat) (w : World) (ha : a < 2 ^ 256) (hb : b < 2 ^ 256) : Calls Try.prog 68 #[wd a, wd b] w fun e w' => e = .returned (wd (smodW a b)) ∧ Below w.heap.size w w' := by
  have hSA := hid (fun w => wsize_any a w ha)
  have hSB := hid (fun w => wsize_any b w hb)
  have hNA := hid (fun w => wneg_any a w ha)
  have hD := hid (fun w => wmod_any (sizeW a) (sizeW b) w (sizeW_lt a ha) (sizeW_lt b hb))
  have hq := modW_lt (sizeW a) (sizeW b) (sizeW_lt a ha)
  have hT := hid (fun w => wsigned_any (modW (sizeW a) (sizeW b)) (negW a) w hq)
  have HY := hid (show smodW a b = signW (modW (sizeW a) (sizeW b)) (negW a) from rfl)
  obtain ⟨y, hy⟩ : ∃ y, y = smodW a b := ⟨_, rfl⟩
  rw [← hy] at HY ⊢
  rw [← HY.out] at hT
  clear ha hb hq hy HY
  generalize modW (sizeW a) (sizeW b) = q at *
  generalize sizeW a = A at *
  generalize sizeW b = B at *
  generalize negW a = n1 at *
  unfold wd at *
  have iA := hid (iW a)
  have iB := hid (iW b)
  have iY := hid (iW y)
  have nY := hid (one_cellsW y)
  have hA0 := hid (show ArrW 24 (((w.alloc (.cells (cellsW a) 24)).alloc (.cells (cellsW b) 24)).alloc (.cells (cellsW 0) 24)) w.heap.size a from ((ArrW.new _ w a).alloc _).alloc _)
  have hB0 := hid (show ArrW 24 (((w.alloc (.cells (cellsW a) 24)).alloc (.cells (cellsW b) 24)).alloc (.cells (cellsW 0) 24)) (w.heap.size + 1) b by
    have := ArrW.new 24 (w.alloc (.cells (cellsW a) 24)) b
    rw [World.size_alloc] at this; exact this.alloc _)
  have hC0 := hid (show ArrW 24 (((w.alloc (.cells (cellsW a) 24)).alloc (.cells (cellsW b) 24)).alloc (.cells (cellsW 0) 24)) (w.heap.size + 2) 0 by
    have := ArrW.new 24 ((w.alloc (.cells (cellsW a) 24)).alloc (.cells (cellsW b) 24)) 0
    rw [World.size_alloc, World.size_alloc] at this; exact this)
  have hb0 : Below w.heap.size w (((w.alloc (.cells (cellsW a) 24)).alloc (.cells (cellsW b) 24)).alloc (.cells (cellsW 0) 24)) := (((Below.refl _ _).alloc (Nat.le_refl _) _).alloc (by simp) _).alloc (by simp; omega) _
  go_enter Try.func68, Try.ntmps68
  go_wp2_with (refine wpList_alloc_new rfl 24 rfl (cellsW 0) zWd ?_; simp only [Act.put, List.setIfInBounds_toArray, List.set_cons_zero, List.set_cons_succ, World.size_alloc])
  ((try simp only [World.size_alloc]); refine wp_region_ext_tail 8 (by kernel_rfl) (by kernel_rfl) ?_; simp only [List.take_succ_cons, List.take_zero, List.drop_succ_cons, List.drop_zero]; (repeat (first | (refine wpQuiet_load_part rfl 24 (.tmp 2) rfl w.heap.size 0 rfl 24 _ (cellsW _) (0, 0) _ hA0.out (fun j v h => by rw [Nat.zero_add]; exact h) uWd rfl iA.out ?_; simp only [Act.put, List.setIfInBounds_toArray, List.set_cons_zero, List.set_cons_succ]) | (refine wpQuiet_load_part rfl 24 (.tmp 3) rfl (w.heap.size + 1) 0 rfl 24 _ (cellsW _) (0, 0) _ hB0.out (fun j v h => by rw [Nat.zero_add]; exact h) uWd rfl iB.out ?_; simp only [Act.put, List.setIfInBounds_toArray, List.set_cons_zero, List.set_cons_succ]) | go_big_quiet_step (first | (go_at_call 117; with_reducible refine Calls.ext_of (hSA.out _)) | (go_at_call 117; with_reducible refine Calls.ext_of (hSB.out _)) | (go_at_call 107; with_reducible refine Calls.ext_of (hNA.out _)) | (go_at_call 64; with_reducible refine Calls.ext_of (hD.out _)) | (go_at_call 116; with_reducible refine Calls.ext_of (hT.out _))))); refine wpQuiet_nil ?_; rintro _ ⟨xw, rfl⟩)
  go_wp2_with (refine wpList_store_row rfl 24 (.tmp 4) (.tmp 12) rfl (w.heap.size + 2) _ rfl rfl 24 _ (hC0.out.ext _) iY.out rfl nY.out ?_; simp only [Act.put])
  refine bodyPost_ret (results_cell_row rfl _ _ (w.heap.size + 2) 24 (cellsW y) (0, 0) _ rfl (heap_setRow' _ _ _ _ _ (hC0.out.ext _)) uWd rfl iY.out) rfl ⟨rfl, below_setRow' (World.ext_below_of hb0 hb0.size _) _ (by omega) _⟩

set_option maxHeartbeats 2000000 in
theorem waddmod_any (a b d : Nat) (w : World) (ha : a < 2 ^ 256) (hb : b < 2 ^ 256) (hd256 : d < 2 ^ 256) : Calls Try.prog 70 #[wd a, wd b, wd d] w fun e w' => e = .returned (wd (modW (a + b) d)) ∧ Below w.heap.size w w' := by
  have hZ := hid (fun w => wzero_any d hd256 w)
  have iA := hid (iW a)
  have iB := hid (iW b)
  have iD := hid (iW d)
  have nD := hid (one_cellsW d)
  by_cases h0 : d = 0
  · have HY := hid (show modW (a + b) d = d by unfold modW; rw [if_pos h0, h0])
    rw [decide_eq_true h0] at hZ
    rw [HY.out]
    clear h0 HY ha hb hd256
    unfold wd at *
    have hA0 := hid (show ArrW 24 ((((w.alloc (.cells (cellsW a) 24)).alloc (.cells (cellsW b) 24)).alloc (.cells (cellsW d) 24)).alloc (.cells (cellsW 0) 24)) w.heap.size a from (((ArrW.new _ w a).alloc _).alloc _).alloc _)
    have hB0 := hid (show ArrW 24 ((((w.alloc (.cells (cellsW a) 24)).alloc (.cells (cellsW b) 24)).alloc (.cells (cellsW d) 24)).alloc (.cells (cellsW 0) 24)) (w.heap.size + 1) b by
      have := ArrW.new 24 (w.alloc (.cells (cellsW a) 24)) b
      rw [World.size_alloc] at this; exact (this.alloc _).alloc _)
    have hC0 := hid (show ArrW 24 ((((w.alloc (.cells (cellsW a) 24)).alloc (.cells (cellsW b) 24)).alloc (.cells (cellsW d) 24)).alloc (.cells (cellsW 0) 24)) (w.heap.size + 2) d by
      have := ArrW.new 24 ((w.alloc (.cells (cellsW a) 24)).alloc (.cells (cellsW b) 24)) d
      rw [World.size_alloc, World.size_alloc] at this; exact this.alloc _)
    have hD0 := hid (show ArrW 24 ((((w.alloc (.cells (cellsW a) 24)).alloc (.cells (cellsW b) 24)).alloc (.cells (cellsW d) 24)).alloc (.cells (cellsW 0) 24)) (w.heap.size + 3) 0 by
      have := ArrW.new 24 (((w.alloc (.cells (cellsW a) 24)).alloc (.cells (cellsW b) 24)).alloc (.cells (cellsW d) 24)) 0
      rw [World.size_alloc, World.size_alloc, World.size_alloc] at this; exact this)
    have hb0 : Below w.heap.size w ((((w.alloc (.cells (cellsW a) 24)).alloc (.cells (cellsW b) 24)).alloc (.cells (cellsW d) 24)).alloc (.cells (cellsW 0) 24)) := ((((Below.refl _ _).alloc (Nat.le_refl _) _).alloc (by simp) _).alloc (by simp; omega) _).alloc (by simp; omega) _
    go_enter Try.func70, Try.ntmps70
    go_wp2_with (first | (refine wpList_alloc_new rfl 24 rfl (cellsW 0) zWd ?_; simp only [Act.put, List.setIfInBounds_toArray, List.set_cons_zero, List.set_cons_succ, World.size_alloc]) | (refine wpList_load_row rfl 24 (.tmp 5) rfl (w.heap.size + 2) rfl 24 _ (0, 0) _ hC0.out uWd rfl iD.out ?_; simp only [Act.put, List.setIfInBounds_toArray, List.set_cons_zero, List.set_cons_succ]))
    refine (hZ.out _).mono ?_
    rintro e w1 ⟨rfl, hb1⟩
    have hC1 := hid (hC0.out.below hb1 hC0.out.lt)
    have hD1 := hid (hD0.out.below hb1 hD0.out.lt)
    have hb2 := hb0.trans (hb1.mono hb0.size)
    clear hA0 hB0 hC0 hD0 hb0 hb1
    go_wp2_with (first | (refine wpList_load_row rfl 24 (.tmp 5) rfl (w.heap.size + 2) rfl 24 _ (0, 0) _ hC1.out uWd rfl iD.out ?_; simp only [Act.put, List.setIfInBounds_toArray, List.set_cons_zero, List.set_cons_succ]) | (refine wpList_store_row rfl 24 (.tmp 6) (.tmp 13) rfl (w.heap.size + 3) _ rfl rfl 24 _ hD1.out iD.out rfl nD.out ?_; simp only [Act.put]))
    refine bodyPost_ret (results_cell_row rfl _ _ (w.heap.size + 3) 24 (cellsW d) (0, 0) _ rfl (heap_setRow' _ _ _ _ _ hD1.out) uWd rfl iD.out) rfl ⟨rfl, below_setRow' hb2 _ (by omega) _⟩
  · have HY := hid (show modW (a + b) d = (a + b) % d by unfold modW; rw [if_neg h0])
    rw [decide_eq_false h0] at hZ
    rw [HY.out]
    have hF := hid (fun w => wsum_any a b w ha hb)
    have hab : a + b < 2 ^ (64 * 5) := by
      have h5 := Nat.pow_add 2 256 64
      rw [show 256 + 64 = 64 * 5 from rfl] at h5
      rw [h5]
      clear h5 hF HY hZ iA iB iD nD
      omega
    have hDv := hid (fun v w hr => divide_any 5 (a + b) d v w hr hab (by omega) (by omega) (Nat.pos_of_ne_zero h0) hd256)
    obtain ⟨s, hs⟩ : ∃ s, s = a + b := ⟨_, rfl⟩
    obtain ⟨r, hr⟩ : ∃ r, r = s % d := ⟨_, rfl⟩
    have hc64 : s / 2 ^ 256 < 2 ^ 64 := by omega
    rw [← hs] at hF hDv ⊢
    rw [← hr] at hDv ⊢
    clear ha hb h0 HY hd256 hab hs hr
    unfold wd at *
    have iR := hid (iW r)
    have nR := hid (one_cellsW r)
    obtain ⟨c, hcc⟩ : ∃ c, c = s / 2 ^ 256 := ⟨_, rfl⟩
    obtain ⟨l, hll⟩ : ∃ l, l = s % 2 ^ 256 := ⟨_, rfl⟩
    have hcells := hid (show cellsM 5 s = (#[.int .u64 (lm l 0), .int .u64 (lm l 1), .int .u64 (lm l 2), .int .u64 (lm l 3), .int .u64 (c : Int)] : Array Value) from by
      have e : ∀ i, i < 4 → lmN l i = lmN s i := fun i hi => by
        rw [hll]
        unfold lmN
        have e1 : (2 : Nat) ^ 256 = 2 ^ (64 * i) * 2 ^ (256 - 64 * i) := by rw [← Nat.pow_add]; congr 1; omega
        have e2 : (2 : Nat) ^ (256 - 64 * i) = 2 ^ 64 * 2 ^ (192 - 64 * i) := by rw [← Nat.pow_add]; congr 1; omega
        rw [e1, Nat.mod_mul_right_div_self, e2, Nat.mod_mul_right_mod]
      have e4 : lmN s 4 = c := by
        rw [hcc]
        unfold lmN
        rw [show 64 * 4 = 256 from rfl]
        exact Nat.mod_eq_of_lt hc64
      unfold lm
      rw [e 0 (by omega), e 1 (by omega), e 2 (by omega), e 3 (by omega), ← e4]
      rfl)
    rw [← hcc, ← hll] at hF
    have iL := hid (iW l)
    have nL := hid (one_cellsW l)
    clear hcc hll
    have hA0 := hid (show ArrW 24 ((((w.alloc (.cells (cellsW a) 24)).alloc (.cells (cellsW b) 24)).alloc (.cells (cellsW d) 24)).alloc (.cells (cellsW 0) 24)) w.heap.size a from (((ArrW.new _ w a).alloc _).alloc _).alloc _)
    have hB0 := hid (show ArrW 24 ((((w.alloc (.cells (cellsW a) 24)).alloc (.cells (cellsW b) 24)).alloc (.cells (cellsW d) 24)).alloc (.cells (cellsW 0) 24)) (w.heap.size + 1) b by
      have := ArrW.new 24 (w.alloc (.cells (cellsW a) 24)) b
      rw [World.size_alloc] at this; exact (this.alloc _).alloc _)
    have hC0 := hid (show ArrW 24 ((((w.alloc (.cells (cellsW a) 24)).alloc (.cells (cellsW b) 24)).alloc (.cells (cellsW d) 24)).alloc (.cells (cellsW 0) 24)) (w.heap.size + 2) d by
      have := ArrW.new 24 ((w.alloc (.cells (cellsW a) 24)).alloc (.cells (cellsW b) 24)) d
      rw [World.size_alloc, World.size_alloc] at this; exact this.alloc _)
    have hD0 := hid (show ArrW 24 ((((w.alloc (.cells (cellsW a) 24)).alloc (.cells (cellsW b) 24)).alloc (.cells (cellsW d) 24)).alloc (.cells (cellsW 0) 24)) (w.heap.size + 3) 0 by
      have := ArrW.new 24 (((w.alloc (.cells (cellsW a) 24)).alloc (.cells (cellsW b) 24)).alloc (.cells (cellsW d) 24)) 0
      rw [World.size_alloc, World.size_alloc, World.size_alloc] at this; exact this)
    have hb0 : Below w.heap.size w ((((w.alloc (.cells (cellsW a) 24)).alloc (.cells (cellsW b) 24)).alloc (.cells (cellsW d) 24)).alloc (.cells (cellsW 0) 24)) := ((((Below.refl _ _).alloc (Nat.le_refl _) _).alloc (by simp) _).alloc (by simp; omega) _).alloc (by simp; omega) _
    go_enter Try.func70, Try.ntmps70
    go_wp2_with (first | (refine wpList_alloc_new rfl 24 rfl (cellsW 0) zWd ?_; simp only [Act.put, List.setIfInBounds_toArray, List.set_cons_zero, List.set_cons_succ, World.size_alloc]) | (refine wpList_load_row rfl 24 (.tmp 5) rfl (w.heap.size + 2) rfl 24 _ (0, 0) _ hC0.out uWd rfl iD.out ?_; simp only [Act.put, List.setIfInBounds_toArray, List.set_cons_zero, List.set_cons_succ]))
    refine (hZ.out _).mono ?_
    rintro e w1 ⟨rfl, hb1⟩
    have hA1 := hid (hA0.out.below hb1 hA0.out.lt)
    have hB1 := hid (hB0.out.below hb1 hB0.out.lt)
    have hC1 := hid (hC0.out.below hb1 hC0.out.lt)
    have hD1 := hid (hD0.out.below hb1 hD0.out.lt)
    have hb2 := hb0.trans (hb1.mono hb0.size)
    clear hA0 hB0 hC0 hD0 hb0 hb1
    go_wp2_with (first | (refine wpList_load_row rfl 24 (.tmp 3) rfl w.heap.size rfl 24 _ (0, 0) _ hA1.out uWd rfl iA.out ?_; simp only [Act.put, List.setIfInBounds_toArray, List.set_cons_zero, List.set_cons_succ]) | (refine wpList_load_row rfl 24 (.tmp 4) rfl (w.heap.size + 1) rfl 24 _ (0, 0) _ hB1.out uWd rfl iB.out ?_; simp only [Act.put, List.setIfInBounds_toArray, List.set_cons_zero, List.set_cons_succ]))
    refine (hF.out _).mono ?_
    rintro e w2 ⟨rfl, hb3⟩
    have hC2 := hid ((hC1.out.below hb3 hC1.out.lt).alloc (.cells (cellsW l) 24))
    have hD2 := hid ((hD1.out.below hb3 hD1.out.lt).alloc (.cells (cellsW l) 24))
    have hL2 := hid (ArrW.new 24 w2 l)
    have hb4 := hb2.trans (hb3.mono hb2.size)
    have hb5 := hb4.alloc hb4.size (.cells (cellsW l) 24)
    have hsz : w.heap.size + 4 ≤ w2.heap.size := by have h1 := (hD1.out.below hb3 hD1.out.lt).lt; omega
    clear hA1 hB1 hC1 hD1 hb2 hb3
    have q0 : (cellsW l)[0]? = some (.int .u64 (lm l 0)) := rfl
    have q1 : (cellsW l)[1]? = some (.int .u64 (lm l 1)) := rfl
    have q2 : (cellsW l)[2]? = some (.int .u64 (lm l 2)) := rfl
    have q3 : (cellsW l)[3]? = some (.int .u64 (lm l 3)) := rfl
    have hC3 := hid (hC2.out.alloc (.cells #[.int .u64 (lm l 0), .int .u64 (lm l 1), .int .u64 (lm l 2), .int .u64 (lm l 3), .int .u64 (c : Int)] 22))
    have hD3 := hid (hD2.out.alloc (.cells #[.int .u64 (lm l 0), .int .u64 (lm l 1), .int .u64 (lm l 2), .int .u64 (lm l 3), .int .u64 (c : Int)] 22))
    have hb6 := hb5.alloc hb5.size (.cells #[.int .u64 (lm l 0), .int .u64 (lm l 1), .int .u64 (lm l 2), .int .u64 (lm l 3), .int .u64 (c : Int)] 22)
    have hrd := hid (show RdM ((w2.alloc (.cells (cellsW l) 24)).alloc (.cells #[.int .u64 (lm l 0), .int .u64 (lm l 1), .int .u64 (lm l 2), .int .u64 (lm l 3), .int .u64 (c : Int)] 22)) (.slice (some ⟨w2.heap.size + 1, 0, none⟩) 5 5) 5 s by
      have h := (ArrM.new 22 5 (w2.alloc (.cells (cellsW l) 24)) s).rd 5 (by omega)
      rw [World.size_alloc, hcells.out] at h; exact h)
    clear hb4 hb5 hC2 hD2 hL2 hcells
    go_wp2_with (first | (refine wpList_allocStore 24 18 7 (cellsW l) (cellsW 0) rfl rfl rfl rfl rfl rfl (by decide) (by simp) rfl (by kernel_rfl) rfl iL.out nL.out ?_; simp only [Act.put, List.setIfInBounds_toArray, List.set_cons_zero, List.set_cons_succ]) | (refine wpList_load_row rfl 24 (.tmp 5) rfl (w.heap.size + 2) rfl 24 _ (0, 0) _ hC3.out uWd rfl iD.out ?_; simp only [Act.put, List.setIfInBounds_toArray, List.set_cons_zero, List.set_cons_succ]))
    refine (hDv.out _ _ hrd.out).mono ?_
    rintro e w5 ⟨gq, rfl, h1, h2, hb7⟩
    have hD4 := hid ((hD3.out.below hb7 hD3.out.lt).alloc (.cells (cellsW 0) 24))
    have hR4 := hid (ArrW.new 24 w5 0)
    have hb8 := hb6.trans (hb7.mono hb6.size)
    have hb9 := hb8.alloc hb8.size (.cells (cellsW 0) 24)
    have hsz5 : w.heap.size + 4 ≤ w5.heap.size := by have h1 := (hD3.out.below hb7 hD3.out.lt).lt; omega
    have hR5 := hid (hR4.out.row r)
    have hD5 := hid (hD4.out.otherRow (show w.heap.size + 3 ≠ w5.heap.size by omega) (cellsW r))
    have hb10 := below_setRow' hb9 w5.heap.size (by omega) (cellsW r)
    clear h1 h2 hb7 hD3 hC3 hrd hb8 hb9 hb6
    go_wp2_with (first | (refine wpList_alloc_new rfl 24 rfl (cellsW 0) zWd ?_; simp only [Act.put, List.setIfInBounds_toArray, List.set_cons_zero, List.set_cons_succ, World.size_alloc]) | (refine wpList_store_row rfl 24 (.tmp 10) (.tmp 34) rfl w5.heap.size _ rfl rfl 24 _ hR4.out iR.out rfl nR.out ?_; simp only [Act.put]) | (refine wpList_load_row rfl 24 (.tmp 10) rfl w5.heap.size rfl 24 _ (0, 0) _ hR5.out uWd rfl iR.out ?_; simp only [Act.put, List.setIfInBounds_toArray, List.set_cons_zero, List.set_cons_succ]) | (refine wpList_store_row rfl 24 (.tmp 6) (.tmp 35) rfl (w.heap.size + 3) _ rfl rfl 24 _ hD5.out iR.out rfl nR.out ?_; simp only [Act.put]))
    refine bodyPost_ret (results_cell_row rfl _ _ (w.heap.size + 3) 24 (cellsW r) (0, 0) _ rfl (heap_setRow' _ _ _ _ _ hD5.out) uWd rfl iR.out) rfl ⟨rfl, below_setRow' hb10 _ (by omega) _⟩

end Go.Proofs.Ytfidbiabgmioaaa
