import Derived.Test.YtfidbiabgmioaaaFldP
import Derived.Test.YtfidbiabgmioaaaCut
import Derived.Test.YtfidbiabgmioaaaApart
/-! field.Lfold. -/
set_option maxRecDepth 4000
set_option linter.unusedVariables false
set_option linter.unusedSimpArgs false
namespace Go.Proofs.Ytfidbiabgmioaaa
open Go.RowKit

theorem leN_split (ys : List (BitVec 8)) (n : Nat) (hn : n ≤ ys.length) : leN ys = leN (ys.take n) + 256 ^ n * leN (ys.drop n) := by
  have h := num_split ((ys.map fun y => y.toNat)) n (by simpa using hn)
  unfold leN
  rw [h, List.map_take, List.map_drop]
theorem lfold_law (lo hi : Nat) : (lo + hi * ((2 ^ 256 - 1 + 1) % lN) % lN) % lN = (lo + 2 ^ 256 * hi) % lN := by
  rw [Nat.add_mod, Nat.mod_mod, ← Nat.add_mod, Nat.sub_add_cancel (by decide +kernel), Nat.add_mod, Nat.mul_mod, Nat.mod_mod, ← Nat.mul_mod, ← Nat.add_mod, Nat.mul_comm]

set_option maxHeartbeats 2000000 in
theorem fLfold_any (ys : List (BitVec 8)) (v : Value) (w : World) (hr : RdY w v ys) : Calls Try.prog 83 #[v] w fun e w' => e = .returned (.tuple #[wd (flN ys), .int .i64 (flE ys)]) ∧ Below w.heap.size w w' := by
  have iZ := hid (iW 0)
  have nZ := hid (one_cellsW 0)
  have hBn := hid nil_built
  have hC0 := hid (ArrW.new 24 w 0)
  have hb0 : Below w.heap.size w (w.alloc (.cells (cellsW 0) 24)) := (Below.refl _ _).alloc (Nat.le_refl _) _
  have hv0 := hid (hr.below hb0)
  clear hr
  obtain ⟨a, cap, rfl, hc, hx⟩ := hv0.out
  clear hx
  unfold wd
  by_cases h64 : 64 < ys.length
  · have h64i : (64 : Int) < (ys.length : Int) := by omega
    have HN := hid (show flN ys = 0 by unfold flN; rw [if_pos h64])
    have HE := hid (show flE ys = 1 by unfold flE; rw [if_pos h64])
    rw [HN.out, HE.out]
    clear h64
    go_enter Try.func83, Try.ntmps83
    go_wp2_with (first | (refine wpList_alloc_new rfl 24 rfl (cellsW 0) zWd ?_; simp only [Act.put, List.setIfInBounds_toArray, List.set_cons_zero, List.set_cons_succ, World.size_alloc]) | (refine wpList_buildStore 24 _ (.tmp 2) 11 (cellsW 0) _ rfl rfl rfl rfl rfl rfl (by simp) (by first | exact hBn.out | (simp only [List.map_toArray, List.map_cons, List.map_nil]; exact hBn.out)) rfl 24 _ hC0.out iZ.out rfl nZ.out ?_; simp only [Act.put, List.setIfInBounds_toArray, List.set_cons_zero, List.set_cons_succ]))
    refine bodyPost_ret (results_row_tmp rfl _ _ w.heap.size 24 (cellsW 0) (0, 0) _ rfl (heap_setRow' _ _ _ _ _ hC0.out) uWd rfl iZ.out) rfl ⟨rfl, below_setRow' hb0 _ (Nat.le_refl _) _⟩
  · have h64i : ¬ (64 : Int) < (ys.length : Int) := by omega
    have HN := hid (show flN ys = leN ys % lN by unfold flN; rw [if_neg h64])
    have HE := hid (show flE ys = 0 by unfold flE; rw [if_neg h64])
    rw [HN.out, HE.out]
    obtain ⟨n, hnl, hn32, hd32, hsum, hcase⟩ : ∃ n, n ≤ ys.length ∧ n ≤ 32 ∧ ys.length - n ≤ 32 ∧ leN ys = leN (ys.take n) + 2 ^ 256 * leN (ys.drop n) ∧ ((ys.length < 32 ∧ n = ys.length) ∨ (32 ≤ ys.length ∧ n = 32)) := by
      by_cases h : ys.length < 32
      · refine ⟨ys.length, Nat.le_refl _, by omega, by omega, ?_, .inl ⟨h, rfl⟩⟩
        rw [List.take_length, List.drop_length, show leN [] = 0 from rfl]; omega
      · exact ⟨32, by omega, by omega, by omega, leN_split ys 32 (by omega), .inr ⟨by omega, rfl⟩⟩
    have hF := hid (hv0.out.front n hnl)
    have hBk := hid (hv0.out.back n hnl)
    have hL1 := hid (fun v w h => little_any (ys.take n) v w h (by simp; omega))
    have hL2 := hid (fun v w h => little_any (ys.drop n) v w h (by simp; omega))
    have b1 := leN_lt (ys.take n) (by simp; omega)
    have b2 := leN_lt (ys.drop n) (by simp; omega)
    have hres := lfold_law (leN (ys.take n)) (leN (ys.drop n))
    rw [← hsum] at hres
    have hNot := hid (fun w => wnot_any 0 w (by decide))
    rw [show notW 0 = 2 ^ 256 - 1 by kernel_rfl] at hNot
    have hAm := hid (fun w => waddmod_any (2 ^ 256 - 1) 1 lN w (by decide +kernel) (by decide) lN_lt)
    rw [modW_lN] at hAm
    obtain ⟨ov, hov⟩ : ∃ ov, ov = (2 ^ 256 - 1 + 1) % lN := ⟨_, rfl⟩
    rw [← hov] at hAm hres
    have b3 : ov < 2 ^ 256 := by rw [hov]; exact Nat.lt_trans (Nat.mod_lt _ lN_pos) lN_lt
    have hMu := hid (fun w => lmul_any (leN (ys.drop n)) ov w b2 b3)
    have hAd := hid (fun w => ladd_any (leN (ys.take n)) (leN (ys.drop n) * ov % lN) w b1 (Nat.lt_trans (Nat.mod_lt _ lN_pos) lN_lt))
    rw [hres] at hAd
    obtain ⟨r, hrr⟩ : ∃ r, r = leN ys % lN := ⟨_, rfl⟩
    rw [← hrr] at hAd ⊢
    obtain ⟨lo, hlo⟩ : ∃ lo, lo = leN (ys.take n) := ⟨_, rfl⟩
    obtain ⟨hi, hhi⟩ : ∃ hi, hi = leN (ys.drop n) := ⟨_, rfl⟩
    rw [← hlo] at hL1 hAd
    rw [← hhi] at hL2 hAd hMu
    obtain ⟨m, hm⟩ : ∃ m, m = hi * ov % lN := ⟨_, rfl⟩
    rw [← hm] at hMu hAd
    have hLl := hid (fun w => fL_any w)
    obtain ⟨l, hl⟩ : ∃ l, l = lN := ⟨_, rfl⟩
    rw [← hl] at hLl hAm
    obtain ⟨on, hon⟩ : ∃ on, on = 2 ^ 256 - 1 := ⟨_, rfl⟩
    rw [← hon] at hNot hAm
    clear hov b1 b2 b3 hres hsum hrr hlo hhi hm hl hon h64 HN HE
    unfold wd at *
    have iR := hid (iW r)
    have nR := hid (one_cellsW r)
    have iLo := hid (iW lo)
    have nLo := hid (one_cellsW lo)
    have iHi := hid (iW hi)
    have nHi := hid (one_cellsW hi)
    have iOv := hid (iW ov)
    have nOv := hid (one_cellsW ov)
    have hB1 := hid one_built
    have hnI : (n : Int) ≤ (ys.length : Int) := by omega
    have hnc : (n : Int) ≤ (cap : Int) := by omega
    have HL := hid hn32
    have Hd := hid hd32
    clear hn32 hd32
    rcases hcase with ⟨hc1, hc2⟩ | ⟨hc1, hc2⟩
    · subst hc2
      go_enter Try.func83, Try.ntmps83
      have hq1 : (ys.length : Int) ≤ (cap : Int) := by omega
      have hq2 : (ys.length : Int) ≤ (ys.length : Int) := by omega
      go_wp2_with (refine wpList_alloc_new rfl 24 rfl (cellsW 0) zWd ?_; simp only [Act.put, List.setIfInBounds_toArray, List.set_cons_zero, List.set_cons_succ, World.size_alloc])
      rw [show min (ys.length : Int) 32 = (ys.length : Int) by omega]
      generalize w.alloc (.cells (cellsW 0) 24) = w1 at hC0 hb0 hv0 hF hBk ⊢
      ((try simp only [World.size_alloc]); refine wp_region_loose_apart (es := [.kn (.slice a ys.length cap), .kn (.int .i64 (ys.length : Int)), .lo (fun v w => RdY w v (ys.take ys.length)), .kn (.agg (cellsW lo)), .kn (.slice a ys.length cap), .kn (.int .i64 (ys.length : Int)), .lo (fun v w => RdY w v (ys.drop ys.length)), .kn (.agg (cellsW hi)), .lo (fun v w' => ∃ b, v = .pointer (some ⟨b, 0, none⟩) ∧ ArrW 24 w' b 0 ∧ w1.heap.size ≤ b), .lo (fun v w' => ∃ b, v = .pointer (some ⟨b, 0, none⟩) ∧ ArrW 24 w' b 0 ∧ w1.heap.size ≤ b)]) 10 (by kernel_rfl) (by kernel_rfl) (by kernel_rfl) (by first | exact trivial | ((repeat (first | refine keepsAll_kn ?_ | (refine keepsAll_lo (fun v w w' h hb => ?_) ?_; first | exact RdN.below h hb | exact RdL.below h hb | exact RdY.below h hb | (obtain ⟨b, e, h1, h2⟩ := h; exact ⟨b, e, ArrW.below h1 hb (ArrW.lt h1), h2⟩)))); exact trivial)) (by kernel_rfl) ?_; simp only [List.take_succ_cons, List.take_zero, List.drop_succ_cons, List.drop_zero])
      (refine loose_step_on rfl (fun W' hB' hd K hK => ?_) ?_; (focus (clear hd; go_simp; exact hK _ _ (Below.refl _ _) rfl)); rintro _ rfl; simp only [Act.put, List.setIfInBounds_toArray, List.set_cons_zero, List.set_cons_succ])
      (refine loose_step_on rfl (fun W' hB' hd K hK => ?_) ?_; (focus (clear hd; go_simp; exact hK _ _ (Below.refl _ _) rfl)); rintro _ rfl; simp only [Act.put, List.setIfInBounds_toArray, List.set_cons_zero, List.set_cons_succ])
      (refine loose_step_on rfl (fun W' hB' hd K hK => ?_) ?_; (focus (clear hd; go_simp; exact hK _ _ (Below.refl _ _) (RdY.below hF.out hB'))); intro v17 _; simp only [Act.put, List.setIfInBounds_toArray, List.set_cons_zero, List.set_cons_succ])
      (refine loose_step_on rfl (fun W' hB' hd K hK => ?_) ?_; (focus (have g17 : RdY W' v17 (ys.take ys.length) := hd ⟨2, Ground.data⟩ (by simp) rfl _ 17 rfl rfl (by simp); clear hd; go_simp; refine (hL1.out v17 _ g17).mono ?_; rintro _ _ ⟨rfl, hb'⟩; exact hK _ _ hb' rfl)); rintro _ rfl; simp only [Act.put, List.setIfInBounds_toArray, List.set_cons_zero, List.set_cons_succ])
      (refine loose_step_on rfl (fun W' hB' hd K hK => ?_) ?_; (focus (clear hd; go_simp; exact hK _ _ (Below.refl _ _) rfl)); rintro _ rfl; simp only [Act.put, List.setIfInBounds_toArray, List.set_cons_zero, List.set_cons_succ])
      (refine loose_step_on rfl (fun W' hB' hd K hK => ?_) ?_; (focus (clear hd; go_simp; exact hK _ _ (Below.refl _ _) rfl)); rintro _ rfl; simp only [Act.put, List.setIfInBounds_toArray, List.set_cons_zero, List.set_cons_succ])
      (refine loose_step_on rfl (fun W' hB' hd K hK => ?_) ?_; (focus (clear hd; go_simp; exact hK _ _ (Below.refl _ _) (show RdY W' _ (ys.drop ys.length) by have := RdY.below hBk.out hB'; simpa [sliced, Addr.add] using this))); intro v21 _; simp only [Act.put, List.setIfInBounds_toArray, List.set_cons_zero, List.set_cons_succ])
      (refine loose_step_on rfl (fun W' hB' hd K hK => ?_) ?_; (focus (have g21 : RdY W' v21 (ys.drop ys.length) := hd ⟨6, Ground.data⟩ (by simp) rfl _ 21 rfl rfl (by simp); clear hd; go_simp; refine (hL2.out v21 _ g21).mono ?_; rintro _ _ ⟨rfl, hb'⟩; exact hK _ _ hb' rfl)); rintro _ rfl; simp only [Act.put, List.setIfInBounds_toArray, List.set_cons_zero, List.set_cons_succ])
      (refine loose_step_on rfl (fun W' hB' hd K hK => ?_) ?_; (focus (exact wp_alloc_new 24 rfl (cellsW 0) zWd (hK _ _ ((Below.refl _ _).alloc (Nat.le_refl _) _) ⟨_, rfl, ArrW.new _ _ 0, Nat.le_trans (Nat.le_refl _) hB'.size⟩))); intro v5 _; simp only [Act.put, List.setIfInBounds_toArray, List.set_cons_zero, List.set_cons_succ])
      (refine loose_step_on rfl (fun W' hB' hd K hK => ?_) ?_; (focus (exact wp_alloc_new 24 rfl (cellsW 0) zWd (hK _ _ ((Below.refl _ _).alloc (Nat.le_refl _) _) ⟨_, rfl, ArrW.new _ _ 0, Nat.le_trans (Nat.le_refl _) hB'.size⟩))); intro v6 _; simp only [Act.put, List.setIfInBounds_toArray, List.set_cons_zero, List.set_cons_succ])
      intro w6 hb6 hf hap
      have g5 : ∃ b, v5 = .pointer (some ⟨b, 0, none⟩) ∧ ArrW 24 w6 b 0 ∧ w1.heap.size ≤ b := hf 8 _ 5 (by first | omega | simp) rfl rfl (by simp)
      have g6 : ∃ b, v6 = .pointer (some ⟨b, 0, none⟩) ∧ ArrW 24 w6 b 0 ∧ w1.heap.size ≤ b := hf 9 _ 6 (by first | omega | simp) rfl rfl (by simp)
      obtain ⟨b5, rfl, h5, l5⟩ := g5
      obtain ⟨b6, rfl, h6, l6⟩ := g6
      have hne : b5 ≠ b6 := by
        rintro rfl
        exact hap 8 9 _ _ 5 6 (by omega) (by omega) (by omega) rfl rfl (by kernel_rfl) (by kernel_rfl) rfl rfl (by simp) (by simp) rfl
      clear hf hap
      have hbw := hb0.trans (hb6.mono hb0.size)
      have hX5 := hid h5
      have hX6 := hid h6
      have hY5 := hid (hX5.out.row lo)
      have hY6 := hid (hX6.out.otherRow (Ne.symm hne) (cellsW lo))
      have hZ6 := hid (hY6.out.row hi)
      have hZ5 := hid (hY5.out.otherRow hne (cellsW hi))
      have hs1 : w.heap.size + 1 ≤ w1.heap.size := by have := hC0.out.lt; omega
      have hCw := hid (((hC0.out.below hb6 hC0.out.lt).otherRow (show w.heap.size ≠ b5 by omega) (cellsW lo)).otherRow (show w.heap.size ≠ b6 by omega) (cellsW hi))
      have hbz := below_setRow' (below_setRow' hbw b5 (by omega) (cellsW lo)) b6 (by omega) (cellsW hi)
      clear h5 h6 hv0 hF hBk hb6 hC0 hb0
      go_wp2_with (first | (refine wpList_store_row rfl 24 (.tmp 5) (.tmp 18) rfl b5 _ rfl rfl 24 _ hX5.out iLo.out (by rw [size_cellsW, size_cellsW]) nLo.out ?_; simp only [Act.put]) | (refine wpList_store_row rfl 24 (.tmp 6) (.tmp 22) rfl b6 _ rfl rfl 24 _ hY6.out iHi.out (by rw [size_cellsW, size_cellsW]) nHi.out ?_; simp only [Act.put]) | (refine wpList_build_cells rfl 24 _ rfl (cellsW 0) (by first | exact hBn.out | (simp only [List.map_toArray, List.map_cons, List.map_nil]; exact hBn.out)) ?_; simp only [Act.put, List.setIfInBounds_toArray, List.set_cons_zero, List.set_cons_succ]))
      generalize (w6.setRow b5 (cellsW lo)).setRow b6 (cellsW hi) = w7 at hZ5 hZ6 hCw hbz ⊢
      clear hX5 hX6 hY5 hY6 hbw
      refine (hNot.out _).mono ?_
      rintro e w8 ⟨rfl, hs8⟩
      go_wp2_with (refine wpList_build_cells rfl 24 _ rfl (cellsW 1) (by first | exact hB1.out | (simp only [List.map_toArray, List.map_cons, List.map_nil]; exact hB1.out)) ?_; simp only [Act.put, List.setIfInBounds_toArray, List.set_cons_zero, List.set_cons_succ])
      refine (hLl.out _).mono ?_
      rintro e w9 ⟨rfl, hs9⟩
      go_wp2_with fail
      refine (hAm.out _).mono ?_
      rintro e w10 ⟨rfl, hs10⟩
      have hL10 := hid ((((hZ5.out.step hs8).step hs9).step hs10).alloc (.cells (cellsW ov) 24))
      have hH10 := hid ((((hZ6.out.step hs8).step hs9).step hs10).alloc (.cells (cellsW ov) 24))
      have hC10 := hid ((((hCw.out.step hs8).step hs9).step hs10).alloc (.cells (cellsW ov) 24))
      have hO10 := hid (ArrW.new 24 w10 ov)
      have hb10 := hbz.trans ((below_next (below_next hs8 (Nat.le_refl _) hs9) (Nat.le_refl _) hs10).mono hbz.size)
      have hb11 := hb10.alloc hb10.size (.cells (cellsW ov) 24)
      clear hs8 hs9 hs10 hbz hZ5 hZ6 hCw hb10
      go_wp2_with (refine wpList_allocStore 24 27 7 (cellsW ov) (cellsW 0) rfl rfl rfl rfl rfl rfl (by decide) (by simp) rfl (by kernel_rfl) (by rw [size_cellsW, size_cellsW]) iOv.out nOv.out ?_; simp only [Act.put, List.setIfInBounds_toArray, List.set_cons_zero, List.set_cons_succ])
      obtain ⟨G, hG⟩ : ∃ G, G = w10.heap.size := ⟨_, rfl⟩
      rw [← hG] at hO10 ⊢
      generalize w10.alloc (.cells (cellsW ov) 24) = w11 at hL10 hH10 hC10 hO10 hb11 ⊢
      clear hG
      ((try simp only [World.size_alloc]); refine wp_region_ext_tail 5 (by kernel_rfl) (by kernel_rfl) ?_; simp only [List.take_succ_cons, List.take_zero, List.drop_succ_cons, List.drop_zero]; (repeat (first | (refine wpQuiet_load_want 24 (.tmp 5) rfl b5 rfl 24 (cellsW _) _ hL10.out uWd rfl iLo.out rfl ?_; simp only [Act.put, List.setIfInBounds_toArray, List.set_cons_zero, List.set_cons_succ]) | (refine wpQuiet_load_want 24 (.tmp 6) rfl b6 rfl 24 (cellsW _) _ hH10.out uWd rfl iHi.out rfl ?_; simp only [Act.put, List.setIfInBounds_toArray, List.set_cons_zero, List.set_cons_succ]) | (refine wpQuiet_load_want 24 (.tmp 7) rfl G rfl 24 (cellsW _) _ hO10.out uWd rfl iOv.out rfl ?_; simp only [Act.put, List.setIfInBounds_toArray, List.set_cons_zero, List.set_cons_succ]) | go_big_quiet_step (first | (go_at_call 76; with_reducible refine Calls.ext_of (hMu.out _)) | (go_at_call 74; with_reducible refine Calls.ext_of (hAd.out _))))); refine wpQuiet_nil ?_; rintro _ ⟨xw, rfl⟩)
      have hC12 := hid (hC10.out.ext xw)
      have hb12 := World.ext_below_of hb11 hb11.size xw
      clear hL10 hH10 hC10 hO10 hb11
      go_wp2_with (refine wpList_store_row rfl 24 (.tmp 2) (.tmp 32) rfl w.heap.size _ rfl rfl 24 _ hC12.out iR.out (by rw [size_cellsW, size_cellsW]) nR.out ?_; simp only [Act.put])
      refine bodyPost_ret (results_row_tmp rfl _ _ w.heap.size 24 (cellsW r) (0, 0) _ rfl (heap_setRow' _ _ _ _ _ hC12.out) uWd rfl iR.out) rfl ⟨rfl, below_setRow' hb12 _ (Nat.le_refl _) _⟩
    · subst hc2
      go_enter Try.func83, Try.ntmps83
      have hq1 : 32 ≤ (cap : Int) := by omega
      have hq2 : 32 ≤ (ys.length : Int) := by omega
      go_wp2_with (refine wpList_alloc_new rfl 24 rfl (cellsW 0) zWd ?_; simp only [Act.put, List.setIfInBounds_toArray, List.set_cons_zero, List.set_cons_succ, World.size_alloc])
      rw [show min (ys.length : Int) 32 = 32 by omega]
      generalize w.alloc (.cells (cellsW 0) 24) = w1 at hC0 hb0 hv0 hF hBk ⊢
      ((try simp only [World.size_alloc]); refine wp_region_loose_apart (es := [.kn (.slice a ys.length cap), .kn (.int .i64 32), .lo (fun v w => RdY w v (ys.take 32)), .kn (.agg (cellsW lo)), .kn (.slice a ys.length cap), .kn (.int .i64 32), .lo (fun v w => RdY w v (ys.drop 32)), .kn (.agg (cellsW hi)), .lo (fun v w' => ∃ b, v = .pointer (some ⟨b, 0, none⟩) ∧ ArrW 24 w' b 0 ∧ w1.heap.size ≤ b), .lo (fun v w' => ∃ b, v = .pointer (some ⟨b, 0, none⟩) ∧ ArrW 24 w' b 0 ∧ w1.heap.size ≤ b)]) 10 (by kernel_rfl) (by kernel_rfl) (by kernel_rfl) (by first | exact trivial | ((repeat (first | refine keepsAll_kn ?_ | (refine keepsAll_lo (fun v w w' h hb => ?_) ?_; first | exact RdN.below h hb | exact RdL.below h hb | exact RdY.below h hb | (obtain ⟨b, e, h1, h2⟩ := h; exact ⟨b, e, ArrW.below h1 hb (ArrW.lt h1), h2⟩)))); exact trivial)) (by kernel_rfl) ?_; simp only [List.take_succ_cons, List.take_zero, List.drop_succ_cons, List.drop_zero])
      (refine loose_step_on rfl (fun W' hB' hd K hK => ?_) ?_; (focus (clear hd; go_simp; exact hK _ _ (Below.refl _ _) rfl)); rintro _ rfl; simp only [Act.put, List.setIfInBounds_toArray, List.set_cons_zero, List.set_cons_succ])
      (refine loose_step_on rfl (fun W' hB' hd K hK => ?_) ?_; (focus (clear hd; go_simp; exact hK _ _ (Below.refl _ _) rfl)); rintro _ rfl; simp only [Act.put, List.setIfInBounds_toArray, List.set_cons_zero, List.set_cons_succ])
      (refine loose_step_on rfl (fun W' hB' hd K hK => ?_) ?_; (focus (clear hd; go_simp; exact hK _ _ (Below.refl _ _) (RdY.below hF.out hB'))); intro v17 _; simp only [Act.put, List.setIfInBounds_toArray, List.set_cons_zero, List.set_cons_succ])
      (refine loose_step_on rfl (fun W' hB' hd K hK => ?_) ?_; (focus (have g17 : RdY W' v17 (ys.take 32) := hd ⟨2, Ground.data⟩ (by simp) rfl _ 17 rfl rfl (by simp); clear hd; go_simp; refine (hL1.out v17 _ g17).mono ?_; rintro _ _ ⟨rfl, hb'⟩; exact hK _ _ hb' rfl)); rintro _ rfl; simp only [Act.put, List.setIfInBounds_toArray, List.set_cons_zero, List.set_cons_succ])
      (refine loose_step_on rfl (fun W' hB' hd K hK => ?_) ?_; (focus (clear hd; go_simp; exact hK _ _ (Below.refl _ _) rfl)); rintro _ rfl; simp only [Act.put, List.setIfInBounds_toArray, List.set_cons_zero, List.set_cons_succ])
      (refine loose_step_on rfl (fun W' hB' hd K hK => ?_) ?_; (focus (clear hd; go_simp; exact hK _ _ (Below.refl _ _) rfl)); rintro _ rfl; simp only [Act.put, List.setIfInBounds_toArray, List.set_cons_zero, List.set_cons_succ])
      (refine loose_step_on rfl (fun W' hB' hd K hK => ?_) ?_; (focus (clear hd; go_simp; exact hK _ _ (Below.refl _ _) (show RdY W' _ (ys.drop 32) by have := RdY.below hBk.out hB'; simpa [sliced, Addr.add] using this))); intro v21 _; simp only [Act.put, List.setIfInBounds_toArray, List.set_cons_zero, List.set_cons_succ])
      (refine loose_step_on rfl (fun W' hB' hd K hK => ?_) ?_; (focus (have g21 : RdY W' v21 (ys.drop 32) := hd ⟨6, Ground.data⟩ (by simp) rfl _ 21 rfl rfl (by simp); clear hd; go_simp; refine (hL2.out v21 _ g21).mono ?_; rintro _ _ ⟨rfl, hb'⟩; exact hK _ _ hb' rfl)); rintro _ rfl; simp only [Act.put, List.setIfInBounds_toArray, List.set_cons_zero, List.set_cons_succ])
      (refine loose_step_on rfl (fun W' hB' hd K hK => ?_) ?_; (focus (exact wp_alloc_new 24 rfl (cellsW 0) zWd (hK _ _ ((Below.refl _ _).alloc (Nat.le_refl _) _) ⟨_, rfl, ArrW.new _ _ 0, Nat.le_trans (Nat.le_refl _) hB'.size⟩))); intro v5 _; simp only [Act.put, List.setIfInBounds_toArray, List.set_cons_zero, List.set_cons_succ])
      (refine loose_step_on rfl (fun W' hB' hd K hK => ?_) ?_; (focus (exact wp_alloc_new 24 rfl (cellsW 0) zWd (hK _ _ ((Below.refl _ _).alloc (Nat.le_refl _) _) ⟨_, rfl, ArrW.new _ _ 0, Nat.le_trans (Nat.le_refl _) hB'.size⟩))); intro v6 _; simp only [Act.put, List.setIfInBounds_toArray, List.set_cons_zero, List.set_cons_succ])
      intro w6 hb6 hf hap
      have g5 : ∃ b, v5 = .pointer (some ⟨b, 0, none⟩) ∧ ArrW 24 w6 b 0 ∧ w1.heap.size ≤ b := hf 8 _ 5 (by first | omega | simp) rfl rfl (by simp)
      have g6 : ∃ b, v6 = .pointer (some ⟨b, 0, none⟩) ∧ ArrW 24 w6 b 0 ∧ w1.heap.size ≤ b := hf 9 _ 6 (by first | omega | simp) rfl rfl (by simp)
      obtain ⟨b5, rfl, h5, l5⟩ := g5
      obtain ⟨b6, rfl, h6, l6⟩ := g6
      have hne : b5 ≠ b6 := by
        rintro rfl
        exact hap 8 9 _ _ 5 6 (by omega) (by omega) (by omega) rfl rfl (by kernel_rfl) (by kernel_rfl) rfl rfl (by simp) (by simp) rfl
      clear hf hap
      have hbw := hb0.trans (hb6.mono hb0.size)
      have hX5 := hid h5
      have hX6 := hid h6
      have hY5 := hid (hX5.out.row lo)
      have hY6 := hid (hX6.out.otherRow (Ne.symm hne) (cellsW lo))
      have hZ6 := hid (hY6.out.row hi)
      have hZ5 := hid (hY5.out.otherRow hne (cellsW hi))
      have hs1 : w.heap.size + 1 ≤ w1.heap.size := by have := hC0.out.lt; omega
      have hCw := hid (((hC0.out.below hb6 hC0.out.lt).otherRow (show w.heap.size ≠ b5 by omega) (cellsW lo)).otherRow (show w.heap.size ≠ b6 by omega) (cellsW hi))
      have hbz := below_setRow' (below_setRow' hbw b5 (by omega) (cellsW lo)) b6 (by omega) (cellsW hi)
      clear h5 h6 hv0 hF hBk hb6 hC0 hb0
      go_wp2_with (first | (refine wpList_store_row rfl 24 (.tmp 5) (.tmp 18) rfl b5 _ rfl rfl 24 _ hX5.out iLo.out (by rw [size_cellsW, size_cellsW]) nLo.out ?_; simp only [Act.put]) | (refine wpList_store_row rfl 24 (.tmp 6) (.tmp 22) rfl b6 _ rfl rfl 24 _ hY6.out iHi.out (by rw [size_cellsW, size_cellsW]) nHi.out ?_; simp only [Act.put]) | (refine wpList_build_cells rfl 24 _ rfl (cellsW 0) (by first | exact hBn.out | (simp only [List.map_toArray, List.map_cons, List.map_nil]; exact hBn.out)) ?_; simp only [Act.put, List.setIfInBounds_toArray, List.set_cons_zero, List.set_cons_succ]))
      generalize (w6.setRow b5 (cellsW lo)).setRow b6 (cellsW hi) = w7 at hZ5 hZ6 hCw hbz ⊢
      clear hX5 hX6 hY5 hY6 hbw
      refine (hNot.out _).mono ?_
      rintro e w8 ⟨rfl, hs8⟩
      go_wp2_with (refine wpList_build_cells rfl 24 _ rfl (cellsW 1) (by first | exact hB1.out | (simp only [List.map_toArray, List.map_cons, List.map_nil]; exact hB1.out)) ?_; simp only [Act.put, List.setIfInBounds_toArray, List.set_cons_zero, List.set_cons_succ])
      refine (hLl.out _).mono ?_
      rintro e w9 ⟨rfl, hs9⟩
      go_wp2_with fail
      refine (hAm.out _).mono ?_
      rintro e w10 ⟨rfl, hs10⟩
      have hL10 := hid ((((hZ5.out.step hs8).step hs9).step hs10).alloc (.cells (cellsW ov) 24))
      have hH10 := hid ((((hZ6.out.step hs8).step hs9).step hs10).alloc (.cells (cellsW ov) 24))
      have hC10 := hid ((((hCw.out.step hs8).step hs9).step hs10).alloc (.cells (cellsW ov) 24))
      have hO10 := hid (ArrW.new 24 w10 ov)
      have hb10 := hbz.trans ((below_next (below_next hs8 (Nat.le_refl _) hs9) (Nat.le_refl _) hs10).mono hbz.size)
      have hb11 := hb10.alloc hb10.size (.cells (cellsW ov) 24)
      clear hs8 hs9 hs10 hbz hZ5 hZ6 hCw hb10
      go_wp2_with (refine wpList_allocStore 24 27 7 (cellsW ov) (cellsW 0) rfl rfl rfl rfl rfl rfl (by decide) (by simp) rfl (by kernel_rfl) (by rw [size_cellsW, size_cellsW]) iOv.out nOv.out ?_; simp only [Act.put, List.setIfInBounds_toArray, List.set_cons_zero, List.set_cons_succ])
      obtain ⟨G, hG⟩ : ∃ G, G = w10.heap.size := ⟨_, rfl⟩
      rw [← hG] at hO10 ⊢
      generalize w10.alloc (.cells (cellsW ov) 24) = w11 at hL10 hH10 hC10 hO10 hb11 ⊢
      clear hG
      ((try simp only [World.size_alloc]); refine wp_region_ext_tail 5 (by kernel_rfl) (by kernel_rfl) ?_; simp only [List.take_succ_cons, List.take_zero, List.drop_succ_cons, List.drop_zero]; (repeat (first | (refine wpQuiet_load_want 24 (.tmp 5) rfl b5 rfl 24 (cellsW _) _ hL10.out uWd rfl iLo.out rfl ?_; simp only [Act.put, List.setIfInBounds_toArray, List.set_cons_zero, List.set_cons_succ]) | (refine wpQuiet_load_want 24 (.tmp 6) rfl b6 rfl 24 (cellsW _) _ hH10.out uWd rfl iHi.out rfl ?_; simp only [Act.put, List.setIfInBounds_toArray, List.set_cons_zero, List.set_cons_succ]) | (refine wpQuiet_load_want 24 (.tmp 7) rfl G rfl 24 (cellsW _) _ hO10.out uWd rfl iOv.out rfl ?_; simp only [Act.put, List.setIfInBounds_toArray, List.set_cons_zero, List.set_cons_succ]) | go_big_quiet_step (first | (go_at_call 76; with_reducible refine Calls.ext_of (hMu.out _)) | (go_at_call 74; with_reducible refine Calls.ext_of (hAd.out _))))); refine wpQuiet_nil ?_; rintro _ ⟨xw, rfl⟩)
      have hC12 := hid (hC10.out.ext xw)
      have hb12 := World.ext_below_of hb11 hb11.size xw
      clear hL10 hH10 hC10 hO10 hb11
      go_wp2_with (refine wpList_store_row rfl 24 (.tmp 2) (.tmp 32) rfl w.heap.size _ rfl rfl 24 _ hC12.out iR.out (by rw [size_cellsW, size_cellsW]) nR.out ?_; simp only [Act.put])
      refine bodyPost_ret (results_row_tmp rfl _ _ w.heap.size 24 (cellsW r) (0, 0) _ rfl (heap_setRow' _ _ _ _ _ hC12.out) uWd rfl iR.out) rfl ⟨rfl, below_setRow' hb12 _ (Nat.le_refl _) _⟩
end Go.Proofs.Ytfidbiabgmioaaa
