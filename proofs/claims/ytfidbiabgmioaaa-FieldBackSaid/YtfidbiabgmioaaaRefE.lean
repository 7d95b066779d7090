import Derived.Test.YtfidbiabgmioaaaRefD
/-! conclaveref01: Signext, Scmp, Exp. -/
set_option maxRecDepth 4000
set_option linter.unusedVariables false
set_option linter.unusedSimpArgs false
namespace Go.Proofs.Ytfidbiabgmioaaa
open Go.RowKit

set_option maxHeartbeats 2000000 in
theorem rsext_any (a x : Nat) (w : World) (ha : a < 2 ^ 256) (hx : x < 2 ^ 256) : Calls Try.prog 37 #[wd a, wd x] w fun e w' => e = .returned (wd (sexW a x)) ∧ Below w.heap.size w w' := by
  have hU := hid (fun w => small_any a 31 w ha (by omega))
  have hk := upT_le a 31
  obtain ⟨n, hn⟩ : ∃ n, n = upT a 31 := ⟨_, rfl⟩
  rw [← hn] at hU hk
  have iA := hid (iW a)
  have iX := hid (iW x)
  have nX := hid (one_cellsW x)
  by_cases h31 : n = 31
  · have HY := hid (sexW_31 a x hx (by omega))
    subst h31
    rw [HY.out]
    clear HY hx hn hk ha
    unfold wd at *
    have hA0 := hid (show ArrW 24 (((w.alloc (.cells (cellsW a) 24)).alloc (.cells (cellsW x) 24)).alloc (.cells (cellsW 0) 24)) w.heap.size a from ((ArrW.new _ w a).alloc _).alloc _)
    have hB0 := hid (show ArrW 24 (((w.alloc (.cells (cellsW a) 24)).alloc (.cells (cellsW x) 24)).alloc (.cells (cellsW 0) 24)) (w.heap.size + 1) x by
      have := ArrW.new 24 (w.alloc (.cells (cellsW a) 24)) x
      rw [World.size_alloc] at this; exact this.alloc _)
    have hC0 := hid (show ArrW 24 (((w.alloc (.cells (cellsW a) 24)).alloc (.cells (cellsW x) 24)).alloc (.cells (cellsW 0) 24)) (w.heap.size + 2) 0 by
      have := ArrW.new 24 ((w.alloc (.cells (cellsW a) 24)).alloc (.cells (cellsW x) 24)) 0
      rw [World.size_alloc, World.size_alloc] at this; exact this)
    have hb0 : Below w.heap.size w (((w.alloc (.cells (cellsW a) 24)).alloc (.cells (cellsW x) 24)).alloc (.cells (cellsW 0) 24)) := (((Below.refl _ _).alloc (Nat.le_refl _) _).alloc (by simp) _).alloc (by simp; omega) _
    go_enter Try.func37, Try.ntmps37
    go_wp2_with (first | (refine wpList_alloc_new rfl 24 rfl (cellsW 0) zWd ?_; simp only [Act.put, List.setIfInBounds_toArray, List.set_cons_zero, List.set_cons_succ, World.size_alloc]) | (refine wpList_load_row rfl 24 (.tmp 2) rfl w.heap.size rfl 24 _ (0, 0) _ hA0.out uWd rfl iA.out ?_; simp only [Act.put, List.setIfInBounds_toArray, List.set_cons_zero, List.set_cons_succ]))
    refine (hU.out _).mono ?_
    rintro e w1 ⟨rfl, hb1⟩
    have hB1 := hid (hB0.out.below hb1 hB0.out.lt)
    have hC1 := hid (hC0.out.below hb1 hC0.out.lt)
    have hb2 := hb0.trans (hb1.mono hb0.size)
    clear hA0 hB0 hC0 hb0 hb1
    go_wp2_with (first | (refine wpList_load_row rfl 24 (.tmp 3) rfl (w.heap.size + 1) rfl 24 _ (0, 0) _ hB1.out uWd rfl iX.out ?_; simp only [Act.put, List.setIfInBounds_toArray, List.set_cons_zero, List.set_cons_succ]) | (refine wpList_store_row rfl 24 (.tmp 4) (.tmp 12) rfl (w.heap.size + 2) _ rfl rfl 24 _ hC1.out iX.out rfl nX.out ?_; simp only [Act.put]))
    refine bodyPost_ret (results_cell_row rfl _ _ (w.heap.size + 2) 24 (cellsW x) (0, 0) _ rfl (heap_setRow' _ _ _ _ _ hC1.out) uWd rfl iX.out) rfl ⟨rfl, below_setRow' hb2 _ (by omega) _⟩
  · have HY := hid (sexW_low a x n hn.symm (by omega))
    have hOX := hid (fun w => of_any x w hx)
    have lx := dg_word_len x hx
    have lp := len_pow (8 * n + 8)
    have l1 := len_pow 256
    have hP := hid (fun w => power_any (8 * n + 8) w (by omega))
    have hP1 := hid (fun w => power_any 256 w (by omega))
    have hpos : 0 < 2 ^ (8 * n + 8) := Nat.pow_pos (by omega)
    have hQ := hid (fun va vb w ha hb => quo_any x (2 ^ (8 * n + 8)) va vb w ha hb (by omega) (by omega) hpos)
    have hlow : x % 2 ^ (8 * n + 8) < 2 ^ 256 := Nat.lt_of_le_of_lt (Nat.mod_le _ _) hx
    have ll := dg_word_len _ hlow
    have hle : 2 ^ (8 * n + 8) ≤ 2 ^ 256 := Nat.pow_le_pow_right (by omega) (by omega)
    have hL := hid (fun va vb w ha hb => less_any (2 ^ 256) (2 ^ (8 * n + 8)) va vb w ha hb (by omega) hle)
    have ld : (dg (2 ^ 256 - 2 ^ (8 * n + 8))).length ≤ 33 := len_le (Nat.sub_le _ _) l1
    have ls := len_add (Nat.le_trans ll (by omega : _ ≤ 33)) ld
    have hS := hid (fun va vb w ha hb => plus_any (x % 2 ^ (8 * n + 8)) (2 ^ 256 - 2 ^ (8 * n + 8)) va vb w ha hb (by omega) (by omega))
    have hW1 := hid (fun v w h => wordN_any (x % 2 ^ (8 * n + 8) + (2 ^ 256 - 2 ^ (8 * n + 8))) v w h (by omega))
    have hW0 := hid (fun v w h => wordN_any (x % 2 ^ (8 * n + 8)) v w h (by omega))
    rw [Nat.mod_eq_of_lt hlow] at hW0
    have hbit := lm_bit x (8 * n + 7)
    rw [show (8 * n + 7) / 64 = n / 8 by omega, show (8 * n + 7) % 64 = 8 * (n % 8) + 7 by omega] at hbit
    obtain ⟨y, hy⟩ : ∃ y, y = sexW a x := ⟨_, rfl⟩
    rw [← hy] at HY ⊢
    obtain ⟨q, hq⟩ : ∃ q, q = x / 2 ^ (8 * n + 8) := ⟨_, rfl⟩
    obtain ⟨r, hr⟩ : ∃ r, r = x % 2 ^ (8 * n + 8) := ⟨_, rfl⟩
    obtain ⟨p, hp⟩ : ∃ p, p = 2 ^ (8 * n + 8) := ⟨_, rfl⟩
    obtain ⟨p1, hp1⟩ : ∃ p : Nat, p = 2 ^ 256 := ⟨_, rfl⟩
    obtain ⟨b, hb⟩ : ∃ b, b = x / 2 ^ (8 * n + 7) % 2 := ⟨_, rfl⟩
    have hb2 : b = 0 ∨ b = 1 := by omega
    rw [← hr] at hQ hW1 hW0 hS HY
    rw [← hq] at hQ
    rw [← hb] at hbit HY
    rw [← hp] at hP hQ hL hW1 hS HY
    obtain ⟨d, hd⟩ : ∃ d, d = 2 ^ 256 - p := ⟨_, rfl⟩
    rw [← hd] at hL hS hW1 HY
    rw [← hp1] at hP1 hL
    obtain ⟨s, hs⟩ : ∃ s, s = r + d := ⟨_, rfl⟩
    rw [← hs] at hS hW1 HY
    obtain ⟨z, hz⟩ : ∃ z, z = s % 2 ^ 256 := ⟨_, rfl⟩
    rw [← hz] at hW1 HY
    have g1 := lm_nonneg x (n / 8)
    have g2 := lm_lt x (n / 8)
    have hn30 : n ≤ 30 := by omega
    have hne : ¬ (n : Int) = 31 := by omega
    have hsh : (8 * ((n : Int) % 8) + 7).toNat = 8 * (n % 8) + 7 := by omega
    clear h31 hn hk ha hx lx lp l1 hpos hlow ll hle ld ls hy hq hr hp hp1 hb hd hs hz
    have iR := hid (iW r)
    have nR := hid (one_cellsW r)
    have iZ := hid (iW z)
    have nZ := hid (one_cellsW z)
    unfold wd at *
    have hA0 := hid (show ArrW 24 (((w.alloc (.cells (cellsW a) 24)).alloc (.cells (cellsW x) 24)).alloc (.cells (cellsW 0) 24)) w.heap.size a from ((ArrW.new _ w a).alloc _).alloc _)
    have hB0 := hid (show ArrW 24 (((w.alloc (.cells (cellsW a) 24)).alloc (.cells (cellsW x) 24)).alloc (.cells (cellsW 0) 24)) (w.heap.size + 1) x by
      have := ArrW.new 24 (w.alloc (.cells (cellsW a) 24)) x
      rw [World.size_alloc] at this; exact this.alloc _)
    have hC0 := hid (show ArrW 24 (((w.alloc (.cells (cellsW a) 24)).alloc (.cells (cellsW x) 24)).alloc (.cells (cellsW 0) 24)) (w.heap.size + 2) 0 by
      have := ArrW.new 24 ((w.alloc (.cells (cellsW a) 24)).alloc (.cells (cellsW x) 24)) 0
      rw [World.size_alloc, World.size_alloc] at this; exact this)
    have hb0 : Below w.heap.size w (((w.alloc (.cells (cellsW a) 24)).alloc (.cells (cellsW x) 24)).alloc (.cells (cellsW 0) 24)) := (((Below.refl _ _).alloc (Nat.le_refl _) _).alloc (by simp) _).alloc (by simp; omega) _
    go_enter Try.func37, Try.ntmps37
    go_wp2_with (first | (refine wpList_alloc_new rfl 24 rfl (cellsW 0) zWd ?_; simp only [Act.put, List.setIfInBounds_toArray, List.set_cons_zero, List.set_cons_succ, World.size_alloc]) | (refine wpList_load_row rfl 24 (.tmp 2) rfl w.heap.size rfl 24 _ (0, 0) _ hA0.out uWd rfl iA.out ?_; simp only [Act.put, List.setIfInBounds_toArray, List.set_cons_zero, List.set_cons_succ]))
    refine (hU.out _).mono ?_
    rintro e w1 ⟨rfl, hb1⟩
    have hB1 := hid (hB0.out.below hb1 hB0.out.lt)
    have hC1 := hid (hC0.out.below hb1 hC0.out.lt)
    have hb3 := hb0.trans (hb1.mono hb0.size)
    clear hA0 hB0 hC0 hb0 hb1
    go_wp2_with (first | (refine wpList_load_row rfl 24 (.tmp 3) rfl (w.heap.size + 1) rfl 24 _ (0, 0) _ hB1.out uWd rfl iX.out ?_; simp only [Act.put, List.setIfInBounds_toArray, List.set_cons_zero, List.set_cons_succ]))
    (refine (hOX.out _).mono ?_; rintro _ w2 ⟨v2, rfl, hr2, hs2⟩)
    go_wp2_with fail
    (refine (hP.out _).mono ?_; rintro _ w3 ⟨v3, rfl, hr3, hs3⟩)
    go_wp2_with fail
    refine (hQ.out _ _ _ (by (repeat (first | assumption | refine RdN.below ?_ (by assumption)))) (by (repeat (first | assumption | refine RdN.below ?_ (by assumption))))).mono ?_
    rintro _ w4 ⟨v4, v5, rfl, hr4, hr5, hs4⟩
    have hB := hB1.out
    have hC := hC1.out
    have hB4 : ArrW 24 w4 (w.heap.size + 1) x := (by (repeat (first | assumption | refine ArrW.step ?_ (by assumption))))
    have hC4 : ArrW 24 w4 (w.heap.size + 2) 0 := (by (repeat (first | assumption | refine ArrW.step ?_ (by assumption))))
    have hb4 : Below w.heap.size w w4 := (by (repeat (first | assumption | refine below_next ?_ (Nat.le_refl _) (by assumption))))
    clear hB hC hB1 hC1 hs2 hs3 hs4 hr2 hr3 hr4 hb3
    have hB := hid hB4
    have hC := hid hC4
    have c1 := hB.out.cell (n / 8) (by omega)
    have l1 := hB.out.lt
    clear hB4 hC4
    rcases hb2 with rfl | rfl
    · rw [if_neg (by decide)] at HY
      go_wp2_with fail
      (refine (hW0.out _ _ hr5).mono ?_; rintro _ w5 ⟨rfl, hs5⟩)
      have hC5 := hid (hC.out.step hs5)
      have hb5 : Below w.heap.size w w5 := (by (repeat (first | assumption | refine below_next ?_ (Nat.le_refl _) (by assumption))))
      go_wp2_with (refine wpList_store_row rfl 24 (.tmp 4) (.tmp 45) rfl (w.heap.size + 2) _ rfl rfl 24 _ hC5.out iR.out rfl nR.out ?_; simp only [Act.put])
      refine bodyPost_ret (results_cell_row rfl _ _ (w.heap.size + 2) 24 (cellsW r) (0, 0) _ rfl (heap_setRow' _ _ _ _ _ hC5.out) uWd rfl iR.out) rfl ⟨by rw [HY.out], below_setRow' hb5 _ (by omega) _⟩
    · rw [if_pos rfl] at HY
      go_wp2_with fail
      (refine (hP1.out _).mono ?_; rintro _ w5 ⟨v5, rfl, hr5, hs5⟩)
      go_wp2_with fail
      (refine (hP.out _).mono ?_; rintro _ w6 ⟨v6, rfl, hr6, hs6⟩)
      go_wp2_with fail
      (refine (hL.out _ _ _ (by (repeat (first | assumption | refine RdN.below ?_ (by assumption)))) (by (repeat (first | assumption | refine RdN.below ?_ (by assumption))))).mono ?_; rintro _ w7 ⟨v7, rfl, hr7, hs7⟩)
      go_wp2_with fail
      (refine (hS.out _ _ _ (by (repeat (first | assumption | refine RdN.below ?_ (by assumption)))) (by (repeat (first | assumption | refine RdN.below ?_ (by assumption))))).mono ?_; rintro _ w8 ⟨v8, rfl, hr8, hs8⟩)
      go_wp2_with fail
      (refine (hW1.out _ _ hr8).mono ?_; rintro _ w9 ⟨rfl, hs9⟩)
      have hC0 := hC.out
      have hC9 : ArrW 24 w9 (w.heap.size + 2) 0 := (by (repeat (first | assumption | refine ArrW.step ?_ (by assumption))))
      have hb9 : Below w.heap.size w w9 := (by (repeat (first | assumption | refine below_next ?_ (Nat.le_refl _) (by assumption))))
      have hC5 := hid hC9
      clear hC0 hC9
      go_wp2_with (refine wpList_store_row rfl 24 (.tmp 4) (.tmp 43) rfl (w.heap.size + 2) _ rfl rfl 24 _ hC5.out iZ.out rfl nZ.out ?_; simp only [Act.put])
      refine bodyPost_ret (results_cell_row rfl _ _ (w.heap.size + 2) 24 (cellsW z) (0, 0) _ rfl (heap_setRow' _ _ _ _ _ hC5.out) uWd rfl iZ.out) rfl ⟨by rw [HY.out], below_setRow' hb9 _ (by omega) _⟩

theorem cmpN_any (a b : Nat) (va vb : Value) (w : World) (ha : RdN w va a) (hb : RdN w vb b) (la : (dg a).length ≤ 65536) (lb : (dg b).length ≤ 65536) : Calls Try.prog 43 #[va, vb] w fun e w' => e = .returned (.int .i64 (cmpI a b)) ∧ Below w.heap.size w w' := by
  have := cmp_any (dg a) (dg b) va vb w ha hb (dg_dig _) (dg_dig _) la lb
  rw [num_dg, num_dg] at this
  exact this.mono fun e w' ⟨h1, h2⟩ => ⟨h1, h2 ▸ Below.refl _ _⟩

set_option maxHeartbeats 2000000 in
theorem rscmp_any (a b : Nat) (w : World) (ha : a < 2 ^ 256) (hb : b < 2 ^ 256) : Calls Try.prog 46 #[wd a, wd b] w fun e w' => e = .returned (.int .i64 (cmpI (flipW a) (flipW b))) ∧ Below w.heap.size w w' := by
  have hOA := hid (fun w => of_any a w ha)
  have hOB := hid (fun w => of_any b w hb)
  have la := dg_word_len a ha
  have lb := dg_word_len b hb
  have lp := len_pow 255
  have hP := hid (fun w => power_any 255 w (by omega))
  have hSA := hid (fun va vb w ha hb => plus_any a (2 ^ 255) va vb w ha hb (by omega) (by omega))
  have hSB := hid (fun va vb w ha hb => plus_any b (2 ^ 255) va vb w ha hb (by omega) (by omega))
  have lsa := len_add (Nat.le_trans la (by omega : _ ≤ 33)) (Nat.le_trans lp (by omega))
  have lsb := len_add (Nat.le_trans lb (by omega : _ ≤ 33)) (Nat.le_trans lp (by omega))
  have hWA := hid (fun v w h => wordN_any (a + 2 ^ 255) v w h (by omega))
  have hWB := hid (fun v w h => wordN_any (b + 2 ^ 255) v w h (by omega))
  rw [show (a + 2 ^ 255) % 2 ^ 256 = flipW a from rfl] at hWA
  rw [show (b + 2 ^ 255) % 2 ^ 256 = flipW b from rfl] at hWB
  have hFA := hid (fun w => of_any (flipW a) w (flipW_lt a))
  have hFB := hid (fun w => of_any (flipW b) w (flipW_lt b))
  have hC := hid (fun va vb w h1 h2 => cmpN_any (flipW a) (flipW b) va vb w h1 h2 (Nat.le_trans (dg_word_len _ (flipW_lt a)) (by omega)) (Nat.le_trans (dg_word_len _ (flipW_lt b)) (by omega)))
  obtain ⟨f, hf⟩ : ∃ f, f = flipW a := ⟨_, rfl⟩
  obtain ⟨g, hg⟩ : ∃ g, g = flipW b := ⟨_, rfl⟩
  rw [← hf, ← hg] at hC ⊢
  rw [← hf] at hWA hFA
  rw [← hg] at hWB hFB
  obtain ⟨sa, hsa⟩ : ∃ s, s = a + 2 ^ 255 := ⟨_, rfl⟩
  obtain ⟨sb, hsb⟩ : ∃ s, s = b + 2 ^ 255 := ⟨_, rfl⟩
  rw [← hsa] at hSA hWA
  rw [← hsb] at hSB hWB
  obtain ⟨p, hp⟩ : ∃ p : Nat, p = 2 ^ 255 := ⟨_, rfl⟩
  rw [← hp] at hP hSA hSB
  clear ha hb la lb lp lsa lsb hf hg hsa hsb hp
  have iA := hid (iW a)
  have iB := hid (iW b)
  unfold wd at *
  have hA0 := hid (show ArrW 24 ((w.alloc (.cells (cellsW a) 24)).alloc (.cells (cellsW b) 24)) w.heap.size a from (ArrW.new _ w a).alloc _)
  have hB0 := hid (show ArrW 24 ((w.alloc (.cells (cellsW a) 24)).alloc (.cells (cellsW b) 24)) (w.heap.size + 1) b by
    have := ArrW.new 24 (w.alloc (.cells (cellsW a) 24)) b
    rw [World.size_alloc] at this; exact this)
  have hb0 : Below w.heap.size w ((w.alloc (.cells (cellsW a) 24)).alloc (.cells (cellsW b) 24)) := ((Below.refl _ _).alloc (Nat.le_refl _) _).alloc (by simp) _
  go_enter Try.func46, Try.ntmps46
  go_wp2_with (refine wpList_load_row rfl 24 (.tmp 2) rfl w.heap.size rfl 24 _ (0, 0) _ hA0.out uWd rfl iA.out ?_; simp only [Act.put, List.setIfInBounds_toArray, List.set_cons_zero, List.set_cons_succ])
  (refine (hOA.out _).mono ?_; rintro _ w2 ⟨v2, rfl, hr2, hs2⟩)
  go_wp2_with fail
  (refine (hP.out _).mono ?_; rintro _ w3 ⟨v3, rfl, hr3, hs3⟩)
  go_wp2_with fail
  (refine (hSA.out _ _ _ (by (repeat (first | assumption | refine RdN.below ?_ (by assumption)))) (by (repeat (first | assumption | refine RdN.below ?_ (by assumption))))).mono ?_; rintro _ w4 ⟨v4, rfl, hr4, hs4⟩)
  have hB := hB0.out
  have hB4 : ArrW 24 w4 (w.heap.size + 1) b := (by (repeat (first | assumption | refine ArrW.step ?_ (by assumption))))
  have hb4 : Below w.heap.size w w4 := (by (repeat (first | assumption | refine below_next ?_ (Nat.le_refl _) (by assumption))))
  clear hB hA0 hB0 hb0 hs2 hs3 hs4 hr2 hr3
  go_wp2_with (refine wpList_load_row rfl 24 (.tmp 3) rfl (w.heap.size + 1) rfl 24 _ (0, 0) _ hB4 uWd rfl iB.out ?_; simp only [Act.put, List.setIfInBounds_toArray, List.set_cons_zero, List.set_cons_succ])
  (refine (hOB.out _).mono ?_; rintro _ w5 ⟨v5, rfl, hr5, hs5⟩)
  go_wp2_with fail
  (refine (hP.out _).mono ?_; rintro _ w6 ⟨v6, rfl, hr6, hs6⟩)
  go_wp2_with fail
  (refine (hSB.out _ _ _ (by (repeat (first | assumption | refine RdN.below ?_ (by assumption)))) (by (repeat (first | assumption | refine RdN.below ?_ (by assumption))))).mono ?_; rintro _ w7 ⟨v7, rfl, hr7, hs7⟩)
  go_wp2_with fail
  (refine (hWA.out _ _ (by (repeat (first | assumption | refine RdN.below ?_ (by assumption))))).mono ?_; rintro _ w8 ⟨rfl, hs8⟩)
  go_wp2_with fail
  (refine (hFA.out _).mono ?_; rintro _ w9 ⟨v9, rfl, hr9, hs9⟩)
  go_wp2_with fail
  (refine (hWB.out _ _ (by (repeat (first | assumption | refine RdN.below ?_ (by assumption))))).mono ?_; rintro _ w10 ⟨rfl, hs10⟩)
  go_wp2_with fail
  (refine (hFB.out _).mono ?_; rintro _ w11 ⟨v11, rfl, hr11, hs11⟩)
  go_wp2_with fail
  (refine (hC.out _ _ _ (by (repeat (first | assumption | refine RdN.below ?_ (by assumption)))) (by (repeat (first | assumption | refine RdN.below ?_ (by assumption))))).mono ?_; rintro _ w12 ⟨rfl, hs12⟩)
  go_wp2
  go_ret
  exact ⟨rfl, (by (repeat (first | assumption | refine below_next ?_ (Nat.le_refl _) (by assumption))))⟩

theorem exp_top (a b : Nat) : powW a (b / 2 ^ (8 * (dg b).length)) = 1 := by
  rw [Nat.div_eq_of_lt (by have := lt_len b; rw [show (256 : Nat) = 2 ^ 8 from rfl, ← Nat.pow_mul] at this; exact this)]; rfl
theorem exp_bit (b i : Nat) : b / 2 ^ i = b / 2 ^ (i + 1) + b / 2 ^ (i + 1) + b / 2 ^ i % 2 := by
  rw [Nat.pow_succ, ← Nat.div_div_eq_div_mul]; omega
def RExpI (a b N S : Nat) (w wr : World) (i : Nat) : Prop :=
  ArrW 24 wr N a ∧ ArrW 24 wr (N + 1) b ∧ ArrW 24 wr (N + 2) 0 ∧ ArrW 24 wr S (powW a (b / 2 ^ i)) ∧ Below N w wr

set_option maxHeartbeats 2000000 in
theorem rexp_any (a b : Nat) (w : World) (ha : a < 2 ^ 256) (hb : b < 2 ^ 256) : Calls Try.prog 61 #[wd a, wd b] w fun e w' => e = .returned (wd (powW a b)) ∧ Below w.heap.size w w' := by
  have hM := hid (fun x y w hx hy => rmul_any x y w hx hy)
  have hO := hid (fun w => of_any b w hb)
  have hl := dg_word_len b hb
  have htop := hid (exp_top a b)
  have HA := hid ha
  have h1 := hid (powW_one a ha)
  clear ha hb
  obtain ⟨n, hn⟩ : ∃ n, n = (dg b).length := ⟨_, rfl⟩
  rw [← hn] at hl htop
  unfold wd at *
  have i1 := hid (iW 1)
  have n1 := hid (one_cellsW 1)
  have iA := hid (iW a)
  have iB := hid (iW b)
  have b1 : Try.prog.built 24 [(0, .int .u64 1)] = some (cellsW 1) := by kernel_rfl
  have hA0 := hid (show ArrW 24 (((w.alloc (.cells (cellsW a) 24)).alloc (.cells (cellsW b) 24)).alloc (.cells (cellsW 0) 24)) w.heap.size a from ((ArrW.new _ w a).alloc _).alloc _)
  have hB0 := hid (show ArrW 24 (((w.alloc (.cells (cellsW a) 24)).alloc (.cells (cellsW b) 24)).alloc (.cells (cellsW 0) 24)) (w.heap.size + 1) b by
    have := ArrW.new 24 (w.alloc (.cells (cellsW a) 24)) b
    rw [World.size_alloc] at this; exact this.alloc _)
  have hC0 := hid (show ArrW 24 (((w.alloc (.cells (cellsW a) 24)).alloc (.cells (cellsW b) 24)).alloc (.cells (cellsW 0) 24)) (w.heap.size + 2) 0 by
    have := ArrW.new 24 ((w.alloc (.cells (cellsW a) 24)).alloc (.cells (cellsW b) 24)) 0
    rw [World.size_alloc, World.size_alloc] at this; exact this)
  have hb0 : Below w.heap.size w (((w.alloc (.cells (cellsW a) 24)).alloc (.cells (cellsW b) 24)).alloc (.cells (cellsW 0) 24)) := (((Below.refl _ _).alloc (Nat.le_refl _) _).alloc (by simp) _).alloc (by simp; omega) _
  go_enter Try.func61, Try.ntmps61
  have hA1 := hid (hA0.out.alloc (.cells (cellsW 1) 24))
  have hB1 := hid (hB0.out.alloc (.cells (cellsW 1) 24))
  have hC1 := hid (hC0.out.alloc (.cells (cellsW 1) 24))
  have hS1 := hid (show ArrW 24 ((((w.alloc (.cells (cellsW a) 24)).alloc (.cells (cellsW b) 24)).alloc (.cells (cellsW 0) 24)).alloc (.cells (cellsW 1) 24)) (w.heap.size + 3) 1 by
    have := ArrW.new 24 (((w.alloc (.cells (cellsW a) 24)).alloc (.cells (cellsW b) 24)).alloc (.cells (cellsW 0) 24)) 1
    rw [World.size_alloc, World.size_alloc, World.size_alloc] at this; exact this)
  have hb1 := hb0.alloc hb0.size (.cells (cellsW 1) 24)
  go_wp2_with (first | (refine wpList_allocStore 24 7 5 (cellsW 1) (cellsW 0) rfl rfl rfl rfl rfl rfl (by decide) (by simp) rfl (by kernel_rfl) rfl i1.out n1.out ?_; simp only [Act.put, List.setIfInBounds_toArray, List.set_cons_zero, List.set_cons_succ]) | (refine wpList_alloc_new rfl 24 rfl (cellsW 0) zWd ?_; simp only [Act.put, List.setIfInBounds_toArray, List.set_cons_zero, List.set_cons_succ, World.size_alloc]) | (refine wpList_load_row rfl 24 (.tmp 3) rfl (w.heap.size + 1) rfl 24 _ (0, 0) _ hB1.out uWd rfl iB.out ?_; simp only [Act.put, List.setIfInBounds_toArray, List.set_cons_zero, List.set_cons_succ]))
  refine (hO.out _).mono ?_
  rintro e w1 ⟨v9, rfl, hr, hb2⟩
  have hA2 := hid (hA1.out.below hb2 hA1.out.lt)
  have hB2 := hid (hB1.out.below hb2 hB1.out.lt)
  have hC2 := hid (hC1.out.below hb2 hC1.out.lt)
  have hS2 := hid (hS1.out.below hb2 hS1.out.lt)
  have hb3 := hb1.trans (hb2.mono hb1.size)
  obtain ⟨va, vc, rfl, hvc, _⟩ := hr
  rw [← hn] at *
  clear hA0 hB0 hC0 hA1 hB1 hC1 hS1 hb0 hb1 hb2 hn
  have hI : Hid (RExpI a b w.heap.size (w.heap.size + 3) w w1 (8 * n)) := hid ⟨hA2.out, hB2.out, hC2.out, by rw [htop.out]; exact hS2.out, hb3⟩
  clear hA2 hB2 hC2 hS2 hb3
  go_wp2
  go_loopw [6] (fun iv wr => ∃ i : Nat, i ≤ 8 * n ∧ iv = .int .i64 ((i : Int) - 1) ∧ Hid (RExpI a b w.heap.size (w.heap.size + 3) w wr i))
    (fun iv _ => (intOf iv + 1).toNat)
  case atStart => exact ⟨8 * n, by omega, by go_num, hI⟩
  case round =>
    clear hI
    obtain ⟨i, hi, rfl, hI⟩ := hrel
    have hA := hid hI.out.1
    have hB := hid hI.out.2.1
    have hC := hid hI.out.2.2.1
    have hD := hid hI.out.2.2.2.1
    have hb := hI.out.2.2.2.2
    by_cases h0 : i = 0
    · subst h0
      have hD0 := hD.out
      rw [Nat.pow_zero, Nat.div_one] at hD0
      obtain ⟨y, hy⟩ : ∃ y, y = powW a b := ⟨_, rfl⟩
      rw [← hy] at hD0
      have HY := hid hy
      have HD := hid hD0
      have iY := hid (iW y)
      have nY := hid (one_cellsW y)
      clear hy hI hi hD hD0
      go_wp2_with (first | (refine wpList_load_row rfl 24 (.tmp 5) rfl (w.heap.size + 3) rfl 24 _ (0, 0) _ HD.out uWd rfl iY.out ?_; simp only [Act.put, List.setIfInBounds_toArray, List.set_cons_zero, List.set_cons_succ]) | (refine wpList_store_row rfl 24 (.tmp 4) (.tmp 33) rfl (w.heap.size + 2) _ rfl rfl 24 _ hC.out iY.out rfl nY.out ?_; simp only [Act.put]))
      refine bodyPost_ret (results_cell_row rfl _ _ (w.heap.size + 2) 24 (cellsW y) (0, 0) _ rfl (heap_setRow' _ _ _ _ _ hC.out) uWd rfl iY.out) rfl ⟨by rw [HY.out], below_setRow' hb _ (by omega) _⟩
    · obtain ⟨k, rfl⟩ : ∃ k, i = k + 1 := ⟨i - 1, by omega⟩
      have e1 : (((k + 1 : Nat) : Int) - 1) = (k : Int) := by omega
      rw [e1]
      clear e1 h0
      have hbit := lm_bit b k
      have heb := exp_bit b k
      have n1 := lm_nonneg b (k / 64)
      have n2 := lm_lt b (k / 64)
      have q1 : powW a (b / 2 ^ (k + 1)) * powW a (b / 2 ^ (k + 1)) % 2 ^ 256 = powW a (b / 2 ^ (k + 1) + b / 2 ^ (k + 1)) := powW_add _ _ _
      have HS := hid (fun w => hM.out (powW a (b / 2 ^ (k + 1))) (powW a (b / 2 ^ (k + 1))) w (powW_lt _ _) (powW_lt _ _))
      rw [q1] at HS
      have HT := hid (fun w => hM.out (powW a (b / 2 ^ (k + 1) + b / 2 ^ (k + 1))) a w (powW_lt _ _) HA.out)
      have hq2 : powW a (b / 2 ^ (k + 1) + b / 2 ^ (k + 1)) * a % 2 ^ 256 = powW a (b / 2 ^ (k + 1) + b / 2 ^ (k + 1) + 1) := by
        have := powW_add a (b / 2 ^ (k + 1) + b / 2 ^ (k + 1)) 1
        rw [h1.out] at this; exact this
      rw [hq2] at HT
      obtain ⟨p, hp⟩ : ∃ p, p = powW a (b / 2 ^ (k + 1)) := ⟨_, rfl⟩
      obtain ⟨z, hz⟩ : ∃ z, z = powW a (b / 2 ^ (k + 1) + b / 2 ^ (k + 1)) := ⟨_, rfl⟩
      rw [← hp] at hD HS
      rw [← hz] at HS HT
      have iP := hid (iW p)
      have iZ := hid (iW z)
      have nZ := hid (one_cellsW z)
      have hk31 : k / 64 < 4 := by omega
      have hd2 : b / 2 ^ k % 2 = 0 ∨ b / 2 ^ k % 2 = 1 := by omega
      have HE := hid heb
      have HZZ := hid hz
      clear hq2 q1 heb hI hp hz
      go_wp2_with (first | (refine wpList_load_row rfl 24 (.tmp 5) rfl (w.heap.size + 3) rfl 24 _ (0, 0) _ hD.out uWd rfl iP.out ?_; simp only [Act.put, List.setIfInBounds_toArray, List.set_cons_zero, List.set_cons_succ]))
      refine (HS.out _).mono ?_
      rintro e w3 ⟨rfl, hb5⟩
      have hA2 := hid ((hA.out.below hb5 hA.out.lt).otherRow (show w.heap.size ≠ w.heap.size + 3 by omega) (cellsW z))
      have hB2 := hid ((hB.out.below hb5 hB.out.lt).otherRow (show w.heap.size + 1 ≠ w.heap.size + 3 by omega) (cellsW z))
      have hC2 := hid ((hC.out.below hb5 hC.out.lt).otherRow (show w.heap.size + 2 ≠ w.heap.size + 3 by omega) (cellsW z))
      have hD2 := hid (hD.out.below hb5 hD.out.lt)
      have hD3 := hid (hD2.out.row z)
      have hb6 := below_setRow' (hb.trans (hb5.mono hb.size)) (w.heap.size + 3) (by omega) (cellsW z)
      have c1 := hB2.out.cell (k / 64) hk31
      have l1 := hB2.out.lt
      clear hA hB hC hD hb hb5
      rcases hd2 with hz0 | hz0
      · rw [hz0] at hbit HE
        rw [Nat.add_zero] at HE
        have HZ := hid (show powW a (b / 2 ^ k) = z by rw [HE.out, HZZ.out])
        clear hz0 HE HT
        go_wp2_with (first | (refine wpList_store_row rfl 24 (.tmp 5) (.tmp 19) rfl (w.heap.size + 3) _ rfl rfl 24 _ hD2.out iZ.out rfl nZ.out ?_; simp only [Act.put]))
        go_roundw
        case rel => exact ⟨k, by omega, by go_num, hid ⟨hA2.out, hB2.out, hC2.out, by rw [HZ.out]; exact hD3.out, hb6⟩⟩
        case measure => simp [intOf]
      · rw [hz0] at hbit HE
        obtain ⟨u, hu⟩ : ∃ u, u = powW a (b / 2 ^ (k + 1) + b / 2 ^ (k + 1) + 1) := ⟨_, rfl⟩
        rw [← hu] at HT
        have HU := hid (show powW a (b / 2 ^ k) = u by rw [HE.out, hu])
        have iU := hid (iW u)
        have nU := hid (one_cellsW u)
        clear hz0 HE hu
        go_wp2_with (first | (refine wpList_store_row rfl 24 (.tmp 5) (.tmp 19) rfl (w.heap.size + 3) _ rfl rfl 24 _ hD2.out iZ.out rfl nZ.out ?_; simp only [Act.put]) | (refine wpList_load_row rfl 24 (.tmp 5) rfl (w.heap.size + 3) rfl 24 _ (0, 0) _ hD3.out uWd rfl iZ.out ?_; simp only [Act.put, List.setIfInBounds_toArray, List.set_cons_zero, List.set_cons_succ]) | (refine wpList_load_row rfl 24 (.tmp 2) rfl w.heap.size rfl 24 _ (0, 0) _ hA2.out uWd rfl iA.out ?_; simp only [Act.put, List.setIfInBounds_toArray, List.set_cons_zero, List.set_cons_succ]))
        refine (HT.out _).mono ?_
        rintro e w4 ⟨rfl, hb7⟩
        have hA4 := hid ((hA2.out.below hb7 hA2.out.lt).otherRow (show w.heap.size ≠ w.heap.size + 3 by omega) (cellsW u))
        have hB4 := hid ((hB2.out.below hb7 hB2.out.lt).otherRow (show w.heap.size + 1 ≠ w.heap.size + 3 by omega) (cellsW u))
        have hC4 := hid ((hC2.out.below hb7 hC2.out.lt).otherRow (show w.heap.size + 2 ≠ w.heap.size + 3 by omega) (cellsW u))
        have hD4 := hid (hD3.out.below hb7 hD3.out.lt)
        have hb8 := below_setRow' (hb6.trans (hb7.mono hb6.size)) (w.heap.size + 3) (by omega) (cellsW u)
        clear hA2 hB2 hC2 hD2 hD3 hb6 hb7 c1 l1
        go_wp2_with (first | (refine wpList_store_row rfl 24 (.tmp 5) (.tmp 32) rfl (w.heap.size + 3) _ rfl rfl 24 _ hD4.out iU.out rfl nU.out ?_; simp only [Act.put]))
        go_roundw
        case rel => exact ⟨k, by omega, by go_num, hid ⟨hA4.out, hB4.out, hC4.out, by rw [HU.out]; exact hD4.out.row u, hb8⟩⟩
        case measure => simp [intOf]
end Go.Proofs.Ytfidbiabgmioaaa
