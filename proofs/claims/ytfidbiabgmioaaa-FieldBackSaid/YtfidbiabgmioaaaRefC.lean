import Derived.Test.YtfidbiabgmioaaaRefB
/-! conclaveref01: Neg, Size, Minus, Sdiv, Smod, Shl, Sar, Signext, Scmp. -/
set_option maxRecDepth 4000
set_option linter.unusedVariables false
set_option linter.unusedSimpArgs false
namespace Go.Proofs.Ytfidbiabgmioaaa
open Go.RowKit

theorem rneg_any (a : Nat) (w : World) (h : a < 2 ^ 256) : Calls Try.prog 108 #[wd a] w fun e w' => e = .returned (.bool (negW a)) ∧ Below w.heap.size w w' := by
  rw [← lm_neg a h]
  clear h
  unfold wd cellsW
  go_enter Try.func108, Try.ntmps108
  go_wp2
  go_ret
  exact ⟨rfl, (by repeat (first | (with_reducible first | exact Below.refl _ _ | assumption | refine World.ext_below_of ?_ ?_ _ | refine Below.setCell ?_ ?_ _ | refine Below.alloc ?_ ?_ _ | refine Below.drew ?_ | refine World.size_le_ext _ _ _ ?_) | (solve | simp [go_sem] | (simp [go_sem]; omega) | omega)))⟩
theorem negW_pos {a : Nat} (h : negW a = true) (ha : a < 2 ^ 256) : 2 ^ 256 - a = sizeW a := by
  unfold sizeW subW; rw [if_pos h]
  unfold negW at h
  have := of_decide_eq_true h
  rw [Nat.zero_add]
  exact (Nat.mod_eq_of_lt (by have : 0 < 2 ^ 255 := Nat.pow_pos (by omega); omega)).symm

set_option maxHeartbeats 1000000 in
theorem rsize_any (a : Nat) (w : World) (h : a < 2 ^ 256) : Calls Try.prog 118 #[wd a] w fun e w' => ∃ v', e = .returned v' ∧ RdN w' v' (sizeW a) ∧ Below w.heap.size w w' := by
  have hN := hid (fun w => rneg_any a w h)
  have hO := hid (fun w => of_any a w h)
  have la := dg_word_len a h
  have iA := hid (iW a)
  cases hn : negW a with
  | true =>
    rw [hn] at hN
    have hs := negW_pos hn h
    have hle : a ≤ 2 ^ 256 := Nat.le_of_lt h
    have hP := hid (fun w => power_any 256 w (by omega))
    have lp := len_pow 256
    obtain ⟨s, hs2⟩ : ∃ s, s = sizeW a := ⟨_, rfl⟩
    rw [← hs2] at hs ⊢
    obtain ⟨p, hp⟩ : ∃ p : Nat, p = 2 ^ 256 := ⟨_, rfl⟩
    rw [← hp] at hs hle hP lp
    have hL := hid (fun va vb w ha hb => less_any p a va vb w ha hb (by omega) hle)
    rw [hs] at hL
    clear h hn hs2 hp hle lp hs
    unfold wd at *
    have hA0 := hid (ArrW.new 24 w a)
    have hb0 : Below w.heap.size w (w.alloc (.cells (cellsW a) 24)) := (Below.refl _ _).alloc (Nat.le_refl _) _
    go_enter Try.func118, Try.ntmps118
    go_wp2_with (refine wpList_load_row rfl 24 (.tmp 1) rfl w.heap.size rfl 24 _ (0, 0) _ hA0.out uWd rfl iA.out ?_; simp only [Act.put, List.setIfInBounds_toArray, List.set_cons_zero, List.set_cons_succ])
    refine (hN.out _).mono ?_
    rintro e w1 ⟨rfl, hb1⟩
    have hA1 := hid (hA0.out.below hb1 hA0.out.lt)
    have hb2 := hb0.trans (hb1.mono hb0.size)
    clear hA0 hb0 hb1
    go_wp2_with fail
    ((try simp only [World.size_alloc]); refine wp_region_loose [.lo (fun v w => RdN w v (p)), .kn (.agg (cellsW (a))), .lo (fun v w => RdN w v (a)), .lo (fun v w => RdN w v (s)), .lo (fun v w => RdN w v (s))] (by kernel_rfl) (by kernel_rfl) (by kernel_rfl) (by first | exact trivial | ((repeat (first | refine keepsAll_kn ?_ | (refine keepsAll_lo (fun v w w' h hb => ?_) ?_; first | exact RdN.below h hb | exact RdL.below h hb | exact RdY.below h hb | (obtain ⟨b, e, h1⟩ := h; exact ⟨b, e, ArrY.below h1 hb (ArrY.lt h1)⟩) | (obtain ⟨v1, v2, e, h1, h2⟩ := h; exact ⟨v1, v2, e, RdN.below h1 hb, RdN.below h2 hb⟩)))); exact trivial)) ?_)
    (refine loose_step_on rfl (fun W' hB' hd K hK => ?_) ?_; (focus (skip; clear hd; go_simp; refine (hP.out _).mono ?_; rintro _ _ ⟨v', rfl, hr, hb'⟩; exact hK v' _ hb' hr)); intro v5 _; simp only [Act.put, List.setIfInBounds_toArray, List.set_cons_zero, List.set_cons_succ])
    (refine loose_step_on rfl (fun W' hB' hd K hK => wp_load_block 24 (.tmp 1) rfl w.heap.size rfl 24 _ _ (ArrW.below hA1.out hB' (ArrW.lt hA1.out)) uWd rfl iA.out (hK _ _ (Below.refl _ _) rfl)) ?_; rintro _ rfl; simp only [Act.put, List.setIfInBounds_toArray, List.set_cons_zero, List.set_cons_succ])
    (refine loose_step_on rfl (fun W' hB' hd K hK => ?_) ?_; (focus (skip; clear hd; go_simp; refine (hO.out _).mono ?_; rintro _ _ ⟨v', rfl, hr, hb'⟩; exact hK v' _ hb' hr)); intro v7 _; simp only [Act.put, List.setIfInBounds_toArray, List.set_cons_zero, List.set_cons_succ])
    (refine loose_step_on rfl (fun W' hB' hd K hK => ?_) ?_; (focus (have g5 : RdN W' v5 p := hd ⟨0, Ground.data⟩ (by simp) rfl _ 5 rfl rfl (by simp); have g7 : RdN W' v7 a := hd ⟨2, Ground.data⟩ (by simp) rfl _ 7 rfl rfl (by simp); clear hd; go_simp; refine (hL.out v5 v7 _ g5 g7).mono ?_; rintro _ _ ⟨v', rfl, hr, hb'⟩; exact hK v' _ hb' hr)); intro v8 _; simp only [Act.put, List.setIfInBounds_toArray, List.set_cons_zero, List.set_cons_succ])
    (refine loose_step_on rfl (fun W' hB' hd K hK => ?_) ?_; (focus (have g8 : RdN W' v8 s := hd ⟨3, Ground.data⟩ (by simp) rfl _ 8 rfl rfl (by simp); clear hd; go_simp; exact hK _ _ (Below.refl _ _) g8)); intro v2 _; simp only [Act.put, List.setIfInBounds_toArray, List.set_cons_zero, List.set_cons_succ])
    intro w6 hb6 hf
    have g2 : RdN w6 v2 s := hf 4 _ 2 (by first | omega | simp) rfl rfl (by simp)
    clear hf
    go_wp2
    go_ret
    exact ⟨_, rfl, g2, hb2.trans (hb6.mono hb2.size)⟩
  | false =>
    rw [hn] at hN
    have HS := hid (show sizeW a = a by unfold sizeW; rw [if_neg (by rw [hn]; decide)])
    rw [HS.out]
    clear h hn HS
    unfold wd at *
    have hA0 := hid (ArrW.new 24 w a)
    have hb0 : Below w.heap.size w (w.alloc (.cells (cellsW a) 24)) := (Below.refl _ _).alloc (Nat.le_refl _) _
    go_enter Try.func118, Try.ntmps118
    go_wp2_with (refine wpList_load_row rfl 24 (.tmp 1) rfl w.heap.size rfl 24 _ (0, 0) _ hA0.out uWd rfl iA.out ?_; simp only [Act.put, List.setIfInBounds_toArray, List.set_cons_zero, List.set_cons_succ])
    refine (hN.out _).mono ?_
    rintro e w1 ⟨rfl, hb1⟩
    have hA1 := hid (hA0.out.below hb1 hA0.out.lt)
    have hb2 := hb0.trans (hb1.mono hb0.size)
    clear hA0 hb0 hb1
    go_wp2_with (refine wpList_load_row rfl 24 (.tmp 1) rfl w.heap.size rfl 24 _ (0, 0) _ hA1.out uWd rfl iA.out ?_; simp only [Act.put, List.setIfInBounds_toArray, List.set_cons_zero, List.set_cons_succ])
    refine (hO.out _).mono ?_
    rintro e w2 ⟨v', rfl, hr, hb3⟩
    go_wp2
    go_ret
    exact ⟨_, rfl, hr, hb2.trans (hb3.mono hb2.size)⟩

set_option maxHeartbeats 1000000 in
theorem rminus_any (n : Nat) (v : Value) (w : World) (hv : RdN w v n) (hl : (dg n).length ≤ 65536) : Calls Try.prog 119 #[v] w fun e w' => e = .returned (wd (subW 0 (n % 2 ^ 256))) ∧ Below w.heap.size w w' := by
  have hP := hid (fun w => power_any 256 w (by omega))
  have lp := len_pow 256
  have hpos : 0 < 2 ^ 256 := Nat.pow_pos (by omega)
  have hQ := hid (fun va vb w ha hb => quo_any n (2 ^ 256) va vb w ha hb hl (by omega) hpos)
  have hlt : n % 2 ^ 256 < 2 ^ 256 := Nat.mod_lt _ hpos
  have lr := dg_word_len _ hlt
  have lm : (dg (2 ^ 256 - n % 2 ^ 256)).length ≤ 33 := len_le (Nat.sub_le _ _) lp
  have hW := hid (fun v w h => wordN_any (2 ^ 256 - n % 2 ^ 256) v w h (by omega))
  obtain ⟨y, hy⟩ : ∃ y, y = subW 0 (n % 2 ^ 256) := ⟨_, rfl⟩
  rw [show (2 ^ 256 - n % 2 ^ 256) % 2 ^ 256 = y by rw [hy]; unfold subW; rw [Nat.zero_add]] at hW
  rw [← hy]
  have hL := hid (fun va vb w ha hb => less_any (2 ^ 256) (n % 2 ^ 256) va vb w ha hb (by omega) (Nat.le_of_lt hlt))
  obtain ⟨q, hq⟩ : ∃ q, q = n / 2 ^ 256 := ⟨_, rfl⟩
  obtain ⟨r, hr⟩ : ∃ r, r = n % 2 ^ 256 := ⟨_, rfl⟩
  rw [← hq, ← hr] at hQ
  rw [← hr] at hL hW
  obtain ⟨p, hp⟩ : ∃ p : Nat, p = 2 ^ 256 := ⟨_, rfl⟩
  rw [← hp] at hP hQ hL hW
  clear hy hlt lr lm hpos lp hq hr hp hl
  have HV := hid hv
  clear hv
  unfold wd at *
  have iY := hid (iW y)
  have nY := hid (one_cellsW y)
  have hA0 := hid (ArrW.new 24 w 0)
  have hb0 : Below w.heap.size w (w.alloc (.cells (cellsW 0) 24)) := (Below.refl _ _).alloc (Nat.le_refl _) _
  have hv0 := hid (HV.out.below hb0)
  go_enter Try.func119, Try.ntmps119
  go_wp2_with (refine wpList_alloc_new rfl 24 rfl (cellsW 0) zWd ?_; simp only [Act.put, List.setIfInBounds_toArray, List.set_cons_zero, List.set_cons_succ, World.size_alloc])
  refine (hP.out _).mono ?_
  rintro e w1 ⟨v1, rfl, hr1, hb1⟩
  have hA1 := hid (hA0.out.below hb1 hA0.out.lt)
  have hv1 := hid (hv0.out.below hb1)
  have hb2 := hb0.trans (hb1.mono hb0.size)
  clear hA0 hv0 hb0 hb1
  go_wp2_with fail
  refine (hQ.out _ _ _ hv1.out hr1).mono ?_
  rintro e w2 ⟨v2, v3, rfl, hr2, hr3, hb3⟩
  have hA2 := hid (hA1.out.below hb3 hA1.out.lt)
  have hb4 := hb2.trans (hb3.mono hb2.size)
  clear hA1 hv1 hb2 hb3 hr1 hr2
  go_wp2_with fail
  refine (hP.out _).mono ?_
  rintro e w3 ⟨v4, rfl, hr4, hb5⟩
  have hA3 := hid (hA2.out.below hb5 hA2.out.lt)
  have hr3' := hr3.below hb5
  have hb6 := hb4.trans (hb5.mono hb4.size)
  clear hA2 hb4 hb5 hr3
  go_wp2_with fail
  refine (hL.out _ _ _ hr4 hr3').mono ?_
  rintro e w4 ⟨v5, rfl, hr5, hb7⟩
  have hA4 := hid (hA3.out.below hb7 hA3.out.lt)
  have hb8 := hb6.trans (hb7.mono hb6.size)
  clear hA3 hb6 hb7 hr4 hr3'
  go_wp2_with fail
  refine (hW.out _ _ hr5).mono ?_
  rintro e w5 ⟨rfl, hb9⟩
  have hA5 := hid (hA4.out.below hb9 hA4.out.lt)
  have hb10 := hb8.trans (hb9.mono hb8.size)
  clear hA4 hb8 hb9 hr5
  go_wp2_with (refine wpList_store_row rfl 24 (.tmp 2) (.tmp 14) rfl w.heap.size _ rfl rfl 24 _ hA5.out iY.out rfl nY.out ?_; simp only [Act.put])
  refine bodyPost_ret (results_cell_row rfl _ _ w.heap.size 24 (cellsW y) (0, 0) _ rfl (heap_setRow' _ _ _ _ _ hA5.out) uWd rfl iY.out) rfl ⟨rfl, below_setRow' hb10 _ (by omega) _⟩

/-- Signed quotients, and what is left. -/
def sdivW (a b : Nat) : Nat := signW (sizeW a / sizeW b) (negW a != negW b)
def smodW (a b : Nat) : Nat := signW (modW (sizeW a) (sizeW b)) (negW a)
theorem sizeW_zero : sizeW 0 = 0 := rfl
theorem sizeW_pos {b : Nat} (hb : b < 2 ^ 256) (h : b ≠ 0) : 0 < sizeW b := by
  cases hn : negW b with
  | true => rw [← negW_pos hn hb]; omega
  | false => unfold sizeW; rw [if_neg (by rw [hn]; decide)]; omega
theorem signW_zero (n : Bool) : signW 0 n = 0 := by cases n <;> rfl

set_option maxHeartbeats 2000000 in
theorem rsdiv_any (a b : Nat) (w : World) (ha : a < 2 ^ 256) (hb : b < 2 ^ 256) : Calls Try.prog 67 #[wd a, wd b] w fun e w' => e = .returned (wd (sdivW a b)) ∧ Below w.heap.size w w' := by
  have hOA := hid (fun w => rsize_any a w ha)
  have hOB := hid (fun w => rsize_any b w hb)
  have hNA := hid (fun w => rneg_any a w ha)
  have hNB := hid (fun w => rneg_any b w hb)
  have sa := sizeW_lt a ha
  have sb := sizeW_lt b hb
  have la := dg_word_len _ sa
  have lb := dg_word_len _ sb
  have he : ∀ w, (Op.equalIn 10000 24 (.agg (cellsW b)) (.agg #[.int .u64 0, .int .u64 0, .int .u64 0, .int .u64 0])).run Try.prog w = .ok (decide (b = 0)) w := eq_wd b 0 hb (by decide)
  have iA := hid (iW a)
  have iB := hid (iW b)
  have nB := hid (one_cellsW b)
  by_cases h0 : b = 0
  · have HY := hid (show sdivW a b = b by unfold sdivW; rw [h0, sizeW_zero, Nat.div_zero, signW_zero])
    rw [decide_eq_true h0] at he
    rw [HY.out]
    clear h0 HY hOA hOB hNA hNB la lb sa sb ha hb
    unfold wd
    have hA0 := hid (show ArrW 24 (((w.alloc (.cells (cellsW a) 24)).alloc (.cells (cellsW b) 24)).alloc (.cells (cellsW 0) 24)) w.heap.size a from ((ArrW.new _ w a).alloc _).alloc _)
    have hB0 := hid (show ArrW 24 (((w.alloc (.cells (cellsW a) 24)).alloc (.cells (cellsW b) 24)).alloc (.cells (cellsW 0) 24)) (w.heap.size + 1) b by
      have := ArrW.new 24 (w.alloc (.cells (cellsW a) 24)) b
      rw [World.size_alloc] at this; exact this.alloc _)
    have hC0 := hid (show ArrW 24 (((w.alloc (.cells (cellsW a) 24)).alloc (.cells (cellsW b) 24)).alloc (.cells (cellsW 0) 24)) (w.heap.size + 2) 0 by
      have := ArrW.new 24 ((w.alloc (.cells (cellsW a) 24)).alloc (.cells (cellsW b) 24)) 0
      rw [World.size_alloc, World.size_alloc] at this; exact this)
    have hb0 : Below w.heap.size w (((w.alloc (.cells (cellsW a) 24)).alloc (.cells (cellsW b) 24)).alloc (.cells (cellsW 0) 24)) := (((Below.refl _ _).alloc (Nat.le_refl _) _).alloc (by simp) _).alloc (by simp; omega) _
    go_enter Try.func67, Try.ntmps67
    go_wp2_with (first | (refine wpList_alloc_new rfl 24 rfl (cellsW 0) zWd ?_; simp only [Act.put, List.setIfInBounds_toArray, List.set_cons_zero, List.set_cons_succ, World.size_alloc]) | (refine wpList_load_row rfl 24 (.tmp 3) rfl (w.heap.size + 1) rfl 24 _ (0, 0) _ hB0.out uWd rfl iB.out ?_; simp only [Act.put, List.setIfInBounds_toArray, List.set_cons_zero, List.set_cons_succ]) | (refine wpList_store_row rfl 24 (.tmp 4) (.tmp 10) rfl (w.heap.size + 2) _ rfl rfl 24 _ hC0.out iB.out rfl nB.out ?_; simp only [Act.put]))
    refine bodyPost_ret (results_cell_row rfl _ _ (w.heap.size + 2) 24 (cellsW b) (0, 0) _ rfl (heap_setRow' _ _ _ _ _ hC0.out) uWd rfl iB.out) rfl ⟨rfl, below_setRow' hb0 _ (by omega) _⟩
  · rw [decide_eq_false h0] at he
    have hpos := sizeW_pos hb h0
    have HY := hid (show sdivW a b = signW (sizeW a / sizeW b) (negW a != negW b) from rfl)
    obtain ⟨y, hy⟩ : ∃ y, y = sdivW a b := ⟨_, rfl⟩
    rw [← hy] at HY ⊢
    obtain ⟨A, hA⟩ : ∃ A, A = sizeW a := ⟨_, rfl⟩
    obtain ⟨B, hB⟩ : ∃ B, B = sizeW b := ⟨_, rfl⟩
    obtain ⟨n1, hn1⟩ : ∃ n1, n1 = negW a := ⟨_, rfl⟩
    obtain ⟨n2, hn2⟩ : ∃ n2, n2 = negW b := ⟨_, rfl⟩
    rw [← hA, ← hB, ← hn1, ← hn2] at HY
    rw [← hA] at sa la hOA
    rw [← hB] at sb lb hOB hpos
    rw [← hn1] at hNA
    rw [← hn2] at hNB
    have lq : (dg (A / B)).length ≤ 65536 := Nat.le_trans (dg_len_mono _ _ (Nat.div_le_self _ _)) (by omega)
    have hq : A / B < 2 ^ 256 := Nat.lt_of_le_of_lt (Nat.div_le_self _ _) sa
    have hW := hid (fun v w h => wordN_any (A / B) v w h lq)
    have hM := hid (fun v w h => rminus_any (A / B) v w h lq)
    rw [Nat.mod_eq_of_lt hq] at hW hM
    have hQ := hid (fun va vb w ha hb => quo_any A B va vb w ha hb (by omega) (by omega) hpos)
    obtain ⟨q, hq2⟩ : ∃ q, q = A / B := ⟨_, rfl⟩
    obtain ⟨r, hr2⟩ : ∃ r, r = A % B := ⟨_, rfl⟩
    rw [← hq2, ← hr2] at hQ
    rw [← hq2] at hW hM HY
    clear h0 sa sb la lb hpos lq hq hq2 hr2 ha hb hy hA hB hn1 hn2
    unfold wd at *
    have hA0 := hid (show ArrW 24 (((w.alloc (.cells (cellsW a) 24)).alloc (.cells (cellsW b) 24)).alloc (.cells (cellsW 0) 24)) w.heap.size a from ((ArrW.new _ w a).alloc _).alloc _)
    have hB0 := hid (show ArrW 24 (((w.alloc (.cells (cellsW a) 24)).alloc (.cells (cellsW b) 24)).alloc (.cells (cellsW 0) 24)) (w.heap.size + 1) b by
      have := ArrW.new 24 (w.alloc (.cells (cellsW a) 24)) b
      rw [World.size_alloc] at this; exact this.alloc _)
    have hC0 := hid (show ArrW 24 (((w.alloc (.cells (cellsW a) 24)).alloc (.cells (cellsW b) 24)).alloc (.cells (cellsW 0) 24)) (w.heap.size + 2) 0 by
      have := ArrW.new 24 ((w.alloc (.cells (cellsW a) 24)).alloc (.cells (cellsW b) 24)) 0
      rw [World.size_alloc, World.size_alloc] at this; exact this)
    have hb0 : Below w.heap.size w (((w.alloc (.cells (cellsW a) 24)).alloc (.cells (cellsW b) 24)).alloc (.cells (cellsW 0) 24)) := (((Below.refl _ _).alloc (Nat.le_refl _) _).alloc (by simp) _).alloc (by simp; omega) _
    go_enter Try.func67, Try.ntmps67
    go_wp2_with (first | (refine wpList_alloc_new rfl 24 rfl (cellsW 0) zWd ?_; simp only [Act.put, List.setIfInBounds_toArray, List.set_cons_zero, List.set_cons_succ, World.size_alloc]) | (refine wpList_load_row rfl 24 (.tmp 3) rfl (w.heap.size + 1) rfl 24 _ (0, 0) _ hB0.out uWd rfl iB.out ?_; simp only [Act.put, List.setIfInBounds_toArray, List.set_cons_zero, List.set_cons_succ]))
    ((try simp only [World.size_alloc]); refine wp_region_loose [.kn (.agg (cellsW (a))), .lo (fun v w => RdN w v (A)), .kn (.agg (cellsW (b))), .lo (fun v w => RdN w v (B)), .lo (fun v w => ∃ v1 v2, v = .tuple #[v1, v2] ∧ RdN w v1 (q) ∧ RdN w v2 (r)), .lo (fun v w => ∃ v1 v2, v = .tuple #[v1, v2] ∧ RdN w v1 (q) ∧ RdN w v2 (r)), .lo (fun v w => RdN w v (q)), .lo (fun v w => RdN w v (r)), .lo (fun v w => RdN w v (q)), .lo (fun v w => RdN w v (r))] (by kernel_rfl) (by kernel_rfl) (by kernel_rfl) (by first | exact trivial | ((repeat (first | refine keepsAll_kn ?_ | (refine keepsAll_lo (fun v w w' h hb => ?_) ?_; first | exact RdN.below h hb | exact RdL.below h hb | exact RdY.below h hb | (obtain ⟨b, e, h1⟩ := h; exact ⟨b, e, ArrY.below h1 hb (ArrY.lt h1)⟩) | (obtain ⟨v1, v2, e, h1, h2⟩ := h; exact ⟨v1, v2, e, RdN.below h1 hb, RdN.below h2 hb⟩)))); exact trivial)) ?_)
    (refine loose_step_on rfl (fun W' hB' hd K hK => wp_load_block 24 (.tmp 2) rfl w.heap.size rfl 24 _ _ (ArrW.below hA0.out hB' (ArrW.lt hA0.out)) uWd rfl iA.out (hK _ _ (Below.refl _ _) rfl)) ?_; rintro _ rfl; simp only [Act.put, List.setIfInBounds_toArray, List.set_cons_zero, List.set_cons_succ])
    (refine loose_step_on rfl (fun W' hB' hd K hK => ?_) ?_; (focus (skip; clear hd; go_simp; refine (hOA.out _).mono ?_; rintro _ _ ⟨v', rfl, hr, hb'⟩; exact hK v' _ hb' hr)); intro v13 _; simp only [Act.put, List.setIfInBounds_toArray, List.set_cons_zero, List.set_cons_succ])
    (refine loose_step_on rfl (fun W' hB' hd K hK => wp_load_block 24 (.tmp 3) rfl (w.heap.size + 1) rfl 24 _ _ (ArrW.below hB0.out hB' (ArrW.lt hB0.out)) uWd rfl iB.out (hK _ _ (Below.refl _ _) rfl)) ?_; rintro _ rfl; simp only [Act.put, List.setIfInBounds_toArray, List.set_cons_zero, List.set_cons_succ])
    (refine loose_step_on rfl (fun W' hB' hd K hK => ?_) ?_; (focus (skip; clear hd; go_simp; refine (hOB.out _).mono ?_; rintro _ _ ⟨v', rfl, hr, hb'⟩; exact hK v' _ hb' hr)); intro v15 _; simp only [Act.put, List.setIfInBounds_toArray, List.set_cons_zero, List.set_cons_succ])
    (refine loose_step_on rfl (fun W' hB' hd K hK => ?_) ?_; (focus (have g13 : RdN W' v13 A := hd ⟨1, Ground.data⟩ (by simp) rfl _ 13 rfl rfl (by simp); have g15 : RdN W' v15 B := hd ⟨3, Ground.data⟩ (by simp) rfl _ 15 rfl rfl (by simp); clear hd; go_simp; refine (hQ.out v13 v15 _ g13 g15).mono ?_; rintro _ _ ⟨v1', v2', rfl, hr1, hr2, hb'⟩; exact hK _ _ hb' ⟨v1', v2', rfl, hr1, hr2⟩)); intro v16 _; simp only [Act.put, List.setIfInBounds_toArray, List.set_cons_zero, List.set_cons_succ])
    (refine loose_step_on rfl (fun W' hB' hd K hK => ?_) ?_; (focus (have g16 : ∃ v1 v2, v16 = .tuple #[v1, v2] ∧ RdN W' v1 (q) ∧ RdN W' v2 (r) := hd ⟨4, Ground.data⟩ (by simp) rfl _ 16 rfl rfl (by simp); clear hd; go_simp; exact hK _ _ (Below.refl _ _) g16)); intro v11 _; simp only [Act.put, List.setIfInBounds_toArray, List.set_cons_zero, List.set_cons_succ])
    (refine loose_step_on rfl (fun W' hB' hd K hK => ?_) ?_; (focus (have g11 : ∃ v1 v2, v11 = .tuple #[v1, v2] ∧ RdN W' v1 (q) ∧ RdN W' v2 (r) := hd ⟨5, Ground.data⟩ (by simp) rfl _ 11 rfl rfl (by simp); clear hd; obtain ⟨x1, x2, rfl, h1, h2⟩ := g11; go_simp; exact hK _ _ (Below.refl _ _) h1)); intro v17 _; simp only [Act.put, List.setIfInBounds_toArray, List.set_cons_zero, List.set_cons_succ])
    (refine loose_step_on rfl (fun W' hB' hd K hK => ?_) ?_; (focus (have g11 : ∃ v1 v2, v11 = .tuple #[v1, v2] ∧ RdN W' v1 (q) ∧ RdN W' v2 (r) := hd ⟨5, Ground.data⟩ (by simp) rfl _ 11 rfl rfl (by simp); clear hd; obtain ⟨x1, x2, rfl, h1, h2⟩ := g11; go_simp; exact hK _ _ (Below.refl _ _) h2)); intro v18 _; simp only [Act.put, List.setIfInBounds_toArray, List.set_cons_zero, List.set_cons_succ])
    (refine loose_step_on rfl (fun W' hB' hd K hK => ?_) ?_; (focus (have g17 : RdN W' v17 q := hd ⟨6, Ground.data⟩ (by simp) rfl _ 17 rfl rfl (by simp); clear hd; go_simp; exact hK _ _ (Below.refl _ _) g17)); intro v5 _; simp only [Act.put, List.setIfInBounds_toArray, List.set_cons_zero, List.set_cons_succ])
    (refine loose_step_on rfl (fun W' hB' hd K hK => ?_) ?_; (focus (have g18 : RdN W' v18 r := hd ⟨7, Ground.data⟩ (by simp) rfl _ 18 rfl rfl (by simp); clear hd; go_simp; exact hK _ _ (Below.refl _ _) g18)); intro v6 _; simp only [Act.put, List.setIfInBounds_toArray, List.set_cons_zero, List.set_cons_succ])
    intro w6 hb6 hf
    have g5 : RdN w6 v5 q := hf 8 _ 5 (by first | omega | simp) rfl rfl (by simp)
    clear hf
    have hA6 := hid (hA0.out.below hb6 hA0.out.lt)
    have hB6 := hid (hB0.out.below hb6 hB0.out.lt)
    have hC6 := hid (hC0.out.below hb6 hC0.out.lt)
    have hb7 := hb0.trans (hb6.mono hb0.size)
    clear hA0 hB0 hC0 hb0 hb6
    go_wp2_with fail
    ((try simp only [World.size_alloc]); refine wp_region_ext (by kernel_rfl) (by kernel_rfl) ?_; (try simp only [List.append_eq, List.cons_append, List.nil_append]); (repeat (first | (refine wpQuiet_load_part rfl 24 (.tmp 2) rfl w.heap.size 0 rfl 24 _ (cellsW _) (0, 0) _ hA6.out (fun j v h => by rw [Nat.zero_add]; exact h) uWd rfl iA.out ?_; simp only [Act.put, List.setIfInBounds_toArray, List.set_cons_zero, List.set_cons_succ]) | (refine wpQuiet_load_part rfl 24 (.tmp 3) rfl (w.heap.size + 1) 0 rfl 24 _ (cellsW _) (0, 0) _ hB6.out (fun j v h => by rw [Nat.zero_add]; exact h) uWd rfl iB.out ?_; simp only [Act.put, List.setIfInBounds_toArray, List.set_cons_zero, List.set_cons_succ]) | go_big_quiet_step (first | (go_at_call 108; with_reducible refine Calls.ext_of (hNA.out _)) | (go_at_call 108; with_reducible refine Calls.ext_of (hNB.out _))))); refine wpQuiet_nil ?_; rintro _ ⟨xw, rfl⟩)
    have hC7 := hid (hC6.out.ext xw)
    have hr7 := g5.ext xw
    have hb8 := World.ext_below_of hb7 hb7.size xw
    clear hA6 hB6 hC6 hb7 g5
    generalize w6.ext xw = w7 at hC7 hr7 hb8 ⊢
    have i1 := hid (iW (subW 0 q))
    have i2 := hid (iW q)
    have o1 := hid (one_cellsW (subW 0 q))
    have o2 := hid (one_cellsW q)
    clear hOA hOB hNA hNB hQ he iA iB nB
    cases n1 <;> cases n2
    all_goals
      go_wp2_with fail
      first | refine (hM.out _ _ hr7).mono ?_ | refine (hW.out _ _ hr7).mono ?_
      rintro e w8 ⟨rfl, hb9⟩
      have hC8 := hid (hC7.out.below hb9 hC7.out.lt)
      have hb10 := hb8.trans (hb9.mono hb8.size)
      go_wp2_with (first | (refine wpList_store_row rfl 24 (.tmp 4) (.tmp 25) rfl (w.heap.size + 2) _ rfl rfl 24 _ hC8.out i1.out rfl o1.out ?_; simp only [Act.put]) | (refine wpList_store_row rfl 24 (.tmp 4) (.tmp 27) rfl (w.heap.size + 2) _ rfl rfl 24 _ hC8.out i2.out rfl o2.out ?_; simp only [Act.put]))
      first | (refine bodyPost_ret (results_cell_row rfl _ _ (w.heap.size + 2) 24 (cellsW (subW 0 q)) (0, 0) _ rfl (heap_setRow' _ _ _ _ _ hC8.out) uWd rfl i1.out) rfl ⟨by rw [HY.out]; rfl, below_setRow' hb10 _ (by omega) _⟩) | (refine bodyPost_ret (results_cell_row rfl _ _ (w.heap.size + 2) 24 (cellsW q) (0, 0) _ rfl (heap_setRow' _ _ _ _ _ hC8.out) uWd rfl i2.out) rfl ⟨by rw [HY.out]; rfl, below_setRow' hb10 _ (by omega) _⟩)

set_option maxHeartbeats 2000000 in
theorem rsmod_any (a b : Nat) (w : World) (ha : a < 2 ^ 256) (hb : b < 2 ^ 256) : Calls Try.prog 69 #[wd a, wd b] w fun e w' => e = .returned (wd (smodW a b)) ∧ Below w.heap.size w w' := by
  have hOA := hid (fun w => rsize_any a w ha)
  have hOB := hid (fun w => rsize_any b w hb)
  have hNA := hid (fun w => rneg_any a w ha)
  have sa := sizeW_lt a ha
  have sb := sizeW_lt b hb
  have la := dg_word_len _ sa
  have lb := dg_word_len _ sb
  have he : ∀ w, (Op.equalIn 10000 24 (.agg (cellsW b)) (.agg #[.int .u64 0, .int .u64 0, .int .u64 0, .int .u64 0])).run Try.prog w = .ok (decide (b = 0)) w := eq_wd b 0 hb (by decide)
  have iA := hid (iW a)
  have iB := hid (iW b)
  have nB := hid (one_cellsW b)
  by_cases h0 : b = 0
  · have HY := hid (show smodW a b = b by unfold smodW; rw [h0, sizeW_zero]; unfold modW; rw [if_pos rfl, signW_zero])
    rw [decide_eq_true h0] at he
    rw [HY.out]
    clear h0 HY hOA hOB hNA la lb sa sb ha hb
    unfold wd
    have hA0 := hid (show ArrW 24 (((w.alloc (.cells (cellsW a) 24)).alloc (.cells (cellsW b) 24)).alloc (.cells (cellsW 0) 24)) w.heap.size a from ((ArrW.new _ w a).alloc _).alloc _)
    have hB0 := hid (show ArrW 24 (((w.alloc (.cells (cellsW a) 24)).alloc (.cells (cellsW b) 24)).alloc (.cells (cellsW 0) 24)) (w.heap.size + 1) b by
      have := ArrW.new 24 (w.alloc (.cells (cellsW a) 24)) b
      rw [World.size_alloc] at this; exact this.alloc _)
    have hC0 := hid (show ArrW 24 (((w.alloc (.cells (cellsW a) 24)).alloc (.cells (cellsW b) 24)).alloc (.cells (cellsW 0) 24)) (w.heap.size + 2) 0 by
      have := ArrW.new 24 ((w.alloc (.cells (cellsW a) 24)).alloc (.cells (cellsW b) 24)) 0
      rw [World.size_alloc, World.size_alloc] at this; exact this)
    have hb0 : Below w.heap.size w (((w.alloc (.cells (cellsW a) 24)).alloc (.cells (cellsW b) 24)).alloc (.cells (cellsW 0) 24)) := (((Below.refl _ _).alloc (Nat.le_refl _) _).alloc (by simp) _).alloc (by simp; omega) _
    go_enter Try.func69, Try.ntmps69
    go_wp2_with (first | (refine wpList_alloc_new rfl 24 rfl (cellsW 0) zWd ?_; simp only [Act.put, List.setIfInBounds_toArray, List.set_cons_zero, List.set_cons_succ, World.size_alloc]) | (refine wpList_load_row rfl 24 (.tmp 3) rfl (w.heap.size + 1) rfl 24 _ (0, 0) _ hB0.out uWd rfl iB.out ?_; simp only [Act.put, List.setIfInBounds_toArray, List.set_cons_zero, List.set_cons_succ]) | (refine wpList_store_row rfl 24 (.tmp 4) (.tmp 10) rfl (w.heap.size + 2) _ rfl rfl 24 _ hC0.out iB.out rfl nB.out ?_; simp only [Act.put]))
    refine bodyPost_ret (results_cell_row rfl _ _ (w.heap.size + 2) 24 (cellsW b) (0, 0) _ rfl (heap_setRow' _ _ _ _ _ hC0.out) uWd rfl iB.out) rfl ⟨rfl, below_setRow' hb0 _ (by omega) _⟩
  · rw [decide_eq_false h0] at he
    have hpos := sizeW_pos hb h0
    have HY := hid (show smodW a b = signW (sizeW a % sizeW b) (negW a) by unfold smodW modW; rw [if_neg (by omega)])
    obtain ⟨y, hy⟩ : ∃ y, y = smodW a b := ⟨_, rfl⟩
    rw [← hy] at HY ⊢
    obtain ⟨A, hA⟩ : ∃ A, A = sizeW a := ⟨_, rfl⟩
    obtain ⟨B, hB⟩ : ∃ B, B = sizeW b := ⟨_, rfl⟩
    obtain ⟨n1, hn1⟩ : ∃ n1, n1 = negW a := ⟨_, rfl⟩
    rw [← hA, ← hB, ← hn1] at HY
    rw [← hA] at sa la hOA
    rw [← hB] at sb lb hOB hpos
    rw [← hn1] at hNA
    have lr : (dg (A % B)).length ≤ 65536 := Nat.le_trans (dg_len_mono _ _ (Nat.mod_le _ _)) (by omega)
    have hr : A % B < 2 ^ 256 := Nat.lt_of_le_of_lt (Nat.mod_le _ _) sa
    have hW := hid (fun v w h => wordN_any (A % B) v w h lr)
    have hM := hid (fun v w h => rminus_any (A % B) v w h lr)
    rw [show A % B % 2 ^ 256 = A % B from Nat.mod_eq_of_lt hr] at hW hM
    have hQ := hid (fun va vb w ha hb => quo_any A B va vb w ha hb (by omega) (by omega) hpos)
    obtain ⟨q, hq2⟩ : ∃ q, q = A / B := ⟨_, rfl⟩
    obtain ⟨r, hr2⟩ : ∃ r, r = A % B := ⟨_, rfl⟩
    rw [← hq2, ← hr2] at hQ
    rw [← hr2] at hW hM HY
    clear h0 sa sb la lb hpos lr hr hq2 hr2 ha hb hy hA hB hn1
    unfold wd at *
    have hA0 := hid (show ArrW 24 (((w.alloc (.cells (cellsW a) 24)).alloc (.cells (cellsW b) 24)).alloc (.cells (cellsW 0) 24)) w.heap.size a from ((ArrW.new _ w a).alloc _).alloc _)
    have hB0 := hid (show ArrW 24 (((w.alloc (.cells (cellsW a) 24)).alloc (.cells (cellsW b) 24)).alloc (.cells (cellsW 0) 24)) (w.heap.size + 1) b by
      have := ArrW.new 24 (w.alloc (.cells (cellsW a) 24)) b
      rw [World.size_alloc] at this; exact this.alloc _)
    have hC0 := hid (show ArrW 24 (((w.alloc (.cells (cellsW a) 24)).alloc (.cells (cellsW b) 24)).alloc (.cells (cellsW 0) 24)) (w.heap.size + 2) 0 by
      have := ArrW.new 24 ((w.alloc (.cells (cellsW a) 24)).alloc (.cells (cellsW b) 24)) 0
      rw [World.size_alloc, World.size_alloc] at this; exact this)
    have hb0 : Below w.heap.size w (((w.alloc (.cells (cellsW a) 24)).alloc (.cells (cellsW b) 24)).alloc (.cells (cellsW 0) 24)) := (((Below.refl _ _).alloc (Nat.le_refl _) _).alloc (by simp) _).alloc (by simp; omega) _
    go_enter Try.func69, Try.ntmps69
    go_wp2_with (first | (refine wpList_alloc_new rfl 24 rfl (cellsW 0) zWd ?_; simp only [Act.put, List.setIfInBounds_toArray, List.set_cons_zero, List.set_cons_succ, World.size_alloc]) | (refine wpList_load_row rfl 24 (.tmp 3) rfl (w.heap.size + 1) rfl 24 _ (0, 0) _ hB0.out uWd rfl iB.out ?_; simp only [Act.put, List.setIfInBounds_toArray, List.set_cons_zero, List.set_cons_succ]))
    ((try simp only [World.size_alloc]); refine wp_region_loose [.kn (.agg (cellsW (a))), .lo (fun v w => RdN w v (A)), .kn (.agg (cellsW (b))), .lo (fun v w => RdN w v (B)), .lo (fun v w => ∃ v1 v2, v = .tuple #[v1, v2] ∧ RdN w v1 (q) ∧ RdN w v2 (r)), .lo (fun v w => ∃ v1 v2, v = .tuple #[v1, v2] ∧ RdN w v1 (q) ∧ RdN w v2 (r)), .lo (fun v w => RdN w v (q)), .lo (fun v w => RdN w v (r)), .lo (fun v w => RdN w v (q)), .lo (fun v w => RdN w v (r))] (by kernel_rfl) (by kernel_rfl) (by kernel_rfl) (by first | exact trivial | ((repeat (first | refine keepsAll_kn ?_ | (refine keepsAll_lo (fun v w w' h hb => ?_) ?_; first | exact RdN.below h hb | exact RdL.below h hb | exact RdY.below h hb | (obtain ⟨b, e, h1⟩ := h; exact ⟨b, e, ArrY.below h1 hb (ArrY.lt h1)⟩) | (obtain ⟨v1, v2, e, h1, h2⟩ := h; exact ⟨v1, v2, e, RdN.below h1 hb, RdN.below h2 hb⟩)))); exact trivial)) ?_)
    (refine loose_step_on rfl (fun W' hB' hd K hK => wp_load_block 24 (.tmp 2) rfl w.heap.size rfl 24 _ _ (ArrW.below hA0.out hB' (ArrW.lt hA0.out)) uWd rfl iA.out (hK _ _ (Below.refl _ _) rfl)) ?_; rintro _ rfl; simp only [Act.put, List.setIfInBounds_toArray, List.set_cons_zero, List.set_cons_succ])
    (refine loose_step_on rfl (fun W' hB' hd K hK => ?_) ?_; (focus (skip; clear hd; go_simp; refine (hOA.out _).mono ?_; rintro _ _ ⟨v', rfl, hr, hb'⟩; exact hK v' _ hb' hr)); intro v13 _; simp only [Act.put, List.setIfInBounds_toArray, List.set_cons_zero, List.set_cons_succ])
    (refine loose_step_on rfl (fun W' hB' hd K hK => wp_load_block 24 (.tmp 3) rfl (w.heap.size + 1) rfl 24 _ _ (ArrW.below hB0.out hB' (ArrW.lt hB0.out)) uWd rfl iB.out (hK _ _ (Below.refl _ _) rfl)) ?_; rintro _ rfl; simp only [Act.put, List.setIfInBounds_toArray, List.set_cons_zero, List.set_cons_succ])
    (refine loose_step_on rfl (fun W' hB' hd K hK => ?_) ?_; (focus (skip; clear hd; go_simp; refine (hOB.out _).mono ?_; rintro _ _ ⟨v', rfl, hr, hb'⟩; exact hK v' _ hb' hr)); intro v15 _; simp only [Act.put, List.setIfInBounds_toArray, List.set_cons_zero, List.set_cons_succ])
    (refine loose_step_on rfl (fun W' hB' hd K hK => ?_) ?_; (focus (have g13 : RdN W' v13 A := hd ⟨1, Ground.data⟩ (by simp) rfl _ 13 rfl rfl (by simp); have g15 : RdN W' v15 B := hd ⟨3, Ground.data⟩ (by simp) rfl _ 15 rfl rfl (by simp); clear hd; go_simp; refine (hQ.out v13 v15 _ g13 g15).mono ?_; rintro _ _ ⟨v1', v2', rfl, hr1, hr2, hb'⟩; exact hK _ _ hb' ⟨v1', v2', rfl, hr1, hr2⟩)); intro v16 _; simp only [Act.put, List.setIfInBounds_toArray, List.set_cons_zero, List.set_cons_succ])
    (refine loose_step_on rfl (fun W' hB' hd K hK => ?_) ?_; (focus (have g16 : ∃ v1 v2, v16 = .tuple #[v1, v2] ∧ RdN W' v1 (q) ∧ RdN W' v2 (r) := hd ⟨4, Ground.data⟩ (by simp) rfl _ 16 rfl rfl (by simp); clear hd; go_simp; exact hK _ _ (Below.refl _ _) g16)); intro v11 _; simp only [Act.put, List.setIfInBounds_toArray, List.set_cons_zero, List.set_cons_succ])
    (refine loose_step_on rfl (fun W' hB' hd K hK => ?_) ?_; (focus (have g11 : ∃ v1 v2, v11 = .tuple #[v1, v2] ∧ RdN W' v1 (q) ∧ RdN W' v2 (r) := hd ⟨5, Ground.data⟩ (by simp) rfl _ 11 rfl rfl (by simp); clear hd; obtain ⟨x1, x2, rfl, h1, h2⟩ := g11; go_simp; exact hK _ _ (Below.refl _ _) h1)); intro v17 _; simp only [Act.put, List.setIfInBounds_toArray, List.set_cons_zero, List.set_cons_succ])
    (refine loose_step_on rfl (fun W' hB' hd K hK => ?_) ?_; (focus (have g11 : ∃ v1 v2, v11 = .tuple #[v1, v2] ∧ RdN W' v1 (q) ∧ RdN W' v2 (r) := hd ⟨5, Ground.data⟩ (by simp) rfl _ 11 rfl rfl (by simp); clear hd; obtain ⟨x1, x2, rfl, h1, h2⟩ := g11; go_simp; exact hK _ _ (Below.refl _ _) h2)); intro v18 _; simp only [Act.put, List.setIfInBounds_toArray, List.set_cons_zero, List.set_cons_succ])
    (refine loose_step_on rfl (fun W' hB' hd K hK => ?_) ?_; (focus (have g17 : RdN W' v17 q := hd ⟨6, Ground.data⟩ (by simp) rfl _ 17 rfl rfl (by simp); clear hd; go_simp; exact hK _ _ (Below.refl _ _) g17)); intro v5 _; simp only [Act.put, List.setIfInBounds_toArray, List.set_cons_zero, List.set_cons_succ])
    (refine loose_step_on rfl (fun W' hB' hd K hK => ?_) ?_; (focus (have g18 : RdN W' v18 r := hd ⟨7, Ground.data⟩ (by simp) rfl _ 18 rfl rfl (by simp); clear hd; go_simp; exact hK _ _ (Below.refl _ _) g18)); intro v6 _; simp only [Act.put, List.setIfInBounds_toArray, List.set_cons_zero, List.set_cons_succ])
    intro w6 hb6 hf
    have g6 : RdN w6 v6 r := hf 9 _ 6 (by first | omega | simp) rfl rfl (by simp)
    clear hf
    have hA6 := hid (hA0.out.below hb6 hA0.out.lt)
    have hC6 := hid (hC0.out.below hb6 hC0.out.lt)
    have hb7 := hb0.trans (hb6.mono hb0.size)
    clear hA0 hB0 hC0 hb0 hb6
    go_wp2_with (refine wpList_load_row rfl 24 (.tmp 2) rfl w.heap.size rfl 24 _ (0, 0) _ hA6.out uWd rfl iA.out ?_; simp only [Act.put, List.setIfInBounds_toArray, List.set_cons_zero, List.set_cons_succ])
    refine (hNA.out _).mono ?_
    rintro e w7 ⟨rfl, hb8⟩
    have hC7 := hid (hC6.out.below hb8 hC6.out.lt)
    have hr7 := g6.below hb8
    have hb9 := hb7.trans (hb8.mono hb7.size)
    clear hA6 hC6 hb7 g6 hb8
    have i1 := hid (iW (subW 0 r))
    have i2 := hid (iW r)
    have o1 := hid (one_cellsW (subW 0 r))
    have o2 := hid (one_cellsW r)
    clear hOA hOB hNA hQ he iA iB nB
    cases n1
    all_goals
      go_wp2_with fail
      first | refine (hM.out _ _ hr7).mono ?_ | refine (hW.out _ _ hr7).mono ?_
      rintro e w8 ⟨rfl, hb10⟩
      have hC8 := hid (hC7.out.below hb10 hC7.out.lt)
      have hb11 := hb9.trans (hb10.mono hb9.size)
      go_wp2_with (first | (refine wpList_store_row rfl 24 (.tmp 4) (.tmp 22) rfl (w.heap.size + 2) _ rfl rfl 24 _ hC8.out i1.out rfl o1.out ?_; simp only [Act.put]) | (refine wpList_store_row rfl 24 (.tmp 4) (.tmp 24) rfl (w.heap.size + 2) _ rfl rfl 24 _ hC8.out i2.out rfl o2.out ?_; simp only [Act.put]))
      first | (refine bodyPost_ret (results_cell_row rfl _ _ (w.heap.size + 2) 24 (cellsW (subW 0 r)) (0, 0) _ rfl (heap_setRow' _ _ _ _ _ hC8.out) uWd rfl i1.out) rfl ⟨by rw [HY.out]; rfl, below_setRow' hb11 _ (by omega) _⟩) | (refine bodyPost_ret (results_cell_row rfl _ _ (w.heap.size + 2) 24 (cellsW r) (0, 0) _ rfl (heap_setRow' _ _ _ _ _ hC8.out) uWd rfl i2.out) rfl ⟨by rw [HY.out]; rfl, below_setRow' hb11 _ (by omega) _⟩)
end Go.Proofs.Ytfidbiabgmioaaa
