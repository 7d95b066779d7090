import Derived.Test.YtfidbiabgmioaaaFldB
/-! field: sums, differences, products. -/
set_option maxRecDepth 4000
set_option linter.unusedVariables false
set_option linter.unusedSimpArgs false
namespace Go.Proofs.Ytfidbiabgmioaaa
open Go.RowKit

theorem p_mod_lt (a : Nat) : a % pN < 2 ^ 256 := Nat.lt_trans (Nat.mod_lt _ pN_pos) pN_lt
set_option maxHeartbeats 2000000 in
theorem fadd_any (a b : Nat) (w : World) (ha : a < 2 ^ 256) (hb : b < 2 ^ 256) : Calls Try.prog 22 #[wd a, wd b] w fun e w' => e = .returned (wd ((a + b) % pN)) ∧ Below w.heap.size w w' := by
  have hBA := hid (fun w => below_any a w ha)
  have hBB := hid (fun w => below_any b w hb)
  have hB := hid (fun x w (hx : x < 2 ^ 256) => below_any x w hx)
  obtain ⟨a', ha'⟩ : ∃ a', a' = a % pN := ⟨_, rfl⟩
  obtain ⟨b', hb'⟩ : ∃ b', b' = b % pN := ⟨_, rfl⟩
  have hlt := hid (show a' + b' < 2 ^ 256 by
    have h1 := Nat.mod_lt a pN_pos
    have h2 := Nat.mod_lt b pN_pos
    have h3 := pN_two
    omega)
  have ha2 := hid (show a' < 2 ^ 256 by rw [ha']; exact p_mod_lt a)
  have hb2 := hid (show b' < 2 ^ 256 by rw [hb']; exact p_mod_lt b)
  have HE := hid (show (a + b) % pN = (a' + b') % pN by rw [ha', hb', Nat.add_mod])
  rw [← ha'] at hBA
  rw [← hb'] at hBB
  clear ha hb ha' hb'
  unfold wd at *
  have iA := hid (iW a)
  have iB := hid (iW b)
  have iA' := hid (iW a')
  have nA' := hid (one_cellsW a')
  have iB' := hid (iW b')
  have nB' := hid (one_cellsW b')
  have hA0 := hid (show ArrW 24 (((w.alloc (.cells (cellsW a) 24)).alloc (.cells (cellsW b) 24)).alloc (.cells (cellsW 0) 24)) w.heap.size a from ((ArrW.new _ w a).alloc _).alloc _)
  have hB0 := hid (show ArrW 24 (((w.alloc (.cells (cellsW a) 24)).alloc (.cells (cellsW b) 24)).alloc (.cells (cellsW 0) 24)) (w.heap.size + 1) b by
    have := ArrW.new 24 (w.alloc (.cells (cellsW a) 24)) b
    rw [World.size_alloc] at this; exact this.alloc _)
  have hC0 := hid (show ArrW 24 (((w.alloc (.cells (cellsW a) 24)).alloc (.cells (cellsW b) 24)).alloc (.cells (cellsW 0) 24)) (w.heap.size + 2) 0 by
    have := ArrW.new 24 ((w.alloc (.cells (cellsW a) 24)).alloc (.cells (cellsW b) 24)) 0
    rw [World.size_alloc, World.size_alloc] at this; exact this)
  have hb0 : Below w.heap.size w (((w.alloc (.cells (cellsW a) 24)).alloc (.cells (cellsW b) 24)).alloc (.cells (cellsW 0) 24)) := (((Below.refl _ _).alloc (Nat.le_refl _) _).alloc (by simp) _).alloc (by simp; omega) _
  go_enter Try.func22, Try.ntmps22
  go_wp2_with (first | (refine wpList_alloc_new rfl 24 rfl (cellsW 0) zWd ?_; simp only [Act.put, List.setIfInBounds_toArray, List.set_cons_zero, List.set_cons_succ, World.size_alloc]) | (refine wpList_load_row rfl 24 (.tmp 2) rfl w.heap.size rfl 24 _ (0, 0) _ hA0.out uWd rfl iA.out ?_; simp only [Act.put, List.setIfInBounds_toArray, List.set_cons_zero, List.set_cons_succ]))
  refine (hBA.out _).mono ?_
  rintro e w1 ⟨rfl, hb1⟩
  have hB1 := hid ((hB0.out.below hb1 hB0.out.lt).alloc (.cells (cellsW a') 24))
  have hC1 := hid ((hC0.out.below hb1 hC0.out.lt).alloc (.cells (cellsW a') 24))
  have hX1 := hid (ArrW.new 24 w1 a')
  have hb3 := hb0.trans (hb1.mono hb0.size)
  have hb4 := hb3.alloc hb3.size (.cells (cellsW a') 24)
  have hsz : w.heap.size + 3 ≤ w1.heap.size := by have := (hC0.out.below hb1 hC0.out.lt).lt; omega
  clear hA0 hB0 hC0 hb0 hb1 hb3
  obtain ⟨G, hG⟩ : ∃ G, G = w1.heap.size := ⟨_, rfl⟩
  go_wp2_with (first | (refine wpList_allocStore 24 9 5 (cellsW a') (cellsW 0) rfl rfl rfl rfl rfl rfl (by decide) (by simp) rfl (by kernel_rfl) rfl iA'.out nA'.out ?_; simp only [Act.put, List.setIfInBounds_toArray, List.set_cons_zero, List.set_cons_succ]) | (refine wpList_load_row rfl 24 (.tmp 3) rfl (w.heap.size + 1) rfl 24 _ (0, 0) _ hB1.out uWd rfl iB.out ?_; simp only [Act.put, List.setIfInBounds_toArray, List.set_cons_zero, List.set_cons_succ]))
  rw [← hG] at hX1 hsz ⊢
  generalize w1.alloc (.cells (cellsW a') 24) = w2 at hB1 hC1 hX1 hb4 ⊢
  clear hG
  refine (hBB.out _).mono ?_
  rintro e w3 ⟨rfl, hb5⟩
  have hB2 := hid (hB1.out.below hb5 hB1.out.lt)
  have hC2 := hid (hC1.out.below hb5 hC1.out.lt)
  have hX2 := hid (hX1.out.below hb5 hX1.out.lt)
  have hb6 := hb4.trans (hb5.mono hb4.size)
  clear hB1 hC1 hX1 hb4 hb5
  go_wp2_with (refine wpList_store_row rfl 24 (.tmp 3) (.tmp 11) rfl (w.heap.size + 1) _ rfl rfl 24 _ hB2.out iB'.out rfl nB'.out ?_; simp only [Act.put])
  have hB3 := hid (hB2.out.row b')
  have hC3 := hid (hC2.out.otherRow (show w.heap.size + 2 ≠ w.heap.size + 1 by omega) (cellsW b'))
  have hX3 := hid (hX2.out.otherRow (show G ≠ w.heap.size + 1 by omega) (cellsW b'))
  have hb7 := below_setRow' hb6 (w.heap.size + 1) (by omega) (cellsW b')
  generalize w3.setRow (w.heap.size + 1) (cellsW b') = w4 at hB3 hC3 hX3 hb7 ⊢
  clear hB2 hC2 hX2 hb6 hBA hBB
  go_loopw [6, 12] (fun cv iv wr => ∃ i c Y : Nat, i ≤ 4 ∧ c ≤ 1 ∧ iv = .int .i64 (i : Int) ∧ cv = .int .u64 (c : Int) ∧ Hid (Y < 2 ^ 256 ∧ Y + 2 ^ (64 * i) * c = a' + b' % 2 ^ (64 * i)) ∧ Hid (ArrW 24 wr (w.heap.size + 1) b') ∧ Hid (ArrW 24 wr (w.heap.size + 2) 0) ∧ Hid (ArrW 24 wr G Y) ∧ Below w.heap.size w wr)
    (fun _ iv _ => 4 - (intOf iv).toNat)
  case atStart => exact ⟨0, 0, a', by omega, by omega, rfl, rfl, hid ⟨ha2.out, by simp [Nat.mod_one]⟩, hB3, hC3, hX3, hb7⟩
  case round =>
    clear hB3 hC3 hX3 hb7
    obtain ⟨i, c, Y, hi, hc, rfl, rfl, hY, hBb, hC, hX, hb⟩ := hrel
    by_cases hlt4 : i < 4
    · obtain ⟨u, v, p1, p2, p3, p4⟩ := add64_nat (lmN Y i) (lmN b' i) c (lmN_lt _ _) (lmN_lt _ _) hc
      have c1 := hX.out.cell i hlt4
      have f1 := hX.out.free i
      have l1 := hX.out.lt
      have c2 := hBb.out.cell i hlt4
      have l2 := hBb.out.lt
      unfold lm at c1 c2
      have HL := hid (show setL Y i u < 2 ^ 256 from setL_lt Y i u 4 hY.out.1 p1 hlt4)
      have HS := hid (show setL Y i u + 2 ^ (64 * (i + 1)) * v = a' + b' % 2 ^ (64 * (i + 1)) by
        have h1 := setL_eq Y i u
        have h2 := hY.out.2
        rw [low_succ, pow64_succ]
        have h3 : 2 ^ (64 * i) * u + 2 ^ (64 * i) * 2 ^ 64 * v = 2 ^ (64 * i) * lmN Y i + 2 ^ (64 * i) * lmN b' i + 2 ^ (64 * i) * c := by
          rw [Nat.mul_assoc, ← Nat.mul_add, ← Nat.mul_add, ← Nat.mul_add]; congr 1; omega
        omega)
      clear p3 hY
      go_wp2_with fail
      (refine wp_region_ext_float 13 11 [0, 1, 2, 3, 4, 5, 6, 7, 8, 9, 10, 12] [_, _, _, _, _, _, _, _, _, _, _, _] _ _ _ rfl rfl rfl rfl (by kernel_rfl) (by kernel_rfl) ?_; (repeat (go_big_quiet_step (first | fail))); refine wpQuiet_nil ?_; refine ⟨?_, ?_⟩; rotate_left; rintro _ ⟨xw, rfl⟩; rotate_left; (repeat (go_big_quiet_step (first | fail))); refine wpQuiet_nil ?_; rintro _ ⟨xw, rfl⟩)
      all_goals
        go_wp2
        go_roundw
        case rel =>
          exact ⟨i + 1, v, setL Y i u, by omega, p2, by go_num, rfl, hid ⟨HL.out, HS.out⟩, hid ((hBb.out.ext xw).other (by show w.heap.size + 1 ≠ G; omega) _), hid ((hC.out.ext xw).other (by show w.heap.size + 2 ≠ G; omega) _), hid (ArrM.toW ((ArrM.ofW (hX.out.ext xw)).set i u p1)), (World.ext_below_of hb hb.size xw).setCell (p := ⟨G, i, none⟩) (by show w.heap.size ≤ G; omega) _⟩
        case measure => simp [intOf]; omega
    · obtain rfl : i = 4 := by omega
      have hYe : Y = a' + b' := by
        have h1 := hY.out
        rw [low_full b' hb2.out] at h1
        have h2 := hlt.out
        have h3 : 2 ^ (64 * 4) = 2 ^ 256 := rfl
        rw [h3] at h1
        generalize 2 ^ 256 = T at *
        have h4 : c = 0 ∨ c = 1 := by omega
        rcases h4 with rfl | rfl
        · omega
        · omega
      have hB1 := hid (fun w => hB.out Y w hY.out.1)
      have HR := hid (show Y % pN = (a + b) % pN by rw [hYe, HE.out])
      obtain ⟨r, hr⟩ : ∃ r, r = Y % pN := ⟨_, rfl⟩
      rw [← hr] at hB1 HR
      have iY := hid (iW Y)
      have iR := hid (iW r)
      have nR := hid (one_cellsW r)
      clear hY hYe hB hr hlt4 hi
      go_wp2_with (refine wpList_load_row rfl 24 (.tmp 5) rfl G rfl 24 _ (0, 0) _ hX.out uWd rfl iY.out ?_; simp only [Act.put, List.setIfInBounds_toArray, List.set_cons_zero, List.set_cons_succ])
      refine (hB1.out _).mono ?_
      rintro e w2 ⟨rfl, hb2⟩
      have hR2 := hid (hC.out.below hb2 hC.out.lt)
      have hb3 := hb.trans (hb2.mono hb.size)
      clear hBb hC hX hb hb2
      go_wp2_with (refine wpList_store_row rfl 24 (.tmp 4) (.tmp 30) rfl (w.heap.size + 2) _ rfl rfl 24 _ hR2.out iR.out rfl nR.out ?_; simp only [Act.put])
      refine bodyPost_ret (results_cell_row rfl _ _ (w.heap.size + 2) 24 (cellsW r) (0, 0) _ rfl (heap_setRow' _ _ _ _ _ hR2.out) uWd rfl iR.out) rfl ⟨by rw [HR.out], below_setRow' hb3 _ (by omega) _⟩

/-- A difference modulo the first prime. -/
def subP (a b : Nat) : Nat := (a + (pN - b % pN)) % pN
set_option maxHeartbeats 2000000 in
theorem fsub_any (a b : Nat) (w : World) (ha : a < 2 ^ 256) (hb : b < 2 ^ 256) : Calls Try.prog 79 #[wd a, wd b] w fun e w' => e = .returned (wd (subP a b)) ∧ Below w.heap.size w w' := by
  have hP := hid fP_any
  have hBB := hid (fun w => below_any b w hb)
  have hS := hid (fun w => wsub_any pN (b % pN) w pN_lt (p_mod_lt b))
  have hb1 := Nat.mod_lt b pN_pos
  have hsub : subW pN (b % pN) = pN - b % pN := by
    unfold subW
    have h1 := pN_lt
    have h2 : b % pN < 2 ^ 256 := p_mod_lt b
    generalize b % pN = y at *
    generalize pN = p at *
    generalize 2 ^ 256 = T at *
    rw [show p + (T - y) = (p - y) + T by omega, Nat.add_mod_right, Nat.mod_eq_of_lt (by omega)]
  rw [hsub] at hS
  have hdl : pN - b % pN < 2 ^ 256 := Nat.lt_of_le_of_lt (Nat.sub_le _ _) pN_lt
  have hA := hid (fun w => fadd_any a (pN - b % pN) w ha hdl)
  rw [show (a + (pN - b % pN)) % pN = subP a b from rfl] at hA
  obtain ⟨d, hd⟩ : ∃ d, d = pN - b % pN := ⟨_, rfl⟩
  obtain ⟨b', hb'⟩ : ∃ b', b' = b % pN := ⟨_, rfl⟩
  obtain ⟨r, hr⟩ : ∃ r, r = subP a b := ⟨_, rfl⟩
  rw [← hd] at hS hA
  rw [← hb'] at hBB hS
  rw [← hr] at hA ⊢
  generalize pN = p at *
  clear ha hb hb1 hsub hdl hd hb' hr
  unfold wd at *
  have iA := hid (iW a)
  have iB := hid (iW b)
  have iR := hid (iW r)
  have nR := hid (one_cellsW r)
  have hA0 := hid (show ArrW 24 (((w.alloc (.cells (cellsW a) 24)).alloc (.cells (cellsW b) 24)).alloc (.cells (cellsW 0) 24)) w.heap.size a from ((ArrW.new _ w a).alloc _).alloc _)
  have hB0 := hid (show ArrW 24 (((w.alloc (.cells (cellsW a) 24)).alloc (.cells (cellsW b) 24)).alloc (.cells (cellsW 0) 24)) (w.heap.size + 1) b by
    have := ArrW.new 24 (w.alloc (.cells (cellsW a) 24)) b
    rw [World.size_alloc] at this; exact this.alloc _)
  have hC0 := hid (show ArrW 24 (((w.alloc (.cells (cellsW a) 24)).alloc (.cells (cellsW b) 24)).alloc (.cells (cellsW 0) 24)) (w.heap.size + 2) 0 by
    have := ArrW.new 24 ((w.alloc (.cells (cellsW a) 24)).alloc (.cells (cellsW b) 24)) 0
    rw [World.size_alloc, World.size_alloc] at this; exact this)
  have hb0 : Below w.heap.size w (((w.alloc (.cells (cellsW a) 24)).alloc (.cells (cellsW b) 24)).alloc (.cells (cellsW 0) 24)) := (((Below.refl _ _).alloc (Nat.le_refl _) _).alloc (by simp) _).alloc (by simp; omega) _
  go_enter Try.func79, Try.ntmps79
  go_wp2_with (refine wpList_alloc_new rfl 24 rfl (cellsW 0) zWd ?_; simp only [Act.put, List.setIfInBounds_toArray, List.set_cons_zero, List.set_cons_succ, World.size_alloc])
  generalize ((w.alloc (.cells (cellsW a) 24)).alloc (.cells (cellsW b) 24)).alloc (.cells (cellsW 0) 24) = w1 at hA0 hB0 hC0 hb0 ⊢
  ((try simp only [World.size_alloc]); refine wp_region_ext_tail 6 (by kernel_rfl) (by kernel_rfl) ?_; simp only [List.take_succ_cons, List.take_zero, List.drop_succ_cons, List.drop_zero]; (repeat (first | (refine wpQuiet_load_want 24 (.tmp 2) rfl w.heap.size rfl 24 (cellsW _) _ hA0.out uWd rfl iA.out rfl ?_; simp only [Act.put, List.setIfInBounds_toArray, List.set_cons_zero, List.set_cons_succ]) | (refine wpQuiet_load_want 24 (.tmp 3) rfl (w.heap.size + 1) rfl 24 (cellsW _) _ hB0.out uWd rfl iB.out rfl ?_; simp only [Act.put, List.setIfInBounds_toArray, List.set_cons_zero, List.set_cons_succ]) | go_big_quiet_step (first | (go_at_call 88; with_reducible refine Calls.ext_of (hP.out _)) | (go_at_call 86; with_reducible refine Calls.ext_of (hBB.out _)) | (go_at_call 41; with_reducible refine Calls.ext_of (hS.out _)) | (go_at_call 22; with_reducible refine Calls.ext_of (hA.out _))))); refine wpQuiet_nil ?_; rintro _ ⟨xw, rfl⟩)
  have hC1 := hid (hC0.out.ext xw)
  have hb1 := World.ext_below_of hb0 hb0.size xw
  generalize w1.ext xw = w2 at hC1 hb1 ⊢
  clear hA0 hB0 hC0 hb0
  (refine wpList_store_row rfl 24 (.tmp 4) (.tmp 10) rfl (w.heap.size + 2) _ rfl rfl 24 _ hC1.out iR.out rfl nR.out ?_; simp only [Act.put])
  go_wp2
  refine bodyPost_ret (results_cell_row rfl _ _ (w.heap.size + 2) 24 (cellsW r) (0, 0) _ rfl (heap_setRow' _ _ _ _ _ hC1.out) uWd rfl iR.out) rfl ⟨rfl, below_setRow' hb1 _ (by omega) _⟩

set_option maxHeartbeats 4000000 in
set_option maxRecDepth 100000 in
theorem fmul_any (a b : Nat) (w : World) (ha : a < 2 ^ 256) (hb : b < 2 ^ 256) : Calls Try.prog 78 #[wd a, wd b] w fun e w' => e = .returned (wd (a * b % pN)) ∧ Below w.heap.size w w' := by
  have HA := hid ha
  have HB := hid hb
  have hF := hid (fun w => fold_any (a * b) w (by
    have := Nat.mul_lt_mul'' ha hb
    rw [← Nat.pow_add, show 256 + 256 = 64 * 8 from rfl] at this; exact this))
  obtain ⟨r, hr⟩ : ∃ r, r = a * b % pN := ⟨_, rfl⟩
  rw [← hr] at hF ⊢
  clear ha hb hr
  unfold wd at *
  have iR := hid (iW r)
  have nR := hid (one_cellsW r)
  obtain ⟨W0, hW0⟩ : ∃ W0, W0 = (((w.alloc (.cells (cellsW a) 24)).alloc (.cells (cellsW b) 24)).alloc (.cells (cellsW 0) 24)).alloc (.cells (cellsM 8 0) 69) := ⟨_, rfl⟩
  have hA0 := hid (show ArrW 24 W0 w.heap.size a by rw [hW0]; exact (((ArrW.new _ w a).alloc _).alloc _).alloc _)
  have hB0 := hid (show ArrW 24 W0 (w.heap.size + 1) b by
    have := ArrW.new 24 (w.alloc (.cells (cellsW a) 24)) b
    rw [World.size_alloc] at this; rw [hW0]; exact (this.alloc _).alloc _)
  have hR0 := hid (show ArrW 24 W0 (w.heap.size + 2) 0 by
    have := ArrW.new 24 ((w.alloc (.cells (cellsW a) 24)).alloc (.cells (cellsW b) 24)) 0
    rw [World.size_alloc, World.size_alloc] at this; rw [hW0]; exact this.alloc _)
  have hC0 := hid (show ArrM 69 8 W0 (w.heap.size + 3) 0 by
    have := ArrM.new 69 8 (((w.alloc (.cells (cellsW a) 24)).alloc (.cells (cellsW b) 24)).alloc (.cells (cellsW 0) 24)) 0
    rw [World.size_alloc, World.size_alloc, World.size_alloc] at this; rw [hW0]; exact this)
  have hb0 : Below w.heap.size w W0 := by rw [hW0]; exact ((((Below.refl _ _).alloc (Nat.le_refl _) _).alloc (by simp) _).alloc (by simp; omega) _).alloc (by simp; omega) _
  go_enter Try.func78, Try.ntmps78
  go_wp2_with (first | (refine wpList_alloc_new rfl 24 rfl (cellsW 0) zWd ?_; simp only [Act.put, List.setIfInBounds_toArray, List.set_cons_zero, List.set_cons_succ, World.size_alloc]) | (refine wpList_alloc_new rfl 69 rfl (cellsM 8 0) zM8 ?_; simp only [Act.put, List.setIfInBounds_toArray, List.set_cons_zero, List.set_cons_succ, World.size_alloc]))
  rw [← hW0]
  clear hW0
  go_loopw [12] (fun iv wr => ∃ i P : Nat, i ≤ 4 ∧ iv = .int .i64 (i : Int) ∧ Hid (P < 2 ^ (64 * (i + 4)) ∧ P = a % 2 ^ (64 * i) * b) ∧ Hid (ArrW 24 wr w.heap.size a) ∧ Hid (ArrW 24 wr (w.heap.size + 1) b) ∧ Hid (ArrW 24 wr (w.heap.size + 2) 0) ∧ Hid (ArrM 69 8 wr (w.heap.size + 3) P) ∧ Below w.heap.size w wr)
    (fun iv _ => 4 - (intOf iv).toNat)
  case atStart => exact ⟨0, 0, by omega, rfl, hid ⟨by exact Nat.pow_pos (by omega), by simp [Nat.mod_one]⟩, hA0, hB0, hR0, hC0, hb0⟩
  case round =>
    clear hA0 hB0 hR0 hC0 hb0
    obtain ⟨i, P0, hi, rfl, hX, hA0, hB0, hR0, hC0, hb0⟩ := hrel
    by_cases hlt : i < 4
    · go_wp2
      go_loopw [7, 15] (fun cv kv wr => ∃ k c P : Nat, k ≤ 4 ∧ c < 18446744073709551616 ∧ kv = .int .i64 (k : Int) ∧ cv = .int .u64 (c : Int) ∧ Hid (P < 2 ^ (64 * (i + 4)) ∧ P + 2 ^ (64 * (i + k)) * c = a % 2 ^ (64 * i) * b + 2 ^ (64 * i) * (lmN a i * (b % 2 ^ (64 * k)))) ∧ Hid (ArrW 24 wr w.heap.size a) ∧ Hid (ArrW 24 wr (w.heap.size + 1) b) ∧ Hid (ArrW 24 wr (w.heap.size + 2) 0) ∧ Hid (ArrM 69 8 wr (w.heap.size + 3) P) ∧ Below w.heap.size w wr)
        (fun _ kv _ => 4 - (intOf kv).toNat)
      case atStart => exact ⟨0, 0, P0, by omega, by omega, rfl, rfl, hid ⟨hX.out.1, by rw [hX.out.2]; simp [Nat.mod_one]⟩, hA0, hB0, hR0, hC0, hb0⟩
      case round =>
        clear hA0 hB0 hR0 hC0 hb0 hX
        obtain ⟨k, c, P, hk, hc, rfl, rfl, hX, hA, hB, hR, hC, hb⟩ := hrel
        by_cases hklt : k < 4
        · have c1 := hA.out.cell i hlt
          have c2 := hB.out.cell k hklt
          have l1 := hA.out.lt
          have l2 := hB.out.lt
          obtain ⟨mhi, mlo, m1, m2, m3, m4⟩ := mul64_nat (lmN a i) (lmN b k) (lmN_lt _ _) (lmN_lt _ _)
          obtain ⟨u1, v1, p1, p2, p3, p4⟩ := add64_nat0 mlo (lmN P (i + k)) m2 (lmN_lt _ _)
          obtain ⟨u2, v2, r1, r2, r3, r4⟩ := add64_nat0 u1 c p1 hc
          obtain ⟨s1, s2, s3⟩ := full_step a b P c i k mhi mlo u1 v1 u2 v2 hX.out.1 hklt hc r1 m3 p3 r3 hX.out.2
          have M4 := hid m4
          have S2 := hid s2
          have S3 := hid s3
          have lP := lmN_lt P (i + k)
          clear m3 p3 r3 s2 s3 m4
          unfold lm at c1 c2
          go_wp2_with fail
          (refine wp_region_ext (by kernel_rfl) (by kernel_rfl) ?_; (repeat (go_big_quiet_step (first | (go_at_call 122; with_reducible refine Calls.ext_of (M4.out _))))); refine wpQuiet_nil ?_; rintro _ ⟨xw, rfl⟩)
          have hA' := hid (hA.out.ext xw)
          have hB' := hid (hB.out.ext xw)
          have hR' := hid (hR.out.ext xw)
          have hC' := hid (hC.out.ext xw)
          have hb' := World.ext_below_of hb hb.size xw
          clear hA hB hR hC hb c1 c2 l1 l2
          generalize wr.ext xw = wr at *
          have c3 := hC'.out.cell (i + k) (by omega)
          have f3 := hC'.out.free (i + k)
          have l3 := hC'.out.lt
          go_wp2
          go_roundw
          case rel =>
            refine ⟨k + 1, mhi + v1 + v2, setL P (i + k) u2, by omega, s1, by go_num, ?_, hid ⟨S2.out, S3.out⟩, hid (hA'.out.other (by show w.heap.size ≠ w.heap.size + 3; omega) _), hid (hB'.out.other (by show w.heap.size + 1 ≠ w.heap.size + 3; omega) _), hid (hR'.out.other (by show w.heap.size + 2 ≠ w.heap.size + 3; omega) _), hid (hC'.out.set (i + k) u2 r1), hb'.setCell (p := ⟨w.heap.size + 3, i + k, none⟩) (by show w.heap.size ≤ w.heap.size + 3; omega) _⟩
            go_num
          case measure => simp [intOf]; omega
        · obtain rfl : k = 4 := by omega
          have c3 := hC.out.cell (i + 4) (by omega)
          have f3 := hC.out.free (i + 4)
          have l3 := hC.out.lt
          have HE := hid (full_end a b P c i HB.out hX.out.1 hX.out.2)
          have HL := hid (show setL P (i + 4) c < 2 ^ (64 * (i + 1 + 4)) by
            rw [setL_top _ _ _ hX.out.1, show i + 1 + 4 = (i + 4) + 1 by omega]
            exact set_lt P (i + 4) c hX.out.1 hc)
          go_wp2
          go_roundw
          case rel =>
            exact ⟨i + 1, setL P (i + 4) c, by omega, by go_num, hid ⟨HL.out, HE.out⟩, hid (hA.out.other (by show w.heap.size ≠ w.heap.size + 3; omega) _), hid (hB.out.other (by show w.heap.size + 1 ≠ w.heap.size + 3; omega) _), hid (hR.out.other (by show w.heap.size + 2 ≠ w.heap.size + 3; omega) _), hid (hC.out.set (i + 4) c hc), hb.setCell (p := ⟨w.heap.size + 3, i + 4, none⟩) (by show w.heap.size ≤ w.heap.size + 3; omega) _⟩
          case measure => simp [intOf]; omega
    · obtain rfl : i = 4 := by omega
      have hP : P0 = a * b := by rw [hX.out.2, low_full a HA.out]
      subst hP
      have iX := hid (iM8 (a * b))
      clear hX hA0 hB0 hlt hi
      go_wp2_with (refine wpList_load_row rfl 69 (.tmp 5) rfl (w.heap.size + 3) rfl 69 _ (0, 0) _ hC0.out uM8 rfl iX.out ?_; simp only [Act.put, List.setIfInBounds_toArray, List.set_cons_zero, List.set_cons_succ])
      refine (hF.out _).mono ?_
      rintro e w2 ⟨rfl, hb2⟩
      have hR2 := hid (hR0.out.below hb2 hR0.out.lt)
      have hb3 := hb0.trans (hb2.mono hb0.size)
      clear hR0 hC0 hb0 hb2
      go_wp2_with (refine wpList_store_row rfl 24 (.tmp 4) (.tmp 62) rfl (w.heap.size + 2) _ rfl rfl 24 _ hR2.out iR.out rfl nR.out ?_; simp only [Act.put])
      refine bodyPost_ret (results_cell_row rfl _ _ (w.heap.size + 2) 24 (cellsW r) (0, 0) _ rfl (heap_setRow' _ _ _ _ _ hR2.out) uWd rfl iR.out) rfl ⟨rfl, below_setRow' hb3 _ (by omega) _⟩
end Go.Proofs.Ytfidbiabgmioaaa
