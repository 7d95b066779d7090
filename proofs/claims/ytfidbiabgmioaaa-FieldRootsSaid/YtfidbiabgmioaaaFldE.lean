import Derived.Test.YtfidbiabgmioaaaFldD
/-! field: inverses, square roots. -/
set_option maxRecDepth 4000
set_option linter.unusedVariables false
set_option linter.unusedSimpArgs false
namespace Go.Proofs.Ytfidbiabgmioaaa
open Go.RowKit

theorem two_built : Try.prog.built 24 [(0, .int .u64 2)] = some (cellsW 2) := by kernel_rfl
theorem three_built : Try.prog.built 24 [(0, .int .u64 3)] = some (cellsW 3) := by kernel_rfl
theorem nil_built : Try.prog.built 24 [] = some (cellsW 0) := by kernel_rfl
theorem subW_le (a b : Nat) (ha : a < 2 ^ 256) (h : b ≤ a) : subW a b = a - b := by
  unfold subW
  generalize 2 ^ 256 = T at *
  rw [show a + (T - b) = (a - b) + T by omega, Nat.add_mod_right, Nat.mod_eq_of_lt (by omega)]

set_option maxHeartbeats 2000000 in
theorem finv_any (a : Nat) (w : World) (ha : a < 2 ^ 256) : Calls Try.prog 17 #[wd a] w fun e w' => e = .returned (wd (powP a (pN - 2))) ∧ Below w.heap.size w w' := by
  have hP := hid fP_any
  have hS := hid (fun w => wsub_any pN 2 w pN_lt (by decide))
  rw [subW_le pN 2 pN_lt (by decide +kernel)] at hS
  have hW := hid (fun w => fpow_any a (pN - 2) w ha (Nat.lt_of_le_of_lt (Nat.sub_le _ _) pN_lt))
  obtain ⟨d, hd⟩ : ∃ d, d = pN - 2 := ⟨_, rfl⟩
  rw [← hd] at hS hW ⊢
  obtain ⟨r, hr⟩ : ∃ r, r = powP a d := ⟨_, rfl⟩
  rw [← hr] at hW ⊢
  generalize pN = p at *
  have hB2 := hid two_built
  clear ha hd hr
  unfold wd at *
  have iA := hid (iW a)
  have iR := hid (iW r)
  have nR := hid (one_cellsW r)
  have hA0 := hid (show ArrW 24 ((w.alloc (.cells (cellsW a) 24)).alloc (.cells (cellsW 0) 24)) w.heap.size a from (ArrW.new _ w a).alloc _)
  have hC0 := hid (show ArrW 24 ((w.alloc (.cells (cellsW a) 24)).alloc (.cells (cellsW 0) 24)) (w.heap.size + 1) 0 by
    have := ArrW.new 24 (w.alloc (.cells (cellsW a) 24)) 0
    rw [World.size_alloc] at this; exact this)
  have hb0 : Below w.heap.size w ((w.alloc (.cells (cellsW a) 24)).alloc (.cells (cellsW 0) 24)) := ((Below.refl _ _).alloc (Nat.le_refl _) _).alloc (by simp) _
  go_enter Try.func17, Try.ntmps17
  go_wp2_with (refine wpList_alloc_new rfl 24 rfl (cellsW 0) zWd ?_; simp only [Act.put, List.setIfInBounds_toArray, List.set_cons_zero, List.set_cons_succ, World.size_alloc])
  generalize (w.alloc (.cells (cellsW a) 24)).alloc (.cells (cellsW 0) 24) = w1 at hA0 hC0 hb0 ⊢
  ((try simp only [World.size_alloc]); refine wp_region_ext_tail 5 (by kernel_rfl) (by kernel_rfl) ?_; simp only [List.take_succ_cons, List.take_zero, List.drop_succ_cons, List.drop_zero]; (repeat (first | (refine wpQuiet_load_want 24 (.tmp 1) rfl w.heap.size rfl 24 (cellsW _) _ hA0.out uWd rfl iA.out rfl ?_; simp only [Act.put, List.setIfInBounds_toArray, List.set_cons_zero, List.set_cons_succ]) | (refine wpQuiet_build_want 24 _ rfl (cellsW 2) (by first | exact hB2.out | (simp only [List.map_toArray, List.map_cons, List.map_nil]; exact hB2.out)) rfl ?_; simp only [Act.put, List.setIfInBounds_toArray, List.set_cons_zero, List.set_cons_succ]) | go_big_quiet_step (first | (go_at_call 88; with_reducible refine Calls.ext_of (hP.out _)) | (go_at_call 41; with_reducible refine Calls.ext_of (hS.out _)) | (go_at_call 87; with_reducible refine Calls.ext_of (hW.out _))))); refine wpQuiet_nil ?_; rintro _ ⟨xw, rfl⟩)
  have hC1 := hid (hC0.out.ext xw)
  have hb1 := World.ext_below_of hb0 hb0.size xw
  generalize w1.ext xw = w2 at hC1 hb1 ⊢
  clear hA0 hC0 hb0
  (refine wpList_store_row rfl 24 (.tmp 2) (.tmp 7) rfl (w.heap.size + 1) _ rfl rfl 24 _ hC1.out iR.out rfl nR.out ?_; simp only [Act.put])
  go_wp2
  refine bodyPost_ret (results_cell_row rfl _ _ (w.heap.size + 1) 24 (cellsW r) (0, 0) _ rfl (heap_setRow' _ _ _ _ _ hC1.out) uWd rfl iR.out) rfl ⟨rfl, below_setRow' hb1 _ (by omega) _⟩

/-- A square root: the first guess, the second, whether it is one, the even one. -/
def sq0 (a : Nat) : Nat := powP (a % pN) ((pN + 3) / 8)
def sq1 (a : Nat) : Nat := if sq0 a * sq0 a % pN = a % pN then sq0 a else sq0 a * powP 2 (pN / 4) % pN
def sqOk (a : Nat) : Bool := decide (sq1 a * sq1 a % pN = a % pN)
def sqX (a : Nat) : Nat := if sqOk a then (if sq1 a % 2 = 1 then pN - sq1 a else sq1 a) else 0
theorem sq1_lt (a : Nat) : sq1 a < pN := by
  unfold sq1; split
  · exact Nat.mod_lt _ pN_pos
  · exact Nat.mod_lt _ pN_pos

set_option maxHeartbeats 8000000 in
theorem fsqrt_any (a : Nat) (w : World) (ha : a < 2 ^ 256) : Calls Try.prog 15 #[wd a] w fun e w' => e = .returned (.tuple #[wd (sqX a), .bool (sqOk a)]) ∧ Below w.heap.size w w' := by
  have hP := hid fP_any
  have hBl := hid (fun w => below_any a w ha)
  have hAd := hid (fun w => wadd_any pN 3 w pN_lt (by decide))
  rw [Nat.mod_eq_of_lt (show pN + 3 < 2 ^ 256 by decide +kernel)] at hAd
  have hS3 := hid (fun w => wshr_any 3 (pN + 3) w (by decide) (by decide +kernel))
  rw [show upT 3 256 = 3 from rfl, show (2 : Nat) ^ 3 = 8 from rfl] at hS3
  have hS2 := hid (fun w => wshr_any 2 pN w (by decide) pN_lt)
  rw [show upT 2 256 = 2 from rfl, show (2 : Nat) ^ 2 = 4 from rfl] at hS2
  have hal := p_mod_lt a
  have hW0 := hid (fun w => fpow_any (a % pN) ((pN + 3) / 8) w hal (by decide +kernel))
  rw [show powP (a % pN) ((pN + 3) / 8) = sq0 a from rfl] at hW0
  have h0l : sq0 a < 2 ^ 256 := powP_lt _ _
  have hM0 := hid (fun w => fmul_any (sq0 a) (sq0 a) w h0l h0l)
  have hW2 := hid (fun w => fpow_any 2 (pN / 4) w (by decide) (by decide +kernel))
  have h2l : powP 2 (pN / 4) < 2 ^ 256 := powP_lt _ _
  have hM2 := hid (fun w => fmul_any (sq0 a) (powP 2 (pN / 4)) w h0l h2l)
  have h1p := sq1_lt a
  have h1l : sq1 a < 2 ^ 256 := Nat.lt_trans h1p pN_lt
  have hM1 := hid (fun w => fmul_any (sq1 a) (sq1 a) w h1l h1l)
  have hSb := hid (fun w => wsub_any pN (sq1 a) w pN_lt h1l)
  rw [subW_le pN (sq1 a) pN_lt (Nat.le_of_lt h1p)] at hSb
  have he0 : ∀ w, (Op.equalIn 10000 24 (.agg (cellsW (sq0 a * sq0 a % pN))) (.agg (cellsW (a % pN)))).run Try.prog w = .ok (decide (sq0 a * sq0 a % pN = a % pN)) w := eq_wd _ _ (p_mod_lt _) hal
  have he1 : ∀ w, (Op.equalIn 10000 24 (.agg (cellsW (sq1 a * sq1 a % pN))) (.agg (cellsW (a % pN)))).run Try.prog w = .ok (sqOk a) w := eq_wd _ _ (p_mod_lt _) hal
  have hX0 : sq0 a * sq0 a % pN = a % pN → sq1 a = sq0 a := fun h => by unfold sq1; rw [if_pos h]
  have hX1 : ¬ sq0 a * sq0 a % pN = a % pN → sq1 a = sq0 a * powP 2 (pN / 4) % pN := fun h => by unfold sq1; rw [if_neg h]
  have hbit := lm_bit (sq1 a) 0
  rw [show 0 / 64 = 0 from rfl, show 0 % 64 = 0 from rfl, Nat.pow_zero, Nat.div_one] at hbit
  have hpar : bits .and .u64 (lm (sq1 a) 0) 1 = ((sq1 a % 2 : Nat) : Int) := by
    rw [← hbit]; congr 1; rw [show ((2 : Int) ^ 0) = 1 from rfl, Int.ediv_one]
  have hRX : sqX a = if sqOk a then (if sq1 a % 2 = 1 then pN - sq1 a else sq1 a) else 0 := rfl
  obtain ⟨X, hX⟩ : ∃ X, X = sqX a := ⟨_, rfl⟩
  rw [← hX] at hRX ⊢
  obtain ⟨ok, hok⟩ : ∃ ok, ok = sqOk a := ⟨_, rfl⟩
  rw [← hok] at he1 hRX ⊢
  obtain ⟨x1, hx1⟩ : ∃ x, x = sq1 a := ⟨_, rfl⟩
  rw [← hx1] at hM1 hSb he1 hX0 hX1 hpar hRX
  obtain ⟨m1, hm1⟩ : ∃ m, m = x1 * x1 % pN := ⟨_, rfl⟩
  rw [← hm1] at hM1 he1
  obtain ⟨x0, hx0⟩ : ∃ x, x = sq0 a := ⟨_, rfl⟩
  rw [← hx0] at hW0 hM0 hM2 he0 hX0 hX1
  obtain ⟨t, ht⟩ : ∃ t, t = powP 2 (pN / 4) := ⟨_, rfl⟩
  rw [← ht] at hW2 hM2 hX1
  obtain ⟨y1, hy1⟩ : ∃ y, y = x0 * t % pN := ⟨_, rfl⟩
  rw [← hy1] at hM2 hX1
  obtain ⟨m0, hm0⟩ : ∃ m, m = x0 * x0 % pN := ⟨_, rfl⟩
  rw [← hm0] at hM0 he0 hX0 hX1
  obtain ⟨e0, hE0⟩ : ∃ e, e = (pN + 3) / 8 := ⟨_, rfl⟩
  rw [← hE0] at hS3 hW0
  obtain ⟨e1, hE1⟩ : ∃ e, e = pN / 4 := ⟨_, rfl⟩
  rw [← hE1] at hS2 hW2
  obtain ⟨q3, hq3⟩ : ∃ q, q = pN + 3 := ⟨_, rfl⟩
  rw [← hq3] at hAd hS3
  obtain ⟨n1, hn1⟩ : ∃ n, n = pN - x1 := ⟨_, rfl⟩
  rw [← hn1] at hSb hRX
  obtain ⟨a', ha'⟩ : ∃ a', a' = a % pN := ⟨_, rfl⟩
  rw [← ha'] at hBl hW0 he0 he1 hX0 hX1
  have HX0 := hid hX0
  have HX1 := hid hX1
  have HRX := hid hRX
  have Hpar := hid hpar
  have He1 := hid he1
  have hB2 := two_built
  have hB3 := three_built
  have hBn := hid nil_built
  clear ha hal h0l h2l h1p h1l hbit hpar hX hok hx1 hm1 hx0 ht hy1 hm0 hE0 hE1 hq3 hn1 ha' hX0 hX1 hRX he1
  generalize pN = p at *
  unfold wd at *
  have iA := hid (iW a)
  have iA' := hid (iW a')
  have nA' := hid (one_cellsW a')
  have iX0 := hid (iW x0)
  have nX0 := hid (one_cellsW x0)
  have iX1 := hid (iW x1)
  have nX1 := hid (one_cellsW x1)
  have iN1 := hid (iW n1)
  have nN1 := hid (one_cellsW n1)
  have iZ := hid (iW 0)
  have nZ := hid (one_cellsW 0)
  have hA0 := hid (show ArrW 24 ((w.alloc (.cells (cellsW a) 24)).alloc (.cells (cellsW 0) 24)) w.heap.size a from (ArrW.new _ w a).alloc _)
  have hC0 := hid (show ArrW 24 ((w.alloc (.cells (cellsW a) 24)).alloc (.cells (cellsW 0) 24)) (w.heap.size + 1) 0 by
    have := ArrW.new 24 (w.alloc (.cells (cellsW a) 24)) 0
    rw [World.size_alloc] at this; exact this)
  have hb0 : Below w.heap.size w ((w.alloc (.cells (cellsW a) 24)).alloc (.cells (cellsW 0) 24)) := ((Below.refl _ _).alloc (Nat.le_refl _) _).alloc (by simp) _
  go_enter Try.func15, Try.ntmps15
  go_wp2_with (first | (refine wpList_alloc_new rfl 24 rfl (cellsW 0) zWd ?_; simp only [Act.put, List.setIfInBounds_toArray, List.set_cons_zero, List.set_cons_succ, World.size_alloc]) | (refine wpList_load_row rfl 24 (.tmp 1) rfl w.heap.size rfl 24 _ (0, 0) _ hA0.out uWd rfl iA.out ?_; simp only [Act.put, List.setIfInBounds_toArray, List.set_cons_zero, List.set_cons_succ]))
  refine (hBl.out _).mono ?_
  rintro e w1 ⟨rfl, hb1⟩
  have hA1 := hid (hA0.out.below hb1 hA0.out.lt)
  have hC1 := hid ((hC0.out.below hb1 hC0.out.lt).otherRow (show w.heap.size + 1 ≠ w.heap.size by omega) (cellsW a'))
  have hA2 := hid (hA1.out.row a')
  have hb2 := hb0.trans (hb1.mono hb0.size)
  have hb3 := below_setRow' hb2 w.heap.size (Nat.le_refl _) (cellsW a')
  clear hA0 hC0 hb0 hb1 hBl
  go_wp2_with (refine wpList_store_row rfl 24 (.tmp 1) (.tmp 6) rfl w.heap.size _ rfl rfl 24 _ hA1.out iA'.out rfl nA'.out ?_; simp only [Act.put])
  generalize w1.setRow w.heap.size (cellsW a') = w2 at hA2 hC1 hb3 ⊢
  clear hA1 hb2
  have hs2 : w.heap.size + 2 ≤ w2.heap.size := by have := hC1.out.lt; omega
  refine wp_region_loose_tail 8 [.kn (.agg (cellsW (a'))), .kn (.agg (cellsW (3))), .kn (.agg (cellsW (p))), .kn (.agg (cellsW (3))), .kn (.agg (cellsW (q3))), .kn (.agg (cellsW (e0))), .kn (.agg (cellsW (x0))), .lo (fun v w => ∃ b, v = .pointer (some ⟨b, 0, none⟩) ∧ ArrW 24 w b 0 ∧ w2.heap.size ≤ b)] (by kernel_rfl) (by kernel_rfl) (by kernel_rfl) ?_ ?_
  · refine keepsAll_kn (keepsAll_kn (keepsAll_kn (keepsAll_kn (keepsAll_kn (keepsAll_kn (keepsAll_kn (keepsAll_lo ?_ trivial)))))))
    rintro v w w' ⟨b, h1, h2, h3⟩ hb
    exact ⟨b, h1, h2.below hb h2.lt, h3⟩
  simp only [List.take_succ_cons, List.take_zero, List.drop_succ_cons, List.drop_zero]
  (refine loose_step_on rfl (fun W' hB' hd K hK => wp_load_block 24 (.tmp 1) rfl w.heap.size rfl 24 _ _ (ArrW.below hA2.out hB' (ArrW.lt hA2.out)) uWd rfl iA'.out (hK _ _ (Below.refl _ _) rfl)) ?_; rintro _ rfl; simp only [Act.put, List.setIfInBounds_toArray, List.set_cons_zero, List.set_cons_succ])
  (refine loose_step_on rfl (fun W' hB' hd K hK => ?_) ?_; (focus (clear hd; go_simp; exact hK _ _ (Below.refl _ _) rfl)); rintro _ rfl; simp only [Act.put, List.setIfInBounds_toArray, List.set_cons_zero, List.set_cons_succ])
  (refine loose_step_on rfl (fun W' hB' hd K hK => ?_) ?_; (focus (skip; clear hd; go_simp; refine (hP.out _).mono ?_; rintro _ _ ⟨rfl, hb'⟩; exact hK _ _ hb' rfl)); rintro _ rfl; simp only [Act.put, List.setIfInBounds_toArray, List.set_cons_zero, List.set_cons_succ])
  (refine loose_step_on rfl (fun W' hB' hd K hK => ?_) ?_; (focus (clear hd; go_simp; exact hK _ _ (Below.refl _ _) rfl)); rintro _ rfl; simp only [Act.put, List.setIfInBounds_toArray, List.set_cons_zero, List.set_cons_succ])
  (refine loose_step_on rfl (fun W' hB' hd K hK => ?_) ?_; (focus (skip; clear hd; go_simp; refine (hAd.out _).mono ?_; rintro _ _ ⟨rfl, hb'⟩; exact hK _ _ hb' rfl)); rintro _ rfl; simp only [Act.put, List.setIfInBounds_toArray, List.set_cons_zero, List.set_cons_succ])
  (refine loose_step_on rfl (fun W' hB' hd K hK => ?_) ?_; (focus (skip; clear hd; go_simp; refine (hS3.out _).mono ?_; rintro _ _ ⟨rfl, hb'⟩; exact hK _ _ hb' rfl)); rintro _ rfl; simp only [Act.put, List.setIfInBounds_toArray, List.set_cons_zero, List.set_cons_succ])
  (refine loose_step_on rfl (fun W' hB' hd K hK => ?_) ?_; (focus (skip; clear hd; go_simp; refine (hW0.out _).mono ?_; rintro _ _ ⟨rfl, hb'⟩; exact hK _ _ hb' rfl)); rintro _ rfl; simp only [Act.put, List.setIfInBounds_toArray, List.set_cons_zero, List.set_cons_succ])
  (refine loose_step rfl (fun W' hB' hd K hK => wp_alloc_new 24 rfl (cellsW 0) zWd (hK _ _ ((Below.refl _ _).alloc (Nat.le_refl _) _) ⟨_, rfl, ArrW.new _ _ _, hB'.size⟩)) ?_; intro v4 _; simp only [Act.put, List.setIfInBounds_toArray, List.set_cons_zero, List.set_cons_succ])
  intro w6 hb6 hf
  have g4 : ∃ b, v4 = .pointer (some ⟨b, 0, none⟩) ∧ ArrW 24 w6 b 0 ∧ w2.heap.size ≤ b := hf 7 _ 4 (by first | omega | simp) rfl rfl (by simp)
  clear hf
  obtain ⟨G, rfl, hG6, hle⟩ := g4
  have hsG : w.heap.size + 2 ≤ G := by omega
  have HG6 := hid hG6
  have hX7 := hid (hG6.row x0)
  have hA7 := hid ((hA2.out.below hb6 hA2.out.lt).otherRow (show w.heap.size ≠ G by omega) (cellsW x0))
  have hC7 := hid ((hC1.out.below hb6 hC1.out.lt).otherRow (show w.heap.size + 1 ≠ G by omega) (cellsW x0))
  have hb7 := below_setRow' (hb3.trans (hb6.mono hb3.size)) G (by omega) (cellsW x0)
  clear hG6 hle hA2 hC1 hb3 hb6 hs2
  go_wp2_with (refine wpList_store_row rfl 24 (.tmp 4) (.tmp 13) rfl G _ rfl rfl 24 _ HG6.out iX0.out rfl nX0.out ?_; simp only [Act.put])
  generalize w6.setRow G (cellsW x0) = w7 at hX7 hA7 hC7 hb7 ⊢
  clear HG6
  have HB2 := hid hB2
  clear hB2 hB3
  by_cases h0 : m0 = a'
  · have hxe := HX0.out h0
    rw [decide_eq_true h0] at he0
    subst hxe
    clear h0 HX0 HX1 hM2 hW2 hS2
    go_wp2_with fail
    ((try simp only [World.size_alloc]); refine wp_region_ext (by kernel_rfl) (by kernel_rfl) ?_; (try simp only [List.append_eq, List.cons_append, List.nil_append]); (repeat (first | (refine wpQuiet_load_want 24 (.tmp 4) rfl G rfl 24 (cellsW _) _ hX7.out uWd rfl iX1.out rfl ?_; simp only [Act.put, List.setIfInBounds_toArray, List.set_cons_zero, List.set_cons_succ]) | (refine wpQuiet_load_want 24 (.tmp 1) rfl w.heap.size rfl 24 (cellsW _) _ hA7.out uWd rfl iA'.out rfl ?_; simp only [Act.put, List.setIfInBounds_toArray, List.set_cons_zero, List.set_cons_succ]) | go_big_quiet_step (first | (go_at_call 78; with_reducible refine Calls.ext_of (hM0.out _))))); refine wpQuiet_nil ?_; rintro _ ⟨xw, rfl⟩)
    have hX8 := hid (hX7.out.ext xw)
    have hA8 := hid (hA7.out.ext xw)
    have hC8 := hid (hC7.out.ext xw)
    have hb8 := World.ext_below_of hb7 hb7.size xw
    generalize w7.ext xw = w8 at hX8 hA8 hC8 hb8 ⊢
    clear hX7 hA7 hC7 hb7 hM0 he0
    have he1 := He1.out
    go_wp2_with fail
    ((try simp only [World.size_alloc]); refine wp_region_ext (by kernel_rfl) (by kernel_rfl) ?_; (try simp only [List.append_eq, List.cons_append, List.nil_append]); (repeat (first | (refine wpQuiet_load_want 24 (.tmp 4) rfl G rfl 24 (cellsW _) _ hX8.out uWd rfl iX1.out rfl ?_; simp only [Act.put, List.setIfInBounds_toArray, List.set_cons_zero, List.set_cons_succ]) | (refine wpQuiet_load_want 24 (.tmp 1) rfl w.heap.size rfl 24 (cellsW _) _ hA8.out uWd rfl iA'.out rfl ?_; simp only [Act.put, List.setIfInBounds_toArray, List.set_cons_zero, List.set_cons_succ]) | go_big_quiet_step (first | (go_at_call 78; with_reducible refine Calls.ext_of (hM1.out _))))); refine wpQuiet_nil ?_; rintro _ ⟨xw, rfl⟩)
    have hXa := hid (hX8.out.ext xw)
    have hCa := hid (hC8.out.ext xw)
    have hba := World.ext_below_of hb8 hb8.size xw
    generalize w8.ext xw = wa at hXa hCa hba ⊢
    clear hX8 hA8 hC8 hb8 hM1 he1
    cases ok
    · have HR0 := hid (show X = 0 from HRX.out)
      go_wp2_with (refine wpList_buildStore 24 _ (.tmp 2) 32 (cellsW 0) _ rfl rfl rfl rfl rfl rfl (by simp) (by first | exact hBn.out | (simp only [List.map_toArray, List.map_cons, List.map_nil]; exact hBn.out)) rfl 24 _ hCa.out iZ.out rfl nZ.out ?_; simp only [Act.put, List.setIfInBounds_toArray, List.set_cons_zero, List.set_cons_succ])
      refine bodyPost_ret (results_row_tmp rfl _ _ (w.heap.size + 1) 24 (cellsW 0) (0, 0) _ rfl (heap_setRow' _ _ _ _ _ hCa.out) uWd rfl iZ.out) rfl ⟨by rw [HR0.out]; rfl, below_setRow' hba _ (by omega) _⟩
    · have cX := hXa.out.cell 0 (by omega)
      have lX := hXa.out.lt
      have hpar := Hpar.out
      rcases (show x1 % 2 = 0 ∨ x1 % 2 = 1 by omega) with hp0 | hp1
      · have HR0 := hid (show X = x1 by have := HRX.out; rw [if_pos rfl, if_neg (by omega)] at this; exact this)
        rw [hp0] at hpar
        clear hp0
        go_wp2_with (first | (refine wpList_load_row rfl 24 (.tmp 4) rfl G rfl 24 _ (0, 0) _ hXa.out uWd rfl iX1.out ?_; simp only [Act.put, List.setIfInBounds_toArray, List.set_cons_zero, List.set_cons_succ]) | (refine wpList_store_row rfl 24 (.tmp 2) (.tmp 41) rfl (w.heap.size + 1) _ rfl rfl 24 _ hCa.out iX1.out rfl nX1.out ?_; simp only [Act.put]))
        refine bodyPost_ret (results_row_tmp rfl _ _ (w.heap.size + 1) 24 (cellsW x1) (0, 0) _ rfl (heap_setRow' _ _ _ _ _ hCa.out) uWd rfl iX1.out) rfl ⟨by rw [HR0.out]; rfl, below_setRow' hba _ (by omega) _⟩
      · have HR0 := hid (show X = n1 by have := HRX.out; rw [if_pos rfl, if_pos hp1] at this; exact this)
        rw [hp1] at hpar
        clear hp1
        go_wp2_with fail
        ((try simp only [World.size_alloc]); refine wp_region_ext_tail 3 (by kernel_rfl) (by kernel_rfl) ?_; simp only [List.take_succ_cons, List.take_zero, List.drop_succ_cons, List.drop_zero]; (repeat (first | (refine wpQuiet_load_want 24 (.tmp 4) rfl G rfl 24 (cellsW _) _ hXa.out uWd rfl iX1.out rfl ?_; simp only [Act.put, List.setIfInBounds_toArray, List.set_cons_zero, List.set_cons_succ]) | go_big_quiet_step (first | (go_at_call 88; with_reducible refine Calls.ext_of (hP.out _)) | (go_at_call 41; with_reducible refine Calls.ext_of (hSb.out _))))); refine wpQuiet_nil ?_; rintro _ ⟨xw, rfl⟩)
        have hXb := hid (hXa.out.ext xw)
        have hCb := hid ((hCa.out.ext xw).otherRow (show w.heap.size + 1 ≠ G by omega) (cellsW n1))
        have hbb := World.ext_below_of hba hba.size xw
        have hXc := hid (hXb.out.row n1)
        have hbc := below_setRow' hbb G (by omega) (cellsW n1)
        clear hXa hCa hba
        go_wp2_with (first | (refine wpList_store_row rfl 24 (.tmp 4) (.tmp 40) rfl G _ rfl rfl 24 _ hXb.out iN1.out rfl nN1.out ?_; simp only [Act.put]) | (refine wpList_load_row rfl 24 (.tmp 4) rfl G rfl 24 _ (0, 0) _ hXc.out uWd rfl iN1.out ?_; simp only [Act.put, List.setIfInBounds_toArray, List.set_cons_zero, List.set_cons_succ]) | (refine wpList_store_row rfl 24 (.tmp 2) (.tmp 41) rfl (w.heap.size + 1) _ rfl rfl 24 _ hCb.out iN1.out rfl nN1.out ?_; simp only [Act.put]))
        refine bodyPost_ret (results_row_tmp rfl _ _ (w.heap.size + 1) 24 (cellsW n1) (0, 0) _ rfl (heap_setRow' _ _ _ _ _ hCb.out) uWd rfl iN1.out) rfl ⟨by rw [HR0.out]; rfl, below_setRow' hbc _ (by omega) _⟩
  · have hxe := HX1.out h0
    rw [decide_eq_false h0] at he0
    subst hxe
    clear h0 HX0 HX1
    go_wp2_with fail
    ((try simp only [World.size_alloc]); refine wp_region_ext (by kernel_rfl) (by kernel_rfl) ?_; (try simp only [List.append_eq, List.cons_append, List.nil_append]); (repeat (first | (refine wpQuiet_load_want 24 (.tmp 4) rfl G rfl 24 (cellsW _) _ hX7.out uWd rfl iX0.out rfl ?_; simp only [Act.put, List.setIfInBounds_toArray, List.set_cons_zero, List.set_cons_succ]) | (refine wpQuiet_load_want 24 (.tmp 1) rfl w.heap.size rfl 24 (cellsW _) _ hA7.out uWd rfl iA'.out rfl ?_; simp only [Act.put, List.setIfInBounds_toArray, List.set_cons_zero, List.set_cons_succ]) | go_big_quiet_step (first | (go_at_call 78; with_reducible refine Calls.ext_of (hM0.out _))))); refine wpQuiet_nil ?_; rintro _ ⟨xw, rfl⟩)
    have hX8 := hid (hX7.out.ext xw)
    have hA8 := hid (hA7.out.ext xw)
    have hC8 := hid (hC7.out.ext xw)
    have hb8 := World.ext_below_of hb7 hb7.size xw
    generalize w7.ext xw = w8 at hX8 hA8 hC8 hb8 ⊢
    clear hX7 hA7 hC7 hb7 hM0 he0
    go_wp2_with fail
    ((try simp only [World.size_alloc]); refine wp_region_ext_tail 7 (by kernel_rfl) (by kernel_rfl) ?_; simp only [List.take_succ_cons, List.take_zero, List.drop_succ_cons, List.drop_zero]; (repeat (first | (refine wpQuiet_load_want 24 (.tmp 4) rfl G rfl 24 (cellsW _) _ hX8.out uWd rfl iX0.out rfl ?_; simp only [Act.put, List.setIfInBounds_toArray, List.set_cons_zero, List.set_cons_succ]) | (refine wpQuiet_build_want 24 _ rfl (cellsW 2) (by first | exact HB2.out | (simp only [List.map_toArray, List.map_cons, List.map_nil]; exact HB2.out)) rfl ?_; simp only [Act.put, List.setIfInBounds_toArray, List.set_cons_zero, List.set_cons_succ]) | go_big_quiet_step (first | (go_at_call 88; with_reducible refine Calls.ext_of (hP.out _)) | (go_at_call 32; with_reducible refine Calls.ext_of (hS2.out _)) | (go_at_call 87; with_reducible refine Calls.ext_of (hW2.out _)) | (go_at_call 78; with_reducible refine Calls.ext_of (hM2.out _))))); refine wpQuiet_nil ?_; rintro _ ⟨xw, rfl⟩)
    have hX9 := hid (hX8.out.ext xw)
    have hA9 := hid (hA8.out.ext xw)
    have hC9 := hid (hC8.out.ext xw)
    have hb9 := World.ext_below_of hb8 hb8.size xw
    generalize w8.ext xw = w9 at hX9 hA9 hC9 hb9 ⊢
    clear hX8 hA8 hC8 hb8 hM2 hW2 hS2
    (refine wpList_store_row rfl 24 (.tmp 4) (.tmp 25) rfl G _ rfl rfl 24 _ hX9.out iX1.out rfl nX1.out ?_; simp only [Act.put])
    have hX8 := hid (hX9.out.row x1)
    have hA8 := hid (hA9.out.otherRow (show w.heap.size ≠ G by omega) (cellsW x1))
    have hC8 := hid (hC9.out.otherRow (show w.heap.size + 1 ≠ G by omega) (cellsW x1))
    have hb8 := below_setRow' hb9 G (by omega) (cellsW x1)
    generalize w9.setRow G (cellsW x1) = w8 at hX8 hA8 hC8 hb8 ⊢
    clear hX9 hA9 hC9 hb9
    have he1 := He1.out
    go_wp2_with fail
    ((try simp only [World.size_alloc]); refine wp_region_ext (by kernel_rfl) (by kernel_rfl) ?_; (try simp only [List.append_eq, List.cons_append, List.nil_append]); (repeat (first | (refine wpQuiet_load_want 24 (.tmp 4) rfl G rfl 24 (cellsW _) _ hX8.out uWd rfl iX1.out rfl ?_; simp only [Act.put, List.setIfInBounds_toArray, List.set_cons_zero, List.set_cons_succ]) | (refine wpQuiet_load_want 24 (.tmp 1) rfl w.heap.size rfl 24 (cellsW _) _ hA8.out uWd rfl iA'.out rfl ?_; simp only [Act.put, List.setIfInBounds_toArray, List.set_cons_zero, List.set_cons_succ]) | go_big_quiet_step (first | (go_at_call 78; with_reducible refine Calls.ext_of (hM1.out _))))); refine wpQuiet_nil ?_; rintro _ ⟨xw, rfl⟩)
    have hXa := hid (hX8.out.ext xw)
    have hCa := hid (hC8.out.ext xw)
    have hba := World.ext_below_of hb8 hb8.size xw
    generalize w8.ext xw = wa at hXa hCa hba ⊢
    clear hX8 hA8 hC8 hb8 hM1 he1
    cases ok
    · have HR0 := hid (show X = 0 from HRX.out)
      go_wp2_with (refine wpList_buildStore 24 _ (.tmp 2) 32 (cellsW 0) _ rfl rfl rfl rfl rfl rfl (by simp) (by first | exact hBn.out | (simp only [List.map_toArray, List.map_cons, List.map_nil]; exact hBn.out)) rfl 24 _ hCa.out iZ.out rfl nZ.out ?_; simp only [Act.put, List.setIfInBounds_toArray, List.set_cons_zero, List.set_cons_succ])
      refine bodyPost_ret (results_row_tmp rfl _ _ (w.heap.size + 1) 24 (cellsW 0) (0, 0) _ rfl (heap_setRow' _ _ _ _ _ hCa.out) uWd rfl iZ.out) rfl ⟨by rw [HR0.out]; rfl, below_setRow' hba _ (by omega) _⟩
    · have cX := hXa.out.cell 0 (by omega)
      have lX := hXa.out.lt
      have hpar := Hpar.out
      rcases (show x1 % 2 = 0 ∨ x1 % 2 = 1 by omega) with hp0 | hp1
      · have HR0 := hid (show X = x1 by have := HRX.out; rw [if_pos rfl, if_neg (by omega)] at this; exact this)
        rw [hp0] at hpar
        clear hp0
        go_wp2_with (first | (refine wpList_load_row rfl 24 (.tmp 4) rfl G rfl 24 _ (0, 0) _ hXa.out uWd rfl iX1.out ?_; simp only [Act.put, List.setIfInBounds_toArray, List.set_cons_zero, List.set_cons_succ]) | (refine wpList_store_row rfl 24 (.tmp 2) (.tmp 41) rfl (w.heap.size + 1) _ rfl rfl 24 _ hCa.out iX1.out rfl nX1.out ?_; simp only [Act.put]))
        refine bodyPost_ret (results_row_tmp rfl _ _ (w.heap.size + 1) 24 (cellsW x1) (0, 0) _ rfl (heap_setRow' _ _ _ _ _ hCa.out) uWd rfl iX1.out) rfl ⟨by rw [HR0.out]; rfl, below_setRow' hba _ (by omega) _⟩
      · have HR0 := hid (show X = n1 by have := HRX.out; rw [if_pos rfl, if_pos hp1] at this; exact this)
        rw [hp1] at hpar
        clear hp1
        go_wp2_with fail
        ((try simp only [World.size_alloc]); refine wp_region_ext_tail 3 (by kernel_rfl) (by kernel_rfl) ?_; simp only [List.take_succ_cons, List.take_zero, List.drop_succ_cons, List.drop_zero]; (repeat (first | (refine wpQuiet_load_want 24 (.tmp 4) rfl G rfl 24 (cellsW _) _ hXa.out uWd rfl iX1.out rfl ?_; simp only [Act.put, List.setIfInBounds_toArray, List.set_cons_zero, List.set_cons_succ]) | go_big_quiet_step (first | (go_at_call 88; with_reducible refine Calls.ext_of (hP.out _)) | (go_at_call 41; with_reducible refine Calls.ext_of (hSb.out _))))); refine wpQuiet_nil ?_; rintro _ ⟨xw, rfl⟩)
        have hXb := hid (hXa.out.ext xw)
        have hCb := hid ((hCa.out.ext xw).otherRow (show w.heap.size + 1 ≠ G by omega) (cellsW n1))
        have hbb := World.ext_below_of hba hba.size xw
        have hXc := hid (hXb.out.row n1)
        have hbc := below_setRow' hbb G (by omega) (cellsW n1)
        clear hXa hCa hba
        go_wp2_with (first | (refine wpList_store_row rfl 24 (.tmp 4) (.tmp 40) rfl G _ rfl rfl 24 _ hXb.out iN1.out rfl nN1.out ?_; simp only [Act.put]) | (refine wpList_load_row rfl 24 (.tmp 4) rfl G rfl 24 _ (0, 0) _ hXc.out uWd rfl iN1.out ?_; simp only [Act.put, List.setIfInBounds_toArray, List.set_cons_zero, List.set_cons_succ]) | (refine wpList_store_row rfl 24 (.tmp 2) (.tmp 41) rfl (w.heap.size + 1) _ rfl rfl 24 _ hCb.out iN1.out rfl nN1.out ?_; simp only [Act.put]))
        refine bodyPost_ret (results_row_tmp rfl _ _ (w.heap.size + 1) 24 (cellsW n1) (0, 0) _ rfl (heap_setRow' _ _ _ _ _ hCb.out) uWd rfl iN1.out) rfl ⟨by rw [HR0.out]; rfl, below_setRow' hbc _ (by omega) _⟩
end Go.Proofs.Ytfidbiabgmioaaa
