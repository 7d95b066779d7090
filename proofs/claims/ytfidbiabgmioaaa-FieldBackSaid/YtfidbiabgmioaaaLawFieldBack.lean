import Derived.Test.YtfidbiabgmioaaaFldP
import Derived.Test.YtfidbiabgmioaaaLawZ
import Derived.Test.YtfidbiabgmioaaaFrameY
/-! FieldBack. -/
set_option maxRecDepth 4000
set_option linter.unusedVariables false
set_option linter.unusedSimpArgs false
namespace Go.Proofs.Ytfidbiabgmioaaa
open Go.RowKit

set_option maxRecDepth 20000 in
set_option maxHeartbeats 8000000 in
theorem walk_FieldBack (w : World) (x0 : List Int) (lx : x0.length = 4) (wx : ∀ y ∈ x0, (Lit.int .u64 y).wf = true) (v : Value) (ys : List (BitVec 8)) (hr : RdY w v ys) (hz : ys.length ≤ 140737488351232) :
    Calls Try.prog 4 #[.agg (x0.map (Value.int .u64)).toArray, v] w fun e w' => e = .returned (.bool true) ∧ Below w.heap.size w w' := by
  obtain ⟨a, ha, ea⟩ := word_arg x0 lx wx
  rw [ea]
  have b1 := hid fun w => fbytes_any a w ha
  have hzl := p_mod_lt a
  have r1 := hid fun v w h => fRead_any (leL (a % pN)) v w h
  rw [show fdN pN (leL (a % pN)) = a % pN by unfold fdN; rw [leL_len, leN_leL _ hzl, if_pos ⟨rfl, Nat.mod_lt _ pN_pos⟩], show fdE pN (leL (a % pN)) = 0 by unfold fdE; rw [leL_len, leN_leL _ hzl, if_pos rfl, if_pos (Nat.mod_lt _ pN_pos)]] at r1
  have a1 := hid fun w => fadd_any a 0 w ha (by decide)
  rw [Nat.add_zero] at a1
  have q1 := eq_self (a % pN) hzl
  obtain ⟨z, hz2⟩ : ∃ z, z = a % pN := ⟨_, rfl⟩
  rw [← hz2] at b1 r1 a1 q1
  have r2 := hid fun w h => fRead_any ys v w h
  have hcase : (fdE pN ys ≠ 0 ∧ fdN pN ys = 0) ∨ (fdE pN ys = 0 ∧ fdN pN ys = leN ys ∧ leN ys < 2 ^ 256 ∧ leL (leN ys % pN) = ys) := by
    unfold fdE fdN
    by_cases h1 : ys.length = 32
    · by_cases h2 : leN ys < pN
      · exact .inr ⟨by rw [if_pos h1, if_pos h2], by rw [if_pos ⟨h1, h2⟩], leN_lt ys (by omega), by rw [Nat.mod_eq_of_lt h2, leL_leN ys h1]⟩
      · exact .inl ⟨by rw [if_pos h1, if_neg h2]; decide, by rw [if_neg (fun h => h2 h.2)]⟩
    · exact .inl ⟨by rw [if_neg h1]; decide, by rw [if_neg (fun h => h1 h.1)]⟩
  have hB2 := hid fun (h : leN ys < 2 ^ 256) w => fbytes_any (leN ys) w h
  obtain ⟨n, hn⟩ : ∃ n, n = leN ys := ⟨_, rfl⟩
  obtain ⟨y, hy⟩ : ∃ y, y = fdN pN ys := ⟨_, rfl⟩
  obtain ⟨f, hf⟩ : ∃ f, f = fdE pN ys := ⟨_, rfl⟩
  rw [← hn] at hcase hB2
  rw [← hy] at hcase r2
  rw [← hf] at hcase r2
  have hS := hid fun v1 v2 w h1 h2 => same_any ys v1 v2 w h1 h2
  have HC := hid hcase
  clear ea lx wx x0 ha hz hzl hz2 hn hy hf hcase
  unfold wd at *
  have iA := hid (iW a)
  have iZ := hid (iW z)
  have nZ := hid (one_cellsW z)
  have iY := hid (iW y)
  have nY := hid (one_cellsW y)
  have hBn := hid nil_built
  have hA0 := hid (ArrW.new 24 w a)
  have hb0 : Below w.heap.size w (w.alloc (.cells (cellsW a) 24)) := (Below.refl _ _).alloc (Nat.le_refl _) _
  have hv0 := hid (hr.below hb0)
  clear hr
  go_enter Try.func4, Try.ntmps4
  go_wp2_with (refine wpList_load_row rfl 24 (.tmp 2) rfl w.heap.size rfl 24 _ (0, 0) _ hA0.out uWd rfl iA.out ?_; simp only [Act.put, List.setIfInBounds_toArray, List.set_cons_zero, List.set_cons_succ])
  refine (b1.out _).mono ?_
  rintro e w1 ⟨v1, rfl, hr1, hs1⟩
  go_wp2_with fail
  refine (r1.out _ _ hr1).mono ?_
  rintro e w2 ⟨rfl, hs2⟩
  have hA2 := hid (((hA0.out.step hs1).step hs2).alloc (.cells (cellsW z) 24))
  have hX2 := hid (ArrW.new 24 w2 z)
  have hv2 := hid (((hv0.out.below hs1).below hs2).below (below_alloc w2 (.cells (cellsW z) 24)))
  have hb2 := hb0.trans ((below_next hs1 (Nat.le_refl _) hs2).mono hb0.size)
  have hb3 := hb2.alloc hb2.size (.cells (cellsW z) 24)
  obtain ⟨G, hG⟩ : ∃ G, G = w2.heap.size := ⟨_, rfl⟩
  have HG := hid hG
  clear hA0 hb0 hv0 hs1 hs2 hr1 hG
  go_wp2_with (refine wpList_allocStore 24 13 5 (cellsW z) (cellsW 0) rfl rfl rfl rfl rfl rfl (by decide) (by simp) rfl (by kernel_rfl) (by rw [size_cellsW, size_cellsW]) iZ.out nZ.out ?_; simp only [Act.put, List.setIfInBounds_toArray, List.set_cons_zero, List.set_cons_succ])
  rw [← HG.out] at hX2 ⊢
  generalize w2.alloc (.cells (cellsW z) 24) = w3 at hA2 hX2 hv2 hb3 ⊢
  clear HG hb2
  ((try simp only [World.size_alloc]); refine wp_region_ext (by kernel_rfl) (by kernel_rfl) ?_; (try simp only [List.append_eq, List.cons_append, List.nil_append]); (repeat (first | (refine wpQuiet_load_want 24 (.tmp 5) rfl G rfl 24 (cellsW _) _ hX2.out uWd rfl iZ.out rfl ?_; simp only [Act.put, List.setIfInBounds_toArray, List.set_cons_zero, List.set_cons_succ]) | (refine wpQuiet_load_want 24 (.tmp 2) rfl w.heap.size rfl 24 (cellsW _) _ hA2.out uWd rfl iA.out rfl ?_; simp only [Act.put, List.setIfInBounds_toArray, List.set_cons_zero, List.set_cons_succ]) | (refine wpQuiet_build_want 24 _ rfl (cellsW 0) (by first | exact hBn.out | (simp only [List.map_toArray, List.map_cons, List.map_nil]; exact hBn.out)) rfl ?_; simp only [Act.put, List.setIfInBounds_toArray, List.set_cons_zero, List.set_cons_succ]) | go_big_quiet_step (first | (go_at_call 22; with_reducible refine Calls.ext_of (a1.out _)) | (go_at_call 19; with_reducible refine Calls.ext_of (f4alive_any _))))); refine wpQuiet_nil ?_; rintro _ ⟨xw, rfl⟩)
  have hv4 := hid (hv2.out.below (w3.ext_below xw))
  have hb4 := World.ext_below_of hb3 hb3.size xw
  generalize w3.ext xw = w4 at hv4 hb4 ⊢
  clear hA2 hX2 hv2 hb3
  go_wp2_with fail
  refine (r2.out _ hv4.out).mono ?_
  rintro e w5 ⟨rfl, hs5⟩
  have hv5 := hid ((hv4.out.below hs5).below (below_alloc w5 (.cells (cellsW y) 24)))
  have hY5 := hid (ArrW.new 24 w5 y)
  have hb5 := hb4.trans (hs5.mono hb4.size)
  have hb6 := hb5.alloc hb5.size (.cells (cellsW y) 24)
  clear hv4 hb4 hs5
  rcases HC.out with ⟨h1, h2⟩ | ⟨h1, h2, h3, h4⟩
  · have H1 := hid h1
    subst h2
    have c0 : (w5.alloc (.cells (cellsW 0) 24)).cell? ⟨w5.heap.size, 0, none⟩ = some (.int .u64 0) := hY5.out.cell 0 (by omega)
    have c1 : (w5.alloc (.cells (cellsW 0) 24)).cell? ⟨w5.heap.size, 1, none⟩ = some (.int .u64 0) := hY5.out.cell 1 (by omega)
    have c2 : (w5.alloc (.cells (cellsW 0) 24)).cell? ⟨w5.heap.size, 2, none⟩ = some (.int .u64 0) := hY5.out.cell 2 (by omega)
    have c3 : (w5.alloc (.cells (cellsW 0) 24)).cell? ⟨w5.heap.size, 3, none⟩ = some (.int .u64 0) := hY5.out.cell 3 (by omega)
    have q0 : ∀ w, (Op.equalIn 10000 24 (.agg #[.int .u64 0, .int .u64 0, .int .u64 0, .int .u64 0]) (.agg #[.int .u64 0, .int .u64 0, .int .u64 0, .int .u64 0])).run Try.prog w = .ok true w := eq_self 0 (by decide)
    clear HC
    go_wp2_with (refine wpList_allocStore 24 31 7 (cellsW 0) (cellsW 0) rfl rfl rfl rfl rfl rfl (by decide) (by simp) rfl (by kernel_rfl) rfl iY.out nY.out ?_; simp only [Act.put, List.setIfInBounds_toArray, List.set_cons_zero, List.set_cons_succ])
    all_goals
      go_ret
      exact ⟨rfl, hb6⟩
  · subst h1 h2
    have hB3 := hid (hB2.out h3)
    rw [h4] at hB3
    clear HC h3 h4 hB2
    have c0 := hY5.out.cell 0 (by omega)
    have c1 := hY5.out.cell 1 (by omega)
    have c2 := hY5.out.cell 2 (by omega)
    have c3 := hY5.out.cell 3 (by omega)
    go_wp2_with (refine wpList_allocStore 24 31 7 (cellsW y) (cellsW 0) rfl rfl rfl rfl rfl rfl (by decide) (by simp) rfl (by kernel_rfl) (by rw [size_cellsW, size_cellsW]) iY.out nY.out ?_; simp only [Act.put, List.setIfInBounds_toArray, List.set_cons_zero, List.set_cons_succ])
    refine (hB3.out _).mono ?_
    rintro e w7 ⟨v7, rfl, hr7, hs7⟩
    have hR7 := hid hr7
    have hv7 := hid (hv5.out.below hs7)
    have hb7 := hb6.trans (hs7.mono hb6.size)
    clear hr7 hs7 hv5 hb6 hY5 c0 c1 c2 c3
    go_wp2_with fail
    refine (hS.out _ _ _ hR7.out hv7.out).mono ?_
    rintro e w8 ⟨rfl, hs8⟩
    have hb8 := hb7.trans (hs8.mono hb7.size)
    go_wp2_with fail
    go_ret
    exact ⟨rfl, hb8⟩
end Go.Proofs.Ytfidbiabgmioaaa
