import Derived.Test.YtfidbiabgmioaaaFldL
import Derived.Test.YtfidbiabgmioaaaLawZ
import Derived.Test.YtfidbiabgmioaaaFrameY
/-! FieldBytes. -/
set_option maxRecDepth 4000
set_option linter.unusedVariables false
set_option linter.unusedSimpArgs false
namespace Go.Proofs.Ytfidbiabgmioaaa
open Go.RowKit

theorem flN_lt (ys : List (BitVec 8)) : flN ys < 2 ^ 256 := by
  unfold flN; split
  · decide
  · exact Nat.lt_trans (Nat.mod_lt _ lN_pos) lN_lt
set_option maxRecDepth 100000 in
set_option maxHeartbeats 8000000 in
theorem walk_FieldBytes (w : World) (v : Value) (ys : List (BitVec 8)) (hr : RdY w v ys) (hz : ys.length ≤ 140737488351232) (x0 : List Int) (lx : x0.length = 4) (wx : ∀ y ∈ x0, (Lit.int .u64 y).wf = true) :
    Calls Try.prog 14 #[v, .agg (x0.map (Value.int .u64)).toArray] w fun e w' => e = .returned (.bool true) ∧ Below w.heap.size w w' := by
  obtain ⟨a, ha, ea⟩ := word_arg x0 lx wx
  rw [ea]
  have c1 := hid fun w h => fRead_any ys v w h
  have c2 := hid fun w h => rfRead_any ys v w h
  have c3 := hid fun w h => fLread_any ys v w h
  have c4 := hid fun w h => rfLread_any ys v w h
  have c5 := hid fun w h => fLfold_any ys v w h
  have c6 := hid fun w h => rfLfold_any ys v w h
  have d1 := hid fun w => fbytes_any a w ha
  have d2 := hid fun w => rfbytes_any a w ha
  have hS := hid fun v1 v2 w h1 h2 => same_any (leL (a % pN)) v1 v2 w h1 h2
  have q1 := eq_self (fdN pN ys) (fdN_lt _ _)
  have q3 := eq_self (fdN lN ys) (fdN_lt _ _)
  have q5 := eq_self (flN ys) (flN_lt _)
  obtain ⟨x1, hx1⟩ : ∃ x, x = fdN pN ys := ⟨_, rfl⟩
  obtain ⟨e1, he1⟩ : ∃ e, e = fdE pN ys := ⟨_, rfl⟩
  rw [← hx1] at c1 c2 q1
  rw [← he1] at c1 c2
  obtain ⟨x3, hx3⟩ : ∃ x, x = fdN lN ys := ⟨_, rfl⟩
  obtain ⟨e3, he3⟩ : ∃ e, e = fdE lN ys := ⟨_, rfl⟩
  rw [← hx3] at c3 c4 q3
  rw [← he3] at c3 c4
  obtain ⟨x5, hx5⟩ : ∃ x, x = flN ys := ⟨_, rfl⟩
  obtain ⟨e5, he5⟩ : ∃ e, e = flE ys := ⟨_, rfl⟩
  rw [← hx5] at c5 c6 q5
  rw [← he5] at c5 c6
  obtain ⟨L, hL⟩ : ∃ L, L = leL (a % pN) := ⟨_, rfl⟩
  rw [← hL] at d1 d2 hS
  clear ea lx wx x0 ha hz hL hx1 hx3 hx5 he1 he3 he5
  unfold wd at *
  have iA := hid (iW a)
  have i1 := hid (iW x1)
  have n1 := hid (one_cellsW x1)
  have i3 := hid (iW x3)
  have n3 := hid (one_cellsW x3)
  have i5 := hid (iW x5)
  have n5 := hid (one_cellsW x5)
  have hA0 := hid (ArrW.new 24 w a)
  have hb0 : Below w.heap.size w (w.alloc (.cells (cellsW a) 24)) := (Below.refl _ _).alloc (Nat.le_refl _) _
  have hv0 := hid (hr.below hb0)
  clear hr
  obtain ⟨GA, hGA⟩ : ∃ G, G = w.heap.size := ⟨_, rfl⟩
  go_enter Try.func14, Try.ntmps14
  go_wp2_with fail
  rw [← hGA] at hA0 ⊢
  generalize w.alloc (.cells (cellsW a) 24) = w0 at hA0 hb0 hv0 ⊢
  clear hGA
  refine (c1.out _ hv0.out).mono ?_
  rintro e u1 ⟨rfl, hs1⟩
  have hA1 := hid ((hA0.out.step hs1).alloc (.cells (cellsW x1) 24))
  have hX1_1 := hid (ArrW.new 24 u1 x1)
  have hv1 := hid ((hv0.out.below hs1).below (below_alloc u1 (.cells (cellsW x1) 24)))
  have hc1 := hb0.trans (hs1.mono hb0.size)
  have hb1 := hc1.alloc hc1.size (.cells (cellsW x1) 24)
  obtain ⟨G1, hG1⟩ : ∃ G, G = u1.heap.size := ⟨_, rfl⟩
  have HG1 := hid hG1
  clear hA0 hv0 hs1 hc1 hb0 hG1 c1 
  go_wp2_with (refine wpList_allocStore 24 20 5 (cellsW x1) (cellsW 0) rfl rfl rfl rfl rfl rfl (by decide) (by simp) rfl (by kernel_rfl) (by rw [size_cellsW, size_cellsW]) i1.out n1.out ?_; simp only [Act.put, List.setIfInBounds_toArray, List.set_cons_zero, List.set_cons_succ])
  rw [← HG1.out] at hX1_1 ⊢
  generalize u1.alloc (.cells (cellsW x1) 24) = w1 at hA1 hv1 hb1 hX1_1 ⊢
  clear HG1
  refine (c2.out _ hv1.out).mono ?_
  rintro e u2 ⟨rfl, hs2⟩
  have hA2 := hid ((hA1.out.step hs2).alloc (.cells (cellsW x1) 24))
  have hX1_2 := hid ((hX1_1.out.step hs2).alloc (.cells (cellsW x1) 24))
  have hX2_2 := hid (ArrW.new 24 u2 x1)
  have hv2 := hid ((hv1.out.below hs2).below (below_alloc u2 (.cells (cellsW x1) 24)))
  have hc2 := hb1.trans (hs2.mono hb1.size)
  have hb2 := hc2.alloc hc2.size (.cells (cellsW x1) 24)
  obtain ⟨G2, hG2⟩ : ∃ G, G = u2.heap.size := ⟨_, rfl⟩
  have HG2 := hid hG2
  clear hA1 hv1 hs2 hc2 hb1 hG2 c2 hX1_1
  go_wp2_with (refine wpList_allocStore 24 25 7 (cellsW x1) (cellsW 0) rfl rfl rfl rfl rfl rfl (by decide) (by simp) rfl (by kernel_rfl) (by rw [size_cellsW, size_cellsW]) i1.out n1.out ?_; simp only [Act.put, List.setIfInBounds_toArray, List.set_cons_zero, List.set_cons_succ])
  rw [← HG2.out] at hX2_2 ⊢
  generalize u2.alloc (.cells (cellsW x1) 24) = w2 at hA2 hv2 hb2 hX1_2 hX2_2 ⊢
  clear HG2
  refine (c3.out _ hv2.out).mono ?_
  rintro e u3 ⟨rfl, hs3⟩
  have hA3 := hid ((hA2.out.step hs3).alloc (.cells (cellsW x3) 24))
  have hX1_3 := hid ((hX1_2.out.step hs3).alloc (.cells (cellsW x3) 24))
  have hX2_3 := hid ((hX2_2.out.step hs3).alloc (.cells (cellsW x3) 24))
  have hX3_3 := hid (ArrW.new 24 u3 x3)
  have hv3 := hid ((hv2.out.below hs3).below (below_alloc u3 (.cells (cellsW x3) 24)))
  have hc3 := hb2.trans (hs3.mono hb2.size)
  have hb3 := hc3.alloc hc3.size (.cells (cellsW x3) 24)
  obtain ⟨G3, hG3⟩ : ∃ G, G = u3.heap.size := ⟨_, rfl⟩
  have HG3 := hid hG3
  clear hA2 hv2 hs3 hc3 hb2 hG3 c3 hX1_2 hX2_2
  go_wp2_with (refine wpList_allocStore 24 30 9 (cellsW x3) (cellsW 0) rfl rfl rfl rfl rfl rfl (by decide) (by simp) rfl (by kernel_rfl) (by rw [size_cellsW, size_cellsW]) i3.out n3.out ?_; simp only [Act.put, List.setIfInBounds_toArray, List.set_cons_zero, List.set_cons_succ])
  rw [← HG3.out] at hX3_3 ⊢
  generalize u3.alloc (.cells (cellsW x3) 24) = w3 at hA3 hv3 hb3 hX1_3 hX2_3 hX3_3 ⊢
  clear HG3
  refine (c4.out _ hv3.out).mono ?_
  rintro e u4 ⟨rfl, hs4⟩
  have hA4 := hid ((hA3.out.step hs4).alloc (.cells (cellsW x3) 24))
  have hX1_4 := hid ((hX1_3.out.step hs4).alloc (.cells (cellsW x3) 24))
  have hX2_4 := hid ((hX2_3.out.step hs4).alloc (.cells (cellsW x3) 24))
  have hX3_4 := hid ((hX3_3.out.step hs4).alloc (.cells (cellsW x3) 24))
  have hX4_4 := hid (ArrW.new 24 u4 x3)
  have hv4 := hid ((hv3.out.below hs4).below (below_alloc u4 (.cells (cellsW x3) 24)))
  have hc4 := hb3.trans (hs4.mono hb3.size)
  have hb4 := hc4.alloc hc4.size (.cells (cellsW x3) 24)
  obtain ⟨G4, hG4⟩ : ∃ G, G = u4.heap.size := ⟨_, rfl⟩
  have HG4 := hid hG4
  clear hA3 hv3 hs4 hc4 hb3 hG4 c4 hX1_3 hX2_3 hX3_3
  go_wp2_with (refine wpList_allocStore 24 35 11 (cellsW x3) (cellsW 0) rfl rfl rfl rfl rfl rfl (by decide) (by simp) rfl (by kernel_rfl) (by rw [size_cellsW, size_cellsW]) i3.out n3.out ?_; simp only [Act.put, List.setIfInBounds_toArray, List.set_cons_zero, List.set_cons_succ])
  rw [← HG4.out] at hX4_4 ⊢
  generalize u4.alloc (.cells (cellsW x3) 24) = w4 at hA4 hv4 hb4 hX1_4 hX2_4 hX3_4 hX4_4 ⊢
  clear HG4
  refine (c5.out _ hv4.out).mono ?_
  rintro e u5 ⟨rfl, hs5⟩
  have hA5 := hid ((hA4.out.step hs5).alloc (.cells (cellsW x5) 24))
  have hX1_5 := hid ((hX1_4.out.step hs5).alloc (.cells (cellsW x5) 24))
  have hX2_5 := hid ((hX2_4.out.step hs5).alloc (.cells (cellsW x5) 24))
  have hX3_5 := hid ((hX3_4.out.step hs5).alloc (.cells (cellsW x5) 24))
  have hX4_5 := hid ((hX4_4.out.step hs5).alloc (.cells (cellsW x5) 24))
  have hX5_5 := hid (ArrW.new 24 u5 x5)
  have hv5 := hid ((hv4.out.below hs5).below (below_alloc u5 (.cells (cellsW x5) 24)))
  have hc5 := hb4.trans (hs5.mono hb4.size)
  have hb5 := hc5.alloc hc5.size (.cells (cellsW x5) 24)
  obtain ⟨G5, hG5⟩ : ∃ G, G = u5.heap.size := ⟨_, rfl⟩
  have HG5 := hid hG5
  clear hA4 hv4 hs5 hc5 hb4 hG5 c5 hX1_4 hX2_4 hX3_4 hX4_4
  go_wp2_with (refine wpList_allocStore 24 40 13 (cellsW x5) (cellsW 0) rfl rfl rfl rfl rfl rfl (by decide) (by simp) rfl (by kernel_rfl) (by rw [size_cellsW, size_cellsW]) i5.out n5.out ?_; simp only [Act.put, List.setIfInBounds_toArray, List.set_cons_zero, List.set_cons_succ])
  rw [← HG5.out] at hX5_5 ⊢
  generalize u5.alloc (.cells (cellsW x5) 24) = w5 at hA5 hv5 hb5 hX1_5 hX2_5 hX3_5 hX4_5 hX5_5 ⊢
  clear HG5
  refine (c6.out _ hv5.out).mono ?_
  rintro e u6 ⟨rfl, hs6⟩
  have hA6 := hid ((hA5.out.step hs6).alloc (.cells (cellsW x5) 24))
  have hX1_6 := hid ((hX1_5.out.step hs6).alloc (.cells (cellsW x5) 24))
  have hX2_6 := hid ((hX2_5.out.step hs6).alloc (.cells (cellsW x5) 24))
  have hX3_6 := hid ((hX3_5.out.step hs6).alloc (.cells (cellsW x5) 24))
  have hX4_6 := hid ((hX4_5.out.step hs6).alloc (.cells (cellsW x5) 24))
  have hX5_6 := hid ((hX5_5.out.step hs6).alloc (.cells (cellsW x5) 24))
  have hX6_6 := hid (ArrW.new 24 u6 x5)
  have hv6 := hid ((hv5.out.below hs6).below (below_alloc u6 (.cells (cellsW x5) 24)))
  have hc6 := hb5.trans (hs6.mono hb5.size)
  have hb6 := hc6.alloc hc6.size (.cells (cellsW x5) 24)
  obtain ⟨G6, hG6⟩ : ∃ G, G = u6.heap.size := ⟨_, rfl⟩
  have HG6 := hid hG6
  clear hA5 hv5 hs6 hc6 hb5 hG6 c6 hX1_5 hX2_5 hX3_5 hX4_5 hX5_5
  go_wp2_with (refine wpList_allocStore 24 45 15 (cellsW x5) (cellsW 0) rfl rfl rfl rfl rfl rfl (by decide) (by simp) rfl (by kernel_rfl) (by rw [size_cellsW, size_cellsW]) i5.out n5.out ?_; simp only [Act.put, List.setIfInBounds_toArray, List.set_cons_zero, List.set_cons_succ])
  rw [← HG6.out] at hX6_6 ⊢
  generalize u6.alloc (.cells (cellsW x5) 24) = w6 at hA6 hv6 hb6 hX1_6 hX2_6 hX3_6 hX4_6 hX5_6 hX6_6 ⊢
  clear HG6
  ((try simp only [World.size_alloc]); refine wp_region_loose [.kn (.agg (cellsW (x1))), .kn (.agg (cellsW (x1))), .kn (.bool true), .kn (.bool true), .kn (.int .i64 e1), .kn (.int .i64 e1), .kn (.bool true), .kn (.bool true), .kn (.bool true), .kn (.agg (cellsW (x3))), .kn (.agg (cellsW (x3))), .kn (.bool true), .kn (.bool true), .kn (.bool true), .kn (.int .i64 e3), .kn (.int .i64 e3), .kn (.bool true), .kn (.bool true), .kn (.bool true), .kn (.agg (cellsW (x5))), .kn (.agg (cellsW (x5))), .kn (.bool true), .kn (.bool true), .kn (.bool true), .kn (.int .i64 e5), .kn (.int .i64 e5), .kn (.bool true), .kn (.bool true), .kn (.bool true), .kn (.agg (cellsW (a))), .lo (fun v w => RdY w v L), .kn (.agg (cellsW (a))), .lo (fun v w => RdY w v L), .kn (.bool true), .kn (.bool true), .kn (.bool true), .kn (.bool true), .kn (.bool true), .kn (.bool true)] (by kernel_rfl) (by kernel_rfl) (by kernel_rfl) (by first | exact trivial | ((repeat (first | refine keepsAll_kn ?_ | (refine keepsAll_lo (fun v w w' h hb => ?_) ?_; first | exact RdN.below h hb | exact RdL.below h hb | exact RdY.below h hb | (obtain ⟨b, e, h1⟩ := h; exact ⟨b, e, ArrY.below h1 hb (ArrY.lt h1)⟩) | (obtain ⟨v1, v2, e, h1, h2⟩ := h; exact ⟨v1, v2, e, RdN.below h1 hb, RdN.below h2 hb⟩)))); exact trivial)) ?_)
  (refine loose_step_on rfl (fun W' hB' hd K hK => wp_load_block 24 (.tmp 5) rfl G1 rfl 24 _ _ (ArrW.below hX1_6.out hB' (ArrW.lt hX1_6.out)) uWd rfl i1.out (hK _ _ (Below.refl _ _) rfl)) ?_; rintro _ rfl; simp only [Act.put, List.setIfInBounds_toArray, List.set_cons_zero, List.set_cons_succ])
  (refine loose_step_on rfl (fun W' hB' hd K hK => wp_load_block 24 (.tmp 7) rfl G2 rfl 24 _ _ (ArrW.below hX2_6.out hB' (ArrW.lt hX2_6.out)) uWd rfl i1.out (hK _ _ (Below.refl _ _) rfl)) ?_; rintro _ rfl; simp only [Act.put, List.setIfInBounds_toArray, List.set_cons_zero, List.set_cons_succ])
  (refine loose_step_on rfl (fun W' hB' hd K hK => ?_) ?_; (focus (clear hd; go_simp; exact hK _ _ (Below.refl _ _) rfl)); rintro _ rfl; simp only [Act.put, List.setIfInBounds_toArray, List.set_cons_zero, List.set_cons_succ])
  (refine loose_step_on rfl (fun W' hB' hd K hK => ?_) ?_; (focus (clear hd; go_simp; exact hK _ _ (Below.refl _ _) rfl)); rintro _ rfl; simp only [Act.put, List.setIfInBounds_toArray, List.set_cons_zero, List.set_cons_succ])
  (refine loose_step_on rfl (fun W' hB' hd K hK => ?_) ?_; (focus (clear hd; go_simp; exact hK _ _ (Below.refl _ _) rfl)); rintro _ rfl; simp only [Act.put, List.setIfInBounds_toArray, List.set_cons_zero, List.set_cons_succ])
  (refine loose_step_on rfl (fun W' hB' hd K hK => ?_) ?_; (focus (clear hd; go_simp; exact hK _ _ (Below.refl _ _) rfl)); rintro _ rfl; simp only [Act.put, List.setIfInBounds_toArray, List.set_cons_zero, List.set_cons_succ])
  (refine loose_step_on rfl (fun W' hB' hd K hK => ?_) ?_; (focus (clear hd; go_simp; exact hK _ _ (Below.refl _ _) rfl)); rintro _ rfl; simp only [Act.put, List.setIfInBounds_toArray, List.set_cons_zero, List.set_cons_succ])
  (refine loose_step_on rfl (fun W' hB' hd K hK => ?_) ?_; (focus (clear hd; go_simp; exact hK _ _ (Below.refl _ _) rfl)); rintro _ rfl; simp only [Act.put, List.setIfInBounds_toArray, List.set_cons_zero, List.set_cons_succ])
  (refine loose_step_on rfl (fun W' hB' hd K hK => ?_) ?_; (focus (clear hd; go_simp; exact hK _ _ (Below.refl _ _) rfl)); rintro _ rfl; simp only [Act.put, List.setIfInBounds_toArray, List.set_cons_zero, List.set_cons_succ])
  (refine loose_step_on rfl (fun W' hB' hd K hK => wp_load_block 24 (.tmp 9) rfl G3 rfl 24 _ _ (ArrW.below hX3_6.out hB' (ArrW.lt hX3_6.out)) uWd rfl i3.out (hK _ _ (Below.refl _ _) rfl)) ?_; rintro _ rfl; simp only [Act.put, List.setIfInBounds_toArray, List.set_cons_zero, List.set_cons_succ])
  (refine loose_step_on rfl (fun W' hB' hd K hK => wp_load_block 24 (.tmp 11) rfl G4 rfl 24 _ _ (ArrW.below hX4_6.out hB' (ArrW.lt hX4_6.out)) uWd rfl i3.out (hK _ _ (Below.refl _ _) rfl)) ?_; rintro _ rfl; simp only [Act.put, List.setIfInBounds_toArray, List.set_cons_zero, List.set_cons_succ])
  (refine loose_step_on rfl (fun W' hB' hd K hK => ?_) ?_; (focus (clear hd; go_simp; exact hK _ _ (Below.refl _ _) rfl)); rintro _ rfl; simp only [Act.put, List.setIfInBounds_toArray, List.set_cons_zero, List.set_cons_succ])
  (refine loose_step_on rfl (fun W' hB' hd K hK => ?_) ?_; (focus (clear hd; go_simp; exact hK _ _ (Below.refl _ _) rfl)); rintro _ rfl; simp only [Act.put, List.setIfInBounds_toArray, List.set_cons_zero, List.set_cons_succ])
  (refine loose_step_on rfl (fun W' hB' hd K hK => ?_) ?_; (focus (clear hd; go_simp; exact hK _ _ (Below.refl _ _) rfl)); rintro _ rfl; simp only [Act.put, List.setIfInBounds_toArray, List.set_cons_zero, List.set_cons_succ])
  (refine loose_step_on rfl (fun W' hB' hd K hK => ?_) ?_; (focus (clear hd; go_simp; exact hK _ _ (Below.refl _ _) rfl)); rintro _ rfl; simp only [Act.put, List.setIfInBounds_toArray, List.set_cons_zero, List.set_cons_succ])
  (refine loose_step_on rfl (fun W' hB' hd K hK => ?_) ?_; (focus (clear hd; go_simp; exact hK _ _ (Below.refl _ _) rfl)); rintro _ rfl; simp only [Act.put, List.setIfInBounds_toArray, List.set_cons_zero, List.set_cons_succ])
  (refine loose_step_on rfl (fun W' hB' hd K hK => ?_) ?_; (focus (clear hd; go_simp; exact hK _ _ (Below.refl _ _) rfl)); rintro _ rfl; simp only [Act.put, List.setIfInBounds_toArray, List.set_cons_zero, List.set_cons_succ])
  (refine loose_step_on rfl (fun W' hB' hd K hK => ?_) ?_; (focus (clear hd; go_simp; exact hK _ _ (Below.refl _ _) rfl)); rintro _ rfl; simp only [Act.put, List.setIfInBounds_toArray, List.set_cons_zero, List.set_cons_succ])
  (refine loose_step_on rfl (fun W' hB' hd K hK => ?_) ?_; (focus (clear hd; go_simp; exact hK _ _ (Below.refl _ _) rfl)); rintro _ rfl; simp only [Act.put, List.setIfInBounds_toArray, List.set_cons_zero, List.set_cons_succ])
  (refine loose_step_on rfl (fun W' hB' hd K hK => wp_load_block 24 (.tmp 13) rfl G5 rfl 24 _ _ (ArrW.below hX5_6.out hB' (ArrW.lt hX5_6.out)) uWd rfl i5.out (hK _ _ (Below.refl _ _) rfl)) ?_; rintro _ rfl; simp only [Act.put, List.setIfInBounds_toArray, List.set_cons_zero, List.set_cons_succ])
  (refine loose_step_on rfl (fun W' hB' hd K hK => wp_load_block 24 (.tmp 15) rfl G6 rfl 24 _ _ (ArrW.below hX6_6.out hB' (ArrW.lt hX6_6.out)) uWd rfl i5.out (hK _ _ (Below.refl _ _) rfl)) ?_; rintro _ rfl; simp only [Act.put, List.setIfInBounds_toArray, List.set_cons_zero, List.set_cons_succ])
  (refine loose_step_on rfl (fun W' hB' hd K hK => ?_) ?_; (focus (clear hd; go_simp; exact hK _ _ (Below.refl _ _) rfl)); rintro _ rfl; simp only [Act.put, List.setIfInBounds_toArray, List.set_cons_zero, List.set_cons_succ])
  (refine loose_step_on rfl (fun W' hB' hd K hK => ?_) ?_; (focus (clear hd; go_simp; exact hK _ _ (Below.refl _ _) rfl)); rintro _ rfl; simp only [Act.put, List.setIfInBounds_toArray, List.set_cons_zero, List.set_cons_succ])
  (refine loose_step_on rfl (fun W' hB' hd K hK => ?_) ?_; (focus (clear hd; go_simp; exact hK _ _ (Below.refl _ _) rfl)); rintro _ rfl; simp only [Act.put, List.setIfInBounds_toArray, List.set_cons_zero, List.set_cons_succ])
  (refine loose_step_on rfl (fun W' hB' hd K hK => ?_) ?_; (focus (clear hd; go_simp; exact hK _ _ (Below.refl _ _) rfl)); rintro _ rfl; simp only [Act.put, List.setIfInBounds_toArray, List.set_cons_zero, List.set_cons_succ])
  (refine loose_step_on rfl (fun W' hB' hd K hK => ?_) ?_; (focus (clear hd; go_simp; exact hK _ _ (Below.refl _ _) rfl)); rintro _ rfl; simp only [Act.put, List.setIfInBounds_toArray, List.set_cons_zero, List.set_cons_succ])
  (refine loose_step_on rfl (fun W' hB' hd K hK => ?_) ?_; (focus (clear hd; go_simp; exact hK _ _ (Below.refl _ _) rfl)); rintro _ rfl; simp only [Act.put, List.setIfInBounds_toArray, List.set_cons_zero, List.set_cons_succ])
  (refine loose_step_on rfl (fun W' hB' hd K hK => ?_) ?_; (focus (clear hd; go_simp; exact hK _ _ (Below.refl _ _) rfl)); rintro _ rfl; simp only [Act.put, List.setIfInBounds_toArray, List.set_cons_zero, List.set_cons_succ])
  (refine loose_step_on rfl (fun W' hB' hd K hK => ?_) ?_; (focus (clear hd; go_simp; exact hK _ _ (Below.refl _ _) rfl)); rintro _ rfl; simp only [Act.put, List.setIfInBounds_toArray, List.set_cons_zero, List.set_cons_succ])
  (refine loose_step_on rfl (fun W' hB' hd K hK => wp_load_block 24 (.tmp 3) rfl GA rfl 24 _ _ (ArrW.below hA6.out hB' (ArrW.lt hA6.out)) uWd rfl iA.out (hK _ _ (Below.refl _ _) rfl)) ?_; rintro _ rfl; simp only [Act.put, List.setIfInBounds_toArray, List.set_cons_zero, List.set_cons_succ])
  (refine loose_step_on rfl (fun W' hB' hd K hK => ?_) ?_; (focus (skip; clear hd; go_simp; refine (d1.out _).mono ?_; rintro _ _ ⟨v', rfl, hr, hb'⟩; exact hK v' _ hb' hr)); intro v77 _; simp only [Act.put, List.setIfInBounds_toArray, List.set_cons_zero, List.set_cons_succ])
  (refine loose_step_on rfl (fun W' hB' hd K hK => wp_load_block 24 (.tmp 3) rfl GA rfl 24 _ _ (ArrW.below hA6.out hB' (ArrW.lt hA6.out)) uWd rfl iA.out (hK _ _ (Below.refl _ _) rfl)) ?_; rintro _ rfl; simp only [Act.put, List.setIfInBounds_toArray, List.set_cons_zero, List.set_cons_succ])
  (refine loose_step_on rfl (fun W' hB' hd K hK => ?_) ?_; (focus (skip; clear hd; go_simp; refine (d2.out _).mono ?_; rintro _ _ ⟨v', rfl, hr, hb'⟩; exact hK v' _ hb' hr)); intro v79 _; simp only [Act.put, List.setIfInBounds_toArray, List.set_cons_zero, List.set_cons_succ])
  (refine loose_step_on rfl (fun W' hB' hd K hK => ?_) ?_; (focus (have g77 : RdY W' v77 L := hd ⟨30, Ground.data⟩ (by simp) rfl _ 77 rfl rfl (by simp); have g79 : RdY W' v79 L := hd ⟨32, Ground.data⟩ (by simp) rfl _ 79 rfl rfl (by simp); clear hd; go_simp; refine (hS.out v77 v79 _ g77 g79).mono ?_; rintro _ _ ⟨rfl, hb'⟩; exact hK _ _ hb' rfl)); rintro _ rfl; simp only [Act.put, List.setIfInBounds_toArray, List.set_cons_zero, List.set_cons_succ])
  (refine loose_step_on rfl (fun W' hB' hd K hK => ?_) ?_; (focus (clear hd; go_simp; exact hK _ _ (Below.refl _ _) rfl)); rintro _ rfl; simp only [Act.put, List.setIfInBounds_toArray, List.set_cons_zero, List.set_cons_succ])
  (refine loose_step_on rfl (fun W' hB' hd K hK => ?_) ?_; (focus (clear hd; go_simp; exact hK _ _ (Below.refl _ _) rfl)); rintro _ rfl; simp only [Act.put, List.setIfInBounds_toArray, List.set_cons_zero, List.set_cons_succ])
  (refine loose_step_on rfl (fun W' hB' hd K hK => ?_) ?_; (focus (skip; clear hd; go_simp; refine (f4alive_any _).mono ?_; rintro _ _ ⟨rfl, hb'⟩; exact hK _ _ hb' rfl)); rintro _ rfl; simp only [Act.put, List.setIfInBounds_toArray, List.set_cons_zero, List.set_cons_succ])
  (refine loose_step_on rfl (fun W' hB' hd K hK => ?_) ?_; (focus (clear hd; go_simp; exact hK _ _ (Below.refl _ _) rfl)); rintro _ rfl; simp only [Act.put, List.setIfInBounds_toArray, List.set_cons_zero, List.set_cons_succ])
  (refine loose_step_on rfl (fun W' hB' hd K hK => ?_) ?_; (focus (clear hd; go_simp; exact hK _ _ (Below.refl _ _) rfl)); rintro _ rfl; simp only [Act.put, List.setIfInBounds_toArray, List.set_cons_zero, List.set_cons_succ])
  intro w8 hb8 _
  go_wp2
  go_ret
  exact ⟨rfl, hb6.trans (hb8.mono hb6.size)⟩
end Go.Proofs.Ytfidbiabgmioaaa
