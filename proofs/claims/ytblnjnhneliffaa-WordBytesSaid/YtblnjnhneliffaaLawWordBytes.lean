import Derived.Test.YtblnjnhneliffaaSame
import Derived.Test.YtblnjnhneliffaaFrameY
/-! WordBytes. -/
set_option linter.unusedVariables false
set_option linter.unusedSimpArgs false
namespace Go.Proofs.Ytblnjnhneliffaa
open Go.RowKit

/-- What reading makes of bytes: a number, a complaint. -/
def rdN (ys : List (BitVec 8)) : Nat := if ys.length ≤ 32 then numY ys else 0
def rdE (ys : List (BitVec 8)) : Int := if ys.length ≤ 32 then 0 else 3
theorem rdN_lt (ys : List (BitVec 8)) : rdN ys < 2 ^ 256 := by
  unfold rdN; split
  · rename_i h
    have := numY_lt ys
    have h2 : 256 ^ ys.length ≤ 256 ^ 32 := Nat.pow_le_pow_right (by omega) h
    rw [pow256_32] at h2; omega
  · exact Nat.pow_pos (by omega)
theorem rd_tuple (ys : List (BitVec 8)) : (if ys.length ≤ 32 then #[wd (numY ys), .int .i64 0] else #[wd 0, .int .i64 3] : Array Value) = #[wd (rdN ys), .int .i64 (rdE ys)] := by
  unfold rdN rdE; split <;> rfl

set_option maxRecDepth 20000 in
set_option maxHeartbeats 8000000 in
theorem walk_WordBytes (w : World) (x0 : List Int) (lx : x0.length = 4) (wx : ∀ y ∈ x0, (Lit.int .u64 y).wf = true) (v : Value) (ys : List (BitVec 8)) (hr : RdY w v ys) (hz : ys.length ≤ 140737488351232) (n : Int) (wn : (Lit.int .u64 n).wf = true) :
    Calls Try.prog 6 #[.agg (x0.map (Value.int .u64)).toArray, v, .int .u64 n] w fun e w' => e = .returned (.bool true) ∧ Below w.heap.size w w' := by
  obtain ⟨x, hx, ea⟩ := word_arg x0 lx wx
  rw [ea]
  have hn := wf_u64 wn
  obtain ⟨m, rfl⟩ : ∃ m : Nat, n = (m : Int) := ⟨n.toNat, by omega⟩
  have hm : m < 2 ^ 64 := by omega
  clear ea lx wx x0 wn hn hz
  have r1 := hid fun w h => wread_any ys v w h
  have r2 := hid fun w h => rread_any ys v w h
  rw [rd_tuple] at r1 r2
  have u1 := hid fun w => wuint_any x hx w
  have b1 := hid fun w => wbytes_rd x w hx
  have b2 := hid fun w => (rbytes_any x w hx).mono fun e w' (h : ∃ b, e = .returned (.slice (some ⟨b, 0, none⟩) 32 32) ∧ ArrY 5 w' b (be 32 x) ∧ w.heap.size ≤ b ∧ Below w.heap.size w w') => (show ∃ v', e = .returned v' ∧ RdY w' v' (be 32 x) ∧ Below w.heap.size w w' from by
    obtain ⟨b, h1, h2, _, h4⟩ := h
    exact ⟨_, h1, h2.rd 32 (by rw [be_len]; exact Nat.le_refl _) |> fun h => by rw [be_len] at h; exact h, h4⟩)
  have s1 := hid fun w => wshort_any x w hx
  have s2 := hid fun w => rshort_any x w hx
  have l1 := hid fun w => wlen_any x w hx
  have o1 := hid fun w => wof_any m hm w
  have hS := hid fun ys v1 v2 w h1 h2 => same_any ys v1 v2 w h1 h2
  have q1 := eq_self (rdN ys) (rdN_lt ys)
  have q2 := eq_self m (Nat.lt_trans hm (by decide))
  have hmw := cellsW_one m hm
  have hsl := hid (show (shortW x).length = wlen x from be_len _ _)
  have hwl := wlen_le x hx
  have hl := limbs_sum x hx
  have g0 := lmN_lt x 0
  have g1 := lmN_lt x 1
  have g2 := lmN_lt x 2
  have g3 := lmN_lt x 3
  have hor : bits .or .u64 (bits .or .u64 (lm x 1) (lm x 2)) (lm x 3) = ((lmN x 1 ||| lmN x 2 ||| lmN x 3 : Nat) : Int) := by
    unfold lm
    rw [u64_or_nat _ _ g1 g2, u64_or_nat _ _ (show lmN x 1 ||| lmN x 2 < 2 ^ 64 from Nat.or_lt_two_pow (n := 64) g1 g2) g3]
  have hz2 : (lmN x 1 ||| lmN x 2 ||| lmN x 3) = 0 ↔ lmN x 1 = 0 ∧ lmN x 2 = 0 ∧ lmN x 3 = 0 := by
    rw [Nat.or_eq_zero_iff, Nat.or_eq_zero_iff, and_assoc]
  rw [show wd m = .agg (#[.int .u64 (m : Int), .int .u64 0, .int .u64 0, .int .u64 0] : Array Value) from by unfold wd; rw [hmw]] at o1
  rw [hmw] at q2
  have hlow : x < 2 ^ 64 → (lmN x 1 ||| lmN x 2 ||| lmN x 3) = 0 ∧ lm x 0 = (x : Int) := fun h => by
    have e : ∀ i, 1 ≤ i → lmN x i = 0 := fun i hi => lmN_hi x i (by
      have h2 : 2 ^ 64 ≤ 2 ^ (64 * i) := Nat.pow_le_pow_right (by omega) (by omega)
      omega)
    refine ⟨hz2.2 ⟨e 1 (by omega), e 2 (by omega), e 3 (by omega)⟩, ?_⟩
    unfold lm; rw [lmN_zero', Nat.mod_eq_of_lt h]
  have hhigh : ¬ x < 2 ^ 64 → ¬ (lmN x 1 ||| lmN x 2 ||| lmN x 3) = 0 := fun h e => by
    obtain ⟨h1, h2, h3⟩ := hz2.1 e
    rw [h1, h2, h3] at hl; omega
  obtain ⟨t, ht⟩ : ∃ t, t = lmN x 1 ||| lmN x 2 ||| lmN x 3 := ⟨_, rfl⟩
  rw [← ht] at hor hlow hhigh
  clear hl g0 g1 g2 g3 hz2 ht hmw hm hx
  obtain ⟨r, hr1⟩ : ∃ r, r = rdN ys := ⟨_, rfl⟩
  obtain ⟨e1, he1⟩ : ∃ e, e = rdE ys := ⟨_, rfl⟩
  rw [← hr1, ← he1] at r1 r2
  rw [← hr1] at q1
  clear hr1 he1
  obtain ⟨f, hf⟩ : ∃ f, f = decide (x < 2 ^ 64) := ⟨_, rfl⟩
  obtain ⟨u, hu⟩ : ∃ u : Int, u = ((if x < 2 ^ 64 then x else 0 : Nat) : Int) := ⟨_, rfl⟩
  rw [← hf, ← hu] at u1
  have hcase : (f = true ∧ t = 0 ∧ lm x 0 = u) ∨ (f = false ∧ ¬ t = 0 ∧ u = 0) := by
    by_cases h : x < 2 ^ 64
    · rw [decide_eq_true h] at hf
      rw [if_pos h] at hu
      exact .inl ⟨hf, (hlow h).1, by rw [hu]; exact (hlow h).2⟩
    · rw [decide_eq_false h] at hf
      rw [if_neg h] at hu
      exact .inr ⟨hf, hhigh h, by rw [hu]; rfl⟩
  clear hf hu hlow hhigh
  unfold wd at *
  have iX := hid (iW x)
  have iR := hid (iW r)
  have nR := hid (one_cellsW r)
  have hA0 := hid (ArrW.new 24 w x)
  have hb0 : Below w.heap.size w (w.alloc (.cells (cellsW x) 24)) := (Below.refl _ _).alloc (Nat.le_refl _) _
  have hv0 := hid (hr.below hb0)
  clear hr
  go_enter Try.func6, Try.ntmps6
  go_wp2_with fail
  refine (r1.out _ hv0.out).mono ?_
  rintro e w1 ⟨rfl, hb1⟩
  have hA1 := hid ((hA0.out.below hb1 hA0.out.lt).alloc (.cells (cellsW r) 24))
  have hR1 := hid (ArrW.new 24 w1 r)
  have hb2 := hb0.trans (hb1.mono hb0.size)
  have hb3 := hb2.alloc hb2.size (.cells (cellsW r) 24)
  have hv1 := hid ((hv0.out.below hb1).below (show Below w1.heap.size w1 (w1.alloc (.cells (cellsW r) 24)) from (Below.refl _ _).alloc (Nat.le_refl _) _))
  clear hA0 hb0 hv0 hb1 hb2
  go_wp2_with (refine wpList_allocStore 24 17 7 (cellsW r) (cellsW 0) rfl rfl rfl rfl rfl rfl (by decide) (by simp) rfl (by kernel_rfl) rfl iR.out nR.out ?_; simp only [Act.put, List.setIfInBounds_toArray, List.set_cons_zero, List.set_cons_succ])
  refine (r2.out _ hv1.out).mono ?_
  rintro e w2 ⟨rfl, hb4⟩
  have hA2 := hid ((hA1.out.below hb4 hA1.out.lt).alloc (.cells (cellsW r) 24))
  have hR2 := hid ((hR1.out.below hb4 hR1.out.lt).alloc (.cells (cellsW r) 24))
  have hS2 := hid (ArrW.new 24 w2 r)
  have hb5 := hb3.trans (hb4.mono hb3.size)
  have hb6 := hb5.alloc hb5.size (.cells (cellsW r) 24)
  clear hA1 hR1 hv1 hb3 hb4 hb5
  go_wp2_with (first | (refine wpList_allocStore 24 22 9 (cellsW r) (cellsW 0) rfl rfl rfl rfl rfl rfl (by decide) (by simp) rfl (by kernel_rfl) rfl iR.out nR.out ?_; simp only [Act.put, List.setIfInBounds_toArray, List.set_cons_zero, List.set_cons_succ]) | (refine wpList_load_row rfl 24 (.tmp 3) rfl w.heap.size rfl 24 _ (0, 0) _ hA2.out uWd rfl iX.out ?_; simp only [Act.put, List.setIfInBounds_toArray, List.set_cons_zero, List.set_cons_succ]))
  refine (u1.out _).mono ?_
  rintro e w3 ⟨rfl, hb7⟩
  have hA3 := hid (hA2.out.below hb7 hA2.out.lt)
  have hR3 := hid (hR2.out.below hb7 hR2.out.lt)
  have hS3 := hid (hS2.out.below hb7 hS2.out.lt)
  have hb8 := hb6.trans (hb7.mono hb6.size)
  have c0 := hA3.out.cell 0 (by omega)
  have c1 := hA3.out.cell 1 (by omega)
  have c2 := hA3.out.cell 2 (by omega)
  have c3 := hA3.out.cell 3 (by omega)
  have lA := hA3.out.lt
  clear hA2 hR2 hS2 hb6 hb7
  rcases hcase with ⟨rfl, rfl, hc3⟩ | ⟨rfl, hc2, rfl⟩
  all_goals
    (try rw [hc3] at c0)
    (try clear hc3)
    (try have hti : ((t : Int) == 0) = false := beq_eq_false_iff_ne.2 (by omega))
    go_wp2_with fail
    ((try simp only [World.size_alloc]); refine wp_region_loose [.kn (.agg (cellsW (r))), .kn (.agg (cellsW (r))), .kn (.bool true), .kn (.bool true), .kn (.int .i64 e1), .kn (.int .i64 e1), .kn (.bool true), .kn (.bool true), .kn (.bool true), .kn (.agg (cellsW (x))), .lo (fun v w => RdY w v (be 32 x)), .kn (.agg (cellsW (x))), .lo (fun v w => RdY w v (be 32 x)), .kn (.bool true), .kn (.bool true), .kn (.bool true), .kn (.agg (cellsW (x))), .lo (fun v w => RdY w v (shortW x)), .kn (.agg (cellsW (x))), .lo (fun v w => RdY w v (shortW x)), .kn (.bool true), .kn (.bool true), .kn (.bool true), .kn (.agg (cellsW (x))), .kn (.int .i64 ((wlen x : Nat) : Int)), .kn (.agg (cellsW (x))), .lo (fun v w => RdY w v (shortW x)), .kn (.int .i64 ((wlen x : Nat) : Int)), .kn (.bool true), .kn (.bool true), .kn (.bool true), .kn (.int .u64 (m : Int)), .kn (.agg #[.int .u64 (m : Int), .int .u64 0, .int .u64 0, .int .u64 0]), .kn (.int .u64 (m : Int)), .kn (.agg #[.int .u64 (m : Int), .int .u64 0, .int .u64 0, .int .u64 0]), .kn (.bool true), .kn (.bool true), .kn (.bool true), .kn (.bool true), .kn (.bool true), .kn (.bool true)] (by kernel_rfl) (by kernel_rfl) (by kernel_rfl) (by first | exact trivial | ((repeat (first | refine keepsAll_kn ?_ | (refine keepsAll_lo (fun v w w' h hb => ?_) ?_; first | exact RdN.below h hb | exact RdL.below h hb | exact RdY.below h hb | (obtain ⟨b, e, h1⟩ := h; exact ⟨b, e, ArrY.below h1 hb (ArrY.lt h1)⟩) | (obtain ⟨v1, v2, e, h1, h2⟩ := h; exact ⟨v1, v2, e, RdN.below h1 hb, RdN.below h2 hb⟩)))); exact trivial)) ?_)
    (refine loose_step_on rfl (fun W' hB' hd K hK => wp_load_block 24 (.tmp 7) rfl w1.heap.size rfl 24 _ _ (ArrW.below hR3.out hB' (ArrW.lt hR3.out)) uWd rfl iR.out (hK _ _ (Below.refl _ _) rfl)) ?_; rintro _ rfl; simp only [Act.put, List.setIfInBounds_toArray, List.set_cons_zero, List.set_cons_succ])
    (refine loose_step_on rfl (fun W' hB' hd K hK => wp_load_block 24 (.tmp 9) rfl w2.heap.size rfl 24 _ _ (ArrW.below hS3.out hB' (ArrW.lt hS3.out)) uWd rfl iR.out (hK _ _ (Below.refl _ _) rfl)) ?_; rintro _ rfl; simp only [Act.put, List.setIfInBounds_toArray, List.set_cons_zero, List.set_cons_succ])
    (refine loose_step_on rfl (fun W' hB' hd K hK => ?_) ?_; (focus (clear hd; go_simp; exact hK _ _ (Below.refl _ _) rfl)); rintro _ rfl; simp only [Act.put, List.setIfInBounds_toArray, List.set_cons_zero, List.set_cons_succ])
    (refine loose_step_on rfl (fun W' hB' hd K hK => ?_) ?_; (focus (clear hd; go_simp; exact hK _ _ (Below.refl _ _) rfl)); rintro _ rfl; simp only [Act.put, List.setIfInBounds_toArray, List.set_cons_zero, List.set_cons_succ])
    (refine loose_step_on rfl (fun W' hB' hd K hK => ?_) ?_; (focus (clear hd; go_simp; exact hK _ _ (Below.refl _ _) rfl)); rintro _ rfl; simp only [Act.put, List.setIfInBounds_toArray, List.set_cons_zero, List.set_cons_succ])
    (refine loose_step_on rfl (fun W' hB' hd K hK => ?_) ?_; (focus (clear hd; go_simp; exact hK _ _ (Below.refl _ _) rfl)); rintro _ rfl; simp only [Act.put, List.setIfInBounds_toArray, List.set_cons_zero, List.set_cons_succ])
    (refine loose_step_on rfl (fun W' hB' hd K hK => ?_) ?_; (focus (clear hd; go_simp; exact hK _ _ (Below.refl _ _) rfl)); rintro _ rfl; simp only [Act.put, List.setIfInBounds_toArray, List.set_cons_zero, List.set_cons_succ])
    (refine loose_step_on rfl (fun W' hB' hd K hK => ?_) ?_; (focus (clear hd; go_simp; exact hK _ _ (Below.refl _ _) rfl)); rintro _ rfl; simp only [Act.put, List.setIfInBounds_toArray, List.set_cons_zero, List.set_cons_succ])
    (refine loose_step_on rfl (fun W' hB' hd K hK => ?_) ?_; (focus (clear hd; go_simp; exact hK _ _ (Below.refl _ _) rfl)); rintro _ rfl; simp only [Act.put, List.setIfInBounds_toArray, List.set_cons_zero, List.set_cons_succ])
    (refine loose_step_on rfl (fun W' hB' hd K hK => wp_load_block 24 (.tmp 3) rfl w.heap.size rfl 24 _ _ (ArrW.below hA3.out hB' (ArrW.lt hA3.out)) uWd rfl iX.out (hK _ _ (Below.refl _ _) rfl)) ?_; rintro _ rfl; simp only [Act.put, List.setIfInBounds_toArray, List.set_cons_zero, List.set_cons_succ])
    (refine loose_step_on rfl (fun W' hB' hd K hK => ?_) ?_; (focus (skip; clear hd; go_simp; refine (b1.out _).mono ?_; rintro _ _ ⟨v', rfl, hr, hb'⟩; exact hK v' _ hb' hr)); intro v68 _; simp only [Act.put, List.setIfInBounds_toArray, List.set_cons_zero, List.set_cons_succ])
    (refine loose_step_on rfl (fun W' hB' hd K hK => wp_load_block 24 (.tmp 3) rfl w.heap.size rfl 24 _ _ (ArrW.below hA3.out hB' (ArrW.lt hA3.out)) uWd rfl iX.out (hK _ _ (Below.refl _ _) rfl)) ?_; rintro _ rfl; simp only [Act.put, List.setIfInBounds_toArray, List.set_cons_zero, List.set_cons_succ])
    (refine loose_step_on rfl (fun W' hB' hd K hK => ?_) ?_; (focus (skip; clear hd; go_simp; refine (b2.out _).mono ?_; rintro _ _ ⟨v', rfl, hr, hb'⟩; exact hK v' _ hb' hr)); intro v70 _; simp only [Act.put, List.setIfInBounds_toArray, List.set_cons_zero, List.set_cons_succ])
    (refine loose_step_on rfl (fun W' hB' hd K hK => ?_) ?_; (focus (have g68 : RdY W' v68 (be 32 x) := hd ⟨10, Ground.data⟩ (by simp) rfl _ 68 rfl rfl (by simp); have g70 : RdY W' v70 (be 32 x) := hd ⟨12, Ground.data⟩ (by simp) rfl _ 70 rfl rfl (by simp); clear hd; go_simp; refine (hS.out _ _ _ _ g68 g70).mono ?_; rintro _ _ ⟨rfl, hb'⟩; exact hK _ _ hb' rfl)); rintro _ rfl; simp only [Act.put, List.setIfInBounds_toArray, List.set_cons_zero, List.set_cons_succ])
    (refine loose_step_on rfl (fun W' hB' hd K hK => ?_) ?_; (focus (clear hd; go_simp; exact hK _ _ (Below.refl _ _) rfl)); rintro _ rfl; simp only [Act.put, List.setIfInBounds_toArray, List.set_cons_zero, List.set_cons_succ])
    (refine loose_step_on rfl (fun W' hB' hd K hK => ?_) ?_; (focus (clear hd; go_simp; exact hK _ _ (Below.refl _ _) rfl)); rintro _ rfl; simp only [Act.put, List.setIfInBounds_toArray, List.set_cons_zero, List.set_cons_succ])
    (refine loose_step_on rfl (fun W' hB' hd K hK => wp_load_block 24 (.tmp 3) rfl w.heap.size rfl 24 _ _ (ArrW.below hA3.out hB' (ArrW.lt hA3.out)) uWd rfl iX.out (hK _ _ (Below.refl _ _) rfl)) ?_; rintro _ rfl; simp only [Act.put, List.setIfInBounds_toArray, List.set_cons_zero, List.set_cons_succ])
    (refine loose_step_on rfl (fun W' hB' hd K hK => ?_) ?_; (focus (skip; clear hd; go_simp; refine (s1.out _).mono ?_; rintro _ _ ⟨v', rfl, hr, hb'⟩; exact hK v' _ hb' hr)); intro v75 _; simp only [Act.put, List.setIfInBounds_toArray, List.set_cons_zero, List.set_cons_succ])
    (refine loose_step_on rfl (fun W' hB' hd K hK => wp_load_block 24 (.tmp 3) rfl w.heap.size rfl 24 _ _ (ArrW.below hA3.out hB' (ArrW.lt hA3.out)) uWd rfl iX.out (hK _ _ (Below.refl _ _) rfl)) ?_; rintro _ rfl; simp only [Act.put, List.setIfInBounds_toArray, List.set_cons_zero, List.set_cons_succ])
    (refine loose_step_on rfl (fun W' hB' hd K hK => ?_) ?_; (focus (skip; clear hd; go_simp; refine (s2.out _).mono ?_; rintro _ _ ⟨v', rfl, hr, hb'⟩; exact hK v' _ hb' hr)); intro v77 _; simp only [Act.put, List.setIfInBounds_toArray, List.set_cons_zero, List.set_cons_succ])
    (refine loose_step_on rfl (fun W' hB' hd K hK => ?_) ?_; (focus (have g75 : RdY W' v75 (shortW x) := hd ⟨17, Ground.data⟩ (by simp) rfl _ 75 rfl rfl (by simp); have g77 : RdY W' v77 (shortW x) := hd ⟨19, Ground.data⟩ (by simp) rfl _ 77 rfl rfl (by simp); clear hd; go_simp; refine (hS.out _ _ _ _ g75 g77).mono ?_; rintro _ _ ⟨rfl, hb'⟩; exact hK _ _ hb' rfl)); rintro _ rfl; simp only [Act.put, List.setIfInBounds_toArray, List.set_cons_zero, List.set_cons_succ])
    (refine loose_step_on rfl (fun W' hB' hd K hK => ?_) ?_; (focus (clear hd; go_simp; exact hK _ _ (Below.refl _ _) rfl)); rintro _ rfl; simp only [Act.put, List.setIfInBounds_toArray, List.set_cons_zero, List.set_cons_succ])
    (refine loose_step_on rfl (fun W' hB' hd K hK => ?_) ?_; (focus (clear hd; go_simp; exact hK _ _ (Below.refl _ _) rfl)); rintro _ rfl; simp only [Act.put, List.setIfInBounds_toArray, List.set_cons_zero, List.set_cons_succ])
    (refine loose_step_on rfl (fun W' hB' hd K hK => wp_load_block 24 (.tmp 3) rfl w.heap.size rfl 24 _ _ (ArrW.below hA3.out hB' (ArrW.lt hA3.out)) uWd rfl iX.out (hK _ _ (Below.refl _ _) rfl)) ?_; rintro _ rfl; simp only [Act.put, List.setIfInBounds_toArray, List.set_cons_zero, List.set_cons_succ])
    (refine loose_step_on rfl (fun W' hB' hd K hK => ?_) ?_; (focus (skip; clear hd; go_simp; refine (l1.out _).mono ?_; rintro _ _ ⟨rfl, hb'⟩; exact hK _ _ hb' rfl)); rintro _ rfl; simp only [Act.put, List.setIfInBounds_toArray, List.set_cons_zero, List.set_cons_succ])
    (refine loose_step_on rfl (fun W' hB' hd K hK => wp_load_block 24 (.tmp 3) rfl w.heap.size rfl 24 _ _ (ArrW.below hA3.out hB' (ArrW.lt hA3.out)) uWd rfl iX.out (hK _ _ (Below.refl _ _) rfl)) ?_; rintro _ rfl; simp only [Act.put, List.setIfInBounds_toArray, List.set_cons_zero, List.set_cons_succ])
    (refine loose_step_on rfl (fun W' hB' hd K hK => ?_) ?_; (focus (skip; clear hd; go_simp; refine (s2.out _).mono ?_; rintro _ _ ⟨v', rfl, hr, hb'⟩; exact hK v' _ hb' hr)); intro v84 _; simp only [Act.put, List.setIfInBounds_toArray, List.set_cons_zero, List.set_cons_succ])
    (refine loose_step_on rfl (fun W' hB' hd K hK => ?_) ?_; (focus (have g84 : RdY W' v84 (shortW x) := hd ⟨26, Ground.data⟩ (by simp) rfl _ 84 rfl rfl (by simp); clear hd; obtain ⟨a84, c84, rfl, _, _⟩ := g84; go_simp; exact hK (.int .i64 (((shortW x).length : Nat) : Int)) _ (Below.refl _ _) (show Value.int .i64 (((shortW x).length : Nat) : Int) = .int .i64 ((wlen x : Nat) : Int) by rw [hsl.out]))); rintro _ rfl; simp only [Act.put, List.setIfInBounds_toArray, List.set_cons_zero, List.set_cons_succ])
    (refine loose_step_on rfl (fun W' hB' hd K hK => ?_) ?_; (focus (clear hd; go_simp; exact hK _ _ (Below.refl _ _) rfl)); rintro _ rfl; simp only [Act.put, List.setIfInBounds_toArray, List.set_cons_zero, List.set_cons_succ])
    (refine loose_step_on rfl (fun W' hB' hd K hK => ?_) ?_; (focus (clear hd; go_simp; exact hK _ _ (Below.refl _ _) rfl)); rintro _ rfl; simp only [Act.put, List.setIfInBounds_toArray, List.set_cons_zero, List.set_cons_succ])
    (refine loose_step_on rfl (fun W' hB' hd K hK => ?_) ?_; (focus (clear hd; go_simp; exact hK _ _ (Below.refl _ _) rfl)); rintro _ rfl; simp only [Act.put, List.setIfInBounds_toArray, List.set_cons_zero, List.set_cons_succ])
    (refine loose_step_on rfl (fun W' hB' hd K hK => ?_) ?_; (focus (clear hd; go_simp; exact hK _ _ (Below.refl _ _) rfl)); rintro _ rfl; simp only [Act.put, List.setIfInBounds_toArray, List.set_cons_zero, List.set_cons_succ])
    (refine loose_step_on rfl (fun W' hB' hd K hK => ?_) ?_; (focus (skip; clear hd; go_simp; refine (o1.out _).mono ?_; rintro _ _ ⟨rfl, hb'⟩; exact hK _ _ hb' rfl)); rintro _ rfl; simp only [Act.put, List.setIfInBounds_toArray, List.set_cons_zero, List.set_cons_succ])
    (refine loose_step_on rfl (fun W' hB' hd K hK => ?_) ?_; (focus (clear hd; go_simp; exact hK _ _ (Below.refl _ _) rfl)); rintro _ rfl; simp only [Act.put, List.setIfInBounds_toArray, List.set_cons_zero, List.set_cons_succ])
    (refine loose_step_on rfl (fun W' hB' hd K hK => ?_) ?_; (focus (clear hd; go_simp; exact hK _ _ (Below.refl _ _) rfl)); rintro _ rfl; simp only [Act.put, List.setIfInBounds_toArray, List.set_cons_zero, List.set_cons_succ])
    (refine loose_step_on rfl (fun W' hB' hd K hK => ?_) ?_; (focus (clear hd; go_simp; exact hK _ _ (Below.refl _ _) rfl)); rintro _ rfl; simp only [Act.put, List.setIfInBounds_toArray, List.set_cons_zero, List.set_cons_succ])
    (refine loose_step_on rfl (fun W' hB' hd K hK => ?_) ?_; (focus (clear hd; go_simp; exact hK _ _ (Below.refl _ _) rfl)); rintro _ rfl; simp only [Act.put, List.setIfInBounds_toArray, List.set_cons_zero, List.set_cons_succ])
    (refine loose_step_on rfl (fun W' hB' hd K hK => ?_) ?_; (focus (clear hd; go_simp; exact hK _ _ (Below.refl _ _) rfl)); rintro _ rfl; simp only [Act.put, List.setIfInBounds_toArray, List.set_cons_zero, List.set_cons_succ])
    (refine loose_step_on rfl (fun W' hB' hd K hK => ?_) ?_; (focus (skip; clear hd; go_simp; refine (walive_any _).mono ?_; rintro _ _ ⟨rfl, hb'⟩; exact hK _ _ hb' rfl)); rintro _ rfl; simp only [Act.put, List.setIfInBounds_toArray, List.set_cons_zero, List.set_cons_succ])
    (refine loose_step_on rfl (fun W' hB' hd K hK => ?_) ?_; (focus (clear hd; go_simp; exact hK _ _ (Below.refl _ _) rfl)); rintro _ rfl; simp only [Act.put, List.setIfInBounds_toArray, List.set_cons_zero, List.set_cons_succ])
    (refine loose_step_on rfl (fun W' hB' hd K hK => ?_) ?_; (focus (clear hd; go_simp; exact hK _ _ (Below.refl _ _) rfl)); rintro _ rfl; simp only [Act.put, List.setIfInBounds_toArray, List.set_cons_zero, List.set_cons_succ])
    intro w6 hb6' _
    go_wp2_with fail
    go_ret
    exact ⟨rfl, hb8.trans (hb6'.mono hb8.size)⟩
end Go.Proofs.Ytblnjnhneliffaa
