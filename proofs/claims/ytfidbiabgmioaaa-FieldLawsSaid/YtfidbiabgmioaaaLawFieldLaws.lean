import Derived.Test.YtfidbiabgmioaaaFldP
import Derived.Test.YtfidbiabgmioaaaLawZ
import Derived.Test.YtfidbiabgmioaaaApart
import Derived.Test.YtfidbiabgmioaaaPock
/-! FieldLaws. -/
set_option maxRecDepth 4000
set_option linter.unusedVariables false
set_option linter.unusedSimpArgs false
namespace Go.Proofs.Ytfidbiabgmioaaa
open Go.RowKit

theorem pN_prime : IsP pN := ip_p
theorem inv_law (a : Nat) : a * powP a (pN - 2) % pN = if a % pN = 0 then 0 else 1 := by
  unfold powP
  split
  · rename_i h; rw [Nat.mul_mod, h, Nat.zero_mul, Nat.zero_mod]
  · rename_i h
    rw [Nat.mul_mod, Nat.mod_mod, ← Nat.mul_mod, Nat.mul_comm, ← Nat.pow_succ, show (pN - 2).succ = pN - 1 by decide +kernel]
    exact fermat pN pN_prime a h
theorem two_roots (h p : Nat) (hp : IsP p) (hl : h < p) (hh : h * h % p = 1) : h = 1 ∨ h = p - 1 := by
  have h2 := hp.1
  have h0 : 1 ≤ h := by
    rcases Nat.eq_zero_or_pos h with e | e
    · rw [e, Nat.zero_mul, Nat.zero_mod] at hh; omega
    · exact e
  obtain ⟨g, rfl⟩ : ∃ g, h = g + 1 := ⟨h - 1, by omega⟩
  have e1 : (g + 1) * (g + 1) - 1 = g * (g + 2) := by
    rw [Nat.mul_add, Nat.add_mul, Nat.mul_add]; omega
  have hd : p ∣ g * (g + 2) := by
    rw [← e1]; exact dvd_sub_mod 1 _ p (by rw [hh, Nat.mod_eq_of_lt (by omega)])
  rcases hp.euclid hd with h3 | h3
  · rcases Nat.eq_zero_or_pos g with e | e
    · exact .inl (by omega)
    · have := Nat.le_of_dvd e h3; omega
  · have := Nat.le_of_dvd (by omega) h3; exact .inr (by omega)
theorem neg_sq (x p : Nat) (h : x ≤ p) : (p - x) * (p - x) % p = x * x % p := by
  obtain ⟨y, rfl⟩ : ∃ y, p = x + y := ⟨p - x, by omega⟩
  rw [Nat.add_sub_cancel_left]
  have e : y * y + (x + y) * x = x * x + (x + y) * y := by
    rw [Nat.add_mul, Nat.add_mul, Nat.mul_comm y x]; omega
  have h1 := Nat.add_mul_mod_self_left (y * y) (x + y) x
  have h2 := Nat.add_mul_mod_self_left (x * x) (x + y) y
  rw [← h1, e, h2]
theorem m_sq (x y p : Nat) : (x * y % p) * (x * y % p) % p = (x * x % p) * (y * y % p) % p := by
  rw [← Nat.mul_mod, ← Nat.mul_mod, Nat.mul_mul_mul_comm]
theorem sq_root (a : Nat) : sqOk (a * a % pN) = true ∧ sqX (a * a % pN) * sqX (a * a % pN) % pN = a * a % pN ∧ sqX (a * a % pN) % 2 = 0 := by
  obtain ⟨s, hs⟩ : ∃ s, s = a * a % pN := ⟨_, rfl⟩
  have hsl : s % pN = s := by rw [hs, Nat.mod_mod]
  have hok : sq1 s * sq1 s % pN = s := by
    unfold sq1
    split
    · rename_i h; rw [hsl] at h; exact h
    · rename_i h
      rw [hsl] at h
      -- the square of the first try: s times a square root of one
      have e0 : sq0 s * sq0 s % pN = (a * a % pN) * (a ^ ((pN - 1) / 2) % pN) % pN := by
        unfold sq0 powP
        rw [hsl, ← Nat.mul_mod, ← Nat.pow_add, hs, ← Nat.mul_mod]
        rw [pow_mod_cong (Nat.mod_mod (a * a) pN), ← Nat.pow_two, ← Nat.pow_mul, ← Nat.pow_add]
        rw [show 2 * ((pN + 3) / 8 + (pN + 3) / 8) = 2 + (pN - 1) / 2 by decide +kernel]
      obtain ⟨g, hg⟩ : ∃ g, g = a ^ ((pN - 1) / 2) % pN := ⟨_, rfl⟩
      rw [← hg, ← hs] at e0
      by_cases ha : a % pN = 0
      · have : s = 0 := by rw [hs, Nat.mul_mod, ha, Nat.mul_zero, Nat.zero_mod]
        rw [this, Nat.zero_mul, Nat.zero_mod] at e0
        rw [this] at h
        exact absurd e0 h
      · have hg2 : g * g % pN = 1 := by
          rw [hg, ← Nat.mul_mod, ← Nat.pow_add, show (pN - 1) / 2 + (pN - 1) / 2 = pN - 1 by decide +kernel]
          exact fermat pN pN_prime a ha
        rcases two_roots g pN pN_prime (by rw [hg]; exact Nat.mod_lt _ pN_pos) hg2 with e | e
        · rw [e, Nat.mul_one, hsl] at e0
          exact absurd e0 h
        · rw [m_sq, e0, show powP 2 (pN / 4) * powP 2 (pN / 4) % pN = pN - 1 by rw [pow_i]; decide +kernel, e, Nat.mul_mod, Nat.mod_mod, ← Nat.mul_mod, Nat.mul_assoc, Nat.mul_mod, show (pN - 1) * (pN - 1) % pN = 1 by decide +kernel, Nat.mul_one, Nat.mod_mod, hsl]
  have hk : sqOk s = true := by unfold sqOk; rw [hsl]; exact decide_eq_true hok
  rw [← hs]
  refine ⟨hk, ?_, ?_⟩
  · unfold sqX
    rw [if_pos hk]
    split
    · rw [neg_sq _ _ (Nat.le_of_lt (sq1_lt s))]; exact hok
    · exact hok
  · unfold sqX
    rw [if_pos hk]
    have hl := sq1_lt s
    have ho : pN % 2 = 1 := by decide +kernel
    split
    · omega
    · omega
theorem dist_law (a b c p : Nat) : a * ((b + c) % p) % p = (a * b % p + a * c % p) % p := by
  rw [← Nat.add_mod, ← Nat.mul_add, Nat.mul_mod, Nat.mod_mod, ← Nat.mul_mod]
theorem sub_law (a b : Nat) : subP ((a + b) % pN) b = a % pN := by
  unfold subP
  have hb := Nat.mod_lt b pN_pos
  rw [Nat.add_mod, Nat.mod_mod, ← Nat.add_mod]
  have h := Nat.div_add_mod b pN
  rw [show a + b + (pN - b % pN) = a + pN + pN * (b / pN) by omega, Nat.add_mul_mod_self_left, Nat.add_mod_right]

set_option maxRecDepth 100000 in
set_option maxHeartbeats 8000000 in
theorem walk_FieldLaws (w : World) (x0 : List Int) (lx : x0.length = 4) (wx : ∀ y ∈ x0, (Lit.int .u64 y).wf = true) (y0 : List Int) (ly : y0.length = 4) (wy : ∀ y ∈ y0, (Lit.int .u64 y).wf = true) (z0 : List Int) (lz : z0.length = 4) (wz : ∀ y ∈ z0, (Lit.int .u64 y).wf = true) :
    Calls Try.prog 12 #[.agg (x0.map (Value.int .u64)).toArray, .agg (y0.map (Value.int .u64)).toArray, .agg (z0.map (Value.int .u64)).toArray] w fun e w' => e = .returned (.bool true) ∧ Below w.heap.size w w' := by
  obtain ⟨a, ha, ea⟩ := word_arg x0 lx wx
  obtain ⟨b, hb, eb⟩ := word_arg y0 ly wy
  obtain ⟨c, hc, ec⟩ := word_arg z0 lz wz
  rw [ea, eb, ec]
  clear ea lx wx x0 eb ly wy y0 ec lz wz z0
  have hil := inv_law a
  have hsr := sq_root a
  have hdl := dist_law a b c pN
  have hdl2 := dist_law a b c lN
  have hsu := sub_law a b
  have pm : ∀ x, x % pN < 2 ^ 256 := p_mod_lt
  have lm : ∀ x, x % lN < 2 ^ 256 := fun x => Nat.lt_trans (Nat.mod_lt _ lN_pos) lN_lt
  have hrl : sqX (a * a % pN) < 2 ^ 256 := by
    unfold sqX
    have h1 := sq1_lt (a * a % pN)
    have h2 := pN_lt
    split
    · split <;> omega
    · decide
  have A1 := hid fun w => fadd_any a 0 w ha (by decide)
  rw [Nat.add_zero] at A1
  have A2 := hid fun w => finv_any a w ha
  have A3 := hid fun w => fmul_any a (powP a (pN - 2)) w ha (powP_lt _ _)
  rw [hil] at A3
  have A4 := hid fun w => fmul_any a a w ha ha
  have A5 := hid fun w => fsqrt_any (a * a % pN) w (pm _)
  rw [hsr.1] at A5
  have A6 := hid fun w => fmul_any (sqX (a * a % pN)) (sqX (a * a % pN)) w hrl hrl
  rw [hsr.2.1] at A6
  have A7 := hid fun w => fadd_any b c w hb hc
  have A8 := hid fun w => fmul_any a ((b + c) % pN) w ha (pm _)
  rw [hdl] at A8
  have A9 := hid fun w => fmul_any a b w ha hb
  have A10 := hid fun w => fmul_any a c w ha hc
  have A11 := hid fun w => fadd_any (a * b % pN) (a * c % pN) w (pm _) (pm _)
  have A12 := hid fun w => fadd_any a b w ha hb
  have A13 := hid fun w => fsub_any ((a + b) % pN) b w (pm _) hb
  rw [hsu] at A13
  have A14 := hid fun w => ladd_any b c w hb hc
  have A15 := hid fun w => lmul_any a ((b + c) % lN) w ha (lm _)
  rw [hdl2] at A15
  have A16 := hid fun w => lmul_any a b w ha hb
  have A17 := hid fun w => lmul_any a c w ha hc
  have A18 := hid fun w => ladd_any (a * b % lN) (a * c % lN) w (lm _) (lm _)
  have q0 := eq_wd (a % pN) 0 (pm _) (by decide)
  have q1 := eq_wd (if a % pN = 0 then 0 else 1) 0 (by split <;> decide) (by decide)
  have q2 := eq_self 1 (by decide)
  have q3 := eq_self (a * a % pN) (pm _)
  have q4 := eq_self ((a * b % pN + a * c % pN) % pN) (pm _)
  have q5 := eq_self (a % pN) (pm _)
  have q6 := eq_self ((a * b % lN + a * c % lN) % lN) (lm _)
  have hev := hsr.2.2
  clear pm lm hil hdl hdl2 hsu hsr hrl
  obtain ⟨z, hz⟩ : ∃ z, z = a % pN := ⟨_, rfl⟩
  rw [← hz] at A1 A13 A3 q0 q1 q5
  obtain ⟨s, hs⟩ : ∃ s, s = a * a % pN := ⟨_, rfl⟩
  rw [← hs] at A4 A5 A6 q3 hev
  obtain ⟨r, hr⟩ : ∃ r, r = sqX s := ⟨_, rfl⟩
  rw [← hr] at A5 A6 hev
  obtain ⟨v, hv⟩ : ∃ v, v = powP a (pN - 2) := ⟨_, rfl⟩
  rw [← hv] at A2 A3
  obtain ⟨d1, hd1⟩ : ∃ d, d = (b + c) % pN := ⟨_, rfl⟩
  rw [← hd1] at A7 A8
  obtain ⟨d2, hd2⟩ : ∃ d, d = a * b % pN := ⟨_, rfl⟩
  rw [← hd2] at A8 A9 A11 q4
  obtain ⟨d3, hd3⟩ : ∃ d, d = a * c % pN := ⟨_, rfl⟩
  rw [← hd3] at A8 A10 A11 q4
  obtain ⟨d4, hd4⟩ : ∃ d, d = (d2 + d3) % pN := ⟨_, rfl⟩
  rw [← hd4] at A8 A11 q4
  obtain ⟨d5, hd5⟩ : ∃ d, d = (a + b) % pN := ⟨_, rfl⟩
  rw [← hd5] at A12 A13
  obtain ⟨d6, hd6⟩ : ∃ d, d = (b + c) % lN := ⟨_, rfl⟩
  rw [← hd6] at A14 A15
  obtain ⟨d7, hd7⟩ : ∃ d, d = a * b % lN := ⟨_, rfl⟩
  rw [← hd7] at A15 A16 A18 q6
  obtain ⟨d8, hd8⟩ : ∃ d, d = a * c % lN := ⟨_, rfl⟩
  rw [← hd8] at A15 A17 A18 q6
  obtain ⟨d9, hd9⟩ : ∃ d, d = (d7 + d8) % lN := ⟨_, rfl⟩
  rw [← hd9] at A15 A18 q6
  clear hz hs hr hv hd1 hd2 hd3 hd4 hd5 hd6 hd7 hd8 hd9 ha hb hc
  have hbit : bits .and .u64 (Go.Proofs.Ytfidbiabgmioaaa.lm r 0) 1 = 0 := by
    unfold Go.Proofs.Ytfidbiabgmioaaa.lm
    rw [show (1 : Int) = ((1 : Nat) : Int) from rfl, u64_and_nat _ _ (lmN_lt _ _) (by decide), show (1 : Nat) = 2 ^ 1 - 1 from rfl, Nat.and_two_pow_sub_one_eq_mod, lmN_zero']
    have : r % 2 ^ 64 % 2 ^ 1 = 0 := by omega
    rw [this]; rfl
  clear hev
  obtain ⟨i, hi⟩ : ∃ i, i = if z = 0 then 0 else 1 := ⟨_, rfl⟩
  rw [← hi] at A3 q1
  have q7 : ∀ w, (Op.equalIn 10000 24 (.agg (cellsW i)) (.agg (cellsW 1))).run Try.prog w = .ok (decide (i = 1)) w := eq_wd i 1 (by rw [hi]; split <;> decide) (by decide)
  obtain ⟨zb, h0, h1, h7⟩ : ∃ zb, decide (z = 0) = zb ∧ decide (i = 0) = zb ∧ decide (i = 1) = !zb := by
    by_cases h : z = 0
    · rw [if_pos h] at hi; subst hi; exact ⟨true, by simp [h], by simp, by simp⟩
    · rw [if_neg h] at hi; subst hi; exact ⟨false, by simp [h], by simp, by simp⟩
  rw [h0] at q0
  rw [h1] at q1
  rw [h7] at q7
  clear h0 h1 h7 hi
  unfold wd at *
  have iA := hid (iW a)
  have iB := hid (iW b)
  have iC := hid (iW c)
  have i1 := hid (iW 1)
  have n1 := hid (one_cellsW 1)
  have iI := hid (iW i)
  have nI := hid (one_cellsW i)
  have iS := hid (iW s)
  have nS := hid (one_cellsW s)
  have iR := hid (iW r)
  have nR := hid (one_cellsW r)
  have hBn := hid nil_built
  have hB1 := hid one_built
  have hA := hid (show ArrW 24 (((w.alloc (.cells (cellsW a) 24)).alloc (.cells (cellsW b) 24)).alloc (.cells (cellsW c) 24)) w.heap.size a from ((ArrW.new _ w a).alloc _).alloc _)
  have hB := hid (show ArrW 24 (((w.alloc (.cells (cellsW a) 24)).alloc (.cells (cellsW b) 24)).alloc (.cells (cellsW c) 24)) (w.heap.size + 1) b by
    have := ArrW.new 24 (w.alloc (.cells (cellsW a) 24)) b
    rw [World.size_alloc] at this; exact this.alloc _)
  have hC := hid (show ArrW 24 (((w.alloc (.cells (cellsW a) 24)).alloc (.cells (cellsW b) 24)).alloc (.cells (cellsW c) 24)) (w.heap.size + 2) c by
    have := ArrW.new 24 ((w.alloc (.cells (cellsW a) 24)).alloc (.cells (cellsW b) 24)) c
    rw [World.size_alloc, World.size_alloc] at this; exact this)
  have hb0 : Below w.heap.size w (((w.alloc (.cells (cellsW a) 24)).alloc (.cells (cellsW b) 24)).alloc (.cells (cellsW c) 24)) := (((Below.refl _ _).alloc (Nat.le_refl _) _).alloc (by simp) _).alloc (by simp; omega) _
  have hO1 := hid (ArrW.new 24 (((w.alloc (.cells (cellsW a) 24)).alloc (.cells (cellsW b) 24)).alloc (.cells (cellsW c) 24)) 1)
  have hA1 := hid (hA.out.alloc (.cells (cellsW 1) 24))
  have hB2 := hid (hB.out.alloc (.cells (cellsW 1) 24))
  have hC1 := hid (hC.out.alloc (.cells (cellsW 1) 24))
  have hb1 := hb0.alloc hb0.size (.cells (cellsW 1) 24)
  clear hA hB hC hb0
  rw [World.size_alloc, World.size_alloc, World.size_alloc] at hO1
  go_enter Try.func12, Try.ntmps12
  go_wp2_with (first | (refine wpList_build_cells rfl 24 _ rfl (cellsW 1) (by first | exact hB1.out | (simp only [List.map_toArray, List.map_cons, List.map_nil]; exact hB1.out)) ?_; simp only [Act.put, List.setIfInBounds_toArray, List.set_cons_zero, List.set_cons_succ]) | (refine wpList_allocStore 24 13 7 (cellsW 1) (cellsW 0) rfl rfl rfl rfl rfl rfl (by decide) (by simp) rfl (by kernel_rfl) (by rw [size_cellsW, size_cellsW]) i1.out n1.out ?_; simp only [Act.put, List.setIfInBounds_toArray, List.set_cons_zero, List.set_cons_succ]) | (refine wpList_load_row rfl 24 (.tmp 3) rfl w.heap.size rfl 24 _ (0, 0) _ hA1.out uWd rfl iA.out ?_; simp only [Act.put, List.setIfInBounds_toArray, List.set_cons_zero, List.set_cons_succ]) | (refine wpList_build_cells rfl 24 _ rfl (cellsW 0) (by first | exact hBn.out | (simp only [List.map_toArray, List.map_cons, List.map_nil]; exact hBn.out)) ?_; simp only [Act.put, List.setIfInBounds_toArray, List.set_cons_zero, List.set_cons_succ]))
  (try simp only [World.size_alloc])
  generalize (((w.alloc (.cells (cellsW a) 24)).alloc (.cells (cellsW b) 24)).alloc (.cells (cellsW c) 24)).alloc (.cells (cellsW 1) 24) = w1 at hA1 hB2 hC1 hO1 hb1 ⊢
  refine (A1.out _).mono ?_
  rintro e w2 ⟨rfl, hs2⟩
  have hA2 := hid (hA1.out.step hs2)
  have hB3 := hid (hB2.out.step hs2)
  have hC2 := hid (hC1.out.step hs2)
  have hO2 := hid (hO1.out.step hs2)
  have hb2 := hb1.trans (hs2.mono hb1.size)
  clear hA1 hB2 hC1 hO1 hb1 hs2
  go_wp2_with (first | (refine wpList_build_cells rfl 24 _ rfl (cellsW 0) (by first | exact hBn.out | (simp only [List.map_toArray, List.map_cons, List.map_nil]; exact hBn.out)) ?_; simp only [Act.put, List.setIfInBounds_toArray, List.set_cons_zero, List.set_cons_succ]))
  ((try simp only [World.size_alloc]); refine wp_region_loose_apart (es := [.kn (.agg (cellsW (a))), .kn (.agg (cellsW (a))), .kn (.agg (cellsW (v))), .kn (.agg (cellsW (i))), .lo (fun v w' => ∃ b, v = .pointer (some ⟨b, 0, none⟩) ∧ ArrW 24 w' b 0 ∧ w2.heap.size ≤ b)]) 5 (by kernel_rfl) (by kernel_rfl) (by kernel_rfl) (by first | exact trivial | ((repeat (first | refine keepsAll_kn ?_ | (refine keepsAll_lo (fun v w w' h hb => ?_) ?_; first | exact RdN.below h hb | exact RdL.below h hb | exact RdY.below h hb | (obtain ⟨b, e, h1, h2⟩ := h; exact ⟨b, e, ArrW.below h1 hb (ArrW.lt h1), h2⟩)))); exact trivial)) (by kernel_rfl) ?_; simp only [List.take_succ_cons, List.take_zero, List.drop_succ_cons, List.drop_zero])
  (refine loose_step_on rfl (fun W' hB' hd K hK => wp_load_block 24 (.tmp 3) rfl w.heap.size rfl 24 _ _ (ArrW.below hA2.out hB' (ArrW.lt hA2.out)) uWd rfl iA.out (hK _ _ (Below.refl _ _) rfl)) ?_; rintro _ rfl; simp only [Act.put, List.setIfInBounds_toArray, List.set_cons_zero, List.set_cons_succ])
  (refine loose_step_on rfl (fun W' hB' hd K hK => wp_load_block 24 (.tmp 3) rfl w.heap.size rfl 24 _ _ (ArrW.below hA2.out hB' (ArrW.lt hA2.out)) uWd rfl iA.out (hK _ _ (Below.refl _ _) rfl)) ?_; rintro _ rfl; simp only [Act.put, List.setIfInBounds_toArray, List.set_cons_zero, List.set_cons_succ])
  (refine loose_step_on rfl (fun W' hB' hd K hK => ?_) ?_; (focus (skip; clear hd; go_simp; refine (A2.out _).mono ?_; rintro _ _ ⟨rfl, hb'⟩; exact hK _ _ hb' rfl)); rintro _ rfl; simp only [Act.put, List.setIfInBounds_toArray, List.set_cons_zero, List.set_cons_succ])
  (refine loose_step_on rfl (fun W' hB' hd K hK => ?_) ?_; (focus (skip; clear hd; go_simp; refine (A3.out _).mono ?_; rintro _ _ ⟨rfl, hb'⟩; exact hK _ _ hb' rfl)); rintro _ rfl; simp only [Act.put, List.setIfInBounds_toArray, List.set_cons_zero, List.set_cons_succ])
  (refine loose_step_on rfl (fun W' hB' hd K hK => ?_) ?_; (focus (exact wp_alloc_new 24 rfl (cellsW 0) zWd (hK _ _ ((Below.refl _ _).alloc (Nat.le_refl _) _) ⟨_, rfl, ArrW.new _ _ 0, Nat.le_trans (Nat.le_refl _) hB'.size⟩))); intro v9 _; simp only [Act.put, List.setIfInBounds_toArray, List.set_cons_zero, List.set_cons_succ])
  intro w3 hs3 hf hap
  clear hap
  have g9 : ∃ b, v9 = .pointer (some ⟨b, 0, none⟩) ∧ ArrW 24 w3 b 0 ∧ w2.heap.size ≤ b := hf 4 _ 9 (by first | omega | simp) rfl rfl (by simp)
  clear hf
  obtain ⟨G9, rfl, h9, l9⟩ := g9
  have hI3 := hid h9
  have hI4 := hid (hI3.out.row i)
  have lA := hA2.out.lt
  have lB := hB3.out.lt
  have lC := hC2.out.lt
  have lO := hO2.out.lt
  have hA4 := hid ((hA2.out.step hs3).otherRow (show w.heap.size ≠ G9 by omega) (cellsW i))
  have hB4 := hid ((hB3.out.step hs3).otherRow (show w.heap.size + 1 ≠ G9 by omega) (cellsW i))
  have hC4 := hid ((hC2.out.step hs3).otherRow (show w.heap.size + 2 ≠ G9 by omega) (cellsW i))
  have hO4 := hid ((hO2.out.step hs3).otherRow (show w.heap.size + 3 ≠ G9 by omega) (cellsW i))
  have hb3 := hb2.trans (hs3.mono hb2.size)
  have hb4 := below_setRow' hb3 G9 (by have := hb2.size; omega) (cellsW i)
  clear h9 l9 lA lB lC lO hs3 hA2 hB3 hC2 hO2 hb2 hb3
  go_wp2_with (first | (refine wpList_store_row rfl 24 (.tmp 9) (.tmp 22) rfl G9 _ rfl rfl 24 _ hI3.out iI.out (by rw [size_cellsW, size_cellsW]) nI.out ?_; simp only [Act.put]) | (refine wpList_load_row rfl 24 (.tmp 3) rfl w.heap.size rfl 24 _ (0, 0) _ hA4.out uWd rfl iA.out ?_; simp only [Act.put, List.setIfInBounds_toArray, List.set_cons_zero, List.set_cons_succ]))
  clear hI3
  generalize w3.setRow G9 (cellsW i) = w4 at hA4 hB4 hC4 hO4 hI4 hb4 ⊢
  refine (A4.out _).mono ?_
  rintro e w5 ⟨rfl, hs5⟩
  have hA5 := hid ((hA4.out.step hs5).alloc (.cells (cellsW s) 24))
  have hB5 := hid ((hB4.out.step hs5).alloc (.cells (cellsW s) 24))
  have hC5 := hid ((hC4.out.step hs5).alloc (.cells (cellsW s) 24))
  have hO5 := hid ((hO4.out.step hs5).alloc (.cells (cellsW s) 24))
  have hI5 := hid ((hI4.out.step hs5).alloc (.cells (cellsW s) 24))
  have hS5 := hid (ArrW.new 24 w5 s)
  have hc5 := hb4.trans (hs5.mono hb4.size)
  have hb5 := hc5.alloc hc5.size (.cells (cellsW s) 24)
  obtain ⟨G10, hG⟩ : ∃ G, G = w5.heap.size := ⟨_, rfl⟩
  have HG := hid hG
  clear hA4 hB4 hC4 hO4 hI4 hb4 hs5 hc5 hG
  go_wp2_with (first | (refine wpList_allocStore 24 25 10 (cellsW s) (cellsW 0) rfl rfl rfl rfl rfl rfl (by decide) (by simp) rfl (by kernel_rfl) (by rw [size_cellsW, size_cellsW]) iS.out nS.out ?_; simp only [Act.put, List.setIfInBounds_toArray, List.set_cons_zero, List.set_cons_succ]) | (refine wpList_load_row rfl 24 (.tmp 10) rfl w5.heap.size rfl 24 _ (0, 0) _ hS5.out uWd rfl iS.out ?_; simp only [Act.put, List.setIfInBounds_toArray, List.set_cons_zero, List.set_cons_succ]))
  rw [← HG.out] at hS5 ⊢
  generalize w5.alloc (.cells (cellsW s) 24) = w6 at hA5 hB5 hC5 hO5 hI5 hS5 hb5 ⊢
  clear HG
  refine (A5.out _).mono ?_
  rintro e w7 ⟨rfl, hs7⟩
  have hA7 := hid ((hA5.out.step hs7).alloc (.cells (cellsW r) 24))
  have hB7 := hid ((hB5.out.step hs7).alloc (.cells (cellsW r) 24))
  have hC7 := hid ((hC5.out.step hs7).alloc (.cells (cellsW r) 24))
  have hO7 := hid ((hO5.out.step hs7).alloc (.cells (cellsW r) 24))
  have hI7 := hid ((hI5.out.step hs7).alloc (.cells (cellsW r) 24))
  have hS7 := hid ((hS5.out.step hs7).alloc (.cells (cellsW r) 24))
  have hR7 := hid (ArrW.new 24 w7 r)
  have hc7 := hb5.trans (hs7.mono hb5.size)
  have hb7 := hc7.alloc hc7.size (.cells (cellsW r) 24)
  obtain ⟨G11, hG⟩ : ∃ G, G = w7.heap.size := ⟨_, rfl⟩
  have HG := hid hG
  clear hA5 hB5 hC5 hO5 hI5 hS5 hb5 hs7 hc7 hG
  go_wp2_with (first | (refine wpList_allocStore 24 29 11 (cellsW r) (cellsW 0) rfl rfl rfl rfl rfl rfl (by decide) (by simp) rfl (by kernel_rfl) (by rw [size_cellsW, size_cellsW]) iR.out nR.out ?_; simp only [Act.put, List.setIfInBounds_toArray, List.set_cons_zero, List.set_cons_succ]))
  rw [← HG.out] at hR7 ⊢
  generalize w7.alloc (.cells (cellsW r) 24) = w8 at hA7 hB7 hC7 hO7 hI7 hS7 hR7 hb7 ⊢
  clear HG
  have cR := hR7.out.cell 0 (by omega)
  have lR := hR7.out.lt
  cases zb
  all_goals
    ((try simp only [World.size_alloc]); refine wp_region_ext (by kernel_rfl) (by kernel_rfl) ?_; (try simp only [List.append_eq, List.cons_append, List.nil_append]); (repeat (first | (refine wpQuiet_load_want 24 (.tmp 9) rfl G9 rfl 24 (cellsW _) _ hI7.out uWd rfl iI.out rfl ?_; simp only [Act.put, List.setIfInBounds_toArray, List.set_cons_zero, List.set_cons_succ]) | (refine wpQuiet_load_want 24 (.tmp 7) rfl (w.heap.size + 3) rfl 24 (cellsW _) _ hO7.out uWd rfl i1.out rfl ?_; simp only [Act.put, List.setIfInBounds_toArray, List.set_cons_zero, List.set_cons_succ]) | (refine wpQuiet_load_want 24 (.tmp 11) rfl G11 rfl 24 (cellsW _) _ hR7.out uWd rfl iR.out rfl ?_; simp only [Act.put, List.setIfInBounds_toArray, List.set_cons_zero, List.set_cons_succ]) | (refine wpQuiet_load_want 24 (.tmp 10) rfl G10 rfl 24 (cellsW _) _ hS7.out uWd rfl iS.out rfl ?_; simp only [Act.put, List.setIfInBounds_toArray, List.set_cons_zero, List.set_cons_succ]) | (refine wpQuiet_build_want 24 _ rfl (cellsW 0) (by first | exact hBn.out | (simp only [List.map_toArray, List.map_cons, List.map_nil]; exact hBn.out)) rfl ?_; simp only [Act.put, List.setIfInBounds_toArray, List.set_cons_zero, List.set_cons_succ]) | go_big_quiet_step (first | (go_at_call 78; with_reducible refine Calls.ext_of (A6.out _))))); refine wpQuiet_nil ?_; rintro _ ⟨xw, rfl⟩)
    have hA9 := hid (hA7.out.ext xw)
    have hB9 := hid (hB7.out.ext xw)
    have hC9 := hid (hC7.out.ext xw)
    have hb9 := World.ext_below_of hb7 hb7.size xw
    generalize w8.ext xw = w9 at hA9 hB9 hC9 hb9 ⊢
    clear hA7 hB7 hC7 hO7 hI7 hS7 hR7 hb7 cR lR
    go_wp2_with fail
    ((try simp only [World.size_alloc]); refine wp_region_ext (by kernel_rfl) (by kernel_rfl) ?_; (try simp only [List.append_eq, List.cons_append, List.nil_append]); (repeat (first | (refine wpQuiet_load_want 24 (.tmp 3) rfl w.heap.size rfl 24 (cellsW _) _ hA9.out uWd rfl iA.out rfl ?_; simp only [Act.put, List.setIfInBounds_toArray, List.set_cons_zero, List.set_cons_succ]) | (refine wpQuiet_load_want 24 (.tmp 4) rfl (w.heap.size + 1) rfl 24 (cellsW _) _ hB9.out uWd rfl iB.out rfl ?_; simp only [Act.put, List.setIfInBounds_toArray, List.set_cons_zero, List.set_cons_succ]) | (refine wpQuiet_load_want 24 (.tmp 5) rfl (w.heap.size + 2) rfl 24 (cellsW _) _ hC9.out uWd rfl iC.out rfl ?_; simp only [Act.put, List.setIfInBounds_toArray, List.set_cons_zero, List.set_cons_succ]) | (refine wpQuiet_build_want 24 _ rfl (cellsW 0) (by first | exact hBn.out | (simp only [List.map_toArray, List.map_cons, List.map_nil]; exact hBn.out)) rfl ?_; simp only [Act.put, List.setIfInBounds_toArray, List.set_cons_zero, List.set_cons_succ]) | go_big_quiet_step (first | (go_at_call 22; with_reducible refine Calls.ext_of (A7.out _)) | (go_at_call 78; with_reducible refine Calls.ext_of (A8.out _)) | (go_at_call 78; with_reducible refine Calls.ext_of (A9.out _)) | (go_at_call 78; with_reducible refine Calls.ext_of (A10.out _)) | (go_at_call 22; with_reducible refine Calls.ext_of (A11.out _)) | (go_at_call 22; with_reducible refine Calls.ext_of (A12.out _)) | (go_at_call 79; with_reducible refine Calls.ext_of (A13.out _)) | (go_at_call 22; with_reducible refine Calls.ext_of (A1.out _)) | (go_at_call 74; with_reducible refine Calls.ext_of (A14.out _)) | (go_at_call 76; with_reducible refine Calls.ext_of (A15.out _)) | (go_at_call 76; with_reducible refine Calls.ext_of (A16.out _)) | (go_at_call 76; with_reducible refine Calls.ext_of (A17.out _)) | (go_at_call 74; with_reducible refine Calls.ext_of (A18.out _)) | (go_at_call 19; with_reducible refine Calls.ext_of (f4alive_any _))))); refine wpQuiet_nil ?_; rintro _ ⟨xw, rfl⟩)
    go_wp2_with fail
    go_ret
    exact ⟨rfl, World.ext_below_of hb9 hb9.size _⟩
end Go.Proofs.Ytfidbiabgmioaaa
