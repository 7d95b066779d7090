import Derived.Test.YtfidbiabgmioaaaLimb
import Derived.Lib.ItoaNum
/-! word: width, Zero, Of, Uint, upTo. -/
set_option maxRecDepth 4000
set_option linter.unusedVariables false
set_option linter.unusedSimpArgs false
namespace Go.Proofs.Ytfidbiabgmioaaa
open Go.RowKit

/-- How many bits. -/
def bl (x : Nat) : Nat := if x = 0 then 0 else Nat.log2 x + 1
theorem bl_zero : bl 0 = 0 := rfl
theorem bl_spec (x : Nat) (h : x ≠ 0) : 1 ≤ bl x ∧ 2 ^ (bl x - 1) ≤ x ∧ x < 2 ^ bl x := by
  unfold bl
  rw [if_neg h]
  exact ⟨by omega, by rw [Nat.add_sub_cancel]; exact Nat.log2_self_le h, Nat.lt_log2_self⟩
theorem bl_unique (x k : Nat) (h1 : 1 ≤ k) (h2 : 2 ^ (k - 1) ≤ x) (h3 : x < 2 ^ k) : bl x = k := by
  have h0 : x ≠ 0 := by have : 0 < 2 ^ (k - 1) := Nat.pow_pos (by omega)
                        omega
  obtain ⟨g1, g2, g3⟩ := bl_spec x h0
  rcases Nat.lt_trichotomy (bl x) k with h | h | h
  · have : 2 ^ bl x ≤ 2 ^ (k - 1) := Nat.pow_le_pow_right (by omega) (by omega)
    omega
  · exact h
  · have : 2 ^ k ≤ 2 ^ (bl x - 1) := Nat.pow_le_pow_right (by omega) (by omega)
    omega
theorem bl_lt (x : Nat) : x < 2 ^ bl x := by
  by_cases h : x = 0
  · subst h; simp [bl]
  · exact (bl_spec x h).2.2
theorem bl_le (x k : Nat) (h : x < 2 ^ k) : bl x ≤ k := by
  by_cases h0 : x = 0
  · subst h0; simp [bl]
  · obtain ⟨g1, g2, g3⟩ := bl_spec x h0
    rcases Nat.lt_or_ge k (bl x) with h1 | h1
    · have : 2 ^ k ≤ 2 ^ (bl x - 1) := Nat.pow_le_pow_right (by omega) (by omega)
      omega
    · exact h1
theorem bl_lib (x : Nat) (h : x < 2 ^ 64) : Lib.bitLen x = bl x := by
  by_cases h0 : x = 0
  · subst h0; rfl
  · obtain ⟨g1, g2, g3⟩ := Lib.bitLenAux_bounds 64 x h h0
    exact (bl_unique x _ g1 g2 g3).symm
/-- The topmost limb that is not 0. -/
theorem bl_top (x i : Nat) (h : x < 2 ^ (64 * (i + 1))) (hn : lmN x i ≠ 0) : 64 * i + bl (lmN x i) = bl x := by
  have hp : 0 < 2 ^ (64 * i) := Nat.pow_pos (by omega)
  have he : lmN x i = x / 2 ^ (64 * i) := by
    unfold lmN
    rw [pow64_succ, Nat.mul_comm] at h
    exact Nat.mod_eq_of_lt (by rw [Nat.div_lt_iff_lt_mul hp]; exact h)
  obtain ⟨g1, g2, g3⟩ := bl_spec _ hn
  symm
  apply bl_unique x _ (by omega)
  · rw [show 64 * i + bl (lmN x i) - 1 = 64 * i + (bl (lmN x i) - 1) by omega, Nat.pow_add]
    rw [he] at g2 ⊢
    exact Nat.le_trans (Nat.mul_le_mul_left _ g2) (Nat.mul_div_le _ _)
  · rw [Nat.pow_add]
    rw [he] at g3 ⊢
    have h1 : 2 ^ (64 * i) * (x / 2 ^ (64 * i) + 1) ≤ 2 ^ (64 * i) * 2 ^ bl (x / 2 ^ (64 * i)) := Nat.mul_le_mul_left _ g3
    have h2 := Nat.div_add_mod x (2 ^ (64 * i))
    have h3 := Nat.mod_lt x hp
    rw [Nat.mul_add, Nat.mul_one] at h1
    omega
/-- The slice v has, in w, n limbs of x. -/
def RdM (w : World) (v : Value) (n x : Nat) : Prop :=
  ∃ a cap, v = .slice a n cap ∧ n ≤ cap ∧ (0 < n → ∃ b off, a = some ⟨b, off, none⟩ ∧ b < w.heap.size ∧ ∀ j, j < n → w.cell? ⟨b, off + j, none⟩ = some (.int .u64 ((lmN x j : Nat) : Int)))
theorem RdM.below {w w' : World} {v : Value} {n x : Nat} (h : RdM w v n x) (hb : Below w.heap.size w w') : RdM w' v n x := by
  obtain ⟨a, cap, e, hc, h⟩ := h
  refine ⟨a, cap, e, hc, fun hx => ?_⟩
  obtain ⟨b, off, e2, h2, h3⟩ := h hx
  exact ⟨b, off, e2, Nat.lt_of_lt_of_le h2 hb.size, fun j hj => by rw [hb.cell (p := ⟨b, off + j, none⟩) h2]; exact h3 j hj⟩
theorem ArrM.rd {t : TypeId} {n : Nat} {w : World} {b x : Nat} (h : ArrM t n w b x) (cap : Nat) (hc : n ≤ cap) : RdM w (.slice (some ⟨b, 0, none⟩) n cap) n x :=
  ⟨_, cap, rfl, hc, fun _ => ⟨b, 0, rfl, h.lt, fun j hj => by rw [Nat.zero_add]; exact h.cell j hj⟩⟩
theorem len64_same (x : Nat) (h : x < 2 ^ 64) (w : World) : Calls Try.prog 131 #[.int .u64 (x : Int)] w fun e w' => e = .returned (.int .i64 ((bl x : Nat) : Int)) ∧ w = w' :=
  (bits_Len64 (x : Int) w (by omega) (by omega)).mono fun e w' ⟨h1, h2⟩ => ⟨by rw [h1, Int.toNat_natCast, bl_lib x h], h2.symm⟩

set_option maxHeartbeats 1000000 in
theorem width_any (n x : Nat) (v : Value) (w : World) (hr : RdM w v n x) (hx : x < 2 ^ (64 * n)) (hn : n ≤ 1048576) : Calls Try.prog 114 #[v] w fun e w' => e = .returned (.int .i64 ((bl x : Nat) : Int)) ∧ w = w' := by
  obtain ⟨a, cap, rfl, hc, hr⟩ := hr
  have HX := hid hx
  have HR := hid hr
  clear hx hr
  go_enter Try.func114, Try.ntmps114
  go_wp2
  go_loop [3] (fun iv => ∃ i : Nat, i ≤ n ∧ iv = .int .i64 ((i : Int) - 1) ∧ Hid (x < 2 ^ (64 * i))) (fun iv => (intOf iv + 1).toNat)
  case atStart => exact ⟨n, Nat.le_refl _, rfl, HX⟩
  case round =>
    obtain ⟨i, hi, rfl, hxi⟩ := hrel
    by_cases h0 : i = 0
    · subst h0
      have hz : x = 0 := by have := hxi.out; simpa using this
      have HZ := hid (show bl x = 0 by rw [hz]; rfl)
      clear hz
      go_wp2
      go_ret
      exact ⟨by rw [HZ.out]; rfl, rfl⟩
    · obtain ⟨k, rfl⟩ : ∃ k, i = k + 1 := ⟨i - 1, by omega⟩
      obtain ⟨b, off, rfl, hbl, hcell⟩ := HR.out (by omega)
      have c1 := hcell k (by omega)
      have g1 := lmN_lt x k
      have e1 : (((k + 1 : Nat) : Int) - 1) = (k : Int) := by omega
      rw [e1]
      clear e1 h0 hcell
      by_cases hz : lmN x k = 0
      · have hxk : x < 2 ^ (64 * k) := by
          have h1 := hxi.out
          have hp : 0 < 2 ^ (64 * k) := Nat.pow_pos (by omega)
          rw [pow64_succ, Nat.mul_comm] at h1
          have h2 : x / 2 ^ (64 * k) < 2 ^ 64 := by rw [Nat.div_lt_iff_lt_mul hp]; exact h1
          unfold lmN at hz
          rw [Nat.mod_eq_of_lt h2] at hz
          exact (Nat.div_eq_zero_iff_lt hp).1 hz
        have HK := hid hxk
        rw [hz] at c1
        clear hz hxk
        go_wp2
        go_round
        case rel => exact ⟨k, by omega, rfl, HK⟩
        case measure => simp [intOf]
      · have HT := hid (bl_top x k hxi.out hz)
        have hb64 := bl_le (lmN x k) 64 g1
        have HL := hid (fun w => len64_same (lmN x k) g1 w)
        go_wp2_with (go_at_call 131; (with_reducible refine (HL.out _).mono ?_); rintro e w' ⟨rfl, rfl⟩)
        go_ret
        refine ⟨?_, rfl⟩
        rw [← HT.out]
        go_num

theorem eq_wd (x y : Nat) (hx : x < 2 ^ 256) (hy : y < 2 ^ 256) (w : World) : (Op.equalIn 10000 24 (.agg (cellsW x)) (.agg (cellsW y))).run Try.prog w = .ok (decide (x = y)) w := by
  have := run_equalIn_four (P := Try.prog) w (t := 24) (k := .u64) uWd (by kernel_rfl) (by kernel_rfl) (by kernel_rfl) (lm x 0) (lm x 1) (lm x 2) (lm x 3) (lm y 0) (lm y 1) (lm y 2) (lm y 3)
  have h2 : weq [lm x 0, lm x 1, lm x 2, lm x 3] [lm y 0, lm y 1, lm y 2, lm y 3] = decide (x = y) := by
    unfold weq
    congr 1
    apply propext
    constructor
    · intro h
      apply wd_inj hx hy
      simp only [List.cons.injEq, and_true] at h
      unfold cellsW
      rw [h.1, h.2.1, h.2.2.1, h.2.2.2]
    · intro h; rw [h]
  rw [← h2]; exact this
theorem cellsW_one (x : Nat) (h : x < 2 ^ 64) : cellsW x = #[.int .u64 (x : Int), .int .u64 0, .int .u64 0, .int .u64 0] := by
  have := cellsW_mk4 x 0 0 0 h (by decide) (by decide) (by decide)
  rw [show mk4 x 0 0 0 = x by unfold mk4; omega] at this
  exact this
theorem lmN_zero' (x : Nat) : lmN x 0 = x % 2 ^ 64 := by unfold lmN; simp

theorem wzero_any (x : Nat) (hx : x < 2 ^ 256) (w : World) : Calls Try.prog 47 #[wd x] w fun e w' => e = .returned (.bool (decide (x = 0))) ∧ Below w.heap.size w w' := by
  have he := eq_wd x 0 hx (by decide)
  unfold wd
  have iX := hid (iW x)
  have hA := hid (ArrW.new 24 w x)
  have hb : Below w.heap.size w (w.alloc (.cells (cellsW x) 24)) := (Below.refl _ _).alloc (Nat.le_refl _) _
  have he2 : ∀ w, (Op.equalIn 10000 24 (.agg (cellsW x)) (.agg #[.int .u64 0, .int .u64 0, .int .u64 0, .int .u64 0])).run Try.prog w = .ok (decide (x = 0)) w := he
  obtain ⟨r, hr⟩ : ∃ r, r = decide (x = 0) := ⟨_, rfl⟩
  rw [← hr] at he2 ⊢
  clear he hr hx
  go_enter Try.func47, Try.ntmps47
  go_wp2_with (refine wpList_load_row rfl 24 (.tmp 1) rfl w.heap.size rfl 24 _ (0, 0) _ hA.out uWd rfl iX.out ?_; simp only [Act.put, List.setIfInBounds_toArray, List.set_cons_zero, List.set_cons_succ])
  go_ret
  exact ⟨rfl, hb⟩

theorem wof_any (x : Nat) (hx : x < 2 ^ 64) (w : World) : Calls Try.prog 56 #[.int .u64 (x : Int)] w fun e w' => e = .returned (wd x) ∧ Below w.heap.size w w' := by
  have hc := hid (cellsW_one x hx)
  clear hx
  go_enter Try.func56, Try.ntmps56
  go_wp2
  refine bodyPost_ret (results_cell_row rfl _ _ w.heap.size 24 #[.int .u64 (x : Int), .int .u64 0, .int .u64 0, .int .u64 0] (0, 0) _ rfl (by show (w.heap.push _)[w.heap.size]? = _; simp) uWd rfl iWd) rfl ⟨?_, (Below.refl _ _).alloc (Nat.le_refl _) _⟩
  unfold wd
  rw [hc.out]

theorem wuint_any (x : Nat) (hx : x < 2 ^ 256) (w : World) : Calls Try.prog 50 #[wd x] w fun e w' => e = .returned (.tuple #[.int .u64 ((if x < 2 ^ 64 then x else 0 : Nat) : Int), .bool (decide (x < 2 ^ 64))]) ∧ Below w.heap.size w w' := by
  have h0 : lmN x 0 < 2 ^ 64 := lmN_lt x 0
  have he := eq_wd x (lmN x 0) hx (Nat.lt_of_lt_of_le h0 (by decide))
  rw [cellsW_one (lmN x 0) h0] at he
  have hd : decide (x = lmN x 0) = decide (x < 2 ^ 64) := by
    congr 1
    apply propext
    rw [lmN_zero']
    constructor
    · intro h; have := Nat.mod_lt x (by decide : 0 < 2 ^ 64); omega
    · intro h; exact (Nat.mod_eq_of_lt h).symm
  rw [hd] at he
  have hl : x < 2 ^ 64 → lmN x 0 = x := fun h => by rw [lmN_zero', Nat.mod_eq_of_lt h]
  unfold wd
  have iX := hid (iW x)
  have hA := ArrM.ofW (ArrW.new 24 w x)
  have c0 := hA.cell 0 (by omega)
  have HA := hid (ArrM.toW hA)
  have hb : Below w.heap.size w (w.alloc (.cells (cellsW x) 24)) := (Below.refl _ _).alloc (Nat.le_refl _) _
  clear hd hA
  by_cases hlt : x < 2 ^ 64
  · have hlx := hl hlt
    rw [hlx] at he c0
    rw [decide_eq_true hlt] at he ⊢
    rw [if_pos hlt]
    clear hl hlx hlt hx h0
    go_enter Try.func50, Try.ntmps50
    go_wp2_with (refine wpList_load_row rfl 24 (.tmp 1) rfl w.heap.size rfl 24 _ (0, 0) _ HA.out uWd rfl iX.out ?_; simp only [Act.put, List.setIfInBounds_toArray, List.set_cons_zero, List.set_cons_succ])
    go_ret2
    exact ⟨rfl, hb⟩
  · rw [decide_eq_false hlt] at he ⊢
    rw [if_neg hlt]
    clear hl hlt hx h0
    go_enter Try.func50, Try.ntmps50
    go_wp2_with (refine wpList_load_row rfl 24 (.tmp 1) rfl w.heap.size rfl 24 _ (0, 0) _ HA.out uWd rfl iX.out ?_; simp only [Act.put, List.setIfInBounds_toArray, List.set_cons_zero, List.set_cons_succ])
    go_ret2
    exact ⟨rfl, hb⟩

/-- A word as an int; most, if it is no less. -/
def upT (x m : Nat) : Nat := if x < m then x else m
theorem upto_any (x m : Nat) (hx : x < 2 ^ 256) (hm : m ≤ 65536) (w : World) : Calls Try.prog 102 #[wd x, .int .u64 (m : Int)] w fun e w' => e = .returned (.int .i64 ((upT x m : Nat) : Int)) ∧ Below w.heap.size w w' := by
  have hU := hid (fun w => wuint_any x hx w)
  unfold wd at *
  have iX := hid (iW x)
  have hA := hid (ArrW.new 24 w x)
  have hb : Below w.heap.size w (w.alloc (.cells (cellsW x) 24)) := (Below.refl _ _).alloc (Nat.le_refl _) _
  clear hx
  by_cases h1 : x < 2 ^ 64
  · rw [decide_eq_true h1, if_pos h1] at hU
    by_cases h2 : x ≤ m
    · have HU := hid (show upT x m = x by unfold upT; split <;> omega)
      have h3 : ¬ (m < x) := by omega
      clear h1
      go_enter Try.func102, Try.ntmps102
      go_wp2_with (refine wpList_load_row rfl 24 (.tmp 2) rfl w.heap.size rfl 24 _ (0, 0) _ hA.out uWd rfl iX.out ?_; simp only [Act.put, List.setIfInBounds_toArray, List.set_cons_zero, List.set_cons_succ])
      refine (hU.out _).mono ?_
      rintro e w1 ⟨rfl, hb1⟩
      go_wp2
      go_ret
      exact ⟨by rw [HU.out]; rfl, hb.trans (hb1.mono hb.size)⟩
    · have HU := hid (show upT x m = m by unfold upT; split <;> omega)
      have h3 : m < x := by omega
      clear h1 h2
      go_enter Try.func102, Try.ntmps102
      go_wp2_with (refine wpList_load_row rfl 24 (.tmp 2) rfl w.heap.size rfl 24 _ (0, 0) _ hA.out uWd rfl iX.out ?_; simp only [Act.put, List.setIfInBounds_toArray, List.set_cons_zero, List.set_cons_succ])
      refine (hU.out _).mono ?_
      rintro e w1 ⟨rfl, hb1⟩
      go_wp2
      go_ret
      exact ⟨by rw [HU.out]; rfl, hb.trans (hb1.mono hb.size)⟩
  · rw [decide_eq_false h1, if_neg h1] at hU
    have HU := hid (show upT x m = m by unfold upT; split <;> omega)
    clear h1
    go_enter Try.func102, Try.ntmps102
    go_wp2_with (refine wpList_load_row rfl 24 (.tmp 2) rfl w.heap.size rfl 24 _ (0, 0) _ hA.out uWd rfl iX.out ?_; simp only [Act.put, List.setIfInBounds_toArray, List.set_cons_zero, List.set_cons_succ])
    refine (hU.out _).mono ?_
    rintro e w1 ⟨rfl, hb1⟩
    go_wp2
    go_ret
    exact ⟨by rw [HU.out]; rfl, hb.trans (hb1.mono hb.size)⟩
end Go.Proofs.Ytfidbiabgmioaaa
