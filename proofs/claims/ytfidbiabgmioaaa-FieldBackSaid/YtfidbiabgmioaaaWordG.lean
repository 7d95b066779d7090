import Derived.Test.YtfidbiabgmioaaaWordF
/-! word: powers. -/
set_option maxRecDepth 4000
set_option linter.unusedVariables false
set_option linter.unusedSimpArgs false
namespace Go.Proofs.Ytfidbiabgmioaaa
open Go.RowKit

theorem ArrW.row {t : TypeId} {w : World} {b x : Nat} (h : ArrW t w b x) (y : Nat) : ArrW t (w.setRow b (cellsW y)) b y := heap_setRow' _ _ _ _ _ h
theorem ArrW.otherRow {t : TypeId} {w : World} {b x g : Nat} (h : ArrW t w b x) (hg : b ≠ g) (cs : Array Value) : ArrW t (w.setRow g cs) b x := by
  unfold ArrW at *
  simp only [World.setRow, Array.getElem?_modify]
  rw [if_neg (fun e => hg e.symm)]; exact h
/-- A power modulo 2^256. -/
def powW (a e : Nat) : Nat := a ^ e % 2 ^ 256
theorem powW_lt (a e : Nat) : powW a e < 2 ^ 256 := Nat.mod_lt _ (by decide)
theorem powW_zero (a : Nat) : powW a 0 = 1 := rfl
theorem powW_add (a e f : Nat) : powW a e * powW a f % 2 ^ 256 = powW a (e + f) := by
  unfold powW; rw [← Nat.mul_mod, Nat.pow_add]
theorem powW_one (a : Nat) (h : a < 2 ^ 256) : powW a 1 = a := by unfold powW; rw [Nat.pow_one, Nat.mod_eq_of_lt h]
theorem low_bit (b i : Nat) : b % 2 ^ (i + 1) = b % 2 ^ i + 2 ^ i * (b / 2 ^ i % 2) := by rw [Nat.pow_succ, Nat.mod_mul]
/-- A bit of a limb. -/
theorem lmN_bit (b i : Nat) : lmN b (i / 64) / 2 ^ (i % 64) % 2 = b / 2 ^ i % 2 := by
  have e : 2 ^ i = 2 ^ (64 * (i / 64)) * 2 ^ (i % 64) := by rw [← Nat.pow_add]; congr 1; omega
  have e2 : (2 : Nat) ^ 64 = 2 ^ (i % 64) * (2 * 2 ^ (63 - i % 64)) := by rw [← Nat.mul_assoc, ← Nat.pow_succ, ← Nat.pow_add]; congr 1; omega
  unfold lmN
  rw [e, ← Nat.div_div_eq_div_mul]
  generalize b / 2 ^ (64 * (i / 64)) = y
  rw [e2, Nat.mod_mul_right_div_self, Nat.mod_mul_right_mod]
theorem lm_bit (b i : Nat) : bits .and .u64 (lm b (i / 64) / 2 ^ (i % 64)) 1 = ((b / 2 ^ i % 2 : Nat) : Int) := by
  unfold lm
  rw [show (((lmN b (i / 64) : Nat) : Int)) / 2 ^ (i % 64) = ((lmN b (i / 64) / 2 ^ (i % 64) : Nat) : Int) by rw [Int.natCast_ediv, Int.natCast_pow]; rfl]
  rw [show (1 : Int) = ((1 : Nat) : Int) from rfl, u64_and_nat _ _ (Nat.lt_of_le_of_lt (Nat.div_le_self _ _) (lmN_lt _ _)) (by decide)]
  rw [show (1 : Nat) = 2 ^ 1 - 1 from rfl, Nat.and_two_pow_sub_one_eq_mod, Nat.pow_one, lmN_bit]

def ExpI (a b N S : Nat) (w wr : World) (i : Nat) : Prop :=
  ArrW 24 wr N (powW a (2 ^ i)) ∧ ArrW 24 wr (N + 1) b ∧ ArrW 24 wr (N + 2) 0 ∧ ArrW 24 wr S (powW a (b % 2 ^ i)) ∧ Below N w wr

set_option maxHeartbeats 2000000 in
theorem wexp_any (a b : Nat) (w : World) (ha : a < 2 ^ 256) (hb : b < 2 ^ 256) : Calls Try.prog 60 #[wd a, wd b] w fun e w' => e = .returned (wd (powW a b)) ∧ Below w.heap.size w w' := by
  have hO := hid (fun w => wof_any 1 (by omega) w)
  have hM := hid (fun x y w hx hy => wmul_any x y w hx hy)
  have hW := hid (fun v w hr => width_any 4 b v w hr hb (by omega))
  have hbl := bl_le b 256 hb
  have hbe := hid (show b % 2 ^ bl b = b from Nat.mod_eq_of_lt (bl_lt b))
  have HA := hid ha
  clear ha hb
  obtain ⟨n, hn⟩ : ∃ n, n = bl b := ⟨_, rfl⟩
  rw [← hn] at hW hbl hbe
  clear hn
  unfold wd at *
  have i1 := hid (iW 1)
  have n1 := hid (one_cellsW 1)
  have H0 := hid (iW 0)
  have hA0 := hid (show ArrW 24 (((w.alloc (.cells (cellsW a) 24)).alloc (.cells (cellsW b) 24)).alloc (.cells (cellsW 0) 24)) w.heap.size a from ((ArrW.new _ w a).alloc _).alloc _)
  have hB0 := hid (show ArrW 24 (((w.alloc (.cells (cellsW a) 24)).alloc (.cells (cellsW b) 24)).alloc (.cells (cellsW 0) 24)) (w.heap.size + 1) b by
    have := ArrW.new 24 (w.alloc (.cells (cellsW a) 24)) b
    rw [World.size_alloc] at this; exact this.alloc _)
  have hC0 := hid (show ArrW 24 (((w.alloc (.cells (cellsW a) 24)).alloc (.cells (cellsW b) 24)).alloc (.cells (cellsW 0) 24)) (w.heap.size + 2) 0 by
    have := ArrW.new 24 ((w.alloc (.cells (cellsW a) 24)).alloc (.cells (cellsW b) 24)) 0
    rw [World.size_alloc, World.size_alloc] at this; exact this)
  have hb0 : Below w.heap.size w (((w.alloc (.cells (cellsW a) 24)).alloc (.cells (cellsW b) 24)).alloc (.cells (cellsW 0) 24)) := (((Below.refl _ _).alloc (Nat.le_refl _) _).alloc (by simp) _).alloc (by simp; omega) _
  go_enter Try.func60, Try.ntmps60
  go_wp2_with (first | (refine wpList_alloc_new rfl 24 rfl (cellsW 0) zWd ?_; simp only [Act.put, List.setIfInBounds_toArray, List.set_cons_zero, List.set_cons_succ]))
  refine (hO.out _).mono ?_
  rintro e w1 ⟨rfl, hb1⟩
  have hA1 := hid ((hA0.out.below hb1 hA0.out.lt).alloc (.cells (cellsW 1) 24))
  have hB1 := hid ((hB0.out.below hb1 hB0.out.lt).alloc (.cells (cellsW 1) 24))
  have hC1 := hid ((hC0.out.below hb1 hC0.out.lt).alloc (.cells (cellsW 1) 24))
  have hS1 := hid (ArrW.new 24 w1 1)
  have hb2 := hb0.trans (hb1.mono hb0.size)
  have hb3 := hb2.alloc hb2.size (.cells (cellsW 1) 24)
  have hsz : w.heap.size + 3 ≤ w1.heap.size := by have := hC0.out.below hb1 hC0.out.lt; have := this.lt; omega
  clear hA0 hB0 hC0 hb0 hb1
  have hrd := hid (hB1.out.toM.rd 4 (by omega))
  go_wp2_with (first | (refine wpList_allocStore 24 7 5 (cellsW 1) (cellsW 0) rfl rfl rfl rfl rfl rfl (by decide) (by simp) rfl (by kernel_rfl) rfl i1.out n1.out ?_; simp only [Act.put, List.setIfInBounds_toArray, List.set_cons_zero, List.set_cons_succ]))
  refine (hW.out _ _ hrd.out).mono ?_
  rintro e w2 ⟨rfl, rfl⟩
  have hI : Hid (ExpI a b w.heap.size w1.heap.size w (w1.alloc (.cells (cellsW 1) 24)) 0) := hid ⟨by rw [Nat.pow_zero, powW_one a HA.out]; exact hA1.out, hB1.out, hC1.out, by rw [Nat.pow_zero, Nat.mod_one]; exact hS1.out, hb3⟩
  clear hA1 hB1 hC1 hS1 hb2 hb3 hrd hW HA
  go_wp2
  generalize w1.alloc (.cells (cellsW 1) 24) = w2 at hI ⊢
  obtain ⟨S, hS⟩ : ∃ S, S = w1.heap.size := ⟨_, rfl⟩
  rw [← hS] at hI hsz ⊢
  clear hS
  go_loopw [10] (fun iv wr => ∃ i : Nat, i ≤ n ∧ iv = .int .i64 i ∧ Hid (ExpI a b w.heap.size S w wr i))
    (fun iv _ => n - (intOf iv).toNat)
  case atStart => exact ⟨0, by omega, rfl, hI⟩
  case round =>
    clear hI
    obtain ⟨i, hi, rfl, hI⟩ := hrel
    by_cases hlt : i < n
    · have hA := hid hI.out.1
      have hB := hid hI.out.2.1
      have hC := hid hI.out.2.2.1
      have hD := hid hI.out.2.2.2.1
      have hb := hI.out.2.2.2.2
      have c1 := hB.out.cell (i / 64) (by omega)
      have l1 := hB.out.lt
      have n1 := lm_nonneg b (i / 64)
      have n2 := lm_lt b (i / 64)
      have hbit := lm_bit b i
      have hlow := low_bit b i
      have hq : powW a (2 ^ i) * powW a (2 ^ i) % 2 ^ 256 = powW a (2 ^ (i + 1)) := by rw [powW_add, Nat.pow_succ, Nat.mul_two]
      have HS := hid (fun w => hM.out (powW a (2 ^ i)) (powW a (2 ^ i)) w (powW_lt _ _) (powW_lt _ _))
      rw [hq] at HS
      have iq := hid (iW (powW a (2 ^ i)))
      have iq2 := hid (iW (powW a (2 ^ (i + 1))))
      have nq2 := hid (one_cellsW (powW a (2 ^ (i + 1))))
      have hd2 : b / 2 ^ i % 2 = 0 ∨ b / 2 ^ i % 2 = 1 := by omega
      rcases hd2 with hz | hz
      · rw [hz] at hbit hlow
        rw [Nat.mul_zero, Nat.add_zero] at hlow
        have HL := hid hlow
        clear hq hz hI hlow
        go_wp2_with (first | (refine wpList_load_row rfl 24 (.tmp 2) rfl w.heap.size rfl 24 _ (0, 0) _ hA.out uWd rfl iq.out ?_; simp only [Act.put, List.setIfInBounds_toArray, List.set_cons_zero, List.set_cons_succ]))
        refine (HS.out _).mono ?_
        rintro e w3 ⟨rfl, hb5⟩
        have hA2 := hid (hA.out.below hb5 hA.out.lt)
        have hB2 := hid (hB.out.below hb5 hB.out.lt)
        have hC2 := hid (hC.out.below hb5 hC.out.lt)
        have hD2 := hid (hD.out.below hb5 hD.out.lt)
        have hb6 := hb.trans (hb5.mono hb.size)
        clear hA hB hC hD hb hb5
        go_wp2_with (first | (refine wpList_store_row rfl 24 (.tmp 2) (.tmp 27) rfl w.heap.size _ rfl rfl 24 _ hA2.out iq2.out rfl nq2.out ?_; simp only [Act.put]))
        go_roundw
        case rel =>
          exact ⟨i + 1, by omega, by go_num, hid ⟨hA2.out.row _, hB2.out.otherRow (by omega) _, hC2.out.otherRow (by omega) _, by rw [HL.out]; exact hD2.out.otherRow (by omega) _, below_setRow' hb6 _ (by omega) _⟩⟩
        case measure => simp [intOf]; omega
      · rw [hz] at hbit hlow
        rw [Nat.mul_one] at hlow
        have hr : powW a (b % 2 ^ i) * powW a (2 ^ i) % 2 ^ 256 = powW a (b % 2 ^ (i + 1)) := by rw [powW_add, hlow]
        have HR := hid (fun w => hM.out (powW a (b % 2 ^ i)) (powW a (2 ^ i)) w (powW_lt _ _) (powW_lt _ _))
        rw [hr] at HR
        have ir := hid (iW (powW a (b % 2 ^ i)))
        have ir2 := hid (iW (powW a (b % 2 ^ (i + 1))))
        have nr2 := hid (one_cellsW (powW a (b % 2 ^ (i + 1))))
        clear hq hz hI hlow hr
        go_wp2_with (first | (refine wpList_load_row rfl 24 (.tmp 5) rfl S rfl 24 _ (0, 0) _ hD.out uWd rfl ir.out ?_; simp only [Act.put, List.setIfInBounds_toArray, List.set_cons_zero, List.set_cons_succ]) | (refine wpList_load_row rfl 24 (.tmp 2) rfl w.heap.size rfl 24 _ (0, 0) _ hA.out uWd rfl iq.out ?_; simp only [Act.put, List.setIfInBounds_toArray, List.set_cons_zero, List.set_cons_succ]))
        refine (HR.out _).mono ?_
        rintro e w3 ⟨rfl, hb5⟩
        have hA2 := hid (hA.out.below hb5 hA.out.lt)
        have hB2 := hid (hB.out.below hb5 hB.out.lt)
        have hC2 := hid (hC.out.below hb5 hC.out.lt)
        have hD2 := hid (hD.out.below hb5 hD.out.lt)
        have hb6 := hb.trans (hb5.mono hb.size)
        clear hA hB hC hD hb hb5 c1 l1
        have hA3 := hid (hA2.out.otherRow (show w.heap.size ≠ S by omega) (cellsW (powW a (b % 2 ^ (i + 1)))))
        go_wp2_with (first | (refine wpList_store_row rfl 24 (.tmp 5) (.tmp 24) rfl S _ rfl rfl 24 _ hD2.out ir2.out rfl nr2.out ?_; simp only [Act.put]) | (refine wpList_load_row rfl 24 (.tmp 2) rfl w.heap.size rfl 24 _ (0, 0) _ hA3.out uWd rfl iq.out ?_; simp only [Act.put, List.setIfInBounds_toArray, List.set_cons_zero, List.set_cons_succ]))
        refine (HS.out _).mono ?_
        rintro e w4 ⟨rfl, hb7⟩
        have hA4 := hid (hA3.out.below hb7 hA3.out.lt)
        have hB4 := hid ((hB2.out.otherRow (show w.heap.size + 1 ≠ S by omega) (cellsW (powW a (b % 2 ^ (i + 1))))).below hb7 (by rw [size_setRow]; exact hB2.out.lt))
        have hC4 := hid ((hC2.out.otherRow (show w.heap.size + 2 ≠ S by omega) (cellsW (powW a (b % 2 ^ (i + 1))))).below hb7 (by rw [size_setRow]; exact hC2.out.lt))
        have hD4 := hid ((hD2.out.row (powW a (b % 2 ^ (i + 1)))).below hb7 (by rw [size_setRow]; exact hD2.out.lt))
        have hb8 := (below_setRow' hb6 S (by omega) (cellsW (powW a (b % 2 ^ (i + 1))))).trans (hb7.mono (by rw [size_setRow]; exact hb6.size))
        clear hA2 hB2 hC2 hD2 hA3 hb6 hb7
        go_wp2_with (first | (refine wpList_store_row rfl 24 (.tmp 2) (.tmp 27) rfl w.heap.size _ rfl rfl 24 _ hA4.out iq2.out rfl nq2.out ?_; simp only [Act.put]))
        go_roundw
        case rel =>
          exact ⟨i + 1, by omega, by go_num, hid ⟨hA4.out.row _, hB4.out.otherRow (by omega) _, hC4.out.otherRow (by omega) _, hD4.out.otherRow (by omega) _, below_setRow' hb8 _ (by omega) _⟩⟩
        case measure => simp [intOf]; omega
    · obtain rfl : i = n := by omega
      have hC := hid hI.out.2.2.1
      have hD := hI.out.2.2.2.1
      have hb := hI.out.2.2.2.2
      rw [hbe.out] at hD
      obtain ⟨y, hy⟩ : ∃ y, y = powW a b := ⟨_, rfl⟩
      rw [← hy] at hD
      have HY := hid hy
      have HD := hid hD
      have iY := hid (iW y)
      have nY := hid (one_cellsW y)
      clear hy hI hlt hi hD
      go_wp2_with (first | (refine wpList_load_row rfl 24 (.tmp 5) rfl S rfl 24 _ (0, 0) _ HD.out uWd rfl iY.out ?_; simp only [Act.put, List.setIfInBounds_toArray, List.set_cons_zero, List.set_cons_succ]) | (refine wpList_store_row rfl 24 (.tmp 4) (.tmp 29) rfl (w.heap.size + 2) _ rfl rfl 24 _ hC.out iY.out rfl nY.out ?_; simp only [Act.put]))
      refine bodyPost_ret (results_cell_row rfl _ _ (w.heap.size + 2) 24 (cellsW y) (0, 0) _ rfl (heap_setRow' _ _ _ _ _ hC.out) uWd rfl iY.out) rfl ⟨by rw [HY.out], below_setRow' hb _ (by omega) _⟩
end Go.Proofs.Ytfidbiabgmioaaa
