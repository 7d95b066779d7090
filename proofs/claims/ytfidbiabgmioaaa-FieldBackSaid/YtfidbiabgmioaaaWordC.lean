import Derived.Test.YtfidbiabgmioaaaWordB
/-! word: products. -/
set_option maxRecDepth 4000
set_option linter.unusedVariables false
set_option linter.unusedSimpArgs false
namespace Go.Proofs.Ytfidbiabgmioaaa
open Go.RowKit

theorem uM8 : Try.prog.underlying 69 = some (.array 8 22) := by kernel_rfl
theorem iM8' : (Try.prog.info? 69).map (·.size) = some 8 := by kernel_rfl
theorem zM8 : (Try.prog.info? 69).bind (·.zero) = some (.agg (cellsM 8 0)) := by kernel_rfl
theorem iM8 (x : Nat) : (Try.prog.info? 69).map (·.size) = some (cellsM 8 x).size := by rw [size_cellsM]; exact iM8'
theorem mul64_nat (x y : Nat) (hx : x < 2 ^ 64) (hy : y < 2 ^ 64) : ∃ hi lo : Nat, hi < 2 ^ 64 ∧ lo < 2 ^ 64 ∧ x * y = lo + 2 ^ 64 * hi ∧
    ∀ w, Calls Try.prog 122 #[.int .u64 (x : Int), .int .u64 (y : Int)] w fun e w' => e = .returned (.tuple #[.int .u64 (hi : Int), .int .u64 (lo : Int)]) ∧ Below w.heap.size w w' :=
  ⟨x * y / 2 ^ 64, x * y % 2 ^ 64, mul_hi x y hx hy, Nat.mod_lt _ (by decide), (Nat.mod_add_div _ _).symm, fun w => mul64_any x y hx hy w⟩
theorem add64_nat0 (x y : Nat) (hx : x < 2 ^ 64) (hy : y < 2 ^ 64) : ∃ u v : Nat, u < 2 ^ 64 ∧ v ≤ 1 ∧ x + y = u + 2 ^ 64 * v ∧
    ∀ w, (callFunc 101 #[.int .u64 (x : Int), .int .u64 (y : Int), .int .u64 0]).run Try.prog w = .ok (.value (.tuple #[.int .u64 (u : Int), .int .u64 (v : Int)])) w := add64_nat x y 0 hx hy (by omega)
theorem mul64_le (x y : Nat) (hx : x < 2 ^ 64) (hy : y < 2 ^ 64) : x * y ≤ 340282366920938463426481119284349108225 := by
  have h := Nat.mul_le_mul (show x ≤ 2 ^ 64 - 1 by omega) (show y ≤ 2 ^ 64 - 1 by omega)
  exact Nat.le_trans h (by decide)
theorem full_step (a b P c i k hi lo u1 v1 u2 v2 : Nat) (hP : P < 2 ^ (64 * (i + 4))) (hk : k < 4) (hc : c < 2 ^ 64) (hu2 : u2 < 2 ^ 64)
    (hm : lmN a i * lmN b k = lo + 2 ^ 64 * hi) (h1 : lo + lmN P (i + k) = u1 + 2 ^ 64 * v1) (h2 : u1 + c = u2 + 2 ^ 64 * v2)
    (hinv : P + 2 ^ (64 * (i + k)) * c = a % 2 ^ (64 * i) * b + 2 ^ (64 * i) * (lmN a i * (b % 2 ^ (64 * k)))) :
    hi + v1 + v2 < 2 ^ 64 ∧ setL P (i + k) u2 < 2 ^ (64 * (i + 4)) ∧
    setL P (i + k) u2 + 2 ^ (64 * (i + (k + 1))) * (hi + v1 + v2) = a % 2 ^ (64 * i) * b + 2 ^ (64 * i) * (lmN a i * (b % 2 ^ (64 * (k + 1)))) := by
  have ga := lmN_lt a i
  have gb := lmN_lt b k
  have gp := lmN_lt P (i + k)
  have hle := mul64_le (lmN a i) (lmN b k) ga gb
  refine ⟨by clear hinv hP; omega, setL_lt _ _ _ _ hP hu2 (by omega), ?_⟩
  have h3 := setL_eq P (i + k) u2
  have e1 : 2 ^ (64 * (i + (k + 1))) = 2 ^ (64 * (i + k)) * 2 ^ 64 := pow64_succ (i + k)
  have e2 : 2 ^ (64 * (i + k)) = 2 ^ (64 * i) * 2 ^ (64 * k) := by rw [Nat.mul_add, Nat.pow_add]
  have e3 : u2 + 2 ^ 64 * (hi + v1 + v2) = lmN a i * lmN b k + lmN P (i + k) + c := by omega
  have e4 : 2 ^ (64 * (i + k)) * u2 + 2 ^ (64 * (i + k)) * 2 ^ 64 * (hi + v1 + v2) = 2 ^ (64 * (i + k)) * (lmN a i * lmN b k) + 2 ^ (64 * (i + k)) * lmN P (i + k) + 2 ^ (64 * (i + k)) * c := by
    rw [Nat.mul_assoc, ← Nat.mul_add, ← Nat.mul_add, ← Nat.mul_add, e3]
  have e5 : 2 ^ (64 * i) * (lmN a i * (b % 2 ^ (64 * (k + 1)))) = 2 ^ (64 * i) * (lmN a i * (b % 2 ^ (64 * k))) + 2 ^ (64 * (i + k)) * (lmN a i * lmN b k) := by
    rw [low_succ, e2, Nat.mul_add, Nat.mul_add, Nat.mul_assoc, Nat.mul_left_comm (lmN a i) (2 ^ (64 * k))]
  rw [e5, e1]
  omega
theorem full_end (a b P c i : Nat) (hb : b < 2 ^ 256) (hP : P < 2 ^ (64 * (i + 4)))
    (hinv : P + 2 ^ (64 * (i + 4)) * c = a % 2 ^ (64 * i) * b + 2 ^ (64 * i) * (lmN a i * (b % 2 ^ (64 * 4)))) :
    setL P (i + 4) c = a % 2 ^ (64 * (i + 1)) * b := by
  rw [setL_top _ _ _ hP, hinv, low_full b hb, low_succ, Nat.add_mul, Nat.mul_assoc]

set_option maxHeartbeats 2000000 in
set_option maxRecDepth 100000 in
theorem wfull_any (a b : Nat) (w : World) (ha : a < 2 ^ 256) (hb : b < 2 ^ 256) : Calls Try.prog 110 #[wd a, wd b] w fun e w' => e = .returned (.agg (cellsM 8 (a * b))) ∧ Below w.heap.size w w' := by
  have HA := hid ha
  have HB := hid hb
  clear ha hb
  unfold wd
  have hA0 := hid (show ArrW 24 (((w.alloc (.cells (cellsW a) 24)).alloc (.cells (cellsW b) 24)).alloc (.cells (cellsM 8 0) 69)) w.heap.size a from ((ArrW.new _ w a).alloc _).alloc _)
  have hB0 := hid (show ArrW 24 (((w.alloc (.cells (cellsW a) 24)).alloc (.cells (cellsW b) 24)).alloc (.cells (cellsM 8 0) 69)) (w.heap.size + 1) b by
    have := ArrW.new 24 (w.alloc (.cells (cellsW a) 24)) b
    rw [World.size_alloc] at this; exact this.alloc _)
  have hC0 := hid (show ArrM 69 8 (((w.alloc (.cells (cellsW a) 24)).alloc (.cells (cellsW b) 24)).alloc (.cells (cellsM 8 0) 69)) (w.heap.size + 1 + 1) 0 by
    have := ArrM.new 69 8 ((w.alloc (.cells (cellsW a) 24)).alloc (.cells (cellsW b) 24)) 0
    rw [World.size_alloc, World.size_alloc] at this; exact this)
  have hb0 : Below w.heap.size w (((w.alloc (.cells (cellsW a) 24)).alloc (.cells (cellsW b) 24)).alloc (.cells (cellsM 8 0) 69)) := (((Below.refl _ _).alloc (Nat.le_refl _) _).alloc (by simp) _).alloc (by simp; omega) _
  go_enter Try.func110, Try.ntmps110
  go_wp2_with (refine wpList_alloc_new rfl 69 rfl (cellsM 8 0) zM8 ?_; simp only [Act.put, List.setIfInBounds_toArray, List.set_cons_zero, List.set_cons_succ])
  simp only [World.size_alloc]
  generalize ((w.alloc (.cells (cellsW a) 24)).alloc (.cells (cellsW b) 24)).alloc (.cells (cellsM 8 0) 69) = w1 at hA0 hB0 hC0 hb0 ⊢
  go_loopw [11] (fun iv wr => ∃ i P : Nat, i ≤ 4 ∧ iv = .int .i64 i ∧ Hid (P < 2 ^ (64 * (i + 4)) ∧ P = a % 2 ^ (64 * i) * b) ∧ Hid (ArrW 24 wr w.heap.size a) ∧ Hid (ArrW 24 wr (w.heap.size + 1) b) ∧ Hid (ArrM 69 8 wr (w.heap.size + 1 + 1) P) ∧ Below w.heap.size w wr)
    (fun iv _ => 4 - (intOf iv).toNat)
  case atStart => exact ⟨0, 0, by omega, rfl, hid ⟨by exact Nat.pow_pos (by omega), by simp [Nat.mod_one]⟩, hA0, hB0, hC0, hb0⟩
  case round =>
    clear hA0 hB0 hC0 hb0
    obtain ⟨i, P0, hi, rfl, hX, hA0, hB0, hC0, hb0⟩ := hrel
    by_cases hlt : i < 4
    · go_wp2
      go_loopw [6, 14] (fun cv kv wr => ∃ k c P : Nat, k ≤ 4 ∧ c < 18446744073709551616 ∧ kv = .int .i64 k ∧ cv = .int .u64 c ∧ Hid (P < 2 ^ (64 * (i + 4)) ∧ P + 2 ^ (64 * (i + k)) * c = a % 2 ^ (64 * i) * b + 2 ^ (64 * i) * (lmN a i * (b % 2 ^ (64 * k)))) ∧ Hid (ArrW 24 wr w.heap.size a) ∧ Hid (ArrW 24 wr (w.heap.size + 1) b) ∧ Hid (ArrM 69 8 wr (w.heap.size + 1 + 1) P) ∧ Below w.heap.size w wr)
        (fun _ kv _ => 4 - (intOf kv).toNat)
      case atStart => exact ⟨0, 0, P0, by omega, by omega, rfl, rfl, hid ⟨hX.out.1, by rw [hX.out.2]; simp [Nat.mod_one]⟩, hA0, hB0, hC0, hb0⟩
      case round =>
        clear hA0 hB0 hC0 hb0 hX
        obtain ⟨k, c, P, hk, hc, rfl, rfl, hX, hA, hB, hC, hb⟩ := hrel
        by_cases hklt : k < 4
        · have c1 := hA.out.cell i hlt
          have c2 := hB.out.cell k hklt
          have l1 := hA.out.lt
          have l2 := hB.out.lt
          obtain ⟨mhi, mlo, m1, m2, m3, m4⟩ := mul64_nat (lmN a i) (lmN b k) (lmN_lt _ _) (lmN_lt _ _)
          obtain ⟨u1, v1, p1, p2, p3, p4⟩ := add64_nat0 mlo (lmN P (i + k)) m2 (lmN_lt _ _)
          obtain ⟨u2, v2, r1, r2, r3, r4⟩ := add64_nat0 u1 c p1 hc
          obtain ⟨s1, s2, s3⟩ := full_step a b P c i k mhi mlo u1 v1 u2 v2 hX.out.1 hklt hc r1 m3 p3 r3 hX.out.2
          have M4 := hid m4
          have S2 := hid s2
          have S3 := hid s3
          have lP := lmN_lt P (i + k)
          clear m3 p3 r3 s2 s3 m4
          unfold lm at c1 c2
          go_wp2_with fail
          (refine wp_region_ext (by kernel_rfl) (by kernel_rfl) ?_; (repeat (go_big_quiet_step (first | (go_at_call 122; with_reducible refine Calls.ext_of (M4.out _))))); refine wpQuiet_nil ?_; rintro _ ⟨xw, rfl⟩)
          have hA' := hid (hA.out.ext xw)
          have hB' := hid (hB.out.ext xw)
          have hC' := hid (hC.out.ext xw)
          have hb' := World.ext_below_of hb hb.size xw
          clear hA hB hC hb c1 c2 l1 l2
          generalize wr.ext xw = wr at *
          have c3 := hC'.out.cell (i + k) (by omega)
          have f3 := hC'.out.free (i + k)
          have l3 := hC'.out.lt
          go_wp2
          go_roundw
          case rel =>
            refine ⟨k + 1, mhi + v1 + v2, setL P (i + k) u2, by omega, s1, by go_num, ?_, hid ⟨S2.out, S3.out⟩, hid (hA'.out.other (by show w.heap.size ≠ w.heap.size + 1 + 1; omega) _), hid (hB'.out.other (by show w.heap.size + 1 ≠ w.heap.size + 1 + 1; omega) _), hid (hC'.out.set (i + k) u2 r1), hb'.setCell (p := ⟨w.heap.size + 1 + 1, i + k, none⟩) (by show w.heap.size ≤ w.heap.size + 1 + 1; omega) _⟩
            go_num
          case measure => simp [intOf]; omega
        · obtain rfl : k = 4 := by omega
          have c3 := hC.out.cell (i + 4) (by omega)
          have f3 := hC.out.free (i + 4)
          have l3 := hC.out.lt
          have HE := hid (full_end a b P c i HB.out hX.out.1 hX.out.2)
          have HL := hid (show setL P (i + 4) c < 2 ^ (64 * (i + 1 + 4)) by
            rw [setL_top _ _ _ hX.out.1, show i + 1 + 4 = (i + 4) + 1 by omega]
            exact set_lt P (i + 4) c hX.out.1 hc)
          go_wp2
          go_roundw
          case rel =>
            exact ⟨i + 1, setL P (i + 4) c, by omega, by go_num, hid ⟨HL.out, HE.out⟩, hid (hA.out.other (by show w.heap.size ≠ w.heap.size + 1 + 1; omega) _), hid (hB.out.other (by show w.heap.size + 1 ≠ w.heap.size + 1 + 1; omega) _), hid (hC.out.set (i + 4) c hc), hb.setCell (p := ⟨w.heap.size + 1 + 1, i + 4, none⟩) (by show w.heap.size ≤ w.heap.size + 1 + 1; omega) _⟩
          case measure => simp [intOf]; omega
    · obtain rfl : i = 4 := by omega
      have hP : P0 = a * b := by rw [hX.out.2, low_full a HA.out]
      subst hP
      have iX := hid (iM8 (a * b))
      have nX := hid (one_cellsM 8 (a * b))
      clear hX hA0 hB0 hlt hi
      go_wp2_with (first | (refine wpList_load_row rfl 69 (.tmp 4) rfl (w.heap.size + 1 + 1) rfl 69 _ (0, 0) _ hC0.out uM8 rfl iX.out ?_; simp only [Act.put, List.setIfInBounds_toArray, List.set_cons_zero, List.set_cons_succ]) | (refine wpList_store_row rfl 69 (.tmp 4) (.tmp 60) rfl (w.heap.size + 1 + 1) _ rfl rfl 69 _ hC0.out iX.out rfl nX.out ?_; simp only [Act.put]))
      refine bodyPost_ret (results_cell_row rfl _ _ (w.heap.size + 1 + 1) 69 (cellsM 8 (a * b)) (0, 0) _ rfl (heap_setRow' _ _ _ _ _ hC0.out) uM8 rfl iX.out) rfl ⟨rfl, below_setRow' hb0 _ (by omega) _⟩
end Go.Proofs.Ytfidbiabgmioaaa
