import Derived.Test.YtfidbiabgmioaaaFldA
/-! field: fold. -/
set_option maxRecDepth 4000
set_option linter.unusedVariables false
set_option linter.unusedSimpArgs false
namespace Go.Proofs.Ytfidbiabgmioaaa
open Go.RowKit

theorem high_limb (N i : Nat) : lmN (N / 2 ^ 256) i = lmN N (i + 4) := by
  unfold lmN
  rw [Nat.div_div_eq_div_mul, ← Nat.pow_add, show 256 + 64 * i = 64 * (i + 4) by omega]
theorem fold_step (N X c i hi lo u1 v1 u2 v2 : Nat) (hc : c ≤ 39) (hu2 : u2 < 2 ^ 64) (hX : X < 2 ^ (64 * i))
    (hm : lmN N (i + 4) * 38 = lo + 2 ^ 64 * hi) (h1 : lo + c = u1 + 2 ^ 64 * v1) (h2 : lmN N i + u1 = u2 + 2 ^ 64 * v2)
    (hinv : X + 2 ^ (64 * i) * c = N % 2 ^ (64 * i) + 38 * (N / 2 ^ 256 % 2 ^ (64 * i))) :
    hi + v1 + v2 ≤ 39 ∧ X + 2 ^ (64 * i) * u2 < 2 ^ (64 * (i + 1)) ∧
    X + 2 ^ (64 * i) * u2 + 2 ^ (64 * (i + 1)) * (hi + v1 + v2) = N % 2 ^ (64 * (i + 1)) + 38 * (N / 2 ^ 256 % 2 ^ (64 * (i + 1))) := by
  have g1 := lmN_lt N i
  have g2 := lmN_lt N (i + 4)
  refine ⟨by clear hinv hX; omega, set_lt X i u2 hX hu2, ?_⟩
  rw [low_succ, low_succ, high_limb, pow64_succ]
  have e3 : u2 + 2 ^ 64 * (hi + v1 + v2) = lmN N i + 38 * lmN N (i + 4) + c := by omega
  have e4 : 2 ^ (64 * i) * u2 + 2 ^ (64 * i) * 2 ^ 64 * (hi + v1 + v2) = 2 ^ (64 * i) * lmN N i + 38 * (2 ^ (64 * i) * lmN N (i + 4)) + 2 ^ (64 * i) * c := by
    rw [Nat.mul_assoc, ← Nat.mul_add, e3, Nat.mul_add, Nat.mul_add, Nat.mul_left_comm]
  omega
theorem fold_mod (N X c : Nat) (hN : N < 2 ^ (64 * 8)) (h : X + 2 ^ (64 * 4) * c = N % 2 ^ (64 * 4) + 38 * (N / 2 ^ 256 % 2 ^ (64 * 4))) : (X + 2 ^ 256 * c) % pN = N % pN := by
  rw [show 64 * 4 = 256 from rfl, Nat.mod_eq_of_lt (show N / 2 ^ 256 < 2 ^ 256 from Nat.div_lt_of_lt_mul (by rw [← Nat.pow_add, show 256 + 256 = 64 * 8 from rfl]; exact hN))] at h
  rw [h]
  have h2 := Nat.mod_add_div N (2 ^ 256)
  have h3 := pN_two
  generalize N / 2 ^ 256 = q at *
  generalize N % 2 ^ 256 = r at *
  generalize 2 ^ 256 = T at *
  subst h3
  rw [← h2, show r + (2 * pN + 38) * q = r + 38 * q + pN * (2 * q) by rw [Nat.add_mul]; rw [Nat.mul_left_comm, ← Nat.mul_assoc 2 pN q]; omega]
  rw [Nat.add_mul_mod_self_left]
theorem wrap_mod (X c Y e : Nat) (h : Y + 2 ^ 256 * e = X + 38 * c) : (Y + 2 ^ 256 * e) % pN = (X + 2 ^ 256 * c) % pN := by
  rw [h]
  have h3 := pN_two
  generalize 2 ^ 256 = T at *
  subst h3
  rw [show X + (2 * pN + 38) * c = X + 38 * c + pN * (2 * c) by rw [Nat.add_mul]; rw [Nat.mul_left_comm, ← Nat.mul_assoc 2 pN c]; omega]
  rw [Nat.add_mul_mod_self_left]

set_option maxHeartbeats 4000000 in
set_option maxRecDepth 100000 in
theorem fold_any (N : Nat) (w : World) (hN : N < 2 ^ (64 * 8)) : Calls Try.prog 123 #[.agg (cellsM 8 N)] w fun e w' => e = .returned (wd (N % pN)) ∧ Below w.heap.size w w' := by
  have HN := hid hN
  have hB := hid (fun x w (hx : x < 2 ^ 256) => below_any x w hx)
  clear hN
  unfold wd at *
  have iN := hid (iM8 N)
  obtain ⟨W0, hW0⟩ : ∃ W0, W0 = ((w.alloc (.cells (cellsM 8 N) 69)).alloc (.cells (cellsW 0) 24)).alloc (.cells (cellsW 0) 24) := ⟨_, rfl⟩
  have hA0 := hid (show ArrM 69 8 W0 w.heap.size N by rw [hW0]; exact ((ArrM.new _ 8 w N).alloc _).alloc _)
  have hR0 := hid (show ArrW 24 W0 (w.heap.size + 1) 0 by
    have := ArrW.new 24 (w.alloc (.cells (cellsM 8 N) 69)) 0
    rw [World.size_alloc] at this; rw [hW0]; exact this.alloc _)
  have hX0 := hid (show ArrW 24 W0 (w.heap.size + 2) 0 by
    have := ArrW.new 24 ((w.alloc (.cells (cellsM 8 N) 69)).alloc (.cells (cellsW 0) 24)) 0
    rw [World.size_alloc, World.size_alloc] at this; rw [hW0]; exact this)
  have hb0 : Below w.heap.size w W0 := by rw [hW0]; exact (((Below.refl _ _).alloc (Nat.le_refl _) _).alloc (by simp) _).alloc (by simp; omega) _
  go_enter Try.func123, Try.ntmps123
  go_wp2_with (refine wpList_alloc_new rfl 24 rfl (cellsW 0) zWd ?_; simp only [Act.put, List.setIfInBounds_toArray, List.set_cons_zero, List.set_cons_succ, World.size_alloc])
  rw [← hW0]
  clear hW0
  go_loopw [4, 11] (fun cv iv wr => ∃ i c X : Nat, i ≤ 4 ∧ c ≤ 39 ∧ iv = .int .i64 (i : Int) ∧ cv = .int .u64 (c : Int) ∧ Hid (X < 2 ^ (64 * i) ∧ X + 2 ^ (64 * i) * c = N % 2 ^ (64 * i) + 38 * (N / 2 ^ 256 % 2 ^ (64 * i))) ∧ Hid (ArrM 69 8 wr w.heap.size N) ∧ Hid (ArrW 24 wr (w.heap.size + 1) 0) ∧ Hid (ArrW 24 wr (w.heap.size + 2) X) ∧ Below w.heap.size w wr)
    (fun _ iv _ => 4 - (intOf iv).toNat)
  case atStart => exact ⟨0, 0, 0, by omega, by omega, rfl, rfl, hid ⟨by simp, by simp [Nat.mod_one]⟩, hA0, hR0, hX0, hb0⟩
  case round =>
    clear hA0 hR0 hX0 hb0
    obtain ⟨i, c, X, hi, hc, rfl, rfl, hX, hA, hR, hW, hb⟩ := hrel
    by_cases hlt : i < 4
    · have c1 := hA.out.cell (i + 4) (by omega)
      have l1 := hA.out.lt
      obtain ⟨mhi, mlo, m1, m2, m3, m4⟩ := mul64_nat (lmN N (i + 4)) 38 (lmN_lt _ _) (by omega)
      obtain ⟨u1, v1, p1, p2, p3, p4⟩ := add64_nat0 mlo c m2 (by omega)
      obtain ⟨u2, v2, r1, r2, r3, r4⟩ := add64_nat0 (lmN N i) u1 (lmN_lt _ _) p1
      obtain ⟨s1, s2, s3⟩ := fold_step N X c i mhi mlo u1 v1 u2 v2 hc r1 hX.out.1 m3 p3 r3 hX.out.2
      have hset := hid (cellsW_set X i u2 hX.out.1 r1 hlt)
      have M4 := hid m4
      have S2 := hid s2
      have S3 := hid s3
      have hmhi : mhi ≤ 37 := by have := lmN_lt N (i + 4); omega
      clear m3 p3 r3 s2 s3 m4 hX
      go_wp2_with fail
      refine (M4.out _).mono ?_
      rintro e w2 ⟨rfl, hb2⟩
      have hA2 := hid (hA.out.below hb2 hA.out.lt)
      have hR2 := hid (hR.out.below hb2 hR.out.lt)
      have hW2 := hid (hW.out.below hb2 hW.out.lt)
      have hb3 := hb.trans (hb2.mono hb.size)
      clear hA hR hW hb hb2 c1 l1 M4
      have c1 := hA2.out.cell i (by omega)
      have l1 := hA2.out.lt
      have c3 := hW2.out.cell i hlt
      have f3 := hW2.out.free i
      have l3 := hW2.out.lt
      go_wp2
      go_roundw
      case rel =>
        refine ⟨i + 1, mhi + v1 + v2, X + 2 ^ (64 * i) * u2, by omega, s1, by go_num, by go_num, hid ⟨S2.out, S3.out⟩, hid (hA2.out.other (by show w.heap.size ≠ w.heap.size + 2; omega) _), hid (hR2.out.other (by show w.heap.size + 1 ≠ w.heap.size + 2; omega) _), hid (hW2.out.set i _ hset.out), hb3.setCell (p := ⟨w.heap.size + 2, i, none⟩) (by show w.heap.size ≤ w.heap.size + 2; omega) _⟩
      case measure => simp [intOf]; omega
    · obtain rfl : i = 4 := by omega
      have hmod := hid (fold_mod N X c HN.out hX.out.2)
      have HXl := hid (show X < 2 ^ 256 from hX.out.1)
      clear hX hlt hi hA iN HN
      go_wp2
      go_loopg [4] (X + 2 ^ 256 * c) (fun k cv wr => ∃ c X : Nat, c ≤ 39 ∧ cv = .int .u64 (c : Int) ∧ Hid (k = X + 2 ^ 256 * c ∧ X < 2 ^ 256 ∧ (X + 2 ^ 256 * c) % pN = N % pN) ∧ Hid (ArrW 24 wr (w.heap.size + 1) 0) ∧ Hid (ArrW 24 wr (w.heap.size + 2) X) ∧ Below w.heap.size w wr)
      case atStart => exact ⟨c, X, hc, rfl, hid ⟨rfl, HXl.out, hmod.out⟩, hR, hW, hb⟩
      case round =>
        clear hmod HXl hR hW hb
        obtain ⟨c, X, hc, rfl, hK, hR, hW, hb⟩ := hrel
        by_cases hc0 : 0 < c
        · have hX := hid (And.intro hK.out.2.1 hK.out.2.2)
          have HK := hid hK.out.1
          have a38 : c * 38 ≤ 1482 := by omega
          obtain ⟨u, v, p1, p2, p3, p4⟩ := add64_nat0 (lmN X 0) (c * 38) (lmN_lt _ _) (by omega)
          have c3 := hW.out.cell 0 (by omega)
          have f3 := hW.out.free 0
          have l3 := hW.out.lt
          unfold lm at c3
          have hci : (0 : Int) < (c : Int) := by omega
          have e38 : (c : Int) * 38 = ((c * 38 : Nat) : Int) := by omega
          have p4' : ∀ w, (callFunc 101 #[.int .u64 ((lmN X 0 : Nat) : Int), .int .u64 ((c : Int) * 38), .int .u64 0]).run Try.prog w = .ok (.value (.tuple #[.int .u64 (u : Int), .int .u64 (v : Int)])) w := by rw [e38]; exact p4
          have hset := hid (cellsM_set 4 X 0 u p1)
          have HS := hid (show setL X 0 u + 2 ^ (64 * 1) * v = X + 38 * c by
            have := setL_eq X 0 u
            rw [show 2 ^ (64 * 0) = 1 from rfl, Nat.one_mul, Nat.one_mul] at this
            rw [show 2 ^ (64 * 1) = 2 ^ 64 from rfl]
            omega)
          have HL := hid (show setL X 0 u < 2 ^ 256 from setL_lt X 0 u 4 hX.out.1 p1 (by omega))
          clear p3 p4 e38 hK
          go_wp2
          have hW2 := hid (show ArrW 24 (wr.setCell ⟨w.heap.size + 2, 0, none⟩ (.int .u64 (u : Int))) (w.heap.size + 2) (setL X 0 u) from (ArrM.toW (hW.out |> fun h => (ArrM.ofW h).set 0 u p1)))
          have hR2 := hid (hR.out.other (show w.heap.size + 1 ≠ (⟨w.heap.size + 2, 0, none⟩ : Addr).block by show w.heap.size + 1 ≠ w.heap.size + 2; omega) (.int .u64 (u : Int)))
          have hb2 : Below w.heap.size w (wr.setCell ⟨w.heap.size + 2, 0, none⟩ (.int .u64 (u : Int))) := hb.setCell (p := ⟨w.heap.size + 2, 0, none⟩) (by show w.heap.size ≤ w.heap.size + 2; omega) _
          generalize wr.setCell ⟨w.heap.size + 2, 0, none⟩ (.int .u64 (u : Int)) = w2 at hW2 hR2 hb2 ⊢
          clear hW hR hb c3 f3 l3 p4' hset
          go_loopw [4, 10] (fun ev iv wr => ∃ i e Y : Nat, 1 ≤ i ∧ i ≤ 4 ∧ e ≤ 1 ∧ ev = .int .u64 (e : Int) ∧ iv = .int .i64 (i : Int) ∧ Hid (Y < 2 ^ 256 ∧ Y + 2 ^ (64 * i) * e = X + 38 * c) ∧ Hid (ArrW 24 wr (w.heap.size + 1) 0) ∧ Hid (ArrW 24 wr (w.heap.size + 2) Y) ∧ Below w.heap.size w wr)
            (fun _ iv _ => 4 - (intOf iv).toNat)
          case atStart => exact ⟨1, v, setL X 0 u, by omega, by omega, p2, rfl, rfl, hid ⟨HL.out, HS.out⟩, hR2, hW2, hb2⟩
          case round =>
            clear hW2 hR2 hb2
            obtain ⟨i, e, Y, hi1, hi4, he, rfl, rfl, hY, hR, hW, hb⟩ := hrel
            by_cases hlt : i < 4
            · obtain ⟨u, v, p1, p2, p3, p4⟩ := add64_nat (lmN Y i) 0 e (lmN_lt _ _) (by omega) he
              have p4' : ∀ w, (callFunc 101 #[.int .u64 ((lmN Y i : Nat) : Int), .int .u64 0, .int .u64 (e : Int)]).run Try.prog w = .ok (.value (.tuple #[.int .u64 (u : Int), .int .u64 (v : Int)])) w := p4
              have c3 := hW.out.cell i hlt
              have f3 := hW.out.free i
              have l3 := hW.out.lt
              unfold lm at c3
              have HL := hid (show setL Y i u < 2 ^ 256 from setL_lt Y i u 4 hY.out.1 p1 hlt)
              have HS := hid (show setL Y i u + 2 ^ (64 * (i + 1)) * v = X + 38 * c by
                have h1 := setL_eq Y i u
                have h2 := hY.out.2
                rw [pow64_succ]
                have h3 : 2 ^ (64 * i) * u + 2 ^ (64 * i) * 2 ^ 64 * v = 2 ^ (64 * i) * lmN Y i + 2 ^ (64 * i) * e := by
                  rw [Nat.mul_assoc, ← Nat.mul_add, ← Nat.mul_add]; congr 1; omega
                omega)
              clear p3 p4 hY
              go_wp2
              go_roundw
              case rel =>
                exact ⟨i + 1, v, setL Y i u, by omega, by omega, p2, rfl, by go_num, hid ⟨HL.out, HS.out⟩, hid (hR.out.other (by show w.heap.size + 1 ≠ w.heap.size + 2; omega) _), hid (ArrM.toW ((ArrM.ofW hW.out).set i u p1)), hb.setCell (p := ⟨w.heap.size + 2, i, none⟩) (by show w.heap.size ≤ w.heap.size + 2; omega) _⟩
              case measure => simp [intOf]; omega
            · obtain rfl : i = 4 := by omega
              have HM := hid (wrap_mod X c Y e hY.out.2)
              have HD := hid (show Y + 2 ^ 256 * e < X + 2 ^ 256 * c by
                have h2 : Y + 2 ^ 256 * e = X + 38 * c := hY.out.2
                rw [h2]
                have h3 : (38 : Nat) < 2 ^ 256 := by decide
                generalize 2 ^ 256 = T at *
                have := Nat.mul_lt_mul_of_pos_right h3 hc0
                omega)
              have HY := hid hY.out.1
              clear hY hlt
              go_wp2
              go_roundg (Y + 2 ^ 256 * e)
              case measure => rw [HK.out]; exact HD.out
              case rel => exact ⟨e, Y, by omega, rfl, hid ⟨rfl, HY.out, HM.out.trans hX.out.2⟩, hR, hW, hb⟩
        · obtain rfl : c = 0 := by omega
          have hX := hid hK.out.2
          have hB1 := hid (fun w => hB.out X w hX.out.1)
          have hXm := hid (show X % pN = N % pN by have := hX.out.2; rwa [Nat.mul_zero, Nat.add_zero] at this)
          rw [hXm.out] at hB1
          have HXl := hid hX.out.1
          clear hK hX hB
          obtain ⟨r, hr⟩ : ∃ r, r = N % pN := ⟨_, rfl⟩
          rw [← hr] at hB1
          have HR := hid hr
          have iX := hid (iW X)
          have iR := hid (iW r)
          have nR := hid (one_cellsW r)
          clear hr hc0 hXm
          go_wp2_with (refine wpList_load_row rfl 24 (.tmp 3) rfl (w.heap.size + 2) rfl 24 _ (0, 0) _ hW.out uWd rfl iX.out ?_; simp only [Act.put, List.setIfInBounds_toArray, List.set_cons_zero, List.set_cons_succ])
          refine (hB1.out _).mono ?_
          rintro e w2 ⟨rfl, hb2⟩
          have hR2 := hid (hR.out.below hb2 hR.out.lt)
          have hb3 := hb.trans (hb2.mono hb.size)
          clear hR hW hb hb2
          go_wp2_with (refine wpList_store_row rfl 24 (.tmp 2) (.tmp 72) rfl (w.heap.size + 1) _ rfl rfl 24 _ hR2.out iR.out rfl nR.out ?_; simp only [Act.put])
          refine bodyPost_ret (results_cell_row rfl _ _ (w.heap.size + 1) 24 (cellsW r) (0, 0) _ rfl (heap_setRow' _ _ _ _ _ hR2.out) uWd rfl iR.out) rfl ⟨by rw [HR.out], below_setRow' hb3 _ (by omega) _⟩
end Go.Proofs.Ytfidbiabgmioaaa
