import Derived.Test.YtfidbiabgmioaaaNatP
/-! conclaveref01.Times. -/
set_option maxRecDepth 4000
set_option linter.unusedVariables false
set_option linter.unusedSimpArgs false
namespace Go.Proofs.Ytfidbiabgmioaaa
open Go.RowKit

theorem at_ext (l : List Nat) (i : Nat) (v : Value) (w : World) (hr : RdL w v l) (hl : l.length ≤ 1048576) (hi : i ≤ 1048576) (x : World) :
    Calls Try.prog 112 #[v, .int .i64 i] (w.ext x) fun e w' => e = .returned (.int .i64 ((nd l i : Nat) : Int)) ∧ Below (w.ext x).heap.size (w.ext x) w' :=
  (at_any l i v (w.ext x) (hr.ext x) hl hi).mono fun e w' ⟨h1, h2⟩ => ⟨h1, by subst h2; exact Below.refl _ _⟩

/-- One step of the inner loop. -/
theorem times_step (o x y : List Nat) (N i k c b : Nat) (ho : Dig o) (hx : Dig x) (hy : Dig y) (hN : o.length = N) (hik : i + k < N) (hc : c ≤ 255)
    (h : num o + 256 ^ (i + k) * c = b + 256 ^ i * (nd x i * num (y.take k))) :
    num (o.set (i + k) ((c + nd o (i + k) + nd x i * nd y k) % 256)) + 256 ^ (i + (k + 1)) * ((c + nd o (i + k) + nd x i * nd y k) / 256) = b + 256 ^ i * (nd x i * num (y.take (k + 1))) ∧
      (c + nd o (i + k) + nd x i * nd y k) / 256 ≤ 255 := by
  have h1 := nd_dig ho (i + k)
  have h2 := nd_dig hx i
  have h3 := nd_dig hy k
  have hm : nd x i * nd y k ≤ 255 * 255 := Nat.mul_le_mul (by omega) (by omega)
  generalize hs : c + nd o (i + k) + nd x i * nd y k = s
  have h4 := num_set o (i + k) (s % 256) (by omega)
  have h5 : num (y.take (k + 1)) = num (y.take k) + 256 ^ k * nd y k := num_take_succ y k
  refine ⟨?_, by omega⟩
  have e1 : 256 ^ (i + k) * (s % 256) + 256 ^ (i + (k + 1)) * (s / 256) = 256 ^ (i + k) * s := by
    rw [← Nat.add_assoc, Nat.pow_succ, Nat.mul_assoc, ← Nat.mul_add, Nat.mod_add_div]
  have e2 : 256 ^ (i + k) * s = 256 ^ (i + k) * c + 256 ^ (i + k) * nd o (i + k) + 256 ^ (i + k) * (nd x i * nd y k) := by rw [← hs, Nat.mul_add, Nat.mul_add]
  have e3 : 256 ^ i * (nd x i * num (y.take (k + 1))) = 256 ^ i * (nd x i * num (y.take k)) + 256 ^ (i + k) * (nd x i * nd y k) := by
    rw [h5, Nat.mul_add, Nat.mul_add, Nat.pow_add]
    congr 1
    simp only [Nat.mul_assoc, Nat.mul_comm, Nat.mul_left_comm]
  omega
/-- Behind the last digit nothing is carried on. -/
theorem times_end (o x y : List Nat) (i c : Nat) (hx : Dig x) (hy : Dig y) (hi : i < x.length)
    (h : num o + 256 ^ (i + (y.length + 1)) * c = num (x.take i) * num y + 256 ^ i * (nd x i * num y)) : c = 0 := by
  have h1 : num (x.take i) * num y + 256 ^ i * (nd x i * num y) = num (x.take (i + 1)) * num y := by
    rw [num_take_succ, Nat.add_mul, Nat.mul_assoc]; rfl
  rw [h1] at h
  have h2 : num (x.take (i + 1)) < 256 ^ (i + 1) := by
    have := num_lt _ (hx.take (i + 1))
    rw [List.length_take, Nat.min_eq_left (by omega)] at this; exact this
  have h3 := num_lt y hy
  have h4 : num (x.take (i + 1)) * num y < 256 ^ (i + 1) * 256 ^ y.length := by
    apply Nat.mul_lt_mul_of_lt_of_le h2 (Nat.le_of_lt h3)
    exact Nat.pow_pos (by omega)
  rw [← Nat.pow_add, show i + 1 + y.length = i + (y.length + 1) by omega] at h4
  rcases Nat.eq_zero_or_pos c with h0 | h0
  · exact h0
  · have : 256 ^ (i + (y.length + 1)) * 1 ≤ 256 ^ (i + (y.length + 1)) * c := Nat.mul_le_mul_left _ h0
    omega

set_option maxHeartbeats 1000000 in
theorem times_any (a b : Nat) (va vb : Value) (w : World) (ha : RdN w va a) (hb : RdN w vb b) (la : (dg a).length ≤ 65536) (lb : (dg b).length ≤ 65536) :
    Calls Try.prog 104 #[va, vb] w fun e w' => ∃ v', e = .returned v' ∧ RdN w' v' (a * b) ∧ Below w.heap.size w w' := by
  have HA := hid ha
  have HB := hid hb
  have DA := hid (dg_dig a)
  have DB := hid (dg_dig b)
  obtain ⟨aa, ca, rfl, hca, hxa⟩ := ha
  obtain ⟨ab, cb, rfl, hcb, -⟩ := hb
  obtain ⟨x, hx⟩ : ∃ x, x = dg a := ⟨_, rfl⟩
  obtain ⟨y, hy⟩ : ∃ y, y = dg b := ⟨_, rfl⟩
  have hprod : num x * num y = a * b := by rw [hx, hy, num_dg, num_dg]
  have HPROD := hid hprod
  unfold RdN at HA HB
  rw [← hx] at HA DA la hca hxa ⊢
  rw [← hy] at HB DB lb hcb ⊢
  have HXA := hid hxa
  clear hx hy hprod hxa
  obtain ⟨N, hN⟩ : ∃ N, N = x.length + y.length + 1 := ⟨_, rfl⟩
  have eN : (x.length : Int) + (y.length : Int) + 1 = (N : Int) := by omega
  have HN := hid hN
  have hN0 : 0 < N := by omega
  have hNb : N ≤ 131073 := by omega
  have hmk := mkNat N (by omega)
  clear hN
  go_enter Try.func104, Try.ntmps104
  go_wp2
  go_loopw [6] (fun iv wr => ∃ i : Nat, i ≤ x.length ∧ iv = .int .i64 i ∧ Hid (∃ o, ArrL wr w.heap.size o ∧ o.length = N ∧ Dig o ∧ num o = num (x.take i) * num y) ∧ Below w.heap.size w wr)
    (fun iv _ => x.length - (intOf iv).toNat)
  case atStart => exact ⟨0, by omega, rfl, hid ⟨_, ArrL.new _ _, by simp, Dig.rep _, by rw [num_rep]; simp [num]⟩, (Below.refl _ _).alloc (Nat.le_refl _) _⟩
  case round =>
    clear hmk
    obtain ⟨i, hi, rfl, ho, hb⟩ := hrel
    obtain ⟨o0, ho0⟩ := ho.out
    have HO0 := hid ho0
    clear ho ho0
    by_cases hlt : i < x.length
    · obtain ⟨ba, offa, rfl, hbl, hcell⟩ := HXA.out (by intro e; subst e; simp at hlt)
      have hcx := hcell i hlt
      have gX := nd_dig DA.out i
      clear hcell
      go_wp2
      obtain ⟨wo, hwo⟩ : ∃ wo : World, wo = wr := ⟨_, rfl⟩
      subst hwo
      go_loopw [7, 8] (fun cv kv wr => ∃ k c : Nat, k ≤ y.length + 1 ∧ (k = y.length + 1 → c = 0) ∧ c ≤ 255 ∧ kv = .int .i64 k ∧ cv = .int .i64 c ∧ Hid (∃ o, ArrL wr w.heap.size o ∧ o.length = N ∧ Dig o ∧ num o + 256 ^ (i + k) * c = num (x.take i) * num y + 256 ^ i * (nd x i * num (y.take k))) ∧ Below w.heap.size w wr)
        (fun _ kv _ => y.length + 1 - (intOf kv).toNat)
      case atStart =>
        obtain ⟨h1, h2, h3, h4⟩ := HO0.out
        exact ⟨0, 0, by omega, fun h => rfl, by omega, rfl, rfl, hid ⟨o0, h1, h2, h3, by rw [h4]; simp [num]⟩, hb⟩
      case round =>
        clear HO0 hb
        obtain ⟨k, c, hk, hkc, hc, rfl, rfl, ho, hb⟩ := hrel
        obtain ⟨o, ho1, ho2, ho3, ho4⟩ := ho.out
        have hNv := HN.out
        have HO4 := hid ho4
        clear ho ho4
        by_cases hgo : k < y.length ∨ 0 < c
        · have hky : k ≤ y.length := by
            rcases hgo with h | h
            · omega
            · rcases Nat.lt_or_ge k (y.length + 1) with h1 | h1
              · omega
              · have := hkc (by omega); omega
          have hik : i + k < N := by omega
          obtain ⟨e1, e2⟩ := times_step o x y N i k c _ ho3 DA.out DB.out ho2 hik hc HO4.out
          have E1 := hid e1
          have hend : k = y.length → (c + nd o (i + k) + nd x i * nd y k) / 256 = 0 := fun e => by
            subst e
            have h9 := E1.out
            rw [show y.take (y.length + 1) = y from List.take_of_length_le (by omega)] at h9
            exact times_end _ x y i _ DA.out DB.out hlt h9
          have HEND := hid hend
          have c1 := ho1.cell (i + k) (by omega)
          have f1 := ho1.free (i + k)
          have l1 := ho1.lt
          have cx := (hb.cell (p := ⟨ba, offa + i, none⟩) hbl).trans hcx
          have lb1 : ba < wr.heap.size := Nat.lt_of_lt_of_le hbl hb.size
          have HAT := hid (at_ext y k _ wr (HB.out.below hb) (by omega) (by omega))
          have gO := nd_dig ho3 (i + k)
          have gY := nd_dig DB.out k
          have hm : nd x i * nd y k ≤ 65025 := Nat.mul_le_mul (by omega : nd x i ≤ 255) (by omega : nd y k ≤ 255)
          have hm2 : ((nd x i : Nat) : Int) * ((nd y k : Nat) : Int) = ((nd x i * nd y k : Nat) : Int) := by rw [Int.natCast_mul]
          have hm3 : ((nd x i : Nat) : Int) * ((nd y k : Nat) : Int) ≤ 65025 := by omega
          have hm4 : (0 : Int) ≤ ((nd x i : Nat) : Int) * ((nd y k : Nat) : Int) := by omega
          have HM2 := hid hm2
          clear hm2
          have HO1 := hid ho1
          have HO2 := hid ho2
          have HO3 := hid ho3
          have HKC := hid hkc
          clear e1 hend hkc ho1 ho2 ho3
          by_cases hky2 : k < y.length
          all_goals
            have hc0 : ¬ k < y.length → 0 < c := fun h => by omega
            first | have hc1 : (0 : Int) < c := by have := hc0 hky2; omega | skip
            clear hc0 hgo hNv
            go_wp2_with (refine wp_region_ext (by kernel_rfl) (by kernel_rfl) ?_; (repeat (go_big_quiet_step (first | (go_at_call 112; with_reducible refine Calls.ext_of (HAT.out _))))); refine wpQuiet_nil ?_; rintro _ ⟨xw, rfl⟩)
            have q1 : ((c : Int) + ((nd o (i + k) : Nat) : Int) + ((nd x i : Nat) : Int) * ((nd y k : Nat) : Int)) / 256 = (((c + nd o (i + k) + nd x i * nd y k) / 256 : Nat) : Int) := by rw [HM2.out]; omega
            have q2 : ((c : Int) + ((nd o (i + k) : Nat) : Int) + ((nd x i : Nat) : Int) * ((nd y k : Nat) : Int)) % 256 = (((c + nd o (i + k) + nd x i * nd y k) % 256 : Nat) : Int) := by rw [HM2.out]; omega
            go_roundw
            case rel =>
              rw [q1, q2]
              refine ⟨k + 1, (c + nd o (i + k) + nd x i * nd y k) / 256, by omega, fun e => HEND.out (by omega), e2, by go_num, rfl, hid ⟨_, (HO1.out.ext xw).set _ _, by rw [List.length_set]; exact HO2.out, HO3.out.set _ _ (by omega), E1.out⟩, (World.ext_below_of hb hb.size xw).setCell (p := ⟨w.heap.size, i + k, none⟩) (Nat.le_refl _) _⟩
            case measure => simp [intOf]; omega
        · have hky : y.length ≤ k := by omega
          obtain rfl : c = 0 := by omega
          have hn1 : ¬ k < y.length := by omega
          have HO1 := hid ho1
          have HO2 := hid ho2
          have HO3 := hid ho3
          clear ho1 ho2 ho3 hgo
          go_wp2
          go_roundw
          case rel =>
            refine ⟨i + 1, by omega, by go_num, hid ⟨o, HO1.out, HO2.out, HO3.out, ?_⟩, hb⟩
            have h9 := HO4.out
            rw [show y.take k = y from List.take_of_length_le hky, Nat.mul_zero, Nat.add_zero] at h9
            rw [h9, num_take_succ, Nat.add_mul, Nat.mul_assoc]; rfl
          case measure => simp [intOf]; omega
    · obtain rfl : i = x.length := by omega
      obtain ⟨h1, h2, h3, h4⟩ := HO0.out
      have hR := h1.rd N (by omega)
      rw [h2] at hR
      have HT := hid (trim_any o0 _ wr hR h3 (by omega))
      have HP := hid (show num o0 = a * b by rw [h4, List.take_of_length_le (Nat.le_refl _)]; exact HPROD.out)
      clear hR h1 h2 h3 h4
      go_wp2_with (go_at_call 113; (with_reducible refine HT.out.mono ?_); rintro e w' ⟨v', rfl, hr', hb'⟩)
      go_ret
      exact ⟨_, rfl, by rw [← HP.out]; exact hr', hb.trans (hb'.mono hb.size)⟩
end Go.Proofs.Ytfidbiabgmioaaa
