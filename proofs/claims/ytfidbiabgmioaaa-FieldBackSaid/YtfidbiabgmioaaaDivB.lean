import Derived.Test.YtfidbiabgmioaaaDivA
import Derived.Test.YtfidbiabgmioaaaWordB
/-! math/bits.Div64. -/
set_option maxRecDepth 4000
set_option linter.unusedVariables false
set_option linter.unusedSimpArgs false
namespace Go.Proofs.Ytfidbiabgmioaaa
open Go.RowKit

theorem lz64_same (x : Nat) (h : x < 2 ^ 64) (w : World) : Calls Try.prog 133 #[.int .u64 (x : Int)] w fun e w' => e = .returned (.int .i64 ((64 - bl x : Nat) : Int)) ∧ w = w' :=
  (bits_LeadingZeros64 (x : Int) w (by omega) (by omega)).mono fun e w' ⟨h1, h2⟩ => ⟨by
    have := bl_le x 64 h
    rw [h1, Int.toNat_natCast, bl_lib x h]; congr 2; omega, h2.symm⟩

theorem u64w_nat (n : Nat) : IntKind.u64.wrap (n : Int) = ((n % 18446744073709551616 : Nat) : Int) := by rw [IntKind.wrap_u64]; omega
theorem u64w_sub (a b c : Nat) (h : c + b = a) (hc : c < 18446744073709551616) : IntKind.u64.wrap (IntKind.u64.wrap (a : Int) - IntKind.u64.wrap (b : Int)) = (c : Int) := by
  rw [IntKind.wrap_u64, IntKind.wrap_u64, IntKind.wrap_u64]; omega

/-- The lower half, and the guess at it. -/
theorem div_second (U z1 z0 y1 y0 Y b : Nat) (hYe : Y = y1 * 4294967296 + y0) (hU : U < Y) (hY : Y < 2 ^ 64) (h1 : 0 < y1) (hz0 : z0 < 4294967296) (hb : b = (U * 4294967296 + z1) / (y1 * 4294967296 + y0)) :
    ∃ V q r : Nat, V = (U * 4294967296 + z1) % Y ∧ V < Y ∧
    IntKind.u64.wrap (IntKind.u64.wrap (IntKind.u64.wrap ((U : Int) * 4294967296) + (z1 : Int)) - IntKind.u64.wrap ((b : Int) * (Y : Int))) = (V : Int) ∧
    (V : Int).tdiv (y1 : Int) = (q : Int) ∧ IntKind.u64.wrap ((V : Int) - IntKind.u64.wrap ((q : Int) * (y1 : Int))) = (r : Int) ∧
    Hid (Gs 4294967296 y1 y0 V z0 q r) ∧ q < 2 ^ 64 ∧ r < y1 := by
  have hp : 0 < Y := by omega
  have hV := Nat.mod_lt (U * 4294967296 + z1) hp
  have hd := Nat.div_add_mod (U * 4294967296 + z1) Y
  rw [← hYe] at hb
  rw [← hb] at hd
  obtain ⟨V, hV2⟩ : ∃ V, V = (U * 4294967296 + z1) % Y := ⟨_, rfl⟩
  rw [← hV2] at hd hV
  have hq1 := Nat.div_add_mod V y1
  have hq2 := Nat.mod_lt V h1
  have hq3 := Nat.div_le_self V y1
  refine ⟨V, V / y1, V - V / y1 * y1, hV2, hV, ?_, rfl, ?_, hid (Gs.start hz0 h1), by omega, by rw [Nat.mul_comm] at hq1; omega⟩
  · rw [show (b : Int) * (Y : Int) = ((Y * b : Nat) : Int) by rw [Nat.mul_comm, Int.natCast_mul]]
    have e1 := IntKind.wrap_u64 ((U : Int) * 4294967296)
    have e2 := IntKind.wrap_u64 (((Y * b : Nat) : Int))
    rw [e1, e2, IntKind.wrap_u64, IntKind.wrap_u64]
    omega
  · rw [show ((V / y1 : Nat) : Int) * (y1 : Int) = ((V / y1 * y1 : Nat) : Int) by rw [Int.natCast_mul]]
    have h5 := Nat.div_mul_le_self V y1
    rw [u64w_nat, Nat.mod_eq_of_lt (by omega), IntKind.wrap_u64]
    omega
/-- What is left at last. -/
theorem div_third (V z0 y1 y0 Y a : Nat) (hYe : Y = y1 * 4294967296 + y0) (hp : 0 < Y) (hY : Y < 2 ^ 64) (ha : a = (V * 4294967296 + z0) / (y1 * 4294967296 + y0)) :
    ∃ R, R = (V * 4294967296 + z0) % Y ∧ R < 2 ^ 64 ∧ IntKind.u64.wrap (IntKind.u64.wrap (IntKind.u64.wrap ((V : Int) * 4294967296) + (z0 : Int)) - IntKind.u64.wrap ((a : Int) * (Y : Int))) = (R : Int) := by
  have hV := Nat.mod_lt (V * 4294967296 + z0) hp
  have hd := Nat.div_add_mod (V * 4294967296 + z0) Y
  rw [← hYe] at ha
  rw [← ha] at hd
  refine ⟨_, rfl, by omega, ?_⟩
  rw [show (a : Int) * (Y : Int) = ((Y * a : Nat) : Int) by rw [Nat.mul_comm, Int.natCast_mul]]
  have e1 := IntKind.wrap_u64 ((V : Int) * 4294967296)
  have e2 := IntKind.wrap_u64 (((Y * a : Nat) : Int))
  rw [e1, e2, IntKind.wrap_u64, IntKind.wrap_u64]
  omega
set_option maxRecDepth 100000 in
set_option maxHeartbeats 4000000 in
theorem div64_any (hi lo y : Nat) (hhi : hi < y) (hlo : lo < 2 ^ 64) (hy : y < 2 ^ 64) (w : World) : Calls Try.prog 132 #[.int .u64 (hi : Int), .int .u64 (lo : Int), .int .u64 (y : Int)] w fun e w' =>
    e = .returned (.tuple #[.int .u64 (((hi * 2 ^ 64 + lo) / y : Nat) : Int), .int .u64 (((hi * 2 ^ 64 + lo) % y : Nat) : Int)]) ∧ Below w.heap.size w w' := by
  by_cases h0 : hi = 0
  · subst h0
    have hy0 : ¬ (y : Int) = 0 := by omega
    have hy1 : ¬ (y : Int) ≤ 0 := by omega
    obtain ⟨q, hq⟩ : ∃ q, q = lo / y := ⟨_, rfl⟩
    obtain ⟨r, hr⟩ : ∃ r, r = lo % y := ⟨_, rfl⟩
    have hq2 : q < 2 ^ 64 := by rw [hq]; exact Nat.lt_of_le_of_lt (Nat.div_le_self _ _) hlo
    have hr2 : r < 2 ^ 64 := by rw [hr]; exact Nat.lt_of_le_of_lt (Nat.mod_le _ _) hlo
    have H1 : ((lo : Int).tdiv (y : Int)) = (q : Int) := by rw [hq]; rfl
    have H2 : ((lo : Int).tmod (y : Int)) = (r : Int) := by rw [hr]; rfl
    have H3 := hid (show (0 * 2 ^ 64 + lo) / y = q by rw [Nat.zero_mul, Nat.zero_add, hq])
    have H4 := hid (show (0 * 2 ^ 64 + lo) % y = r by rw [Nat.zero_mul, Nat.zero_add, hr])
    rw [H3.out, H4.out]
    clear hq hr H3 H4
    go_enter Try.func132, Try.ntmps132
    go_wp2_with (refine wp_region_ext (by kernel_rfl) (by kernel_rfl) ?_; (repeat (go_big_quiet_step (first | fail))); refine wpQuiet_nil ?_; rintro _ ⟨xw, rfl⟩)
    go_ret2
    exact ⟨rfl, (by repeat (first | (with_reducible first | exact Below.refl _ _ | assumption | refine World.ext_below_of ?_ ?_ _ | refine Below.setCell ?_ ?_ _ | refine Below.alloc ?_ ?_ _ | refine Below.drew ?_ | refine World.size_le_ext _ _ _ ?_) | (solve | simp [go_sem] | (simp [go_sem]; omega) | omega)))⟩
  · have hS := hid (fun w => lz64_same y hy w)
    obtain ⟨s, hs⟩ : ∃ s, s = 64 - bl y := ⟨_, rfl⟩
    rw [← hs] at hS
    have hsp := bl_spec y (by omega)
    have hbl := bl_le y 64 hy
    have hs63 : s ≤ 63 := by omega
    have hy0 : ¬ (y : Int) = 0 := by omega
    have hy1 : ¬ (y : Int) ≤ (hi : Int) := by omega
    have h00 : ¬ (hi : Int) = 0 := by omega
    -- the divisor, its halves
    obtain ⟨Y, hY⟩ : ∃ Y, Y = y * 2 ^ s := ⟨_, rfl⟩
    have hp : 0 < 2 ^ s := Nat.pow_pos (by omega)
    have hYlt : Y < 2 ^ 64 := by
      have h1 : y * 2 ^ s < 2 ^ bl y * 2 ^ s := Nat.mul_lt_mul_of_pos_right hsp.2.2 hp
      rw [← Nat.pow_add, show bl y + s = 64 by omega] at h1
      rw [hY]; exact h1
    have hYge : 2 ^ 63 ≤ Y := by
      have h1 : 2 ^ (bl y - 1) * 2 ^ s ≤ y * 2 ^ s := Nat.mul_le_mul_right _ hsp.2.1
      rw [← Nat.pow_add, show bl y - 1 + s = 63 by omega] at h1
      rw [hY]; exact h1
    have E1 : IntKind.u64.wrap ((y : Int) * 2 ^ s) = (Y : Int) := by
      rw [show (y : Int) * 2 ^ s = ((y * 2 ^ s : Nat) : Int) by rw [Int.natCast_mul, Int.natCast_pow]; rfl, ← hY, u64w_nat, Nat.mod_eq_of_lt (by omega)]
    obtain ⟨y1, hy1'⟩ : ∃ y1, y1 = Y / 4294967296 := ⟨_, rfl⟩
    obtain ⟨y0, hy0'⟩ : ∃ y0, y0 = Y % 4294967296 := ⟨_, rfl⟩
    have E2 : (Y : Int) / 4294967296 = (y1 : Int) := by omega
    have E3 : bits .and .u64 (Y : Int) 4294967295 = (y0 : Int) := by
      rw [show (4294967295 : Int) = ((2 ^ 32 - 1 : Nat) : Int) from rfl, u64_and_nat _ _ hYlt (by decide), Nat.and_two_pow_sub_one_eq_mod, hy0']
    -- what stands above
    have hlo2 : lo / 2 ^ (64 - s) < 2 ^ s := by
      rw [Nat.div_lt_iff_lt_mul (Nat.pow_pos (by omega)), ← Nat.pow_add, show s + (64 - s) = 64 by omega]; exact hlo
    obtain ⟨U, hU⟩ : ∃ U, U = hi * 2 ^ s + lo / 2 ^ (64 - s) := ⟨_, rfl⟩
    have hUY : U < Y := by
      have h1 : (hi + 1) * 2 ^ s ≤ y * 2 ^ s := Nat.mul_le_mul_right _ hhi
      rw [Nat.add_mul, Nat.one_mul] at h1
      omega
    have E4 : bits .or .u64 (IntKind.u64.wrap ((hi : Int) * 2 ^ s)) ((lo : Int) / 2 ^ (64 - s)) = (U : Int) := by
      have h1 : hi * 2 ^ s < 18446744073709551616 := Nat.lt_of_le_of_lt (by rw [hU]; exact Nat.le_add_right _ _) (Nat.lt_trans hUY hYlt)
      rw [show (hi : Int) * 2 ^ s = ((hi * 2 ^ s : Nat) : Int) by rw [Int.natCast_mul, Int.natCast_pow]; rfl, u64w_nat, Nat.mod_eq_of_lt h1]
      rw [show (lo : Int) / 2 ^ (64 - s) = ((lo / 2 ^ (64 - s) : Nat) : Int) by rw [Int.natCast_ediv, Int.natCast_pow]; rfl]
      rw [u64_or_nat _ _ h1 (Nat.lt_of_le_of_lt (Nat.div_le_self _ _) hlo), hU, Nat.or_comm, or_add _ _ _ hlo2, Nat.add_comm]
    obtain ⟨L, hL⟩ : ∃ L, L = lo * 2 ^ s % 2 ^ 64 := ⟨_, rfl⟩
    have hLlt : L < 2 ^ 64 := by rw [hL]; exact Nat.mod_lt _ (by decide)
    have E5 : IntKind.u64.wrap ((lo : Int) * 2 ^ s) = (L : Int) := by
      rw [show (lo : Int) * 2 ^ s = ((lo * 2 ^ s : Nat) : Int) by rw [Int.natCast_mul, Int.natCast_pow]; rfl, u64w_nat, hL]
    obtain ⟨z1, hz1⟩ : ∃ z1, z1 = L / 4294967296 := ⟨_, rfl⟩
    obtain ⟨z0, hz0⟩ : ∃ z0, z0 = L % 4294967296 := ⟨_, rfl⟩
    have E6 : (L : Int) / 4294967296 = (z1 : Int) := by omega
    have E7 : bits .and .u64 (L : Int) 4294967295 = (z0 : Int) := by
      rw [show (4294967295 : Int) = ((2 ^ 32 - 1 : Nat) : Int) from rfl, u64_and_nat _ _ hLlt (by decide), Nat.and_two_pow_sub_one_eq_mod, hz0]
    -- the whole
    have HN := hid (show (hi * 2 ^ 64 + lo) * 2 ^ s = U * (4294967296 * 4294967296) + z1 * 4294967296 + z0 by
      have h1 : lo * 2 ^ s = lo / 2 ^ (64 - s) * 2 ^ 64 + L := by
        have e : lo * 2 ^ s / 2 ^ 64 = lo / 2 ^ (64 - s) := by
          rw [show (2 : Nat) ^ 64 = 2 ^ (64 - s) * 2 ^ s by rw [← Nat.pow_add]; congr 1; omega, Nat.mul_div_mul_right _ _ hp]
        have := Nat.div_add_mod (lo * 2 ^ s) (2 ^ 64)
        rw [e, ← hL] at this; omega
      rw [Nat.add_mul, Nat.mul_right_comm, h1, hU]
      omega)
    have HD := hid (div_shift (hi * 2 ^ 64 + lo) y s)
    have HYe := hid (show Y = y1 * 4294967296 + y0 by omega)
    rw [← hY, HN.out] at HD
    have hYpos : 0 < Y := by omega
    have HH := hid (div_halves 4294967296 U z1 z0 Y hYpos)
    have by1 : y1 < 4294967296 := by omega
    have by1' : 2147483648 ≤ y1 := by omega
    have by0 : y0 < 4294967296 := by omega
    have bz1 : z1 < 4294967296 := by omega
    have bz0 : z0 < 4294967296 := by omega
    have bU : U < 2 ^ 64 := by omega
    rw [← HD.out.1, ← HD.out.2, HH.out.1, HH.out.2]
    obtain ⟨X1, hX1⟩ : ∃ X, X = (U * 4294967296 + z1) / Y * 4294967296 + ((U * 4294967296 + z1) % Y * 4294967296 + z0) / Y := ⟨_, rfl⟩
    obtain ⟨X2, hX2⟩ : ∃ X, X = ((U * 4294967296 + z1) % Y * 4294967296 + z0) % Y / 2 ^ s := ⟨_, rfl⟩
    rw [← hX1, ← hX2]
    have HX1 := hid hX1
    have HX2 := hid hX2
    clear hX1 hX2
    -- the first guess
    obtain ⟨q, hq⟩ : ∃ q, q = U / y1 := ⟨_, rfl⟩
    have hG := hid (Gs.start (B := 4294967296) (y1 := y1) (y0 := y0) (u := U) bz1 (by omega))
    have hqle : q * y1 ≤ U := by rw [hq]; exact Nat.div_mul_le_self _ _
    have hrlt : U - q * y1 < y1 := by
      have h1 := Nat.div_add_mod U y1
      have h2 := Nat.mod_lt U (show 0 < y1 by omega)
      rw [Nat.mul_comm, ← hq] at h1; omega
    rw [← hq] at hG
    have bq : q < 2 ^ 64 := by rw [hq]; exact Nat.lt_of_le_of_lt (Nat.div_le_self _ _) bU
    obtain ⟨r, hr⟩ : ∃ r, r = U - q * y1 := ⟨_, rfl⟩
    rw [← hr] at hG hrlt
    have E8 : (U : Int).tdiv (y1 : Int) = (q : Int) := by rw [hq]; rfl
    have E9 : IntKind.u64.wrap ((U : Int) - IntKind.u64.wrap ((q : Int) * (y1 : Int))) = (r : Int) := by
      rw [show (q : Int) * (y1 : Int) = ((q * y1 : Nat) : Int) by rw [Int.natCast_mul], u64w_nat, Nat.mod_eq_of_lt (by omega), IntKind.wrap_u64]; omega
    have hn1 : ¬ (y1 : Int) = 0 := by omega
    have hUY' := hid hUY
    clear hsp hbl hs hp hlo2 hU hL hLlt hY hYge hy1' hy0' hz1 hz0 HD HH HN hhi hq hqle hr hUY hYpos
    go_enter Try.func132, Try.ntmps132
    go_wp2_with fail
    refine (hS.out _).mono ?_
    rintro e w1 ⟨rfl, rfl⟩
    go_wp2_with fail
    go_loopw [15, 16] (fun qv rv wr => ∃ q r : Nat, qv = .int .u64 q ∧ rv = .int .u64 r ∧ q < 2 ^ 64 ∧ r < 4294967296 ∧ Hid (Gs 4294967296 y1 y0 U z1 q r) ∧ wr = w)
      (fun qv _ _ => (intOf qv).toNat)
    case atStart => exact ⟨q, r, rfl, rfl, bq, by omega, hG, rfl⟩
    case round =>
      clear hG E1 E2 E3 E4 E5 E6 E7 E8 E9 bq hrlt hS
      obtain ⟨a, c, rfl, rfl, ba, bc, hG, rfl⟩ := hrel
      have hu : U < y1 * 4294967296 + y0 := by rw [← HYe.out]; exact hUY'.out
      have hYp : 0 < y1 * 4294967296 + y0 := by omega
      by_cases hq : 4294967296 ≤ a
      · have hM := hid (hG.out.more bz1 hu (.inl hq))
        have hN := hid (hG.out.next hM.out)
        obtain ⟨b, rfl⟩ : ∃ b, a = b + 1 := ⟨a - 1, by omega⟩
        rw [Nat.add_sub_cancel] at hN
        have hqi : ¬ ((b : Int) + 1 < 4294967296) := by omega
        have hqj : (4294967296 : Int) ≤ (b : Int) + 1 := by omega
        by_cases hc : 4294967296 ≤ c + y1
        · have hc' : (4294967296 : Int) ≤ (c : Int) + (y1 : Int) := by omega
          have hc2 : ¬ ((c : Int) + (y1 : Int) < 4294967296) := by omega
          have hL := hN.out.last by0 hu hc
          have hB := hN.out.right hYp hL.2
          have hblt := hL.1
          clear hq hM hN hG ba hc
          obtain ⟨V, q2, r2, hV1, hV2, F1, F2, F3, hG2, bq2, br2⟩ := div_second U z1 z0 y1 y0 Y b HYe.out hUY'.out hYlt (by omega) bz0 hB
          have HV := hid hV1
          have HBY := hid (show (U * 4294967296 + z1) / Y = b by rw [hB, HYe.out])
          have HV2 := hid hV2
          clear hB hV1
          go_wp2_with fail
          clear F1 F2 F3 hV2
          go_loopw [18, 16] (fun qv rv wr2 => ∃ q r : Nat, qv = .int .u64 q ∧ rv = .int .u64 r ∧ q < 2 ^ 64 ∧ r < 4294967296 ∧ Hid (Gs 4294967296 y1 y0 V z0 q r) ∧ wr2 = wr)
            (fun qv _ _ => (intOf qv).toNat)
          case atStart => exact ⟨q2, r2, rfl, rfl, bq2, by omega, hG2, rfl⟩
          case round =>
            clear hG2 bq2 br2
            obtain ⟨d, f, rfl, rfl, bd, bf, hG3, rfl⟩ := hrel
            have hu3 : V < y1 * 4294967296 + y0 := by rw [← HYe.out]; exact HV2.out
            by_cases hq3 : 4294967296 ≤ d
            · have hM3 := hid (hG3.out.more bz0 hu3 (.inl hq3))
              have hN3 := hid (hG3.out.next hM3.out)
              obtain ⟨g, rfl⟩ : ∃ g, d = g + 1 := ⟨d - 1, by omega⟩
              rw [Nat.add_sub_cancel] at hN3
              have hqi3 : ¬ ((g : Int) + 1 < 4294967296) := by omega
              have hqj3 : (4294967296 : Int) ≤ (g : Int) + 1 := by omega
              by_cases hc3 : 4294967296 ≤ f + y1
              · have hc' : (4294967296 : Int) ≤ (f : Int) + (y1 : Int) := by omega
                have hc2 : ¬ ((f : Int) + (y1 : Int) < 4294967296) := by omega
                have hL := hN3.out.last by0 hu3 hc3
                have hA := hN3.out.right hYp hL.2
                have hglt := hL.1
                clear hq3 hM3 hN3 hG3 bd hc3 hu3 hL
                have HA := hid (show (V * 4294967296 + z0) / Y = g by rw [hA, HYe.out])
                obtain ⟨R, hR, hRlt, F4⟩ := div_third V z0 y1 y0 Y g HYe.out (by rw [HYe.out]; exact hYp) hYlt hA
                have HR := hid hR
                clear hR hA
                go_wp2_with fail
                go_ret2
                refine ⟨(show Ending.returned (.tuple #[.int .u64 ((b : Int) * 4294967296 + (g : Int)), .int .u64 ((R : Int) / 2 ^ s)]) = _ from ?_), Below.refl _ _⟩
                have e1 : (X1 : Int) = (b : Int) * 4294967296 + (g : Int) := by
                  rw [HX1.out, ← HV.out, HA.out, HBY.out]; omega
                have e2 : (X2 : Int) = (R : Int) / 2 ^ s := by
                  rw [HX2.out, ← HV.out, ← HR.out, Int.natCast_ediv, Int.natCast_pow]; rfl
                rw [← e1, ← e2]
              · have hc' : ¬ (4294967296 : Int) ≤ (f : Int) + (y1 : Int) := by omega
                have hc2 : (f : Int) + (y1 : Int) < 4294967296 := by omega
                clear hu3
                go_wp2_with fail
                go_roundw
                case rel => exact ⟨g, f + y1, by go_num, by go_num, by omega, by omega, hN3, trivial⟩
                case measure => simp [intOf]
            · obtain ⟨p, hp⟩ : ∃ p, p = d * y0 := ⟨_, rfl⟩
              have hpi : (d : Int) * (y0 : Int) = (p : Int) := by rw [hp, Int.natCast_mul]
              have hplt : p < 18446744073709551616 := by
                have : d * y0 ≤ 4294967295 * 4294967295 := Nat.mul_le_mul (by omega) (by omega)
                omega
              have hqi3 : (d : Int) < 4294967296 := by omega
              have hqj3 : ¬ (4294967296 : Int) ≤ (d : Int) := by omega
              by_cases hgt : f * 4294967296 + z0 < p
              · have hM3 := hid (hG3.out.more bz0 hu3 (.inr (by rw [← hp]; exact hgt)))
                have hN3 := hid (hG3.out.next hM3.out)
                obtain ⟨g, hg⟩ : ∃ g, d = g + 1 := ⟨d - 1, by have := Nat.lt_of_le_of_lt (Nat.zero_le _) hM3.out; omega⟩
                rw [hg, Nat.add_sub_cancel] at hN3
                have hgi : (d : Int) - 1 = (g : Int) := by omega
                have hgd : g < d := by omega
                have hd1 : 1 ≤ d := by omega
                have hg2 : (4294967296 : Int) * (f : Int) + (z0 : Int) < (p : Int) := by omega
                by_cases hc3 : 4294967296 ≤ f + y1
                · have hc' : (4294967296 : Int) ≤ (f : Int) + (y1 : Int) := by omega
                  have hc2 : ¬ ((f : Int) + (y1 : Int) < 4294967296) := by omega
                  have hL := hN3.out.last by0 hu3 hc3
                  have hA := hN3.out.right hYp hL.2
                  have hglt := hL.1
                  have Hp := hid hp
                  clear hq3 hM3 hN3 hG3 bd hc3 hu3 hL hp hgt hg
                  have HA := hid (show (V * 4294967296 + z0) / Y = g by rw [hA, HYe.out])
                  obtain ⟨R, hR, hRlt, F4⟩ := div_third V z0 y1 y0 Y g HYe.out (by rw [HYe.out]; exact hYp) hYlt hA
                  have HR := hid hR
                  clear hR hA
                  go_wp2_with fail
                  go_ret2
                  refine ⟨(show Ending.returned (.tuple #[.int .u64 ((b : Int) * 4294967296 + (g : Int)), .int .u64 ((R : Int) / 2 ^ s)]) = _ from ?_), Below.refl _ _⟩
                  have e1 : (X1 : Int) = (b : Int) * 4294967296 + (g : Int) := by
                    rw [HX1.out, ← HV.out, HA.out, HBY.out]; omega
                  have e2 : (X2 : Int) = (R : Int) / 2 ^ s := by
                    rw [HX2.out, ← HV.out, ← HR.out, Int.natCast_ediv, Int.natCast_pow]; rfl
                  rw [← e1, ← e2]
                · have hc' : ¬ (4294967296 : Int) ≤ (f : Int) + (y1 : Int) := by omega
                  have hc2 : (f : Int) + (y1 : Int) < 4294967296 := by omega
                  clear hu3 hp hgt hg
                  go_wp2_with fail
                  go_roundw
                  case rel => exact ⟨g, f + y1, by go_num, by go_num, by omega, by omega, hN3, trivial⟩
                  case measure => simp [intOf]; omega
              · obtain ⟨g, hgd⟩ : ∃ g, g = d := ⟨d, rfl⟩
                have hA : g = (V * 4294967296 + z0) / (y1 * 4294967296 + y0) := by rw [hgd]; exact hG3.out.right hYp (by rw [← hp]; omega)
                have hg2 : ¬ ((4294967296 : Int) * (f : Int) + (z0 : Int) < (p : Int)) := by omega
                have hglt : g < 4294967296 := by omega
                subst hgd
                clear hq3 hG3 bd hu3 hp hgt
                have HA := hid (show (V * 4294967296 + z0) / Y = g by rw [hA, HYe.out])
                obtain ⟨R, hR, hRlt, F4⟩ := div_third V z0 y1 y0 Y g HYe.out (by rw [HYe.out]; exact hYp) hYlt hA
                have HR := hid hR
                clear hR hA
                go_wp2_with fail
                go_ret2
                refine ⟨(show Ending.returned (.tuple #[.int .u64 ((b : Int) * 4294967296 + (g : Int)), .int .u64 ((R : Int) / 2 ^ s)]) = _ from ?_), Below.refl _ _⟩
                have e1 : (X1 : Int) = (b : Int) * 4294967296 + (g : Int) := by
                  rw [HX1.out, ← HV.out, HA.out, HBY.out]; omega
                have e2 : (X2 : Int) = (R : Int) / 2 ^ s := by
                  rw [HX2.out, ← HV.out, ← HR.out, Int.natCast_ediv, Int.natCast_pow]; rfl
                rw [← e1, ← e2]
        · have hc' : ¬ (4294967296 : Int) ≤ (c : Int) + (y1 : Int) := by omega
          have hc2 : (c : Int) + (y1 : Int) < 4294967296 := by omega
          go_wp2_with fail
          go_roundw
          case rel => exact ⟨b, c + y1, by go_num, by go_num, by omega, by omega, hN, trivial⟩
          case measure => simp [intOf]
      · obtain ⟨p, hp⟩ : ∃ p, p = a * y0 := ⟨_, rfl⟩
        have hpi : (a : Int) * (y0 : Int) = (p : Int) := by rw [hp, Int.natCast_mul]
        have hplt : p < 18446744073709551616 := by
          have : a * y0 ≤ 4294967295 * 4294967295 := Nat.mul_le_mul (by omega) (by omega)
          omega
        have hqi : (a : Int) < 4294967296 := by omega
        have hqj : ¬ (4294967296 : Int) ≤ (a : Int) := by omega
        by_cases hgt : c * 4294967296 + z1 < p
        · have hM := hid (hG.out.more bz1 hu (.inr (by rw [← hp]; exact hgt)))
          have hN := hid (hG.out.next hM.out)
          obtain ⟨b, hb⟩ : ∃ b, a = b + 1 := ⟨a - 1, by have := Nat.lt_of_le_of_lt (Nat.zero_le _) hM.out; omega⟩
          rw [hb, Nat.add_sub_cancel] at hN
          have hbi : (a : Int) - 1 = (b : Int) := by omega
          have hbd : b < a := by omega
          have hd1 : 1 ≤ a := by omega
          have hg2 : (4294967296 : Int) * (c : Int) + (z1 : Int) < (p : Int) := by omega
          by_cases hc : 4294967296 ≤ c + y1
          · have hc' : (4294967296 : Int) ≤ (c : Int) + (y1 : Int) := by omega
            have hc2 : ¬ ((c : Int) + (y1 : Int) < 4294967296) := by omega
            have hL := hN.out.last by0 hu hc
            have hB := hN.out.right hYp hL.2
            have hblt := hL.1
            clear hq hM hN hG ba hc hp hgt hb
            obtain ⟨V, q2, r2, hV1, hV2, F1, F2, F3, hG2, bq2, br2⟩ := div_second U z1 z0 y1 y0 Y b HYe.out hUY'.out hYlt (by omega) bz0 hB
            have HV := hid hV1
            have HBY := hid (show (U * 4294967296 + z1) / Y = b by rw [hB, HYe.out])
            have HV2 := hid hV2
            clear hB hV1
            go_wp2_with fail
            clear F1 F2 F3 hV2
            go_loopw [18, 16] (fun qv rv wr2 => ∃ q r : Nat, qv = .int .u64 q ∧ rv = .int .u64 r ∧ q < 2 ^ 64 ∧ r < 4294967296 ∧ Hid (Gs 4294967296 y1 y0 V z0 q r) ∧ wr2 = wr)
              (fun qv _ _ => (intOf qv).toNat)
            case atStart => exact ⟨q2, r2, rfl, rfl, bq2, by omega, hG2, rfl⟩
            case round =>
              clear hG2 bq2 br2
              obtain ⟨d, f, rfl, rfl, bd, bf, hG3, rfl⟩ := hrel
              have hu3 : V < y1 * 4294967296 + y0 := by rw [← HYe.out]; exact HV2.out
              by_cases hq3 : 4294967296 ≤ d
              · have hM3 := hid (hG3.out.more bz0 hu3 (.inl hq3))
                have hN3 := hid (hG3.out.next hM3.out)
                obtain ⟨g, rfl⟩ : ∃ g, d = g + 1 := ⟨d - 1, by omega⟩
                rw [Nat.add_sub_cancel] at hN3
                have hqi3 : ¬ ((g : Int) + 1 < 4294967296) := by omega
                have hqj3 : (4294967296 : Int) ≤ (g : Int) + 1 := by omega
                by_cases hc3 : 4294967296 ≤ f + y1
                · have hc' : (4294967296 : Int) ≤ (f : Int) + (y1 : Int) := by omega
                  have hc2 : ¬ ((f : Int) + (y1 : Int) < 4294967296) := by omega
                  have hL := hN3.out.last by0 hu3 hc3
                  have hA := hN3.out.right hYp hL.2
                  have hglt := hL.1
                  clear hq3 hM3 hN3 hG3 bd hc3 hu3 hL
                  have HA := hid (show (V * 4294967296 + z0) / Y = g by rw [hA, HYe.out])
                  obtain ⟨R, hR, hRlt, F4⟩ := div_third V z0 y1 y0 Y g HYe.out (by rw [HYe.out]; exact hYp) hYlt hA
                  have HR := hid hR
                  clear hR hA
                  go_wp2_with fail
                  go_ret2
                  refine ⟨(show Ending.returned (.tuple #[.int .u64 ((b : Int) * 4294967296 + (g : Int)), .int .u64 ((R : Int) / 2 ^ s)]) = _ from ?_), Below.refl _ _⟩
                  have e1 : (X1 : Int) = (b : Int) * 4294967296 + (g : Int) := by
                    rw [HX1.out, ← HV.out, HA.out, HBY.out]; omega
                  have e2 : (X2 : Int) = (R : Int) / 2 ^ s := by
                    rw [HX2.out, ← HV.out, ← HR.out, Int.natCast_ediv, Int.natCast_pow]; rfl
                  rw [← e1, ← e2]
                · have hc' : ¬ (4294967296 : Int) ≤ (f : Int) + (y1 : Int) := by omega
                  have hc2 : (f : Int) + (y1 : Int) < 4294967296 := by omega
                  clear hu3
                  go_wp2_with fail
                  go_roundw
                  case rel => exact ⟨g, f + y1, by go_num, by go_num, by omega, by omega, hN3, trivial⟩
                  case measure => simp [intOf]
              · obtain ⟨p, hp⟩ : ∃ p, p = d * y0 := ⟨_, rfl⟩
                have hpi : (d : Int) * (y0 : Int) = (p : Int) := by rw [hp, Int.natCast_mul]
                have hplt : p < 18446744073709551616 := by
                  have : d * y0 ≤ 4294967295 * 4294967295 := Nat.mul_le_mul (by omega) (by omega)
                  omega
                have hqi3 : (d : Int) < 4294967296 := by omega
                have hqj3 : ¬ (4294967296 : Int) ≤ (d : Int) := by omega
                by_cases hgt : f * 4294967296 + z0 < p
                · have hM3 := hid (hG3.out.more bz0 hu3 (.inr (by rw [← hp]; exact hgt)))
                  have hN3 := hid (hG3.out.next hM3.out)
                  obtain ⟨g, hg⟩ : ∃ g, d = g + 1 := ⟨d - 1, by have := Nat.lt_of_le_of_lt (Nat.zero_le _) hM3.out; omega⟩
                  rw [hg, Nat.add_sub_cancel] at hN3
                  have hgi : (d : Int) - 1 = (g : Int) := by omega
                  have hgd : g < d := by omega
                  have hd1 : 1 ≤ d := by omega
                  have hg2 : (4294967296 : Int) * (f : Int) + (z0 : Int) < (p : Int) := by omega
                  by_cases hc3 : 4294967296 ≤ f + y1
                  · have hc' : (4294967296 : Int) ≤ (f : Int) + (y1 : Int) := by omega
                    have hc2 : ¬ ((f : Int) + (y1 : Int) < 4294967296) := by omega
                    have hL := hN3.out.last by0 hu3 hc3
                    have hA := hN3.out.right hYp hL.2
                    have hglt := hL.1
                    have Hp := hid hp
                    clear hq3 hM3 hN3 hG3 bd hc3 hu3 hL hp hgt hg
                    have HA := hid (show (V * 4294967296 + z0) / Y = g by rw [hA, HYe.out])
                    obtain ⟨R, hR, hRlt, F4⟩ := div_third V z0 y1 y0 Y g HYe.out (by rw [HYe.out]; exact hYp) hYlt hA
                    have HR := hid hR
                    clear hR hA
                    go_wp2_with fail
                    go_ret2
                    refine ⟨(show Ending.returned (.tuple #[.int .u64 ((b : Int) * 4294967296 + (g : Int)), .int .u64 ((R : Int) / 2 ^ s)]) = _ from ?_), Below.refl _ _⟩
                    have e1 : (X1 : Int) = (b : Int) * 4294967296 + (g : Int) := by
                      rw [HX1.out, ← HV.out, HA.out, HBY.out]; omega
                    have e2 : (X2 : Int) = (R : Int) / 2 ^ s := by
                      rw [HX2.out, ← HV.out, ← HR.out, Int.natCast_ediv, Int.natCast_pow]; rfl
                    rw [← e1, ← e2]
                  · have hc' : ¬ (4294967296 : Int) ≤ (f : Int) + (y1 : Int) := by omega
                    have hc2 : (f : Int) + (y1 : Int) < 4294967296 := by omega
                    clear hu3 hp hgt hg
                    go_wp2_with fail
                    go_roundw
                    case rel => exact ⟨g, f + y1, by go_num, by go_num, by omega, by omega, hN3, trivial⟩
                    case measure => simp [intOf]; omega
                · obtain ⟨g, hgd⟩ : ∃ g, g = d := ⟨d, rfl⟩
                  have hA : g = (V * 4294967296 + z0) / (y1 * 4294967296 + y0) := by rw [hgd]; exact hG3.out.right hYp (by rw [← hp]; omega)
                  have hg2 : ¬ ((4294967296 : Int) * (f : Int) + (z0 : Int) < (p : Int)) := by omega
                  have hglt : g < 4294967296 := by omega
                  subst hgd
                  clear hq3 hG3 bd hu3 hp hgt
                  have HA := hid (show (V * 4294967296 + z0) / Y = g by rw [hA, HYe.out])
                  obtain ⟨R, hR, hRlt, F4⟩ := div_third V z0 y1 y0 Y g HYe.out (by rw [HYe.out]; exact hYp) hYlt hA
                  have HR := hid hR
                  clear hR hA
                  go_wp2_with fail
                  go_ret2
                  refine ⟨(show Ending.returned (.tuple #[.int .u64 ((b : Int) * 4294967296 + (g : Int)), .int .u64 ((R : Int) / 2 ^ s)]) = _ from ?_), Below.refl _ _⟩
                  have e1 : (X1 : Int) = (b : Int) * 4294967296 + (g : Int) := by
                    rw [HX1.out, ← HV.out, HA.out, HBY.out]; omega
                  have e2 : (X2 : Int) = (R : Int) / 2 ^ s := by
                    rw [HX2.out, ← HV.out, ← HR.out, Int.natCast_ediv, Int.natCast_pow]; rfl
                  rw [← e1, ← e2]
          · have hc' : ¬ (4294967296 : Int) ≤ (c : Int) + (y1 : Int) := by omega
            have hc2 : (c : Int) + (y1 : Int) < 4294967296 := by omega
            clear hp hgt hb
            go_wp2_with fail
            go_roundw
            case rel => exact ⟨b, c + y1, by go_num, by go_num, by omega, by omega, hN, trivial⟩
            case measure => simp [intOf]; omega
        · obtain ⟨b, hbd⟩ : ∃ b, b = a := ⟨a, rfl⟩
          have hB : b = (U * 4294967296 + z1) / (y1 * 4294967296 + y0) := by rw [hbd]; exact hG.out.right hYp (by rw [← hp]; omega)
          have hg2 : ¬ ((4294967296 : Int) * (c : Int) + (z1 : Int) < (p : Int)) := by omega
          have hblt : b < 4294967296 := by omega
          subst hbd
          clear hq hG ba hp hgt
          obtain ⟨V, q2, r2, hV1, hV2, F1, F2, F3, hG2, bq2, br2⟩ := div_second U z1 z0 y1 y0 Y b HYe.out hUY'.out hYlt (by omega) bz0 hB
          have HV := hid hV1
          have HBY := hid (show (U * 4294967296 + z1) / Y = b by rw [hB, HYe.out])
          have HV2 := hid hV2
          clear hB hV1
          go_wp2_with fail
          clear F1 F2 F3 hV2
          go_loopw [18, 16] (fun qv rv wr2 => ∃ q r : Nat, qv = .int .u64 q ∧ rv = .int .u64 r ∧ q < 2 ^ 64 ∧ r < 4294967296 ∧ Hid (Gs 4294967296 y1 y0 V z0 q r) ∧ wr2 = wr)
            (fun qv _ _ => (intOf qv).toNat)
          case atStart => exact ⟨q2, r2, rfl, rfl, bq2, by omega, hG2, rfl⟩
          case round =>
            clear hG2 bq2 br2
            obtain ⟨d, f, rfl, rfl, bd, bf, hG3, rfl⟩ := hrel
            have hu3 : V < y1 * 4294967296 + y0 := by rw [← HYe.out]; exact HV2.out
            by_cases hq3 : 4294967296 ≤ d
            · have hM3 := hid (hG3.out.more bz0 hu3 (.inl hq3))
              have hN3 := hid (hG3.out.next hM3.out)
              obtain ⟨g, rfl⟩ : ∃ g, d = g + 1 := ⟨d - 1, by omega⟩
              rw [Nat.add_sub_cancel] at hN3
              have hqi3 : ¬ ((g : Int) + 1 < 4294967296) := by omega
              have hqj3 : (4294967296 : Int) ≤ (g : Int) + 1 := by omega
              by_cases hc3 : 4294967296 ≤ f + y1
              · have hc' : (4294967296 : Int) ≤ (f : Int) + (y1 : Int) := by omega
                have hc2 : ¬ ((f : Int) + (y1 : Int) < 4294967296) := by omega
                have hL := hN3.out.last by0 hu3 hc3
                have hA := hN3.out.right hYp hL.2
                have hglt := hL.1
                clear hq3 hM3 hN3 hG3 bd hc3 hu3 hL
                have HA := hid (show (V * 4294967296 + z0) / Y = g by rw [hA, HYe.out])
                obtain ⟨R, hR, hRlt, F4⟩ := div_third V z0 y1 y0 Y g HYe.out (by rw [HYe.out]; exact hYp) hYlt hA
                have HR := hid hR
                clear hR hA
                go_wp2_with fail
                go_ret2
                refine ⟨(show Ending.returned (.tuple #[.int .u64 ((b : Int) * 4294967296 + (g : Int)), .int .u64 ((R : Int) / 2 ^ s)]) = _ from ?_), Below.refl _ _⟩
                have e1 : (X1 : Int) = (b : Int) * 4294967296 + (g : Int) := by
                  rw [HX1.out, ← HV.out, HA.out, HBY.out]; omega
                have e2 : (X2 : Int) = (R : Int) / 2 ^ s := by
                  rw [HX2.out, ← HV.out, ← HR.out, Int.natCast_ediv, Int.natCast_pow]; rfl
                rw [← e1, ← e2]
              · have hc' : ¬ (4294967296 : Int) ≤ (f : Int) + (y1 : Int) := by omega
                have hc2 : (f : Int) + (y1 : Int) < 4294967296 := by omega
                clear hu3
                go_wp2_with fail
                go_roundw
                case rel => exact ⟨g, f + y1, by go_num, by go_num, by omega, by omega, hN3, trivial⟩
                case measure => simp [intOf]
            · obtain ⟨p, hp⟩ : ∃ p, p = d * y0 := ⟨_, rfl⟩
              have hpi : (d : Int) * (y0 : Int) = (p : Int) := by rw [hp, Int.natCast_mul]
              have hplt : p < 18446744073709551616 := by
                have : d * y0 ≤ 4294967295 * 4294967295 := Nat.mul_le_mul (by omega) (by omega)
                omega
              have hqi3 : (d : Int) < 4294967296 := by omega
              have hqj3 : ¬ (4294967296 : Int) ≤ (d : Int) := by omega
              by_cases hgt : f * 4294967296 + z0 < p
              · have hM3 := hid (hG3.out.more bz0 hu3 (.inr (by rw [← hp]; exact hgt)))
                have hN3 := hid (hG3.out.next hM3.out)
                obtain ⟨g, hg⟩ : ∃ g, d = g + 1 := ⟨d - 1, by have := Nat.lt_of_le_of_lt (Nat.zero_le _) hM3.out; omega⟩
                rw [hg, Nat.add_sub_cancel] at hN3
                have hgi : (d : Int) - 1 = (g : Int) := by omega
                have hgd : g < d := by omega
                have hd1 : 1 ≤ d := by omega
                have hg2 : (4294967296 : Int) * (f : Int) + (z0 : Int) < (p : Int) := by omega
                by_cases hc3 : 4294967296 ≤ f + y1
                · have hc' : (4294967296 : Int) ≤ (f : Int) + (y1 : Int) := by omega
                  have hc2 : ¬ ((f : Int) + (y1 : Int) < 4294967296) := by omega
                  have hL := hN3.out.last by0 hu3 hc3
                  have hA := hN3.out.right hYp hL.2
                  have hglt := hL.1
                  have Hp := hid hp
                  clear hq3 hM3 hN3 hG3 bd hc3 hu3 hL hp hgt hg
                  have HA := hid (show (V * 4294967296 + z0) / Y = g by rw [hA, HYe.out])
                  obtain ⟨R, hR, hRlt, F4⟩ := div_third V z0 y1 y0 Y g HYe.out (by rw [HYe.out]; exact hYp) hYlt hA
                  have HR := hid hR
                  clear hR hA
                  go_wp2_with fail
                  go_ret2
                  refine ⟨(show Ending.returned (.tuple #[.int .u64 ((b : Int) * 4294967296 + (g : Int)), .int .u64 ((R : Int) / 2 ^ s)]) = _ from ?_), Below.refl _ _⟩
                  have e1 : (X1 : Int) = (b : Int) * 4294967296 + (g : Int) := by
                    rw [HX1.out, ← HV.out, HA.out, HBY.out]; omega
                  have e2 : (X2 : Int) = (R : Int) / 2 ^ s := by
                    rw [HX2.out, ← HV.out, ← HR.out, Int.natCast_ediv, Int.natCast_pow]; rfl
                  rw [← e1, ← e2]
                · have hc' : ¬ (4294967296 : Int) ≤ (f : Int) + (y1 : Int) := by omega
                  have hc2 : (f : Int) + (y1 : Int) < 4294967296 := by omega
                  clear hu3 hp hgt hg
                  go_wp2_with fail
                  go_roundw
                  case rel => exact ⟨g, f + y1, by go_num, by go_num, by omega, by omega, hN3, trivial⟩
                  case measure => simp [intOf]; omega
              · obtain ⟨g, hgd⟩ : ∃ g, g = d := ⟨d, rfl⟩
                have hA : g = (V * 4294967296 + z0) / (y1 * 4294967296 + y0) := by rw [hgd]; exact hG3.out.right hYp (by rw [← hp]; omega)
                have hg2 : ¬ ((4294967296 : Int) * (f : Int) + (z0 : Int) < (p : Int)) := by omega
                have hglt : g < 4294967296 := by omega
                subst hgd
                clear hq3 hG3 bd hu3 hp hgt
                have HA := hid (show (V * 4294967296 + z0) / Y = g by rw [hA, HYe.out])
                obtain ⟨R, hR, hRlt, F4⟩ := div_third V z0 y1 y0 Y g HYe.out (by rw [HYe.out]; exact hYp) hYlt hA
                have HR := hid hR
                clear hR hA
                go_wp2_with fail
                go_ret2
                refine ⟨(show Ending.returned (.tuple #[.int .u64 ((b : Int) * 4294967296 + (g : Int)), .int .u64 ((R : Int) / 2 ^ s)]) = _ from ?_), Below.refl _ _⟩
                have e1 : (X1 : Int) = (b : Int) * 4294967296 + (g : Int) := by
                  rw [HX1.out, ← HV.out, HA.out, HBY.out]; omega
                have e2 : (X2 : Int) = (R : Int) / 2 ^ s := by
                  rw [HX2.out, ← HV.out, ← HR.out, Int.natCast_ediv, Int.natCast_pow]; rfl
                rw [← e1, ← e2]
end Go.Proofs.Ytfidbiabgmioaaa
