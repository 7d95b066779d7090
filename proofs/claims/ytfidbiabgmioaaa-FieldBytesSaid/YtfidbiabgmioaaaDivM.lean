import Derived.Test.YtfidbiabgmioaaaWordM
import Derived.Test.YtfidbiabgmioaaaWordN
/-! math/bits.Div64: the plain law. -/
set_option maxRecDepth 4000
set_option linter.unusedVariables false
set_option linter.unusedSimpArgs false
namespace Go.Proofs.Ytfidbiabgmioaaa
open Go.RowKit

/-- What is known of a guess at one half of a quotient: u is what stands above, z the half below; B: 2^32. -/
structure Gs (B y1 y0 u z q r : Nat) : Prop where
  sum : u = q * y1 + r
  big : (u * B + z) / (y1 * B + y0) ≤ q
theorem Gs.start {B y1 y0 u z : Nat} (hz : z < B) (h1 : 0 < y1) : Gs B y1 y0 u z (u / y1) (u - u / y1 * y1) := by
  have h := Nat.div_add_mod u y1
  refine ⟨by rw [Nat.mul_comm] at h; omega, ?_⟩
  rw [Nat.le_div_iff_mul_le h1]
  have h2 := Nat.div_mul_le_self (u * B + z) (y1 * B + y0)
  generalize (u * B + z) / (y1 * B + y0) = q at h2 ⊢
  rw [Nat.mul_add q (y1 * B) y0, ← Nat.mul_assoc q y1 B] at h2
  have h3 : q * y1 * B < (u + 1) * B := by rw [Nat.add_mul, Nat.one_mul]; omega
  exact Nat.le_of_lt_succ (Nat.lt_of_mul_lt_mul_right h3)
/-- The guess is right. -/
theorem Gs.right {B y1 y0 u z q r : Nat} (h : Gs B y1 y0 u z q r) (hp : 0 < y1 * B + y0) (hle : q * y0 ≤ r * B + z) : q = (u * B + z) / (y1 * B + y0) := by
  refine Nat.le_antisymm ?_ h.big
  rw [Nat.le_div_iff_mul_le hp, h.sum, Nat.mul_add q (y1 * B) y0, ← Nat.mul_assoc q y1 B, Nat.add_mul (q * y1) r B]
  omega
/-- The guess is too big. -/
theorem Gs.more {B y1 y0 u z q r : Nat} (h : Gs B y1 y0 u z q r) (hz : z < B) (hu : u < y1 * B + y0) (hgt : B ≤ q ∨ r * B + z < q * y0) : (u * B + z) / (y1 * B + y0) < q := by
  have hp : 0 < y1 * B + y0 := by omega
  rw [Nat.div_lt_iff_lt_mul hp]
  rcases hgt with hq | hq
  · refine Nat.lt_of_lt_of_le ?_ (Nat.mul_le_mul_right (y1 * B + y0) hq)
    have h2 : (u + 1) * B ≤ (y1 * B + y0) * B := Nat.mul_le_mul_right B hu
    rw [Nat.add_mul u 1 B, Nat.one_mul] at h2
    rw [Nat.mul_comm B]
    omega
  · rw [h.sum, Nat.mul_add q (y1 * B) y0, ← Nat.mul_assoc q y1 B, Nat.add_mul (q * y1) r B]
    omega
theorem Gs.next {B y1 y0 u z q r : Nat} (h : Gs B y1 y0 u z q r) (hm : (u * B + z) / (y1 * B + y0) < q) : Gs B y1 y0 u z (q - 1) (r + y1) := by
  refine ⟨?_, Nat.le_sub_one_of_lt hm⟩
  have hs := h.sum
  obtain ⟨p, rfl⟩ : ∃ p, q = p + 1 := ⟨q - 1, (Nat.succ_pred_eq_of_pos (Nat.lt_of_le_of_lt (Nat.zero_le _) hm)).symm⟩
  rw [Nat.add_mul p 1 y1, Nat.one_mul] at hs
  rw [Nat.add_sub_cancel]
  clear hm h
  omega
/-- No more steps. -/
theorem Gs.last {B y1 y0 u z q r : Nat} (h : Gs B y1 y0 u z q r) (h0 : y0 < B) (hu : u < y1 * B + y0) (hr : B ≤ r) : q < B ∧ q * y0 ≤ r * B + z := by
  have hq : q < B := by
    rcases Nat.lt_or_ge q B with h3 | h3
    · exact h3
    · have h4 : B * y1 ≤ q * y1 := Nat.mul_le_mul_right _ h3
      have := h.sum
      rw [Nat.mul_comm B] at h4
      omega
  refine ⟨hq, ?_⟩
  have h5 : q * y0 ≤ B * B := Nat.mul_le_mul (Nat.le_of_lt hq) (Nat.le_of_lt h0)
  have h6 : B * B ≤ r * B := Nat.mul_le_mul_right _ hr
  omega
theorem Gs.small {B y1 y0 u z : Nat} (hu : u < y1 * B + y0) (hz : z < B) : (u * B + z) / (y1 * B + y0) < B := by
  have hp : 0 < y1 * B + y0 := by omega
  rw [Nat.div_lt_iff_lt_mul hp]
  have h2 : (u + 1) * B ≤ (y1 * B + y0) * B := Nat.mul_le_mul_right B hu
  rw [Nat.add_mul u 1 B, Nat.one_mul] at h2
  rw [Nat.mul_comm B]
  omega
/-- Both halves. -/
theorem div_halves (B U z1 z0 Y : Nat) (hY : 0 < Y) :
    (U * (B * B) + z1 * B + z0) / Y = (U * B + z1) / Y * B + ((U * B + z1) % Y * B + z0) / Y ∧
    (U * (B * B) + z1 * B + z0) % Y = ((U * B + z1) % Y * B + z0) % Y := by
  have h := Nat.div_add_mod (U * B + z1) Y
  generalize (U * B + z1) / Y = q1 at h ⊢
  generalize (U * B + z1) % Y = r1 at h ⊢
  have e : U * (B * B) + z1 * B + z0 = r1 * B + z0 + Y * (q1 * B) := by
    have e2 : (U * B + z1) * B = (Y * q1 + r1) * B := by rw [h]
    rw [Nat.add_mul, Nat.add_mul, Nat.mul_assoc U, Nat.mul_assoc Y q1] at e2
    omega
  rw [e, Nat.add_mul_div_left _ _ hY, Nat.add_mul_mod_self_left]
  exact ⟨Nat.add_comm _ _, rfl⟩
/-- Shifted both. -/
theorem div_shift (N Y s : Nat) : N * 2 ^ s / (Y * 2 ^ s) = N / Y ∧ N * 2 ^ s % (Y * 2 ^ s) / 2 ^ s = N % Y := by
  have hp : 0 < 2 ^ s := Nat.pow_pos (by omega)
  rw [Nat.mul_div_mul_right _ _ hp, Nat.mul_mod_mul_right, Nat.mul_div_cancel _ hp]
  exact ⟨rfl, rfl⟩
end Go.Proofs.Ytfidbiabgmioaaa

/-! math/bits.Div64. -/
namespace Go.Proofs.Ytfidbiabgmioaaa
open Go.RowKit

theorem lz64_same (x : Nat) (h : x < 2 ^ 64) (w : World) : Calls Try.prog 133 #[.int .u64 (x : Int)] w fun e w' => e = .returned (.int .i64 ((64 - bl x : Nat) : Int)) ∧ w = w' :=
  (bits_LeadingZeros64 (x : Int) w (by omega) (by omega)).mono fun e w' ⟨h1, h2⟩ => ⟨by
    have := bl_le x 64 h
    rw [h1, Int.toNat_natCast, bl_lib x h]; congr 2; omega, h2.symm⟩

theorem u64w_nat (n : Nat) : IntKind.u64.wrap (n : Int) = ((n % 18446744073709551616 : Nat) : Int) := by rw [IntKind.wrap_u64]; omega
theorem u64w_sub (a b c : Nat) (h : c + b = a) (hc : c < 18446744073709551616) : IntKind.u64.wrap (IntKind.u64.wrap (a : Int) - IntKind.u64.wrap (b : Int)) = (c : Int) := by
  rw [IntKind.wrap_u64, IntKind.wrap_u64, IntKind.wrap_u64]; omega

/-- The lower half, and the guess at it. -/
theorem div_second (U z1 z0 y1 y0 Y b : Nat) (hYe : Y = y1 * 4294967296 + y0) (hU : U < Y) (hY : Y < 2 ^ 64) (h1 : 0 < y1) (hz0 : z0 < 4294967296) (hb : b = (U * 4294967296 + z1) / (y1 * 4294967296 + y0)) :
    ∃ V q r : Nat, V = (U * 4294967296 + z1) % Y ∧ V < Y ∧
    IntKind.u64.wrap (IntKind.u64.wrap (IntKind.u64.wrap ((U : Int) * 4294967296) + (z1 : Int)) - IntKind.u64.wrap ((b : Int) * (Y : Int))) = (V : Int) ∧
    (V : Int).tdiv (y1 : Int) = (q : Int) ∧ IntKind.u64.wrap ((V : Int) - IntKind.u64.wrap ((q : Int) * (y1 : Int))) = (r : Int) ∧
    Hid (Gs 4294967296 y1 y0 V z0 q r) ∧ q < 2 ^ 64 ∧ r < y1 := by
  have hp : 0 < Y := by omega
  have hV := Nat.mod_lt (U * 4294967296 + z1) hp
  have hd := Nat.div_add_mod (U * 4294967296 + z1) Y
  rw [← hYe] at hb
  rw [← hb] at hd
  obtain ⟨V, hV2⟩ : ∃ V, V = (U * 4294967296 + z1) % Y := ⟨_, rfl⟩
  rw [← hV2] at hd hV
  have hq1 := Nat.div_add_mod V y1
  have hq2 := Nat.mod_lt V h1
  have hq3 := Nat.div_le_self V y1
  refine ⟨V, V / y1, V - V / y1 * y1, hV2, hV, ?_, rfl, ?_, hid (Gs.start hz0 h1), by omega, by rw [Nat.mul_comm] at hq1; omega⟩
  · rw [show (b : Int) * (Y : Int) = ((Y * b : Nat) : Int) by rw [Nat.mul_comm, Int.natCast_mul]]
    have e1 := IntKind.wrap_u64 ((U : Int) * 4294967296)
    have e2 := IntKind.wrap_u64 (((Y * b : Nat) : Int))
    rw [e1, e2, IntKind.wrap_u64, IntKind.wrap_u64]
    omega
  · rw [show ((V / y1 : Nat) : Int) * (y1 : Int) = ((V / y1 * y1 : Nat) : Int) by rw [Int.natCast_mul]]
    have h5 := Nat.div_mul_le_self V y1
    rw [u64w_nat, Nat.mod_eq_of_lt (by omega), IntKind.wrap_u64]
    omega
/-- What is left at last. -/
theorem div_third (V z0 y1 y0 Y a : Nat) (hYe : Y = y1 * 4294967296 + y0) (hp : 0 < Y) (hY : Y < 2 ^ 64) (ha : a = (V * 4294967296 + z0) / (y1 * 4294967296 + y0)) :
    ∃ R, R = (V * 4294967296 + z0) % Y ∧ R < 2 ^ 64 ∧ IntKind.u64.wrap (IntKind.u64.wrap (IntKind.u64.wrap ((V : Int) * 4294967296) + (z0 : Int)) - IntKind.u64.wrap ((a : Int) * (Y : Int))) = (R : Int) := by
  have hV := Nat.mod_lt (V * 4294967296 + z0) hp
  have hd := Nat.div_add_mod (V * 4294967296 + z0) Y
  rw [← hYe] at ha
  rw [← ha] at hd
  refine ⟨_, rfl, by omega, ?_⟩
  rw [show (a : Int) * (Y : Int) = ((Y * a : Nat) : Int) by rw [Nat.mul_comm, Int.natCast_mul]]
  have e1 := IntKind.wrap_u64 ((V : Int) * 4294967296)
  have e2 := IntKind.wrap_u64 (((Y * a : Nat) : Int))
  rw [e1, e2, IntKind.wrap_u64, IntKind.wrap_u64]
  omega
set_option maxRecDepth 100000 in
set_option maxHeartbeats 4000000 in
theorem div64_any (hi lo y : Nat) (hhi : hi < y) (hlo : lo < 2 ^ 64) (hy : y < 2 ^ 64) (w : World) : Calls Try.prog 132 #[.int .u64 (hi : Int), .int .u64 (lo : Int), .int .u64 (y : Int)] w fun e w' =>
    e = .returned (.tuple #[.int .u64 (((hi * 2 ^ 64 + lo) / y : Nat) : Int), .int .u64 (((hi * 2 ^ 64 + lo) % y : Nat) : Int)]) ∧ Below w.heap.size w w' := by
  by_cases h0 : hi = 0
  · subst h0
    have hy0 : ¬ (y : Int) = 0 := by omega
    have hy1 : ¬ (y : Int) ≤ 0 := by omega
    obtain ⟨q, hq⟩ : ∃ q, q = lo / y := ⟨_, rfl⟩
    obtain ⟨r, hr⟩ : ∃ r, r = lo % y := ⟨_, rfl⟩
    have hq2 : q < 2 ^ 64 := by rw [hq]; exact Nat.lt_of_le_of_lt (Nat.div_le_self _ _) hlo
    have hr2 : r < 2 ^ 64 := by rw [hr]; exact Nat.lt_of_le_of_lt (Nat.mod_le _ _) hlo
    have H1 : ((lo : Int).tdiv (y : Int)) = (q : Int) := by rw [hq]; rfl
    have H2 : ((lo : Int).tmod (y : Int)) = (r : Int) := by rw [hr]; rfl
    have H3 := hid (show (0 * 2 ^ 64 + lo) / y = q by rw [Nat.zero_mul, Nat.zero_add, hq])
    have H4 := hid (show (0 * 2 ^ 64 + lo) % y = r by rw [Nat.zero_mul, Nat.zero_add, hr])
    rw [H3.out, H4.out]
    clear hq hr H3 H4
    go_enter Try.func132, Try.ntmps132
    go_wp2_with (refine wp_region_ext (by kernel_rfl) (by kernel_rfl) ?_; (repeat (go_big_quiet_step (first | fail))); refine wpQuiet_nil ?_; rintro _ ⟨xw, rfl⟩)
    go_ret2
    exact ⟨rfl, (by repeat (first | (with_reducible first | exact Below.refl _ _ | assumption | refine World.ext_below_of ?_ ?_ _ | refine Below.setCell ?_ ?_ _ | refine Below.alloc ?_ ?_ _ | refine Below.drew ?_ | refine World.size_le_ext _ _ _ ?_) | (solve | simp [go_sem] | (simp [go_sem]; omega) | omega)))⟩
  · have hS := hid (fun w => lz64_same y hy w)
    obtain ⟨s, hs⟩ : ∃ s, s = 64 - bl y := ⟨_, rfl⟩
    rw [← hs] at hS
    have hsp := bl_spec y (by omega)
    have hbl := bl_le y 64 hy
    have hs63 : s ≤ 63 := by omega
    have hy0 : ¬ (y : Int) = 0 := by omega
    have hy1 : ¬ (y : Int) ≤ (hi : Int) := by omega
    have h00 : ¬ (hi : Int) = 0 := by omega
    -- the divisor, its halves
    obtain ⟨Y, hY⟩ : ∃ Y, Y = y * 2 ^ s := ⟨_, rfl⟩
    have hp : 0 < 2 ^ s := Nat.pow_pos (by omega)
    have hYlt : Y < 2 ^ 64 := by
      have h1 : y * 2 ^ s < 2 ^ bl y * 2 ^ s := Nat.mul_lt_mul_of_pos_right hsp.2.2 hp
      rw [← Nat.pow_add, show bl y + s = 64 by omega] at h1
      rw [hY]; exact h1
    have hYge : 2 ^ 63 ≤ Y := by
      have h1 : 2 ^ (bl y - 1) * 2 ^ s ≤ y * 2 ^ s := Nat.mul_le_mul_right _ hsp.2.1
      rw [← Nat.pow_add, show bl y - 1 + s = 63 by omega] at h1
      rw [hY]; exact h1
    have E1 : IntKind.u64.wrap ((y : Int) * 2 ^ s) = (Y : Int) := by
      rw [show (y : Int) * 2 ^ s = ((y * 2 ^ s : Nat) : Int) by rw [Int.natCast_mul, Int.natCast_pow]; rfl, ← hY, u64w_nat, Nat.mod_eq_of_lt (by omega)]
    obtain ⟨y1, hy1'⟩ : ∃ y1, y1 = Y / 4294967296 := ⟨_, rfl⟩
    obtain ⟨y0, hy0'⟩ : ∃ y0, y0 = Y % 4294967296 := ⟨_, rfl⟩
    have E2 : (Y : Int) / 4294967296 = (y1 : Int) := by omega
    have E3 : bits .and .u64 (Y : Int) 4294967295 = (y0 : Int) := by
      rw [show (4294967295 : Int) = ((2 ^ 32 - 1 : Nat) : Int) from rfl, u64_and_nat _ _ hYlt (by decide), Nat.and_two_pow_sub_one_eq_mod, hy0']
    -- what stands above
    have hlo2 : lo / 2 ^ (64 - s) < 2 ^ s := by
      rw [Nat.div_lt_iff_lt_mul (Nat.pow_pos (by omega)), ← Nat.pow_add, show s + (64 - s) = 64 by omega]; exact hlo
    obtain ⟨U, hU⟩ : ∃ U, U = hi * 2 ^ s + lo / 2 ^ (64 - s) := ⟨_, rfl⟩
    have hUY : U < Y := by
      have h1 : (hi + 1) * 2 ^ s ≤ y * 2 ^ s := Nat.mul_le_mul_right _ hhi
      rw [Nat.add_mul, Nat.one_mul] at h1
      omega
    have E4 : bits .or .u64 (IntKind.u64.wrap ((hi : Int) * 2 ^ s)) ((lo : Int) / 2 ^ (64 - s)) = (U : Int) := by
      have h1 : hi * 2 ^ s < 18446744073709551616 := Nat.lt_of_le_of_lt (by rw [hU]; exact Nat.le_add_right _ _) (Nat.lt_trans hUY hYlt)
      rw [show (hi : Int) * 2 ^ s = ((hi * 2 ^ s : Nat) : Int) by rw [Int.natCast_mul, Int.natCast_pow]; rfl, u64w_nat, Nat.mod_eq_of_lt h1]
      rw [show (lo : Int) / 2 ^ (64 - s) = ((lo / 2 ^ (64 - s) : Nat) : Int) by rw [Int.natCast_ediv, Int.natCast_pow]; rfl]
      rw [u64_or_nat _ _ h1 (Nat.lt_of_le_of_lt (Nat.div_le_self _ _) hlo), hU, Nat.or_comm, or_add _ _ _ hlo2, Nat.add_comm]
    obtain ⟨L, hL⟩ : ∃ L, L = lo * 2 ^ s % 2 ^ 64 := ⟨_, rfl⟩
    have hLlt : L < 2 ^ 64 := by rw [hL]; exact Nat.mod_lt _ (by decide)
    have E5 : IntKind.u64.wrap ((lo : Int) * 2 ^ s) = (L : Int) := by
      rw [show (lo : Int) * 2 ^ s = ((lo * 2 ^ s : Nat) : Int) by rw [Int.natCast_mul, Int.natCast_pow]; rfl, u64w_nat, hL]
    obtain ⟨z1, hz1⟩ : ∃ z1, z1 = L / 4294967296 := ⟨_, rfl⟩
    obtain ⟨z0, hz0⟩ : ∃ z0, z0 = L % 4294967296 := ⟨_, rfl⟩
    have E6 : (L : Int) / 4294967296 = (z1 : Int) := by omega
    have E7 : bits .and .u64 (L : Int) 4294967295 = (z0 : Int) := by
      rw [show (4294967295 : Int) = ((2 ^ 32 - 1 : Nat) : Int) from rfl, u64_and_nat _ _ hLlt (by decide), Nat.and_two_pow_sub_one_eq_mod, hz0]
    -- the whole
    have HN := hid (show (hi * 2 ^ 64 + lo) * 2 ^ s = U * (4294967296 * 4294967296) + z1 * 4294967296 + z0 by
      have h1 : lo * 2 ^ s = lo / 2 ^ (64 - s) * 2 ^ 64 + L := by
        have e : lo * 2 ^ s / 2 ^ 64 = lo / 2 ^ (64 - s) := by
          rw [show (2 : Nat) ^ 64 = 2 ^ (64 - s) * 2 ^ s by rw [← Nat.pow_add]; congr 1; omega, Nat.mul_div_mul_right _ _ hp]
        have := Nat.div_add_mod (lo * 2 ^ s) (2 ^ 64)
        rw [e, ← hL] at this; omega
      rw [Nat.add_mul, Nat.mul_right_comm, h1, hU]
      omega)
    have HD := hid (div_shift (hi * 2 ^ 64 + lo) y s)
    have HYe := hid (show Y = y1 * 4294967296 + y0 by omega)
    rw [← hY, HN.out] at HD
    have hYpos : 0 < Y := by omega
    have HH := hid (div_halves 4294967296 U z1 z0 Y hYpos)
    have by1 : y1 < 4294967296 := by omega
    have by1' : 2147483648 ≤ y1 := by omega
    have by0 : y0 < 4294967296 := by omega
    have bz1 : z1 < 4294967296 := by omega
    have bz0 : z0 < 4294967296 := by omega
    have bU : U < 2 ^ 64 := by omega
    rw [← HD.out.1, ← HD.out.2, HH.out.1, HH.out.2]
    obtain ⟨X1, hX1⟩ : ∃ X, X = (U * 4294967296 + z1) / Y * 4294967296 + ((U * 4294967296 + z1) % Y * 4294967296 + z0) / Y := ⟨_, rfl⟩
    obtain ⟨X2, hX2⟩ : ∃ X, X = ((U * 4294967296 + z1) % Y * 4294967296 + z0) % Y / 2 ^ s := ⟨_, rfl⟩
    rw [← hX1, ← hX2]
    have HX1 := hid hX1
    have HX2 := hid hX2
    clear hX1 hX2
    -- the first guess
    obtain ⟨q, hq⟩ : ∃ q, q = U / y1 := ⟨_, rfl⟩
    have hG := hid (Gs.start (B := 4294967296) (y1 := y1) (y0 := y0) (u := U) bz1 (by omega))
    have hqle : q * y1 ≤ U := by rw [hq]; exact Nat.div_mul_le_self _ _
    have hrlt : U - q * y1 < y1 := by
      have h1 := Nat.div_add_mod U y1
      have h2 := Nat.mod_lt U (show 0 < y1 by omega)
      rw [Nat.mul_comm, ← hq] at h1; omega
    rw [← hq] at hG
    have bq : q < 2 ^ 64 := by rw [hq]; exact Nat.lt_of_le_of_lt (Nat.div_le_self _ _) bU
    obtain ⟨r, hr⟩ : ∃ r, r = U - q * y1 := ⟨_, rfl⟩
    rw [← hr] at hG hrlt
    have E8 : (U : Int).tdiv (y1 : Int) = (q : Int) := by rw [hq]; rfl
    have E9 : IntKind.u64.wrap ((U : Int) - IntKind.u64.wrap ((q : Int) * (y1 : Int))) = (r : Int) := by
      rw [show (q : Int) * (y1 : Int) = ((q * y1 : Nat) : Int) by rw [Int.natCast_mul], u64w_nat, Nat.mod_eq_of_lt (by omega), IntKind.wrap_u64]; omega
    have hn1 : ¬ (y1 : Int) = 0 := by omega
    have hUY' := hid hUY
    clear hsp hbl hs hp hlo2 hU hL hLlt hY hYge hy1' hy0' hz1 hz0 HD HH HN hhi hq hqle hr hUY hYpos
    go_enter Try.func132, Try.ntmps132
    go_wp2_with fail
    refine (hS.out _).mono ?_
    rintro e w1 ⟨rfl, rfl⟩
    go_wp2_with fail
    go_loopw [15, 16] (fun qv rv wr => ∃ q r : Nat, qv = .int .u64 q ∧ rv = .int .u64 r ∧ q < 2 ^ 64 ∧ r < 4294967296 ∧ Hid (Gs 4294967296 y1 y0 U z1 q r) ∧ wr = w)
      (fun qv _ _ => (intOf qv).toNat)
    case atStart => exact ⟨q, r, rfl, rfl, bq, by omega, hG, rfl⟩
    case round =>
      clear hG E1 E2 E3 E4 E5 E6 E7 E8 E9 bq hrlt hS
      obtain ⟨a, c, rfl, rfl, ba, bc, hG, rfl⟩ := hrel
      have hu : U < y1 * 4294967296 + y0 := by rw [← HYe.out]; exact hUY'.out
      have hYp : 0 < y1 * 4294967296 + y0 := by omega
      by_cases hq : 4294967296 ≤ a
      · have hM := hid (hG.out.more bz1 hu (.inl hq))
        have hN := hid (hG.out.next hM.out)
        obtain ⟨b, rfl⟩ : ∃ b, a = b + 1 := ⟨a - 1, by omega⟩
        rw [Nat.add_sub_cancel] at hN
        have hqi : ¬ ((b : Int) + 1 < 4294967296) := by omega
        have hqj : (4294967296 : Int) ≤ (b : Int) + 1 := by omega
        by_cases hc : 4294967296 ≤ c + y1
        · have hc' : (4294967296 : Int) ≤ (c : Int) + (y1 : Int) := by omega
          have hc2 : ¬ ((c : Int) + (y1 : Int) < 4294967296) := by omega
          have hL := hN.out.last by0 hu hc
          have hB := hN.out.right hYp hL.2
          have hblt := hL.1
          clear hq hM hN hG ba hc
          obtain ⟨V, q2, r2, hV1, hV2, F1, F2, F3, hG2, bq2, br2⟩ := div_second U z1 z0 y1 y0 Y b HYe.out hUY'.out hYlt (by omega) bz0 hB
          have HV := hid hV1
          have HBY := hid (show (U * 4294967296 + z1) / Y = b by rw [hB, HYe.out])
          have HV2 := hid hV2
          clear hB hV1
          go_wp2_with fail
          clear F1 F2 F3 hV2
          go_loopw [18, 16] (fun qv rv wr2 => ∃ q r : Nat, qv = .int .u64 q ∧ rv = .int .u64 r ∧ q < 2 ^ 64 ∧ r < 4294967296 ∧ Hid (Gs 4294967296 y1 y0 V z0 q r) ∧ wr2 = wr)
            (fun qv _ _ => (intOf qv).toNat)
          case atStart => exact ⟨q2, r2, rfl, rfl, bq2, by omega, hG2, rfl⟩
          case round =>
            clear hG2 bq2 br2
            obtain ⟨d, f, rfl, rfl, bd, bf, hG3, rfl⟩ := hrel
            have hu3 : V < y1 * 4294967296 + y0 := by rw [← HYe.out]; exact HV2.out
            by_cases hq3 : 4294967296 ≤ d
            · have hM3 := hid (hG3.out.more bz0 hu3 (.inl hq3))
              have hN3 := hid (hG3.out.next hM3.out)
              obtain ⟨g, rfl⟩ : ∃ g, d = g + 1 := ⟨d - 1, by omega⟩
              rw [Nat.add_sub_cancel] at hN3
              have hqi3 : ¬ ((g : Int) + 1 < 4294967296) := by omega
              have hqj3 : (4294967296 : Int) ≤ (g : Int) + 1 := by omega
              by_cases hc3 : 4294967296 ≤ f + y1
              · have hc' : (4294967296 : Int) ≤ (f : Int) + (y1 : Int) := by omega
                have hc2 : ¬ ((f : Int) + (y1 : Int) < 4294967296) := by omega
                have hL := hN3.out.last by0 hu3 hc3
                have hA := hN3.out.right hYp hL.2
                have hglt := hL.1
                clear hq3 hM3 hN3 hG3 bd hc3 hu3 hL
                have HA := hid (show (V * 4294967296 + z0) / Y = g by rw [hA, HYe.out])
                obtain ⟨R, hR, hRlt, F4⟩ := div_third V z0 y1 y0 Y g HYe.out (by rw [HYe.out]; exact hYp) hYlt hA
                have HR := hid hR
                clear hR hA
                go_wp2_with fail
                go_ret2
                refine ⟨(show Ending.returned (.tuple #[.int .u64 ((b : Int) * 4294967296 + (g : Int)), .int .u64 ((R : Int) / 2 ^ s)]) = _ from ?_), Below.refl _ _⟩
                have e1 : (X1 : Int) = (b : Int) * 4294967296 + (g : Int) := by
                  rw [HX1.out, ← HV.out, HA.out, HBY.out]; omega
                have e2 : (X2 : Int) = (R : Int) / 2 ^ s := by
                  rw [HX2.out, ← HV.out, ← HR.out, Int.natCast_ediv, Int.natCast_pow]; rfl
                rw [← e1, ← e2]
              · have hc' : ¬ (4294967296 : Int) ≤ (f : Int) + (y1 : Int) := by omega
                have hc2 : (f : Int) + (y1 : Int) < 4294967296 := by omega
                clear hu3
                go_wp2_with fail
                go_roundw
                case rel => exact ⟨g, f + y1, by go_num, by go_num, by omega, by omega, hN3, trivial⟩
                case measure => simp [intOf]
            · obtain ⟨p, hp⟩ : ∃ p, p = d * y0 := ⟨_, rfl⟩
              have hpi : (d : Int) * (y0 : Int) = (p : Int) := by rw [hp, Int.natCast_mul]
              have hplt : p < 18446744073709551616 := by
                have : d * y0 ≤ 4294967295 * 4294967295 := Nat.mul_le_mul (by omega) (by omega)
                omega
              have hqi3 : (d : Int) < 4294967296 := by omega
              have hqj3 : ¬ (4294967296 : Int) ≤ (d : Int) := by omega
              by_cases hgt : f * 4294967296 + z0 < p
              · have hM3 := hid (hG3.out.more bz0 hu3 (.inr (by rw [← hp]; exact hgt)))
                have hN3 := hid (hG3.out.next hM3.out)
                obtain ⟨g, hg⟩ : ∃ g, d = g + 1 := ⟨d - 1, by have := Nat.lt_of_le_of_lt (Nat.zero_le _) hM3.out; omega⟩
                rw [hg, Nat.add_sub_cancel] at hN3
                have hgi : (d : Int) - 1 = (g : Int) := by omega
                have hgd : g < d := by omega
                have hd1 : 1 ≤ d := by omega
                have hg2 : (4294967296 : Int) * (f : Int) + (z0 : Int) < (p : Int) := by omega
                by_cases hc3 : 4294967296 ≤ f + y1
                · have hc' : (4294967296 : Int) ≤ (f : Int) + (y1 : Int) := by omega
                  have hc2 : ¬ ((f : Int) + (y1 : Int) < 4294967296) := by omega
                  have hL := hN3.out.last by0 hu3 hc3
                  have hA := hN3.out.right hYp hL.2
                  have hglt := hL.1
                  have Hp := hid hp
                  clear hq3 hM3 hN3 hG3 bd hc3 hu3 hL hp hgt hg
                  have HA := hid (show (V * 4294967296 + z0) / Y = g by rw [hA, HYe.out])
                  obtain ⟨R, hR, hRlt, F4⟩ := div_third V z0 y1 y0 Y g HYe.out (by rw [HYe.out]; exact hYp) hYlt hA
                  have HR := hid hR
                  clear hR hA
                  go_wp2_with fail
                  go_ret2
                  refine ⟨(show Ending.returned (.tuple #[.int .u64 ((b : Int) * 4294967296 + (g : Int)), .int .u64 ((R : Int) / 2 ^ s)]) = _ from ?_), Below.refl _ _⟩
                  have e1 : (X1 : Int) = (b : Int) * 4294967296 + (g : Int) := by
                    rw [HX1.out, ← HV.out, HA.out, HBY.out]; omega
                  have e2 : (X2 : Int) = (R : Int) / 2 ^ s := by
                    rw [HX2.out, ← HV.out, ← HR.out, Int.natCast_ediv, Int.natCast_pow]; rfl
                  rw [← e1, ← e2]
                · have hc' : ¬ (4294967296 : Int) ≤ (f : Int) + (y1 : Int) := by omega
                  have hc2 : (f : Int) + (y1 : Int) < 4294967296 := by omega
                  clear hu3 hp hgt hg
                  go_wp2_with fail
                  go_roundw
                  case rel => exact ⟨g, f + y1, by go_num, by go_num, by omega, by omega, hN3, trivial⟩
                  case measure => simp [intOf]; omega
              · obtain ⟨g, hgd⟩ : ∃ g, g = d := ⟨d, rfl⟩
                have hA : g = (V * 4294967296 + z0) / (y1 * 4294967296 + y0) := by rw [hgd]; exact hG3.out.right hYp (by rw [← hp]; omega)
                have hg2 : ¬ ((4294967296 : Int) * (f : Int) + (z0 : Int) < (p : Int)) := by omega
                have hglt : g < 4294967296 := by omega
                subst hgd
                clear hq3 hG3 bd hu3 hp hgt
                have HA := hid (show (V * 4294967296 + z0) / Y = g by rw [hA, HYe.out])
                obtain ⟨R, hR, hRlt, F4⟩ := div_third V z0 y1 y0 Y g HYe.out (by rw [HYe.out]; exact hYp) hYlt hA
                have HR := hid hR
                clear hR hA
                go_wp2_with fail
                go_ret2
                refine ⟨(show Ending.returned (.tuple #[.int .u64 ((b : Int) * 4294967296 + (g : Int)), .int .u64 ((R : Int) / 2 ^ s)]) = _ from ?_), Below.refl _ _⟩
                have e1 : (X1 : Int) = (b : Int) * 4294967296 + (g : Int) := by
                  rw [HX1.out, ← HV.out, HA.out, HBY.out]; omega
                have e2 : (X2 : Int) = (R : Int) / 2 ^ s := by
                  rw [HX2.out, ← HV.out, ← HR.out, Int.natCast_ediv, Int.natCast_pow]; rfl
                rw [← e1, ← e2]
        · have hc' : ¬ (4294967296 : Int) ≤ (c : Int) + (y1 : Int) := by omega
          have hc2 : (c : Int) + (y1 : Int) < 4294967296 := by omega
          go_wp2_with fail
          go_roundw
          case rel => exact ⟨b, c + y1, by go_num, by go_num, by omega, by omega, hN, trivial⟩
          case measure => simp [intOf]
      · obtain ⟨p, hp⟩ : ∃ p, p = a * y0 := ⟨_, rfl⟩
        have hpi : (a : Int) * (y0 : Int) = (p : Int) := by rw [hp, Int.natCast_mul]
        have hplt : p < 18446744073709551616 := by
          have : a * y0 ≤ 4294967295 * 4294967295 := Nat.mul_le_mul (by omega) (by omega)
          omega
        have hqi : (a : Int) < 4294967296 := by omega
        have hqj : ¬ (4294967296 : Int) ≤ (a : Int) := by omega
        by_cases hgt : c * 4294967296 + z1 < p
        · have hM := hid (hG.out.more bz1 hu (.inr (by rw [← hp]; exact hgt)))
          have hN := hid (hG.out.next hM.out)
          obtain ⟨b, hb⟩ : ∃ b, a = b + 1 := ⟨a - 1, by have := Nat.lt_of_le_of_lt (Nat.zero_le _) hM.out; omega⟩
          rw [hb, Nat.add_sub_cancel] at hN
          have hbi : (a : Int) - 1 = (b : Int) := by omega
          have hbd : b < a := by omega
          have hd1 : 1 ≤ a := by omega
          have hg2 : (4294967296 : Int) * (c : Int) + (z1 : Int) < (p : Int) := by omega
          by_cases hc : 4294967296 ≤ c + y1
          · have hc' : (4294967296 : Int) ≤ (c : Int) + (y1 : Int) := by omega
            have hc2 : ¬ ((c : Int) + (y1 : Int) < 4294967296) := by omega
            have hL := hN.out.last by0 hu hc
            have hB := hN.out.right hYp hL.2
            have hblt := hL.1
            clear hq hM hN hG ba hc hp hgt hb
            obtain ⟨V, q2, r2, hV1, hV2, F1, F2, F3, hG2, bq2, br2⟩ := div_second U z1 z0 y1 y0 Y b HYe.out hUY'.out hYlt (by omega) bz0 hB
            have HV := hid hV1
            have HBY := hid (show (U * 4294967296 + z1) / Y = b by rw [hB, HYe.out])
            have HV2 := hid hV2
            clear hB hV1
            go_wp2_with fail
            clear F1 F2 F3 hV2
            go_loopw [18, 16] (fun qv rv wr2 => ∃ q r : Nat, qv = .int .u64 q ∧ rv = .int .u64 r ∧ q < 2 ^ 64 ∧ r < 4294967296 ∧ Hid (Gs 4294967296 y1 y0 V z0 q r) ∧ wr2 = wr)
              (fun qv _ _ => (intOf qv).toNat)
            case atStart => exact ⟨q2, r2, rfl, rfl, bq2, by omega, hG2, rfl⟩
            case round =>
              clear hG2 bq2 br2
              obtain ⟨d, f, rfl, rfl, bd, bf, hG3, rfl⟩ := hrel
              have hu3 : V < y1 * 4294967296 + y0 := by rw [← HYe.out]; exact HV2.out
              by_cases hq3 : 4294967296 ≤ d
              · have hM3 := hid (hG3.out.more bz0 hu3 (.inl hq3))
                have hN3 := hid (hG3.out.next hM3.out)
                obtain ⟨g, rfl⟩ : ∃ g, d = g + 1 := ⟨d - 1, by omega⟩
                rw [Nat.add_sub_cancel] at hN3
                have hqi3 : ¬ ((g : Int) + 1 < 4294967296) := by omega
                have hqj3 : (4294967296 : Int) ≤ (g : Int) + 1 := by omega
                by_cases hc3 : 4294967296 ≤ f + y1
                · have hc' : (4294967296 : Int) ≤ (f : Int) + (y1 : Int) := by omega
                  have hc2 : ¬ ((f : Int) + (y1 : Int) < 4294967296) := by omega
                  have hL := hN3.out.last by0 hu3 hc3
                  have hA := hN3.out.right hYp hL.2
                  have hglt := hL.1
                  clear hq3 hM3 hN3 hG3 bd hc3 hu3 hL
                  have HA := hid (show (V * 4294967296 + z0) / Y = g by rw [hA, HYe.out])
                  obtain ⟨R, hR, hRlt, F4⟩ := div_third V z0 y1 y0 Y g HYe.out (by rw [HYe.out]; exact hYp) hYlt hA
                  have HR := hid hR
                  clear hR hA
                  go_wp2_with fail
                  go_ret2
                  refine ⟨(show Ending.returned (.tuple #[.int .u64 ((b : Int) * 4294967296 + (g : Int)), .int .u64 ((R : Int) / 2 ^ s)]) = _ from ?_), Below.refl _ _⟩
                  have e1 : (X1 : Int) = (b : Int) * 4294967296 + (g : Int) := by
                    rw [HX1.out, ← HV.out, HA.out, HBY.out]; omega
                  have e2 : (X2 : Int) = (R : Int) / 2 ^ s := by
                    rw [HX2.out, ← HV.out, ← HR.out, Int.natCast_ediv, Int.natCast_pow]; rfl
                  rw [← e1, ← e2]
                · have hc' : ¬ (4294967296 : Int) ≤ (f : Int) + (y1 : Int) := by omega
                  have hc2 : (f : Int) + (y1 : Int) < 4294967296 := by omega
                  clear hu3
                  go_wp2_with fail
                  go_roundw
                  case rel => exact ⟨g, f + y1, by go_num, by go_num, by omega, by omega, hN3, trivial⟩
                  case measure => simp [intOf]
              · obtain ⟨p, hp⟩ : ∃ p, p = d * y0 := ⟨_, rfl⟩
                have hpi : (d : Int) * (y0 : Int) = (p : Int) := by rw [hp, Int.natCast_mul]
                have hplt : p < 18446744073709551616 := by
                  have : d * y0 ≤ 4294967295 * 4294967295 := Nat.mul_le_mul (by omega) (by omega)
                  omega
                have hqi3 : (d : Int) < 4294967296 := by omega
                have hqj3 : ¬ (4294967296 : Int) ≤ (d : Int) := by omega
                by_cases hgt : f * 4294967296 + z0 < p
                · have hM3 := hid (hG3.out.more bz0 hu3 (.inr (by rw [← hp]; exact hgt)))
                  have hN3 := hid (hG3.out.next hM3.out)
                  obtain ⟨g, hg⟩ : ∃ g, d = g + 1 := ⟨d - 1, by have := Nat.lt_of_le_of_lt (Nat.zero_le _) hM3.out; omega⟩
                  rw [hg, Nat.add_sub_cancel] at hN3
                  have hgi : (d : Int) - 1 = (g : Int) := by omega
                  have hgd : g < d := by omega
                  have hd1 : 1 ≤ d := by omega
                  have hg2 : (4294967296 : Int) * (f : Int) + (z0 : Int) < (p : Int) := by omega
                  by_cases hc3 : 4294967296 ≤ f + y1
                  · have hc' : (4294967296 : Int) ≤ (f : Int) + (y1 : Int) := by omega
                    have hc2 : ¬ ((f : Int) + (y1 : Int) < 4294967296) := by omega
                    have hL := hN3.out.last by0 hu3 hc3
                    have hA := hN3.out.right hYp hL.2
                    have hglt := hL.1
                    have Hp := hid hp
                    clear hq3 hM3 hN3 hG3 bd hc3 hu3 hL hp hgt hg
                    have HA := hid (show (V * 4294967296 + z0) / Y = g by rw [hA, HYe.out])
                    obtain ⟨R, hR, hRlt, F4⟩ := div_third V z0 y1 y0 Y g HYe.out (by rw [HYe.out]; exact hYp) hYlt hA
                    have HR := hid hR
                    clear hR hA
                    go_wp2_with fail
                    go_ret2
                    refine ⟨(show Ending.returned (.tuple #[.int .u64 ((b : Int) * 4294967296 + (g : Int)), .int .u64 ((R : Int) / 2 ^ s)]) = _ from ?_), Below.refl _ _⟩
                    have e1 : (X1 : Int) = (b : Int) * 4294967296 + (g : Int) := by
                      rw [HX1.out, ← HV.out, HA.out, HBY.out]; omega
                    have e2 : (X2 : Int) = (R : Int) / 2 ^ s := by
                      rw [HX2.out, ← HV.out, ← HR.out, Int.natCast_ediv, Int.natCast_pow]; rfl
                    rw [← e1, ← e2]
                  · have hc' : ¬ (4294967296 : Int) ≤ (f : Int) + (y1 : Int) := by omega
                    have hc2 : (f : Int) + (y1 : Int) < 4294967296 := by omega
                    clear hu3 hp hgt hg
                    go_wp2_with fail
                    go_roundw
                    case rel => exact ⟨g, f + y1, by go_num, by go_num, by omega, by omega, hN3, trivial⟩
                    case measure => simp [intOf]; omega
                · obtain ⟨g, hgd⟩ : ∃ g, g = d := ⟨d, rfl⟩
                  have hA : g = (V * 4294967296 + z0) / (y1 * 4294967296 + y0) := by rw [hgd]; exact hG3.out.right hYp (by rw [← hp]; omega)
                  have hg2 : ¬ ((4294967296 : Int) * (f : Int) + (z0 : Int) < (p : Int)) := by omega
                  have hglt : g < 4294967296 := by omega
                  subst hgd
                  clear hq3 hG3 bd hu3 hp hgt
                  have HA := hid (show (V * 4294967296 + z0) / Y = g by rw [hA, HYe.out])
                  obtain ⟨R, hR, hRlt, F4⟩ := div_third V z0 y1 y0 Y g HYe.out (by rw [HYe.out]; exact hYp) hYlt hA
                  have HR := hid hR
                  clear hR hA
                  go_wp2_with fail
                  go_ret2
                  refine ⟨(show Ending.returned (.tuple #[.int .u64 ((b : Int) * 4294967296 + (g : Int)), .int .u64 ((R : Int) / 2 ^ s)]) = _ from ?_), Below.refl _ _⟩
                  have e1 : (X1 : Int) = (b : Int) * 4294967296 + (g : Int) := by
                    rw [HX1.out, ← HV.out, HA.out, HBY.out]; omega
                  have e2 : (X2 : Int) = (R : Int) / 2 ^ s := by
                    rw [HX2.out, ← HV.out, ← HR.out, Int.natCast_ediv, Int.natCast_pow]; rfl
                  rw [← e1, ← e2]
          · have hc' : ¬ (4294967296 : Int) ≤ (c : Int) + (y1 : Int) := by omega
            have hc2 : (c : Int) + (y1 : Int) < 4294967296 := by omega
            clear hp hgt hb
            go_wp2_with fail
            go_roundw
            case rel => exact ⟨b, c + y1, by go_num, by go_num, by omega, by omega, hN, trivial⟩
            case measure => simp [intOf]; omega
        · obtain ⟨b, hbd⟩ : ∃ b, b = a := ⟨a, rfl⟩
          have hB : b = (U * 4294967296 + z1) / (y1 * 4294967296 + y0) := by rw [hbd]; exact hG.out.right hYp (by rw [← hp]; omega)
          have hg2 : ¬ ((4294967296 : Int) * (c : Int) + (z1 : Int) < (p : Int)) := by omega
          have hblt : b < 4294967296 := by omega
          subst hbd
          clear hq hG ba hp hgt
          obtain ⟨V, q2, r2, hV1, hV2, F1, F2, F3, hG2, bq2, br2⟩ := div_second U z1 z0 y1 y0 Y b HYe.out hUY'.out hYlt (by omega) bz0 hB
          have HV := hid hV1
          have HBY := hid (show (U * 4294967296 + z1) / Y = b by rw [hB, HYe.out])
          have HV2 := hid hV2
          clear hB hV1
          go_wp2_with fail
          clear F1 F2 F3 hV2
          go_loopw [18, 16] (fun qv rv wr2 => ∃ q r : Nat, qv = .int .u64 q ∧ rv = .int .u64 r ∧ q < 2 ^ 64 ∧ r < 4294967296 ∧ Hid (Gs 4294967296 y1 y0 V z0 q r) ∧ wr2 = wr)
            (fun qv _ _ => (intOf qv).toNat)
          case atStart => exact ⟨q2, r2, rfl, rfl, bq2, by omega, hG2, rfl⟩
          case round =>
            clear hG2 bq2 br2
            obtain ⟨d, f, rfl, rfl, bd, bf, hG3, rfl⟩ := hrel
            have hu3 : V < y1 * 4294967296 + y0 := by rw [← HYe.out]; exact HV2.out
            by_cases hq3 : 4294967296 ≤ d
            · have hM3 := hid (hG3.out.more bz0 hu3 (.inl hq3))
              have hN3 := hid (hG3.out.next hM3.out)
              obtain ⟨g, rfl⟩ : ∃ g, d = g + 1 := ⟨d - 1, by omega⟩
              rw [Nat.add_sub_cancel] at hN3
              have hqi3 : ¬ ((g : Int) + 1 < 4294967296) := by omega
              have hqj3 : (4294967296 : Int) ≤ (g : Int) + 1 := by omega
              by_cases hc3 : 4294967296 ≤ f + y1
              · have hc' : (4294967296 : Int) ≤ (f : Int) + (y1 : Int) := by omega
                have hc2 : ¬ ((f : Int) + (y1 : Int) < 4294967296) := by omega
                have hL := hN3.out.last by0 hu3 hc3
                have hA := hN3.out.right hYp hL.2
                have hglt := hL.1
                clear hq3 hM3 hN3 hG3 bd hc3 hu3 hL
                have HA := hid (show (V * 4294967296 + z0) / Y = g by rw [hA, HYe.out])
                obtain ⟨R, hR, hRlt, F4⟩ := div_third V z0 y1 y0 Y g HYe.out (by rw [HYe.out]; exact hYp) hYlt hA
                have HR := hid hR
                clear hR hA
                go_wp2_with fail
                go_ret2
                refine ⟨(show Ending.returned (.tuple #[.int .u64 ((b : Int) * 4294967296 + (g : Int)), .int .u64 ((R : Int) / 2 ^ s)]) = _ from ?_), Below.refl _ _⟩
                have e1 : (X1 : Int) = (b : Int) * 4294967296 + (g : Int) := by
                  rw [HX1.out, ← HV.out, HA.out, HBY.out]; omega
                have e2 : (X2 : Int) = (R : Int) / 2 ^ s := by
                  rw [HX2.out, ← HV.out, ← HR.out, Int.natCast_ediv, Int.natCast_pow]; rfl
                rw [← e1, ← e2]
              · have hc' : ¬ (4294967296 : Int) ≤ (f : Int) + (y1 : Int) := by omega
                have hc2 : (f : Int) + (y1 : Int) < 4294967296 := by omega
                clear hu3
                go_wp2_with fail
                go_roundw
                case rel => exact ⟨g, f + y1, by go_num, by go_num, by omega, by omega, hN3, trivial⟩
                case measure => simp [intOf]
            · obtain ⟨p, hp⟩ : ∃ p, p = d * y0 := ⟨_, rfl⟩
              have hpi : (d : Int) * (y0 : Int) = (p : Int) := by rw [hp, Int.natCast_mul]
              have hplt : p < 18446744073709551616 := by
                have : d * y0 ≤ 4294967295 * 4294967295 := Nat.mul_le_mul (by omega) (by omega)
                omega
              have hqi3 : (d : Int) < 4294967296 := by omega
              have hqj3 : ¬ (4294967296 : Int) ≤ (d : Int) := by omega
              by_cases hgt : f * 4294967296 + z0 < p
              · have hM3 := hid (hG3.out.more bz0 hu3 (.inr (by rw [← hp]; exact hgt)))
                have hN3 := hid (hG3.out.next hM3.out)
                obtain ⟨g, hg⟩ : ∃ g, d = g + 1 := ⟨d - 1, by have := Nat.lt_of_le_of_lt (Nat.zero_le _) hM3.out; omega⟩
                rw [hg, Nat.add_sub_cancel] at hN3
                have hgi : (d : Int) - 1 = (g : Int) := by omega
                have hgd : g < d := by omega
                have hd1 : 1 ≤ d := by omega
                have hg2 : (4294967296 : Int) * (f : Int) + (z0 : Int) < (p : Int) := by omega
                by_cases hc3 : 4294967296 ≤ f + y1
                · have hc' : (4294967296 : Int) ≤ (f : Int) + (y1 : Int) := by omega
                  have hc2 : ¬ ((f : Int) + (y1 : Int) < 4294967296) := by omega
                  have hL := hN3.out.last by0 hu3 hc3
                  have hA := hN3.out.right hYp hL.2
                  have hglt := hL.1
                  have Hp := hid hp
                  clear hq3 hM3 hN3 hG3 bd hc3 hu3 hL hp hgt hg
                  have HA := hid (show (V * 4294967296 + z0) / Y = g by rw [hA, HYe.out])
                  obtain ⟨R, hR, hRlt, F4⟩ := div_third V z0 y1 y0 Y g HYe.out (by rw [HYe.out]; exact hYp) hYlt hA
                  have HR := hid hR
                  clear hR hA
                  go_wp2_with fail
                  go_ret2
                  refine ⟨(show Ending.returned (.tuple #[.int .u64 ((b : Int) * 4294967296 + (g : Int)), .int .u64 ((R : Int) / 2 ^ s)]) = _ from ?_), Below.refl _ _⟩
                  have e1 : (X1 : Int) = (b : Int) * 4294967296 + (g : Int) := by
                    rw [HX1.out, ← HV.out, HA.out, HBY.out]; omega
                  have e2 : (X2 : Int) = (R : Int) / 2 ^ s := by
                    rw [HX2.out, ← HV.out, ← HR.out, Int.natCast_ediv, Int.natCast_pow]; rfl
                  rw [← e1, ← e2]
                · have hc' : ¬ (4294967296 : Int) ≤ (f : Int) + (y1 : Int) := by omega
                  have hc2 : (f : Int) + (y1 : Int) < 4294967296 := by omega
                  clear hu3 hp hgt hg
                  go_wp2_with fail
                  go_roundw
                  case rel => exact ⟨g, f + y1, by go_num, by go_num, by omega, by omega, hN3, trivial⟩
                  case measure => simp [intOf]; omega
              · obtain ⟨g, hgd⟩ : ∃ g, g = d := ⟨d, rfl⟩
                have hA : g = (V * 4294967296 + z0) / (y1 * 4294967296 + y0) := by rw [hgd]; exact hG3.out.right hYp (by rw [← hp]; omega)
                have hg2 : ¬ ((4294967296 : Int) * (f : Int) + (z0 : Int) < (p : Int)) := by omega
                have hglt : g < 4294967296 := by omega
                subst hgd
                clear hq3 hG3 bd hu3 hp hgt
                have HA := hid (show (V * 4294967296 + z0) / Y = g by rw [hA, HYe.out])
                obtain ⟨R, hR, hRlt, F4⟩ := div_third V z0 y1 y0 Y g HYe.out (by rw [HYe.out]; exact hYp) hYlt hA
                have HR := hid hR
                clear hR hA
                go_wp2_with fail
                go_ret2
                refine ⟨(show Ending.returned (.tuple #[.int .u64 ((b : Int) * 4294967296 + (g : Int)), .int .u64 ((R : Int) / 2 ^ s)]) = _ from ?_), Below.refl _ _⟩
                have e1 : (X1 : Int) = (b : Int) * 4294967296 + (g : Int) := by
                  rw [HX1.out, ← HV.out, HA.out, HBY.out]; omega
                have e2 : (X2 : Int) = (R : Int) / 2 ^ s := by
                  rw [HX2.out, ← HV.out, ← HR.out, Int.natCast_ediv, Int.natCast_pow]; rfl
                rw [← e1, ← e2]
end Go.Proofs.Ytfidbiabgmioaaa

/-! word.step: the plain law. -/
namespace Go.Proofs.Ytfidbiabgmioaaa
open Go.RowKit

/-- i limbs from the k-th on. -/
def win (Z k i : Nat) : Nat := Z / 2 ^ (64 * k) % 2 ^ (64 * i)
theorem win_zero (Z k : Nat) : win Z k 0 = 0 := by unfold win; rw [Nat.mul_zero, Nat.pow_zero, Nat.mod_one]
theorem win_succ (Z k i : Nat) : win Z k (i + 1) = win Z k i + 2 ^ (64 * i) * lmN Z (k + i) := by
  unfold win
  rw [low_succ]
  congr 2
  unfold lmN
  rw [Nat.div_div_eq_div_mul, ← Nat.pow_add]; congr 3; omega
theorem win_lt (Z k i : Nat) : win Z k i < 2 ^ (64 * i) := Nat.mod_lt _ (Nat.pow_pos (by omega))
theorem win_set (Z k i v : Nat) (hv : v < 2 ^ 64) : win (setL Z (k + i) v) k i = win Z k i := by
  induction i with
  | zero => rw [win_zero, win_zero]
  | succ i ih =>
    have h : ∀ m, m ≤ i → win (setL Z (k + (i + 1)) v) k m = win Z k m := fun m hm => by
      induction m with
      | zero => rw [win_zero, win_zero]
      | succ m ihm => rw [win_succ, win_succ, ihm (by omega), lmN_setL _ _ _ _ hv, if_neg (by omega)]
    rw [win_succ, win_succ, h i (Nat.le_refl _), lmN_setL _ _ _ _ hv, if_neg (by omega)]
theorem win_put (Z k i v : Nat) (hv : v < 2 ^ 64) : win (setL Z (k + i) v) k (i + 1) = win Z k i + 2 ^ (64 * i) * v := by
  rw [win_succ, win_set Z k i v hv, lmN_setL _ _ _ _ hv, if_pos rfl]

/-- i limbs were turned: what they were, and the others are as they were. -/
structure Turn (Z0 Z k i : Nat) : Prop where
  eq : Z + 2 ^ (64 * k) * win Z0 k i = Z0 + 2 ^ (64 * k) * win Z k i
  up : ∀ j, i ≤ j → lmN Z (k + j) = lmN Z0 (k + j)
theorem Turn.start (Z k : Nat) : Turn Z Z k 0 := ⟨rfl, fun _ _ => rfl⟩
theorem Turn.set {Z0 Z k i : Nat} (h : Turn Z0 Z k i) (v : Nat) (hv : v < 2 ^ 64) : Turn Z0 (setL Z (k + i) v) k (i + 1) := by
  refine ⟨?_, fun j hj => by rw [lmN_setL _ _ _ _ hv, if_neg (by omega)]; exact h.up j (by omega)⟩
  have h1 := setL_eq Z (k + i) v
  have h2 := h.eq
  have h3 := h.up i (Nat.le_refl _)
  rw [win_succ Z0, win_put Z k i v hv, Nat.mul_add, Nat.mul_add, ← Nat.mul_assoc, ← Nat.mul_assoc, ← Nat.pow_add, ← Nat.mul_add, ← h3]
  omega
/-- All that was turned, once more. -/
theorem Turn.trans {Z0 Z1 Z2 k n : Nat} (h : Turn Z0 Z1 k n) (g : Turn Z1 Z2 k n) : Turn Z0 Z2 k n := by
  refine ⟨?_, fun j hj => (g.up j hj).trans (h.up j hj)⟩
  have h1 := h.eq
  have h2 := g.eq
  omega

/-- The products taken away, limb by limb: G times V from the window. -/
def Mul (Z0 Z k V G i b c : Nat) : Prop := win Z k i + G * (V % 2 ^ (64 * i)) = win Z0 k i + 2 ^ (64 * i) * (b + c)
theorem Mul.start (Z k V G : Nat) : Mul Z Z k V G 0 0 0 := by
  unfold Mul; rw [Nat.mul_zero, Nat.pow_zero, Nat.mod_one]; omega
theorem Mul.step {Z0 Z k V G i b c hi lo l2 cc nw b2 : Nat} (h : Mul Z0 Z k V G i b c) (hup : lmN Z (k + i) = lmN Z0 (k + i)) (hnw : nw < 2 ^ 64)
    (h1 : G * lmN V i = lo + 2 ^ 64 * hi) (h2 : lo + c = l2 + 2 ^ 64 * cc) (h3 : nw + l2 + b = lmN Z (k + i) + 2 ^ 64 * b2) :
    Mul Z0 (setL Z (k + i) nw) k V G (i + 1) b2 (hi + cc) := by
  unfold Mul at *
  rw [win_put _ _ _ _ hnw, win_succ Z0, low_succ, Nat.mul_add G, pow64_succ]
  have e1 : G * (2 ^ (64 * i) * lmN V i) = 2 ^ (64 * i) * lo + 2 ^ (64 * i) * (2 ^ 64 * hi) := by rw [Nat.mul_left_comm, h1, Nat.mul_add]
  have e2 : 2 ^ (64 * i) * lo + 2 ^ (64 * i) * c = 2 ^ (64 * i) * l2 + 2 ^ (64 * i) * (2 ^ 64 * cc) := by rw [← Nat.mul_add, h2, Nat.mul_add]
  have e3 : 2 ^ (64 * i) * nw + 2 ^ (64 * i) * l2 + 2 ^ (64 * i) * b = 2 ^ (64 * i) * lmN Z0 (k + i) + 2 ^ (64 * i) * (2 ^ 64 * b2) := by rw [← Nat.mul_add, ← Nat.mul_add, h3, hup, Nat.mul_add]
  rw [Nat.mul_add] at h
  rw [Nat.mul_assoc, Nat.mul_add, Nat.mul_add, Nat.mul_add]
  rw [Nat.mul_add]
  omega
/-- The last limb. -/
theorem Mul.last {Z0 Z k V G n b c nw b2 : Nat} (h : Mul Z0 Z k V G n b c) (hV : V < 2 ^ (64 * n)) (hup : lmN Z (k + n) = lmN Z0 (k + n)) (hnw : nw < 2 ^ 64) (h3 : nw + c + b = lmN Z (k + n) + 2 ^ 64 * b2) :
    win (setL Z (k + n) nw) k (n + 1) + G * V = win Z0 k (n + 1) + 2 ^ (64 * (n + 1)) * b2 := by
  unfold Mul at h
  rw [Nat.mod_eq_of_lt hV] at h
  rw [win_put _ _ _ _ hnw, win_succ Z0, pow64_succ]
  have e3 : 2 ^ (64 * n) * nw + 2 ^ (64 * n) * c + 2 ^ (64 * n) * b = 2 ^ (64 * n) * lmN Z0 (k + n) + 2 ^ (64 * n) * (2 ^ 64 * b2) := by rw [← Nat.mul_add, ← Nat.mul_add, h3, hup, Nat.mul_add]
  rw [Nat.mul_add] at h
  rw [Nat.mul_assoc]
  omega
/-- V added back, limb by limb. -/
def Adb (Z0 Z k V i c : Nat) : Prop := win Z k i + 2 ^ (64 * i) * c = win Z0 k i + V % 2 ^ (64 * i)
theorem Adb.start (Z k V : Nat) : Adb Z Z k V 0 0 := by
  unfold Adb; rw [Nat.mul_zero, Nat.pow_zero, Nat.mod_one]
theorem Adb.step {Z0 Z k V i c nw c2 : Nat} (h : Adb Z0 Z k V i c) (hup : lmN Z (k + i) = lmN Z0 (k + i)) (hnw : nw < 2 ^ 64) (h1 : lmN Z (k + i) + lmN V i + c = nw + 2 ^ 64 * c2) :
    Adb Z0 (setL Z (k + i) nw) k V (i + 1) c2 := by
  unfold Adb at *
  rw [win_put _ _ _ _ hnw, win_succ Z0, low_succ, pow64_succ]
  have e1 : 2 ^ (64 * i) * lmN Z0 (k + i) + 2 ^ (64 * i) * lmN V i + 2 ^ (64 * i) * c = 2 ^ (64 * i) * nw + 2 ^ (64 * i) * (2 ^ 64 * c2) := by rw [← Nat.mul_add, ← Nat.mul_add, ← hup, h1, Nat.mul_add]
  rw [Nat.mul_assoc]
  omega
theorem Adb.last {Z0 Z k V n c nw c2 : Nat} (h : Adb Z0 Z k V n c) (hV : V < 2 ^ (64 * n)) (hup : lmN Z (k + n) = lmN Z0 (k + n)) (hnw : nw < 2 ^ 64) (h1 : lmN Z (k + n) + 0 + c = nw + 2 ^ 64 * c2) :
    win (setL Z (k + n) nw) k (n + 1) + 2 ^ (64 * (n + 1)) * c2 = win Z0 k (n + 1) + V := by
  unfold Adb at h
  rw [Nat.mod_eq_of_lt hV] at h
  rw [win_put _ _ _ _ hnw, win_succ Z0, pow64_succ]
  have e1 : 2 ^ (64 * n) * lmN Z0 (k + n) + 2 ^ (64 * n) * c = 2 ^ (64 * n) * nw + 2 ^ (64 * n) * (2 ^ 64 * c2) := by rw [← Nat.mul_add, ← hup]; rw [Nat.add_zero] at h1; rw [h1, Nat.mul_add]
  rw [Nat.mul_assoc]
  omega

/-- A guess is no less than the quotient: the top limbs alone. -/
theorem guess_top (X V n q : Nat) (hq : q = X / V) (hV : 0 < V) (hv : 0 < lmN V n) (hVn : V < 2 ^ (64 * (n + 1))) :
    q ≤ (X / 2 ^ (64 * n)) / lmN V n := by
  have hp : 0 < 2 ^ (64 * n) := Nat.pow_pos (by omega)
  have hv1 : lmN V n = V / 2 ^ (64 * n) := by
    unfold lmN
    rw [pow64_succ, Nat.mul_comm] at hVn
    exact Nat.mod_eq_of_lt ((Nat.div_lt_iff_lt_mul hp).2 hVn)
  rw [Nat.le_div_iff_mul_le hv, Nat.le_div_iff_mul_le hp, hv1]
  have h1 := Nat.div_mul_le_self V (2 ^ (64 * n))
  have h2 := Nat.div_mul_le_self X V
  rw [← hq] at h2
  exact Nat.le_trans (by rw [Nat.mul_assoc]; exact Nat.mul_le_mul_left _ h1) h2
/-- A guess is too big, as two limbs tell. -/
theorem guess_more (X V n q g r : Nat) (hq : q = X / V) (hV : 0 < V) (hs : X / 2 ^ (64 * (n + 1)) = g * (V / 2 ^ (64 * (n + 1))) + r) (hgt : r * 2 ^ 64 + lmN X n < g * lmN V n) : q < g := by
  rw [hq, Nat.div_lt_iff_lt_mul hV]
  have hp : 0 < 2 ^ (64 * n) := Nat.pow_pos (by omega)
  have h1 : V / 2 ^ (64 * n) = V / 2 ^ (64 * (n + 1)) * 2 ^ 64 + lmN V n := div_succ V n
  have h2 : X / 2 ^ (64 * n) = X / 2 ^ (64 * (n + 1)) * 2 ^ 64 + lmN X n := div_succ X n
  have h3 : X / 2 ^ (64 * n) < g * (V / 2 ^ (64 * n)) := by
    rw [h1, h2, hs]
    generalize V / 2 ^ (64 * (n + 1)) = A
    generalize lmN V n = v at hgt ⊢
    generalize lmN X n = x at hgt ⊢
    clear h1 h2 hs hq hp
    generalize (2 : Nat) ^ 64 = B at hgt ⊢
    rw [Nat.mul_add g (A * B) v, Nat.add_mul (g * A) r B, ← Nat.mul_assoc g A B]; omega
  have h4 := Nat.div_mul_le_self V (2 ^ (64 * n))
  have h5 := Nat.lt_of_lt_of_le ((Nat.div_lt_iff_lt_mul hp).1 h3) (Nat.le_of_eq (Nat.mul_assoc g (V / 2 ^ (64 * n)) (2 ^ (64 * n))))
  exact Nat.lt_of_lt_of_le h5 (Nat.mul_le_mul_left g h4)
end Go.Proofs.Ytfidbiabgmioaaa

/-! word.step. -/
namespace Go.Proofs.Ytfidbiabgmioaaa
open Go.RowKit

theorem win_div (Z k i n : Nat) (h : i ≤ n) : win Z k (n + 1) / 2 ^ (64 * i) % 2 ^ 64 = lmN Z (k + i) := by
  unfold win lmN
  have e : 2 ^ (64 * (n + 1)) = 2 ^ (64 * i) * (2 ^ 64 * 2 ^ (64 * (n - i))) := by rw [← Nat.pow_add, ← Nat.pow_add]; congr 1; omega
  have e0 : Z / 2 ^ (64 * (k + i)) = Z / 2 ^ (64 * k) / 2 ^ (64 * i) := by rw [Nat.div_div_eq_div_mul, ← Nat.pow_add, ← Nat.mul_add]
  rw [e0]
  generalize Z / 2 ^ (64 * k) = A
  have e1 := congrArg (fun x => A % x / 2 ^ (64 * i) % 2 ^ 64) e
  refine e1.trans ?_
  show A % (2 ^ (64 * i) * (2 ^ 64 * 2 ^ (64 * (n - i)))) / 2 ^ (64 * i) % 2 ^ 64 = _
  generalize 2 ^ (64 * (n - i)) = T
  generalize 2 ^ (64 * i) = S
  have e2 := Nat.mod_mul_right_div_self A S (2 ^ 64 * T)
  have e3 := Nat.mod_mul_right_mod (A / S) (2 ^ 64) T
  exact (congrArg (fun x => x % 2 ^ 64) e2).trans e3
theorem lmN_win (Z k i n : Nat) (h : i ≤ n) : lmN (win Z k (n + 1)) i = lmN Z (k + i) := win_div Z k i n h
theorem win_top (Z k n : Nat) : win Z k (n + 1) / 2 ^ (64 * n) = lmN Z (k + n) := by
  have h := win_div Z k n n (Nat.le_refl _)
  have h2 : win Z k (n + 1) / 2 ^ (64 * n) < 2 ^ 64 := by
    rw [Nat.div_lt_iff_lt_mul (Nat.pow_pos (by omega)), Nat.mul_comm, ← pow64_succ]
    exact win_lt _ _ _
  rw [Nat.mod_eq_of_lt h2] at h; exact h
theorem win_top2 (Z k n : Nat) : win Z k (n + 2) / 2 ^ (64 * n) = lmN Z (k + n + 1) * 2 ^ 64 + lmN Z (k + n) := by
  rw [div_succ (win Z k (n + 2)) n, lmN_win Z k n (n + 1) (by omega)]
  have := win_top Z k (n + 1)
  rw [show n + 1 + 1 = n + 2 from rfl] at this
  rw [this]; rfl
theorem step_fits (G v c hi lo l2 cc : Nat) (hG : G < 2 ^ 64) (hv : v < 2 ^ 64) (hc : c < 2 ^ 64) (hl : l2 < 2 ^ 64) (h1 : G * v = lo + 2 ^ 64 * hi) (h2 : lo + c = l2 + 2 ^ 64 * cc) : hi + cc < 2 ^ 64 := by
  have := mul64_le G v hG hv
  omega
/-- What is left, at last. -/
theorem step_done (Z Z' k n V G : Nat) (hT : Turn Z Z' k (n + 1)) (hw : win Z' k (n + 1) + G * V = win Z k (n + 1)) (hV : 0 < V) (hq : win Z k (n + 1) / V ≤ G) :
    G = win Z k (n + 1) / V ∧ Z' + 2 ^ (64 * k) * (G * V) = Z := by
  refine ⟨Nat.le_antisymm ?_ hq, ?_⟩
  · rw [Nat.le_div_iff_mul_le hV]; omega
  · have h1 := hT.eq
    rw [← hw, Nat.mul_add] at h1
    omega
theorem step_again (Z Z' k n V G : Nat) (hw : win Z' k (n + 1) + G * V = win Z k (n + 1) + 2 ^ (64 * (n + 1)) * 1) (hV : 0 < V) : win Z k (n + 1) / V < G := by
  rw [Nat.div_lt_iff_lt_mul hV]
  have := win_lt Z' k (n + 1)
  omega
theorem step_back (Z Z1 Z2 k n V G c : Nat) (hG : 1 ≤ G) (hc : c ≤ 1) (hw : win Z1 k (n + 1) + G * V = win Z k (n + 1) + 2 ^ (64 * (n + 1)) * 1) (ha : win Z2 k (n + 1) + 2 ^ (64 * (n + 1)) * c = win Z1 k (n + 1) + V) :
    win Z2 k (n + 1) + (G - 1) * V = win Z k (n + 1) + 2 ^ (64 * (n + 1)) * (1 - c) := by
  obtain ⟨H, rfl⟩ : ∃ H, G = H + 1 := ⟨G - 1, by omega⟩
  rw [Nat.add_sub_cancel]
  rw [Nat.add_mul, Nat.one_mul] at hw
  have h01 : c = 0 ∨ c = 1 := by omega
  rcases h01 with rfl | rfl
  · rw [Nat.mul_zero] at ha; omega
  · rw [Nat.sub_self, Nat.mul_zero]; omega

def StI (g k N n Z V vb : Nat) (w wr : World) (Z' : Nat) : Prop := ArrM 22 N wr g Z' ∧ ArrM 22 n wr vb V ∧ Below g w wr

theorem StI.lt {g k N n Z V vb : Nat} {w wr : World} {Z' : Nat} (h : StI g k N n Z V vb w wr Z') : g < wr.heap.size := h.1.lt
theorem StI.next {g k N n Z V vb : Nat} {w wr wn : World} {Z' : Nat} (h : StI g k N n Z V vb w wr Z') (hb : Below wr.heap.size wr wn) : StI g k N n Z V vb w wn Z' :=
  ⟨h.1.below hb h.1.lt, h.2.1.below hb h.2.1.lt, h.2.2.trans (hb.mono (Nat.le_of_lt h.1.lt))⟩
theorem StI.put {g k N n Z V vb : Nat} {w wr : World} {Z' : Nat} (h : StI g k N n Z V vb w wr Z') (hvg : vb < g) (j v : Nat) (hv : v < 2 ^ 64) : StI g k N n Z V vb w (wr.setCell ⟨g, j, none⟩ (.int .u64 (v : Int))) (setL Z' j v) :=
  ⟨h.1.set j v hv, h.2.1.other (by show vb ≠ g; omega) _, h.2.2.setCell (p := ⟨g, j, none⟩) (Nat.le_refl _) _⟩
theorem StI.ext {g k N n Z V vb : Nat} {w wr : World} {Z' : Nat} (h : StI g k N n Z V vb w wr Z') (y : World) : StI g k N n Z V vb w (wr.ext y) Z' := h.next (wr.ext_below y)

set_option maxRecDepth 100000 in
set_option maxHeartbeats 20000000 in
theorem step_any (g k N Z vb m V cx : Nat) (w : World) (hX : ArrM 22 N w g Z) (hVb : ArrM 22 (m + 2) w vb V) (hvg : vb < g) (hm : m ≤ 7) (hk : k + m + 3 ≤ N) (hN : N ≤ 16) (hc : m + 3 ≤ cx)
    (hV1 : V < 2 ^ (64 * (m + 2))) (hV2 : 0 < lmN V (m + 1)) (hlt : win Z k (m + 3) < V * 2 ^ 64) :
    Calls Try.prog 134 #[.slice (some ⟨g, k, none⟩) ((m + 3 : Nat)) cx, .slice (some ⟨vb, 0, none⟩) ((m + 2 : Nat)) ((m + 2 : Nat))] w fun e w' => ∃ Z', e = .returned (.int .u64 ((win Z k (m + 3) / V : Nat) : Int)) ∧ ArrM 22 N w' g Z' ∧ Z' + 2 ^ (64 * k) * (win Z k (m + 3) / V * V) = Z ∧ Below g w w' := by
  have hVpos : 0 < V := by
    rcases Nat.eq_zero_or_pos V with h | h
    · subst h; simp [lmN] at hV2
    · exact h
  have c1 := hX.cell (k + (m + 2)) (by omega)
  have c2 := hVb.cell (m + 1) (by omega)
  have c3 := hX.cell (k + (m + 1)) (by omega)
  have l1 := hX.lt
  have l2 := hVb.lt
  have gz2 := lmN_lt Z (k + (m + 2))
  have gz1 := lmN_lt Z (k + (m + 1))
  have gv1 := lmN_lt V (m + 1)
  have gv0 := lmN_lt V m
  have hqb := hid (show win Z k (m + 3) / V < 2 ^ 64 by rw [Nat.div_lt_iff_lt_mul hVpos, Nat.mul_comm]; exact hlt)
  have HI := hid (show StI g k N (m + 2) Z V vb w w Z from ⟨hX, hVb, Below.refl _ _⟩)
  have HV1 := hid hV1
  have HVp := hid hVpos
  have HLT := hid hlt
  clear hV1 hVpos hlt hX hVb
  go_enter Try.func134, Try.ntmps134
  go_wp2_with fail
  (refine wp_region_ext (by kernel_rfl) (by kernel_rfl) ?_; (repeat (go_big_quiet_step (first | fail))); refine wpQuiet_nil ?_; rintro _ ⟨xw, rfl⟩)
  by_cases htop : lmN Z (k + (m + 2)) < lmN V (m + 1)
  · have c1' := c1
    have HT2 := hid (win_top2 Z k (m + 1))
    have hsum : win Z k (m + 3) / 2 ^ (64 * (m + 1)) = lmN Z (k + (m + 2)) * 2 ^ 64 + lmN Z (k + (m + 1)) := win_top2 Z k (m + 1)
    have hD := hid (fun w => div64_any (lmN Z (k + (m + 2))) (lmN Z (k + (m + 1))) (lmN V (m + 1)) htop gz1 gv1 w)
    rw [← hsum] at hD
    have hg0 := hid (guess_top (win Z k (m + 3)) V (m + 1) _ rfl HVp.out hV2 HV1.out)
    have hdm := Nat.div_add_mod (win Z k (m + 3) / 2 ^ (64 * (m + 1))) (lmN V (m + 1))
    have hml := Nat.mod_lt (win Z k (m + 3) / 2 ^ (64 * (m + 1))) hV2
    have hgl : win Z k (m + 3) / 2 ^ (64 * (m + 1)) / lmN V (m + 1) < 2 ^ 64 := by
      rw [Nat.div_lt_iff_lt_mul hV2, hsum]
      have : (lmN Z (k + (m + 2)) + 1) * 2 ^ 64 ≤ lmN V (m + 1) * 2 ^ 64 := Nat.mul_le_mul_right _ htop
      rw [Nat.mul_comm (2 ^ 64)]
      omega
    obtain ⟨G0, hG0⟩ : ∃ G, G = win Z k (m + 3) / 2 ^ (64 * (m + 1)) / lmN V (m + 1) := ⟨_, rfl⟩
    obtain ⟨R0, hR0⟩ : ∃ R, R = win Z k (m + 3) / 2 ^ (64 * (m + 1)) % lmN V (m + 1) := ⟨_, rfl⟩
    rw [← hG0, ← hR0] at hD hdm
    rw [← hG0] at hg0 hgl
    rw [← hR0] at hml
    rw [Nat.mul_comm] at hdm
    have HDM := hid hdm.symm
    clear hG0 hR0 hdm hsum HT2 c1'
    have lx1 := (w.ext_below xw).size
    have hcc1 := (w.cell?_ext xw g (k + (m + 2)) l1).trans c1
    have hcc2 := (w.cell?_ext xw vb (m + 1) l2).trans c2
    have hcc3 := (w.cell?_ext xw g (k + (m + 1)) l1).trans c3
    have hI2 : Hid (StI g k N (m + 2) Z V vb w (w.ext xw) Z) := hid ⟨HI.out.1.ext xw, HI.out.2.1.ext xw, World.ext_below_of HI.out.2.2 (by omega) xw⟩
    have ll1 : g < (w.ext xw).heap.size := by omega
    have ll2 : vb < (w.ext xw).heap.size := by omega
    clear c1 c2 c3 lx1 HI
    go_wp2_with fail
    generalize w.ext xw = w1 at hcc1 hcc2 hcc3 hI2 ll1 ll2 ⊢
    (refine wp_region_ext (by kernel_rfl) (by kernel_rfl) ?_; (repeat (go_big_quiet_step (first | (go_at_call 132; with_reducible refine Calls.ext_of (hD.out _))))); refine wpQuiet_nil ?_; rintro _ ⟨xw, rfl⟩)
    have hI3 : Hid (StI g k N (m + 2) Z V vb w (w1.ext xw) Z) := hid ⟨hI2.out.1.ext xw, hI2.out.2.1.ext xw, World.ext_below_of hI2.out.2.2 (by omega) xw⟩
    have ll1' := World.size_le_ext w1 xw _ ll1
    have ll2' := World.size_le_ext w1 xw _ ll2
    clear hI2 ll1 ll2 hcc1 hcc2 hcc3 hD
    go_wp2_with fail
    generalize w1.ext xw = w2 at hI3 ll1' ll2' ⊢
    simp only [decide_eq_true htop, show m + 2 - 1 = m + 1 from rfl]
    go_loopw [6, 8] (fun gv rv wr => ∃ G R : Nat, gv = .int .u64 (G : Int) ∧ rv = .int .u64 (R : Int) ∧ G < 2 ^ 64 ∧ R < 2 ^ 64 ∧ Hid (win Z k (m + 3) / V ≤ G ∧ win Z k (m + 3) / 2 ^ (64 * (m + 1)) = G * lmN V (m + 1) + R) ∧ Hid (StI g k N (m + 2) Z V vb w wr Z))
      (fun gv _ _ => (intOf gv).toNat)
    case atStart => exact ⟨G0, R0, rfl, rfl, hgl, by omega, hid ⟨hg0.out, HDM.out⟩, hI3⟩
    case round =>
      clear hgl hg0 hml HDM hI3 ll1' ll2'
      obtain ⟨G, R, rfl, rfl, bG, bR, hQ, hI⟩ := hrel
      obtain ⟨mhi, mlo, m1, m2, m3, m4⟩ := mul64_nat G (lmN V m) bG (lmN_lt _ _)
      have M4 := hid m4
      have HVB := hid hI.out.2.1
      have cv := HVB.out.cell m (by omega)
      have lv := HVB.out.lt
      clear m4
      go_wp2_with fail
      refine (M4.out _).mono ?_
      rintro e w3 ⟨rfl, hb3⟩
      have hI2 := hid (hI.out.next hb3)
      have cx0 := hI2.out.1.cell (k + m) (by omega)
      have cv1 := hI2.out.2.1.cell (m + 1) (by omega)
      have l1 := hI2.out.1.lt
      have l2 := hI2.out.2.1.lt
      have gx0 := lmN_lt Z (k + m)
      have hX0 := hid (show lmN (win Z k (m + 3)) m = lmN Z (k + m) from lmN_win Z k m (m + 2) (by omega))
      clear hI HVB cv lv hb3
      by_cases ha : mhi < R
      · obtain ⟨H, hH⟩ : ∃ H, H = G := ⟨G, rfl⟩
        subst hH
        have hHq := hid hQ.out.1
        have hIH := hI2
        clear hQ hI2 cx0 cv1 m3 M4
        go_wp2_with fail
        (try simp only [show m + 2 - 1 = m + 1 from rfl])
        go_loopw [13, 14, 95] (fun bv cv iv wr5 => ∃ i b c Z1 : Nat, i ≤ m + 2 ∧ b ≤ 1 ∧ c < 2 ^ 64 ∧ bv = .int .u64 (b : Int) ∧ cv = .int .u64 (c : Int) ∧ iv = .int .i64 (i : Int) ∧ Hid (Turn Z Z1 k i ∧ Mul Z Z1 k V H i b c) ∧ Hid (StI g k N (m + 2) Z V vb w wr5 Z1))
          (fun _ _ iv _ => m + 2 - (intOf iv).toNat)
        case atStart => exact ⟨0, 0, 0, Z, by omega, by omega, by omega, rfl, rfl, rfl, hid ⟨Turn.start Z k, Mul.start Z k V H⟩, hIH⟩
        case round =>
          clear hIH
          obtain ⟨i, b, c, Z1, hi, hb1, hc1, rfl, rfl, rfl, hTM, hI5⟩ := hrel
          by_cases hlt5 : i < m + 2
          · obtain ⟨ahi, alo, a1, a2, a3, a4⟩ := mul64_nat H (lmN V i) bG (lmN_lt _ _)
            obtain ⟨u1, v1, p1, p2, p3, p4⟩ := add64_nat0 alo c a2 hc1
            obtain ⟨u2, v2, r1, r2, r3, r4⟩ := sub64_nat (lmN Z1 (k + i)) u1 b (lmN_lt _ _) p1 hb1
            have hcs := step_fits H (lmN V i) c ahi alo u1 v1 bG (lmN_lt _ _) hc1 p1 a3 p3
            have HTM2 := hid (And.intro (hTM.out.1.set u2 r1) (hTM.out.2.step (hTM.out.1.up i (Nat.le_refl _)) r1 a3 p3 r3))
            have A4 := hid a4
            have cv5 := hI5.out.2.1.cell i hlt5
            have lv5 := hI5.out.2.1.lt
            clear a3 p3 r3 a4 hTM
            go_wp2_with fail
            refine (A4.out _).mono ?_
            rintro e w6 ⟨rfl, hb6⟩
            have hI6 := hid (hI5.out.next hb6)
            have cx6 := hI6.out.1.cell (k + i) (by omega)
            have fx6 := hI6.out.1.free (k + i)
            have lx6 := hI6.out.1.lt
            clear hI5 cv5 lv5 hb6 A4
            go_wp2_with fail
            go_roundw
            case rel => exact ⟨i + 1, v2, ahi + v1, setL Z1 (k + i) u2, by omega, r2, hcs, rfl, by go_num, by go_num, HTM2, hid (hI6.out.put hvg (k + i) u2 r1)⟩
            case measure => simp [intOf]; omega
          · obtain rfl : i = m + 2 := by omega
            obtain ⟨u3, v3, r1, r2, r3, r4⟩ := sub64_nat (lmN Z1 (k + (m + 2))) c b (lmN_lt _ _) hc1 hb1
            have HT3 := hid (hTM.out.1.set u3 r1)
            have HW3 := hid (hTM.out.2.last HV1.out (hTM.out.1.up (m + 2) (Nat.le_refl _)) r1 r3)
            have cx6 := hI5.out.1.cell (k + (m + 2)) (by omega)
            have fx6 := hI5.out.1.free (k + (m + 2))
            have lx6 := hI5.out.1.lt
            clear hTM hlt5 hi r3
            go_wp2_with fail
            have hI7 := hid (hI5.out.put hvg (k + (m + 2)) u3 r1)
            generalize wr.setCell ⟨g, k + (m + 2), none⟩ (.int .u64 (u3 : Int)) = w7 at hI7 ⊢
            clear hI5 cx6 fx6 lx6 r4
            go_loopw [6, 13] (fun gv bv wr7 => ∃ G3 b3 Z3 : Nat, G3 < 2 ^ 64 ∧ b3 ≤ 1 ∧ gv = .int .u64 (G3 : Int) ∧ bv = .int .u64 (b3 : Int) ∧ Hid (Turn Z Z3 k (m + 3) ∧ win Z3 k (m + 3) + G3 * V = win Z k (m + 3) + 2 ^ (64 * (m + 3)) * b3 ∧ win Z k (m + 3) / V ≤ G3) ∧ Hid (StI g k N (m + 2) Z V vb w wr7 Z3))
              (fun gv _ _ => (intOf gv).toNat)
            case atStart => exact ⟨H, v3, setL Z1 (k + (m + 2)) u3, bG, r2, rfl, rfl, hid ⟨HT3.out, HW3.out, hHq.out⟩, hI7⟩
            case round =>
              clear hI7 HT3 HW3
              obtain ⟨G3, b3, Z3, bG3, hb3, rfl, rfl, hF, hI8⟩ := hrel
              have hcase : b3 = 0 ∨ b3 = 1 := by omega
              rcases hcase with rfl | rfl
              · have hfin := step_done Z Z3 k (m + 2) V G3 hF.out.1 hF.out.2.1 HVp.out hF.out.2.2
                have HF1 := hid hfin.1
                have HF2 := hid hfin.2
                clear hfin hF
                go_wp2_with fail
                go_ret
                exact ⟨Z3, by rw [← HF1.out]; rfl, hI8.out.1, by rw [← HF1.out]; exact HF2.out, hI8.out.2.2⟩
              · have hag := step_again Z Z3 k (m + 2) V G3 hF.out.2.1 HVp.out
                obtain ⟨J, hJ⟩ : ∃ J, G3 = J + 1 := ⟨G3 - 1, by have := Nat.lt_of_le_of_lt (Nat.zero_le _) hag; omega⟩
                have hJi : (G3 : Int) - 1 = (J : Int) := by omega
                have hJ1 : 1 ≤ G3 := by omega
                have hJl : J < G3 := by omega
                have HJ := hid hJ
                have HAG := hid (show win Z k (m + 3) / V ≤ J from by have := hag; rw [hJ] at this; exact Nat.le_of_lt_succ this)
                clear hag hJ
                go_wp2_with fail
                go_loopw [19, 148] (fun cv iv wr8 => ∃ i c Z4 : Nat, i ≤ m + 2 ∧ c ≤ 1 ∧ cv = .int .u64 (c : Int) ∧ iv = .int .i64 (i : Int) ∧ Hid (Turn Z3 Z4 k i ∧ Adb Z3 Z4 k V i c) ∧ Hid (StI g k N (m + 2) Z V vb w wr8 Z4))
                  (fun _ iv _ => m + 2 - (intOf iv).toNat)
                case atStart => exact ⟨0, 0, Z3, by omega, by omega, rfl, rfl, hid ⟨Turn.start Z3 k, Adb.start Z3 k V⟩, hI8⟩
                case round =>
                  clear hI8
                  obtain ⟨i, c, Z4, hi, hc4, rfl, rfl, hTA, hI9⟩ := hrel
                  by_cases hlt9 : i < m + 2
                  · obtain ⟨u, v, p1, p2, p3, p4⟩ := add64_nat (lmN Z4 (k + i)) (lmN V i) c (lmN_lt _ _) (lmN_lt _ _) hc4
                    have HTA2 := hid (And.intro (hTA.out.1.set u p1) (hTA.out.2.step (hTA.out.1.up i (Nat.le_refl _)) p1 p3))
                    have cx9 := hI9.out.1.cell (k + i) (by omega)
                    have fx9 := hI9.out.1.free (k + i)
                    have lx9 := hI9.out.1.lt
                    have cv9 := hI9.out.2.1.cell i hlt9
                    have lv9 := hI9.out.2.1.lt
                    clear p3 hTA
                    go_wp2_with fail
                    (refine wp_region_ext_float 16 14 [0, 1, 2, 3, 4, 5, 6, 7, 8, 9, 10, 11, 12, 13, 15] [_, _, _, _, _, _, _, _, _, _, _, _, _, _, _] _ _ _ rfl rfl rfl rfl (by kernel_rfl) (by kernel_rfl) ?_; (repeat (go_big_quiet_step (first | fail))); refine wpQuiet_nil ?_; refine ⟨?_, ?_⟩; rotate_left; rintro _ ⟨xw, rfl⟩; rotate_left; (repeat (go_big_quiet_step (first | fail))); refine wpQuiet_nil ?_; rintro _ ⟨xw, rfl⟩)
                    all_goals
                      go_wp2_with fail
                      go_roundw
                      case rel => exact ⟨i + 1, v, setL Z4 (k + i) u, by omega, p2, rfl, by go_num, HTA2, hid ((hI9.out.ext xw).put hvg (k + i) u p1)⟩
                      case measure => simp [intOf]; omega
                  · obtain rfl : i = m + 2 := by omega
                    obtain ⟨u, v, p1, p2, p3, p4⟩ := add64_nat (lmN Z4 (k + (m + 2))) 0 c (lmN_lt _ _) (by omega) hc4
                    have HT5 := hid (hF.out.1.trans (hTA.out.1.set u p1))
                    have HW5 := hid (step_back Z Z3 (setL Z4 (k + (m + 2)) u) k (m + 2) V G3 v hJ1 p2 hF.out.2.1 (hTA.out.2.last HV1.out (hTA.out.1.up (m + 2) (Nat.le_refl _)) p1 p3))
                    have cx9 := hI9.out.1.cell (k + (m + 2)) (by omega)
                    have fx9 := hI9.out.1.free (k + (m + 2))
                    have lx9 := hI9.out.1.lt
                    have hv01 : (1 : Int) - (v : Int) = ((1 - v : Nat) : Int) := by omega
                    have p5 : ∀ w, (callFunc 101 #[.int .u64 ((lmN Z4 (k + (m + 2)) : Nat) : Int), .int .u64 0, .int .u64 (c : Int)]).run Try.prog w = .ok (.value (.tuple #[.int .u64 (u : Int), .int .u64 (v : Int)])) w := p4
                    clear p3 hTA hlt9 hi hF p4
                    go_wp2_with fail
                    go_roundw
                    case rel => exact ⟨J, 1 - v, setL Z4 (k + (m + 2)) u, by omega, by omega, by go_num, by go_num, hid ⟨HT5.out, by have := HW5.out; rw [HJ.out, Nat.add_sub_cancel] at this; exact this, HAG.out⟩, hid (hI9.out.put hvg (k + (m + 2)) u p1)⟩
                    case measure => simp [intOf]; omega
      · by_cases hb : mhi = R ∧ mlo ≤ lmN Z (k + m)
        · obtain ⟨hb1, hb2⟩ := hb
          subst hb1
          obtain ⟨H, hH⟩ : ∃ H, H = G := ⟨G, rfl⟩
          subst hH
          have hHq := hid hQ.out.1
          have hIH := hI2
          clear hQ hI2 cv1 m3 M4
          go_wp2_with fail
          (try simp only [show m + 2 - 1 = m + 1 from rfl])
          go_loopw [13, 14, 95] (fun bv cv iv wr5 => ∃ i b c Z1 : Nat, i ≤ m + 2 ∧ b ≤ 1 ∧ c < 2 ^ 64 ∧ bv = .int .u64 (b : Int) ∧ cv = .int .u64 (c : Int) ∧ iv = .int .i64 (i : Int) ∧ Hid (Turn Z Z1 k i ∧ Mul Z Z1 k V H i b c) ∧ Hid (StI g k N (m + 2) Z V vb w wr5 Z1))
            (fun _ _ iv _ => m + 2 - (intOf iv).toNat)
          case atStart => exact ⟨0, 0, 0, Z, by omega, by omega, by omega, rfl, rfl, rfl, hid ⟨Turn.start Z k, Mul.start Z k V H⟩, hIH⟩
          case round =>
            clear hIH
            obtain ⟨i, b, c, Z1, hi, hb1, hc1, rfl, rfl, rfl, hTM, hI5⟩ := hrel
            by_cases hlt5 : i < m + 2
            · obtain ⟨ahi, alo, a1, a2, a3, a4⟩ := mul64_nat H (lmN V i) bG (lmN_lt _ _)
              obtain ⟨u1, v1, p1, p2, p3, p4⟩ := add64_nat0 alo c a2 hc1
              obtain ⟨u2, v2, r1, r2, r3, r4⟩ := sub64_nat (lmN Z1 (k + i)) u1 b (lmN_lt _ _) p1 hb1
              have hcs := step_fits H (lmN V i) c ahi alo u1 v1 bG (lmN_lt _ _) hc1 p1 a3 p3
              have HTM2 := hid (And.intro (hTM.out.1.set u2 r1) (hTM.out.2.step (hTM.out.1.up i (Nat.le_refl _)) r1 a3 p3 r3))
              have A4 := hid a4
              have cv5 := hI5.out.2.1.cell i hlt5
              have lv5 := hI5.out.2.1.lt
              clear a3 p3 r3 a4 hTM
              go_wp2_with fail
              refine (A4.out _).mono ?_
              rintro e w6 ⟨rfl, hb6⟩
              have hI6 := hid (hI5.out.next hb6)
              have cx6 := hI6.out.1.cell (k + i) (by omega)
              have fx6 := hI6.out.1.free (k + i)
              have lx6 := hI6.out.1.lt
              clear hI5 cv5 lv5 hb6 A4
              go_wp2_with fail
              go_roundw
              case rel => exact ⟨i + 1, v2, ahi + v1, setL Z1 (k + i) u2, by omega, r2, hcs, rfl, by go_num, by go_num, HTM2, hid (hI6.out.put hvg (k + i) u2 r1)⟩
              case measure => simp [intOf]; omega
            · obtain rfl : i = m + 2 := by omega
              obtain ⟨u3, v3, r1, r2, r3, r4⟩ := sub64_nat (lmN Z1 (k + (m + 2))) c b (lmN_lt _ _) hc1 hb1
              have HT3 := hid (hTM.out.1.set u3 r1)
              have HW3 := hid (hTM.out.2.last HV1.out (hTM.out.1.up (m + 2) (Nat.le_refl _)) r1 r3)
              have cx6 := hI5.out.1.cell (k + (m + 2)) (by omega)
              have fx6 := hI5.out.1.free (k + (m + 2))
              have lx6 := hI5.out.1.lt
              clear hTM hlt5 hi r3
              go_wp2_with fail
              have hI7 := hid (hI5.out.put hvg (k + (m + 2)) u3 r1)
              generalize wr.setCell ⟨g, k + (m + 2), none⟩ (.int .u64 (u3 : Int)) = w7 at hI7 ⊢
              clear hI5 cx6 fx6 lx6 r4
              go_loopw [6, 13] (fun gv bv wr7 => ∃ G3 b3 Z3 : Nat, G3 < 2 ^ 64 ∧ b3 ≤ 1 ∧ gv = .int .u64 (G3 : Int) ∧ bv = .int .u64 (b3 : Int) ∧ Hid (Turn Z Z3 k (m + 3) ∧ win Z3 k (m + 3) + G3 * V = win Z k (m + 3) + 2 ^ (64 * (m + 3)) * b3 ∧ win Z k (m + 3) / V ≤ G3) ∧ Hid (StI g k N (m + 2) Z V vb w wr7 Z3))
                (fun gv _ _ => (intOf gv).toNat)
              case atStart => exact ⟨H, v3, setL Z1 (k + (m + 2)) u3, bG, r2, rfl, rfl, hid ⟨HT3.out, HW3.out, hHq.out⟩, hI7⟩
              case round =>
                clear hI7 HT3 HW3
                obtain ⟨G3, b3, Z3, bG3, hb3, rfl, rfl, hF, hI8⟩ := hrel
                have hcase : b3 = 0 ∨ b3 = 1 := by omega
                rcases hcase with rfl | rfl
                · have hfin := step_done Z Z3 k (m + 2) V G3 hF.out.1 hF.out.2.1 HVp.out hF.out.2.2
                  have HF1 := hid hfin.1
                  have HF2 := hid hfin.2
                  clear hfin hF
                  go_wp2_with fail
                  go_ret
                  exact ⟨Z3, by rw [← HF1.out]; rfl, hI8.out.1, by rw [← HF1.out]; exact HF2.out, hI8.out.2.2⟩
                · have hag := step_again Z Z3 k (m + 2) V G3 hF.out.2.1 HVp.out
                  obtain ⟨J, hJ⟩ : ∃ J, G3 = J + 1 := ⟨G3 - 1, by have := Nat.lt_of_le_of_lt (Nat.zero_le _) hag; omega⟩
                  have hJi : (G3 : Int) - 1 = (J : Int) := by omega
                  have hJ1 : 1 ≤ G3 := by omega
                  have hJl : J < G3 := by omega
                  have HJ := hid hJ
                  have HAG := hid (show win Z k (m + 3) / V ≤ J from by have := hag; rw [hJ] at this; exact Nat.le_of_lt_succ this)
                  clear hag hJ
                  go_wp2_with fail
                  go_loopw [19, 148] (fun cv iv wr8 => ∃ i c Z4 : Nat, i ≤ m + 2 ∧ c ≤ 1 ∧ cv = .int .u64 (c : Int) ∧ iv = .int .i64 (i : Int) ∧ Hid (Turn Z3 Z4 k i ∧ Adb Z3 Z4 k V i c) ∧ Hid (StI g k N (m + 2) Z V vb w wr8 Z4))
                    (fun _ iv _ => m + 2 - (intOf iv).toNat)
                  case atStart => exact ⟨0, 0, Z3, by omega, by omega, rfl, rfl, hid ⟨Turn.start Z3 k, Adb.start Z3 k V⟩, hI8⟩
                  case round =>
                    clear hI8
                    obtain ⟨i, c, Z4, hi, hc4, rfl, rfl, hTA, hI9⟩ := hrel
                    by_cases hlt9 : i < m + 2
                    · obtain ⟨u, v, p1, p2, p3, p4⟩ := add64_nat (lmN Z4 (k + i)) (lmN V i) c (lmN_lt _ _) (lmN_lt _ _) hc4
                      have HTA2 := hid (And.intro (hTA.out.1.set u p1) (hTA.out.2.step (hTA.out.1.up i (Nat.le_refl _)) p1 p3))
                      have cx9 := hI9.out.1.cell (k + i) (by omega)
                      have fx9 := hI9.out.1.free (k + i)
                      have lx9 := hI9.out.1.lt
                      have cv9 := hI9.out.2.1.cell i hlt9
                      have lv9 := hI9.out.2.1.lt
                      clear p3 hTA
                      go_wp2_with fail
                      (refine wp_region_ext_float 16 14 [0, 1, 2, 3, 4, 5, 6, 7, 8, 9, 10, 11, 12, 13, 15] [_, _, _, _, _, _, _, _, _, _, _, _, _, _, _] _ _ _ rfl rfl rfl rfl (by kernel_rfl) (by kernel_rfl) ?_; (repeat (go_big_quiet_step (first | fail))); refine wpQuiet_nil ?_; refine ⟨?_, ?_⟩; rotate_left; rintro _ ⟨xw, rfl⟩; rotate_left; (repeat (go_big_quiet_step (first | fail))); refine wpQuiet_nil ?_; rintro _ ⟨xw, rfl⟩)
                      all_goals
                        go_wp2_with fail
                        go_roundw
                        case rel => exact ⟨i + 1, v, setL Z4 (k + i) u, by omega, p2, rfl, by go_num, HTA2, hid ((hI9.out.ext xw).put hvg (k + i) u p1)⟩
                        case measure => simp [intOf]; omega
                    · obtain rfl : i = m + 2 := by omega
                      obtain ⟨u, v, p1, p2, p3, p4⟩ := add64_nat (lmN Z4 (k + (m + 2))) 0 c (lmN_lt _ _) (by omega) hc4
                      have HT5 := hid (hF.out.1.trans (hTA.out.1.set u p1))
                      have HW5 := hid (step_back Z Z3 (setL Z4 (k + (m + 2)) u) k (m + 2) V G3 v hJ1 p2 hF.out.2.1 (hTA.out.2.last HV1.out (hTA.out.1.up (m + 2) (Nat.le_refl _)) p1 p3))
                      have cx9 := hI9.out.1.cell (k + (m + 2)) (by omega)
                      have fx9 := hI9.out.1.free (k + (m + 2))
                      have lx9 := hI9.out.1.lt
                      have hv01 : (1 : Int) - (v : Int) = ((1 - v : Nat) : Int) := by omega
                      have p5 : ∀ w, (callFunc 101 #[.int .u64 ((lmN Z4 (k + (m + 2)) : Nat) : Int), .int .u64 0, .int .u64 (c : Int)]).run Try.prog w = .ok (.value (.tuple #[.int .u64 (u : Int), .int .u64 (v : Int)])) w := p4
                      clear p3 hTA hlt9 hi hF p4
                      go_wp2_with fail
                      go_roundw
                      case rel => exact ⟨J, 1 - v, setL Z4 (k + (m + 2)) u, by omega, by omega, by go_num, by go_num, hid ⟨HT5.out, by have := HW5.out; rw [HJ.out, Nat.add_sub_cancel] at this; exact this, HAG.out⟩, hid (hI9.out.put hvg (k + (m + 2)) u p1)⟩
                      case measure => simp [intOf]; omega
        · have hgt : R * 2 ^ 64 + lmN (win Z k (m + 3)) m < G * lmN V m := by rw [hX0.out, m3]; omega
          have hVt : V / 2 ^ (64 * (m + 1)) = lmN V (m + 1) := by
            unfold lmN
            rw [Nat.mod_eq_of_lt]
            rw [Nat.div_lt_iff_lt_mul (Nat.pow_pos (by omega)), Nat.mul_comm, ← pow64_succ]
            exact HV1.out
          have hmore := guess_more (win Z k (m + 3)) V m _ G R rfl HVp.out (by rw [hVt]; exact hQ.out.2) hgt
          obtain ⟨H, hH⟩ : ∃ H, G = H + 1 := ⟨G - 1, by have := Nat.lt_of_le_of_lt (Nat.zero_le _) hmore; omega⟩
          obtain ⟨u, v, p1, p2, p3, p4⟩ := add64_nat0 R (lmN V (m + 1)) bR gv1
          have hHq := hid (show win Z k (m + 3) / V ≤ H by rw [hH] at hmore; exact Nat.le_of_lt_succ hmore)
          have hHs := hid (show v = 0 → win Z k (m + 3) / 2 ^ (64 * (m + 1)) = H * lmN V (m + 1) + u from fun hv => by
            rw [hv] at p3
            rw [hQ.out.2, hH, Nat.add_mul, Nat.one_mul]; omega)
          have hHi : (G : Int) - 1 = (H : Int) := by omega
          have hGH : H < G := by omega
          have hG1 : 1 ≤ G := by omega
          have bGG := bG
          have bG : H < 2 ^ 64 := by omega
          have hjoin : ¬ mhi = R ∨ (mhi = R ∧ ¬ mlo ≤ lmN Z (k + m)) := by omega
          clear hQ hmore hgt hVt m3 M4 p3 hb hH
          have hv01 : v = 0 ∨ v = 1 := by omega
          rcases hjoin with he | ⟨he, he2⟩
          · rcases hv01 with hv0 | hv1
            · have p5 : ∀ w, (callFunc 101 #[.int .u64 (R : Int), .int .u64 ((lmN V (m + 1) : Nat) : Int), .int .u64 0]).run Try.prog w = .ok (.value (.tuple #[.int .u64 (u : Int), .int .u64 0])) w := fun w => by rw [p4 w, hv0]; rfl
              have hHs2 := hid (hHs.out hv0)
              clear p4 hv0 hHs
              go_wp2_with fail
              go_roundw
              case rel => exact ⟨H, u, by go_num, rfl, bG, p1, hid ⟨hHq.out, hHs2.out⟩, hI2⟩
              case measure => simp [intOf]; omega
            · have p5 : ∀ w, (callFunc 101 #[.int .u64 (R : Int), .int .u64 ((lmN V (m + 1) : Nat) : Int), .int .u64 0]).run Try.prog w = .ok (.value (.tuple #[.int .u64 (u : Int), .int .u64 1])) w := fun w => by rw [p4 w, hv1]; rfl
              have hIH := hI2
              clear hI2 hHs p4 hv1
              go_wp2_with fail
              (try simp only [show m + 2 - 1 = m + 1 from rfl])
              go_loopw [13, 14, 95] (fun bv cv iv wr5 => ∃ i b c Z1 : Nat, i ≤ m + 2 ∧ b ≤ 1 ∧ c < 2 ^ 64 ∧ bv = .int .u64 (b : Int) ∧ cv = .int .u64 (c : Int) ∧ iv = .int .i64 (i : Int) ∧ Hid (Turn Z Z1 k i ∧ Mul Z Z1 k V H i b c) ∧ Hid (StI g k N (m + 2) Z V vb w wr5 Z1))
                (fun _ _ iv _ => m + 2 - (intOf iv).toNat)
              case atStart => exact ⟨0, 0, 0, Z, by omega, by omega, by omega, rfl, rfl, rfl, hid ⟨Turn.start Z k, Mul.start Z k V H⟩, hIH⟩
              case round =>
                clear hIH
                obtain ⟨i, b, c, Z1, hi, hb1, hc1, rfl, rfl, rfl, hTM, hI5⟩ := hrel
                by_cases hlt5 : i < m + 2
                · obtain ⟨ahi, alo, a1, a2, a3, a4⟩ := mul64_nat H (lmN V i) bG (lmN_lt _ _)
                  obtain ⟨u1, v1, p1, p2, p3, p4⟩ := add64_nat0 alo c a2 hc1
                  obtain ⟨u2, v2, r1, r2, r3, r4⟩ := sub64_nat (lmN Z1 (k + i)) u1 b (lmN_lt _ _) p1 hb1
                  have hcs := step_fits H (lmN V i) c ahi alo u1 v1 bG (lmN_lt _ _) hc1 p1 a3 p3
                  have HTM2 := hid (And.intro (hTM.out.1.set u2 r1) (hTM.out.2.step (hTM.out.1.up i (Nat.le_refl _)) r1 a3 p3 r3))
                  have A4 := hid a4
                  have cv5 := hI5.out.2.1.cell i hlt5
                  have lv5 := hI5.out.2.1.lt
                  clear a3 p3 r3 a4 hTM
                  go_wp2_with fail
                  refine (A4.out _).mono ?_
                  rintro e w6 ⟨rfl, hb6⟩
                  have hI6 := hid (hI5.out.next hb6)
                  have cx6 := hI6.out.1.cell (k + i) (by omega)
                  have fx6 := hI6.out.1.free (k + i)
                  have lx6 := hI6.out.1.lt
                  clear hI5 cv5 lv5 hb6 A4
                  go_wp2_with fail
                  go_roundw
                  case rel => exact ⟨i + 1, v2, ahi + v1, setL Z1 (k + i) u2, by omega, r2, hcs, rfl, by go_num, by go_num, HTM2, hid (hI6.out.put hvg (k + i) u2 r1)⟩
                  case measure => simp [intOf]; omega
                · obtain rfl : i = m + 2 := by omega
                  obtain ⟨u3, v3, r1, r2, r3, r4⟩ := sub64_nat (lmN Z1 (k + (m + 2))) c b (lmN_lt _ _) hc1 hb1
                  have HT3 := hid (hTM.out.1.set u3 r1)
                  have HW3 := hid (hTM.out.2.last HV1.out (hTM.out.1.up (m + 2) (Nat.le_refl _)) r1 r3)
                  have cx6 := hI5.out.1.cell (k + (m + 2)) (by omega)
                  have fx6 := hI5.out.1.free (k + (m + 2))
                  have lx6 := hI5.out.1.lt
                  clear hTM hlt5 hi r3
                  go_wp2_with fail
                  have hI7 := hid (hI5.out.put hvg (k + (m + 2)) u3 r1)
                  generalize wr.setCell ⟨g, k + (m + 2), none⟩ (.int .u64 (u3 : Int)) = w7 at hI7 ⊢
                  clear hI5 cx6 fx6 lx6 r4
                  go_loopw [6, 13] (fun gv bv wr7 => ∃ G3 b3 Z3 : Nat, G3 < 2 ^ 64 ∧ b3 ≤ 1 ∧ gv = .int .u64 (G3 : Int) ∧ bv = .int .u64 (b3 : Int) ∧ Hid (Turn Z Z3 k (m + 3) ∧ win Z3 k (m + 3) + G3 * V = win Z k (m + 3) + 2 ^ (64 * (m + 3)) * b3 ∧ win Z k (m + 3) / V ≤ G3) ∧ Hid (StI g k N (m + 2) Z V vb w wr7 Z3))
                    (fun gv _ _ => (intOf gv).toNat)
                  case atStart => exact ⟨H, v3, setL Z1 (k + (m + 2)) u3, bG, r2, rfl, rfl, hid ⟨HT3.out, HW3.out, hHq.out⟩, hI7⟩
                  case round =>
                    clear hI7 HT3 HW3
                    obtain ⟨G3, b3, Z3, bG3, hb3, rfl, rfl, hF, hI8⟩ := hrel
                    have hcase : b3 = 0 ∨ b3 = 1 := by omega
                    rcases hcase with rfl | rfl
                    · have hfin := step_done Z Z3 k (m + 2) V G3 hF.out.1 hF.out.2.1 HVp.out hF.out.2.2
                      have HF1 := hid hfin.1
                      have HF2 := hid hfin.2
                      clear hfin hF
                      go_wp2_with fail
                      go_ret
                      exact ⟨Z3, by rw [← HF1.out]; rfl, hI8.out.1, by rw [← HF1.out]; exact HF2.out, hI8.out.2.2⟩
                    · have hag := step_again Z Z3 k (m + 2) V G3 hF.out.2.1 HVp.out
                      obtain ⟨J, hJ⟩ : ∃ J, G3 = J + 1 := ⟨G3 - 1, by have := Nat.lt_of_le_of_lt (Nat.zero_le _) hag; omega⟩
                      have hJi : (G3 : Int) - 1 = (J : Int) := by omega
                      have hJ1 : 1 ≤ G3 := by omega
                      have hJl : J < G3 := by omega
                      have HJ := hid hJ
                      have HAG := hid (show win Z k (m + 3) / V ≤ J from by have := hag; rw [hJ] at this; exact Nat.le_of_lt_succ this)
                      clear hag hJ
                      go_wp2_with fail
                      go_loopw [19, 148] (fun cv iv wr8 => ∃ i c Z4 : Nat, i ≤ m + 2 ∧ c ≤ 1 ∧ cv = .int .u64 (c : Int) ∧ iv = .int .i64 (i : Int) ∧ Hid (Turn Z3 Z4 k i ∧ Adb Z3 Z4 k V i c) ∧ Hid (StI g k N (m + 2) Z V vb w wr8 Z4))
                        (fun _ iv _ => m + 2 - (intOf iv).toNat)
                      case atStart => exact ⟨0, 0, Z3, by omega, by omega, rfl, rfl, hid ⟨Turn.start Z3 k, Adb.start Z3 k V⟩, hI8⟩
                      case round =>
                        clear hI8
                        obtain ⟨i, c, Z4, hi, hc4, rfl, rfl, hTA, hI9⟩ := hrel
                        by_cases hlt9 : i < m + 2
                        · obtain ⟨u, v, p1, p2, p3, p4⟩ := add64_nat (lmN Z4 (k + i)) (lmN V i) c (lmN_lt _ _) (lmN_lt _ _) hc4
                          have HTA2 := hid (And.intro (hTA.out.1.set u p1) (hTA.out.2.step (hTA.out.1.up i (Nat.le_refl _)) p1 p3))
                          have cx9 := hI9.out.1.cell (k + i) (by omega)
                          have fx9 := hI9.out.1.free (k + i)
                          have lx9 := hI9.out.1.lt
                          have cv9 := hI9.out.2.1.cell i hlt9
                          have lv9 := hI9.out.2.1.lt
                          clear p3 hTA
                          go_wp2_with fail
                          (refine wp_region_ext_float 16 14 [0, 1, 2, 3, 4, 5, 6, 7, 8, 9, 10, 11, 12, 13, 15] [_, _, _, _, _, _, _, _, _, _, _, _, _, _, _] _ _ _ rfl rfl rfl rfl (by kernel_rfl) (by kernel_rfl) ?_; (repeat (go_big_quiet_step (first | fail))); refine wpQuiet_nil ?_; refine ⟨?_, ?_⟩; rotate_left; rintro _ ⟨xw, rfl⟩; rotate_left; (repeat (go_big_quiet_step (first | fail))); refine wpQuiet_nil ?_; rintro _ ⟨xw, rfl⟩)
                          all_goals
                            go_wp2_with fail
                            go_roundw
                            case rel => exact ⟨i + 1, v, setL Z4 (k + i) u, by omega, p2, rfl, by go_num, HTA2, hid ((hI9.out.ext xw).put hvg (k + i) u p1)⟩
                            case measure => simp [intOf]; omega
                        · obtain rfl : i = m + 2 := by omega
                          obtain ⟨u, v, p1, p2, p3, p4⟩ := add64_nat (lmN Z4 (k + (m + 2))) 0 c (lmN_lt _ _) (by omega) hc4
                          have HT5 := hid (hF.out.1.trans (hTA.out.1.set u p1))
                          have HW5 := hid (step_back Z Z3 (setL Z4 (k + (m + 2)) u) k (m + 2) V G3 v hJ1 p2 hF.out.2.1 (hTA.out.2.last HV1.out (hTA.out.1.up (m + 2) (Nat.le_refl _)) p1 p3))
                          have cx9 := hI9.out.1.cell (k + (m + 2)) (by omega)
                          have fx9 := hI9.out.1.free (k + (m + 2))
                          have lx9 := hI9.out.1.lt
                          have hv01 : (1 : Int) - (v : Int) = ((1 - v : Nat) : Int) := by omega
                          have p5 : ∀ w, (callFunc 101 #[.int .u64 ((lmN Z4 (k + (m + 2)) : Nat) : Int), .int .u64 0, .int .u64 (c : Int)]).run Try.prog w = .ok (.value (.tuple #[.int .u64 (u : Int), .int .u64 (v : Int)])) w := p4
                          clear p3 hTA hlt9 hi hF p4
                          go_wp2_with fail
                          go_roundw
                          case rel => exact ⟨J, 1 - v, setL Z4 (k + (m + 2)) u, by omega, by omega, by go_num, by go_num, hid ⟨HT5.out, by have := HW5.out; rw [HJ.out, Nat.add_sub_cancel] at this; exact this, HAG.out⟩, hid (hI9.out.put hvg (k + (m + 2)) u p1)⟩
                          case measure => simp [intOf]; omega
          · subst he
            rcases hv01 with hv0 | hv1
            · have p5 : ∀ w, (callFunc 101 #[.int .u64 (mhi : Int), .int .u64 ((lmN V (m + 1) : Nat) : Int), .int .u64 0]).run Try.prog w = .ok (.value (.tuple #[.int .u64 (u : Int), .int .u64 0])) w := fun w => by rw [p4 w, hv0]; rfl
              have hHs2 := hid (hHs.out hv0)
              clear p4 hv0 hHs
              go_wp2_with fail
              go_roundw
              case rel => exact ⟨H, u, by go_num, rfl, bG, p1, hid ⟨hHq.out, hHs2.out⟩, hI2⟩
              case measure => simp [intOf]; omega
            · have p5 : ∀ w, (callFunc 101 #[.int .u64 (mhi : Int), .int .u64 ((lmN V (m + 1) : Nat) : Int), .int .u64 0]).run Try.prog w = .ok (.value (.tuple #[.int .u64 (u : Int), .int .u64 1])) w := fun w => by rw [p4 w, hv1]; rfl
              have hIH := hI2
              clear hI2 hHs p4 hv1
              go_wp2_with fail
              (try simp only [show m + 2 - 1 = m + 1 from rfl])
              go_loopw [13, 14, 95] (fun bv cv iv wr5 => ∃ i b c Z1 : Nat, i ≤ m + 2 ∧ b ≤ 1 ∧ c < 2 ^ 64 ∧ bv = .int .u64 (b : Int) ∧ cv = .int .u64 (c : Int) ∧ iv = .int .i64 (i : Int) ∧ Hid (Turn Z Z1 k i ∧ Mul Z Z1 k V H i b c) ∧ Hid (StI g k N (m + 2) Z V vb w wr5 Z1))
                (fun _ _ iv _ => m + 2 - (intOf iv).toNat)
              case atStart => exact ⟨0, 0, 0, Z, by omega, by omega, by omega, rfl, rfl, rfl, hid ⟨Turn.start Z k, Mul.start Z k V H⟩, hIH⟩
              case round =>
                clear hIH
                obtain ⟨i, b, c, Z1, hi, hb1, hc1, rfl, rfl, rfl, hTM, hI5⟩ := hrel
                by_cases hlt5 : i < m + 2
                · obtain ⟨ahi, alo, a1, a2, a3, a4⟩ := mul64_nat H (lmN V i) bG (lmN_lt _ _)
                  obtain ⟨u1, v1, p1, p2, p3, p4⟩ := add64_nat0 alo c a2 hc1
                  obtain ⟨u2, v2, r1, r2, r3, r4⟩ := sub64_nat (lmN Z1 (k + i)) u1 b (lmN_lt _ _) p1 hb1
                  have hcs := step_fits H (lmN V i) c ahi alo u1 v1 bG (lmN_lt _ _) hc1 p1 a3 p3
                  have HTM2 := hid (And.intro (hTM.out.1.set u2 r1) (hTM.out.2.step (hTM.out.1.up i (Nat.le_refl _)) r1 a3 p3 r3))
                  have A4 := hid a4
                  have cv5 := hI5.out.2.1.cell i hlt5
                  have lv5 := hI5.out.2.1.lt
                  clear a3 p3 r3 a4 hTM
                  go_wp2_with fail
                  refine (A4.out _).mono ?_
                  rintro e w6 ⟨rfl, hb6⟩
                  have hI6 := hid (hI5.out.next hb6)
                  have cx6 := hI6.out.1.cell (k + i) (by omega)
                  have fx6 := hI6.out.1.free (k + i)
                  have lx6 := hI6.out.1.lt
                  clear hI5 cv5 lv5 hb6 A4
                  go_wp2_with fail
                  go_roundw
                  case rel => exact ⟨i + 1, v2, ahi + v1, setL Z1 (k + i) u2, by omega, r2, hcs, rfl, by go_num, by go_num, HTM2, hid (hI6.out.put hvg (k + i) u2 r1)⟩
                  case measure => simp [intOf]; omega
                · obtain rfl : i = m + 2 := by omega
                  obtain ⟨u3, v3, r1, r2, r3, r4⟩ := sub64_nat (lmN Z1 (k + (m + 2))) c b (lmN_lt _ _) hc1 hb1
                  have HT3 := hid (hTM.out.1.set u3 r1)
                  have HW3 := hid (hTM.out.2.last HV1.out (hTM.out.1.up (m + 2) (Nat.le_refl _)) r1 r3)
                  have cx6 := hI5.out.1.cell (k + (m + 2)) (by omega)
                  have fx6 := hI5.out.1.free (k + (m + 2))
                  have lx6 := hI5.out.1.lt
                  clear hTM hlt5 hi r3
                  go_wp2_with fail
                  have hI7 := hid (hI5.out.put hvg (k + (m + 2)) u3 r1)
                  generalize wr.setCell ⟨g, k + (m + 2), none⟩ (.int .u64 (u3 : Int)) = w7 at hI7 ⊢
                  clear hI5 cx6 fx6 lx6 r4
                  go_loopw [6, 13] (fun gv bv wr7 => ∃ G3 b3 Z3 : Nat, G3 < 2 ^ 64 ∧ b3 ≤ 1 ∧ gv = .int .u64 (G3 : Int) ∧ bv = .int .u64 (b3 : Int) ∧ Hid (Turn Z Z3 k (m + 3) ∧ win Z3 k (m + 3) + G3 * V = win Z k (m + 3) + 2 ^ (64 * (m + 3)) * b3 ∧ win Z k (m + 3) / V ≤ G3) ∧ Hid (StI g k N (m + 2) Z V vb w wr7 Z3))
                    (fun gv _ _ => (intOf gv).toNat)
                  case atStart => exact ⟨H, v3, setL Z1 (k + (m + 2)) u3, bG, r2, rfl, rfl, hid ⟨HT3.out, HW3.out, hHq.out⟩, hI7⟩
                  case round =>
                    clear hI7 HT3 HW3
                    obtain ⟨G3, b3, Z3, bG3, hb3, rfl, rfl, hF, hI8⟩ := hrel
                    have hcase : b3 = 0 ∨ b3 = 1 := by omega
                    rcases hcase with rfl | rfl
                    · have hfin := step_done Z Z3 k (m + 2) V G3 hF.out.1 hF.out.2.1 HVp.out hF.out.2.2
                      have HF1 := hid hfin.1
                      have HF2 := hid hfin.2
                      clear hfin hF
                      go_wp2_with fail
                      go_ret
                      exact ⟨Z3, by rw [← HF1.out]; rfl, hI8.out.1, by rw [← HF1.out]; exact HF2.out, hI8.out.2.2⟩
                    · have hag := step_again Z Z3 k (m + 2) V G3 hF.out.2.1 HVp.out
                      obtain ⟨J, hJ⟩ : ∃ J, G3 = J + 1 := ⟨G3 - 1, by have := Nat.lt_of_le_of_lt (Nat.zero_le _) hag; omega⟩
                      have hJi : (G3 : Int) - 1 = (J : Int) := by omega
                      have hJ1 : 1 ≤ G3 := by omega
                      have hJl : J < G3 := by omega
                      have HJ := hid hJ
                      have HAG := hid (show win Z k (m + 3) / V ≤ J from by have := hag; rw [hJ] at this; exact Nat.le_of_lt_succ this)
                      clear hag hJ
                      go_wp2_with fail
                      go_loopw [19, 148] (fun cv iv wr8 => ∃ i c Z4 : Nat, i ≤ m + 2 ∧ c ≤ 1 ∧ cv = .int .u64 (c : Int) ∧ iv = .int .i64 (i : Int) ∧ Hid (Turn Z3 Z4 k i ∧ Adb Z3 Z4 k V i c) ∧ Hid (StI g k N (m + 2) Z V vb w wr8 Z4))
                        (fun _ iv _ => m + 2 - (intOf iv).toNat)
                      case atStart => exact ⟨0, 0, Z3, by omega, by omega, rfl, rfl, hid ⟨Turn.start Z3 k, Adb.start Z3 k V⟩, hI8⟩
                      case round =>
                        clear hI8
                        obtain ⟨i, c, Z4, hi, hc4, rfl, rfl, hTA, hI9⟩ := hrel
                        by_cases hlt9 : i < m + 2
                        · obtain ⟨u, v, p1, p2, p3, p4⟩ := add64_nat (lmN Z4 (k + i)) (lmN V i) c (lmN_lt _ _) (lmN_lt _ _) hc4
                          have HTA2 := hid (And.intro (hTA.out.1.set u p1) (hTA.out.2.step (hTA.out.1.up i (Nat.le_refl _)) p1 p3))
                          have cx9 := hI9.out.1.cell (k + i) (by omega)
                          have fx9 := hI9.out.1.free (k + i)
                          have lx9 := hI9.out.1.lt
                          have cv9 := hI9.out.2.1.cell i hlt9
                          have lv9 := hI9.out.2.1.lt
                          clear p3 hTA
                          go_wp2_with fail
                          (refine wp_region_ext_float 16 14 [0, 1, 2, 3, 4, 5, 6, 7, 8, 9, 10, 11, 12, 13, 15] [_, _, _, _, _, _, _, _, _, _, _, _, _, _, _] _ _ _ rfl rfl rfl rfl (by kernel_rfl) (by kernel_rfl) ?_; (repeat (go_big_quiet_step (first | fail))); refine wpQuiet_nil ?_; refine ⟨?_, ?_⟩; rotate_left; rintro _ ⟨xw, rfl⟩; rotate_left; (repeat (go_big_quiet_step (first | fail))); refine wpQuiet_nil ?_; rintro _ ⟨xw, rfl⟩)
                          all_goals
                            go_wp2_with fail
                            go_roundw
                            case rel => exact ⟨i + 1, v, setL Z4 (k + i) u, by omega, p2, rfl, by go_num, HTA2, hid ((hI9.out.ext xw).put hvg (k + i) u p1)⟩
                            case measure => simp [intOf]; omega
                        · obtain rfl : i = m + 2 := by omega
                          obtain ⟨u, v, p1, p2, p3, p4⟩ := add64_nat (lmN Z4 (k + (m + 2))) 0 c (lmN_lt _ _) (by omega) hc4
                          have HT5 := hid (hF.out.1.trans (hTA.out.1.set u p1))
                          have HW5 := hid (step_back Z Z3 (setL Z4 (k + (m + 2)) u) k (m + 2) V G3 v hJ1 p2 hF.out.2.1 (hTA.out.2.last HV1.out (hTA.out.1.up (m + 2) (Nat.le_refl _)) p1 p3))
                          have cx9 := hI9.out.1.cell (k + (m + 2)) (by omega)
                          have fx9 := hI9.out.1.free (k + (m + 2))
                          have lx9 := hI9.out.1.lt
                          have hv01 : (1 : Int) - (v : Int) = ((1 - v : Nat) : Int) := by omega
                          have p5 : ∀ w, (callFunc 101 #[.int .u64 ((lmN Z4 (k + (m + 2)) : Nat) : Int), .int .u64 0, .int .u64 (c : Int)]).run Try.prog w = .ok (.value (.tuple #[.int .u64 (u : Int), .int .u64 (v : Int)])) w := p4
                          clear p3 hTA hlt9 hi hF p4
                          go_wp2_with fail
                          go_roundw
                          case rel => exact ⟨J, 1 - v, setL Z4 (k + (m + 2)) u, by omega, by omega, by go_num, by go_num, hid ⟨HT5.out, by have := HW5.out; rw [HJ.out, Nat.add_sub_cancel] at this; exact this, HAG.out⟩, hid (hI9.out.put hvg (k + (m + 2)) u p1)⟩
                          case measure => simp [intOf]; omega
  · obtain ⟨H, hH⟩ : ∃ H : Nat, H = 18446744073709551615 := ⟨_, rfl⟩
    have hHi : (18446744073709551615 : Int) = (H : Int) := by omega
    have bG : H < 2 ^ 64 := by omega
    have hHq := hid (show win Z k (m + 3) / V ≤ H by have := hqb.out; omega)
    have hIH := hid (HI.out.ext xw)
    have hge : ¬ lmN Z (k + (m + 2)) < lmN V (m + 1) := htop
    rw [hHi]
    clear hH hHi c1 c2 c3 HI hqb l1 l2
    simp only [decide_eq_false hge, show m + 2 - 1 = m + 1 from rfl]
    clear hge htop
    generalize w.ext xw = w1 at hIH ⊢
    go_wp2_with fail
    (try simp only [show m + 2 - 1 = m + 1 from rfl])
    go_loopw [13, 14, 95] (fun bv cv iv wr5 => ∃ i b c Z1 : Nat, i ≤ m + 2 ∧ b ≤ 1 ∧ c < 2 ^ 64 ∧ bv = .int .u64 (b : Int) ∧ cv = .int .u64 (c : Int) ∧ iv = .int .i64 (i : Int) ∧ Hid (Turn Z Z1 k i ∧ Mul Z Z1 k V H i b c) ∧ Hid (StI g k N (m + 2) Z V vb w wr5 Z1))
      (fun _ _ iv _ => m + 2 - (intOf iv).toNat)
    case atStart => exact ⟨0, 0, 0, Z, by omega, by omega, by omega, rfl, rfl, rfl, hid ⟨Turn.start Z k, Mul.start Z k V H⟩, hIH⟩
    case round =>
      clear hIH
      obtain ⟨i, b, c, Z1, hi, hb1, hc1, rfl, rfl, rfl, hTM, hI5⟩ := hrel
      by_cases hlt5 : i < m + 2
      · obtain ⟨ahi, alo, a1, a2, a3, a4⟩ := mul64_nat H (lmN V i) bG (lmN_lt _ _)
        obtain ⟨u1, v1, p1, p2, p3, p4⟩ := add64_nat0 alo c a2 hc1
        obtain ⟨u2, v2, r1, r2, r3, r4⟩ := sub64_nat (lmN Z1 (k + i)) u1 b (lmN_lt _ _) p1 hb1
        have hcs := step_fits H (lmN V i) c ahi alo u1 v1 bG (lmN_lt _ _) hc1 p1 a3 p3
        have HTM2 := hid (And.intro (hTM.out.1.set u2 r1) (hTM.out.2.step (hTM.out.1.up i (Nat.le_refl _)) r1 a3 p3 r3))
        have A4 := hid a4
        have cv5 := hI5.out.2.1.cell i hlt5
        have lv5 := hI5.out.2.1.lt
        clear a3 p3 r3 a4 hTM
        go_wp2_with fail
        refine (A4.out _).mono ?_
        rintro e w6 ⟨rfl, hb6⟩
        have hI6 := hid (hI5.out.next hb6)
        have cx6 := hI6.out.1.cell (k + i) (by omega)
        have fx6 := hI6.out.1.free (k + i)
        have lx6 := hI6.out.1.lt
        clear hI5 cv5 lv5 hb6 A4
        go_wp2_with fail
        go_roundw
        case rel => exact ⟨i + 1, v2, ahi + v1, setL Z1 (k + i) u2, by omega, r2, hcs, rfl, by go_num, by go_num, HTM2, hid (hI6.out.put hvg (k + i) u2 r1)⟩
        case measure => simp [intOf]; omega
      · obtain rfl : i = m + 2 := by omega
        obtain ⟨u3, v3, r1, r2, r3, r4⟩ := sub64_nat (lmN Z1 (k + (m + 2))) c b (lmN_lt _ _) hc1 hb1
        have HT3 := hid (hTM.out.1.set u3 r1)
        have HW3 := hid (hTM.out.2.last HV1.out (hTM.out.1.up (m + 2) (Nat.le_refl _)) r1 r3)
        have cx6 := hI5.out.1.cell (k + (m + 2)) (by omega)
        have fx6 := hI5.out.1.free (k + (m + 2))
        have lx6 := hI5.out.1.lt
        clear hTM hlt5 hi r3
        go_wp2_with fail
        have hI7 := hid (hI5.out.put hvg (k + (m + 2)) u3 r1)
        generalize wr.setCell ⟨g, k + (m + 2), none⟩ (.int .u64 (u3 : Int)) = w7 at hI7 ⊢
        clear hI5 cx6 fx6 lx6 r4
        go_loopw [6, 13] (fun gv bv wr7 => ∃ G3 b3 Z3 : Nat, G3 < 2 ^ 64 ∧ b3 ≤ 1 ∧ gv = .int .u64 (G3 : Int) ∧ bv = .int .u64 (b3 : Int) ∧ Hid (Turn Z Z3 k (m + 3) ∧ win Z3 k (m + 3) + G3 * V = win Z k (m + 3) + 2 ^ (64 * (m + 3)) * b3 ∧ win Z k (m + 3) / V ≤ G3) ∧ Hid (StI g k N (m + 2) Z V vb w wr7 Z3))
          (fun gv _ _ => (intOf gv).toNat)
        case atStart => exact ⟨H, v3, setL Z1 (k + (m + 2)) u3, bG, r2, rfl, rfl, hid ⟨HT3.out, HW3.out, hHq.out⟩, hI7⟩
        case round =>
          clear hI7 HT3 HW3
          obtain ⟨G3, b3, Z3, bG3, hb3, rfl, rfl, hF, hI8⟩ := hrel
          have hcase : b3 = 0 ∨ b3 = 1 := by omega
          rcases hcase with rfl | rfl
          · have hfin := step_done Z Z3 k (m + 2) V G3 hF.out.1 hF.out.2.1 HVp.out hF.out.2.2
            have HF1 := hid hfin.1
            have HF2 := hid hfin.2
            clear hfin hF
            go_wp2_with fail
            go_ret
            exact ⟨Z3, by rw [← HF1.out]; rfl, hI8.out.1, by rw [← HF1.out]; exact HF2.out, hI8.out.2.2⟩
          · have hag := step_again Z Z3 k (m + 2) V G3 hF.out.2.1 HVp.out
            obtain ⟨J, hJ⟩ : ∃ J, G3 = J + 1 := ⟨G3 - 1, by have := Nat.lt_of_le_of_lt (Nat.zero_le _) hag; omega⟩
            have hJi : (G3 : Int) - 1 = (J : Int) := by omega
            have hJ1 : 1 ≤ G3 := by omega
            have hJl : J < G3 := by omega
            have HJ := hid hJ
            have HAG := hid (show win Z k (m + 3) / V ≤ J from by have := hag; rw [hJ] at this; exact Nat.le_of_lt_succ this)
            clear hag hJ
            go_wp2_with fail
            go_loopw [19, 148] (fun cv iv wr8 => ∃ i c Z4 : Nat, i ≤ m + 2 ∧ c ≤ 1 ∧ cv = .int .u64 (c : Int) ∧ iv = .int .i64 (i : Int) ∧ Hid (Turn Z3 Z4 k i ∧ Adb Z3 Z4 k V i c) ∧ Hid (StI g k N (m + 2) Z V vb w wr8 Z4))
              (fun _ iv _ => m + 2 - (intOf iv).toNat)
            case atStart => exact ⟨0, 0, Z3, by omega, by omega, rfl, rfl, hid ⟨Turn.start Z3 k, Adb.start Z3 k V⟩, hI8⟩
            case round =>
              clear hI8
              obtain ⟨i, c, Z4, hi, hc4, rfl, rfl, hTA, hI9⟩ := hrel
              by_cases hlt9 : i < m + 2
              · obtain ⟨u, v, p1, p2, p3, p4⟩ := add64_nat (lmN Z4 (k + i)) (lmN V i) c (lmN_lt _ _) (lmN_lt _ _) hc4
                have HTA2 := hid (And.intro (hTA.out.1.set u p1) (hTA.out.2.step (hTA.out.1.up i (Nat.le_refl _)) p1 p3))
                have cx9 := hI9.out.1.cell (k + i) (by omega)
                have fx9 := hI9.out.1.free (k + i)
                have lx9 := hI9.out.1.lt
                have cv9 := hI9.out.2.1.cell i hlt9
                have lv9 := hI9.out.2.1.lt
                clear p3 hTA
                go_wp2_with fail
                (refine wp_region_ext_float 16 14 [0, 1, 2, 3, 4, 5, 6, 7, 8, 9, 10, 11, 12, 13, 15] [_, _, _, _, _, _, _, _, _, _, _, _, _, _, _] _ _ _ rfl rfl rfl rfl (by kernel_rfl) (by kernel_rfl) ?_; (repeat (go_big_quiet_step (first | fail))); refine wpQuiet_nil ?_; refine ⟨?_, ?_⟩; rotate_left; rintro _ ⟨xw, rfl⟩; rotate_left; (repeat (go_big_quiet_step (first | fail))); refine wpQuiet_nil ?_; rintro _ ⟨xw, rfl⟩)
                all_goals
                  go_wp2_with fail
                  go_roundw
                  case rel => exact ⟨i + 1, v, setL Z4 (k + i) u, by omega, p2, rfl, by go_num, HTA2, hid ((hI9.out.ext xw).put hvg (k + i) u p1)⟩
                  case measure => simp [intOf]; omega
              · obtain rfl : i = m + 2 := by omega
                obtain ⟨u, v, p1, p2, p3, p4⟩ := add64_nat (lmN Z4 (k + (m + 2))) 0 c (lmN_lt _ _) (by omega) hc4
                have HT5 := hid (hF.out.1.trans (hTA.out.1.set u p1))
                have HW5 := hid (step_back Z Z3 (setL Z4 (k + (m + 2)) u) k (m + 2) V G3 v hJ1 p2 hF.out.2.1 (hTA.out.2.last HV1.out (hTA.out.1.up (m + 2) (Nat.le_refl _)) p1 p3))
                have cx9 := hI9.out.1.cell (k + (m + 2)) (by omega)
                have fx9 := hI9.out.1.free (k + (m + 2))
                have lx9 := hI9.out.1.lt
                have hv01 : (1 : Int) - (v : Int) = ((1 - v : Nat) : Int) := by omega
                have p5 : ∀ w, (callFunc 101 #[.int .u64 ((lmN Z4 (k + (m + 2)) : Nat) : Int), .int .u64 0, .int .u64 (c : Int)]).run Try.prog w = .ok (.value (.tuple #[.int .u64 (u : Int), .int .u64 (v : Int)])) w := p4
                clear p3 hTA hlt9 hi hF p4
                go_wp2_with fail
                go_roundw
                case rel => exact ⟨J, 1 - v, setL Z4 (k + (m + 2)) u, by omega, by omega, by go_num, by go_num, hid ⟨HT5.out, by have := HW5.out; rw [HJ.out, Nat.add_sub_cancel] at this; exact this, HAG.out⟩, hid (hI9.out.put hvg (k + (m + 2)) u p1)⟩
                case measure => simp [intOf]; omega
end Go.Proofs.Ytfidbiabgmioaaa
