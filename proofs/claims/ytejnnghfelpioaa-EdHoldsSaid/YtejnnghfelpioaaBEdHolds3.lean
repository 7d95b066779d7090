import Derived.Test.YtejnnghfelpioaaBEdHolds2
set_option maxRecDepth 4000
set_option linter.unusedVariables false
set_option linter.unusedSimpArgs false
namespace Go.Proofs.Ytejnnghfelpioaa
open Go.RowKit
structure Gs (B y1 y0 u z q r : Nat) : Prop where
  sum : u = q * y1 + r
  big : (u * B + z) / (y1 * B + y0) ≤ q
theorem Gs.start {B y1 y0 u z : Nat} (hz : z < B) (h1 : 0 < y1) : Gs B y1 y0 u z (u / y1) (u - u / y1 * y1) := by
  have h := Nat.div_add_mod u y1
  refine ⟨by rw [Nat.mul_comm] at h; omega, ?_⟩
  rw [Nat.le_div_iff_mul_le h1]
  have h2 := Nat.div_mul_le_self (u * B + z) (y1 * B + y0)
  generalize (u * B + z) / (y1 * B + y0) = q at h2 ⊢
  rw [Nat.mul_add q (y1 * B) y0, ← Nat.mul_assoc q y1 B] at h2
  have h3 : q * y1 * B < (u + 1) * B := by rw [Nat.add_mul, Nat.one_mul]; omega
  exact Nat.le_of_lt_succ (Nat.lt_of_mul_lt_mul_right h3)
theorem Gs.right {B y1 y0 u z q r : Nat} (h : Gs B y1 y0 u z q r) (hp : 0 < y1 * B + y0) (hle : q * y0 ≤ r * B + z) : q = (u * B + z) / (y1 * B + y0) := by
  refine Nat.le_antisymm ?_ h.big
  rw [Nat.le_div_iff_mul_le hp, h.sum, Nat.mul_add q (y1 * B) y0, ← Nat.mul_assoc q y1 B, Nat.add_mul (q * y1) r B]
  omega
theorem Gs.more {B y1 y0 u z q r : Nat} (h : Gs B y1 y0 u z q r) (hz : z < B) (hu : u < y1 * B + y0) (hgt : B ≤ q ∨ r * B + z < q * y0) : (u * B + z) / (y1 * B + y0) < q := by
  have hp : 0 < y1 * B + y0 := by omega
  rw [Nat.div_lt_iff_lt_mul hp]
  rcases hgt with hq | hq
  · refine Nat.lt_of_lt_of_le ?_ (Nat.mul_le_mul_right (y1 * B + y0) hq)
    have h2 : (u + 1) * B ≤ (y1 * B + y0) * B := Nat.mul_le_mul_right B hu
    rw [Nat.add_mul u 1 B, Nat.one_mul] at h2
    rw [Nat.mul_comm B]
    omega
  · rw [h.sum, Nat.mul_add q (y1 * B) y0, ← Nat.mul_assoc q y1 B, Nat.add_mul (q * y1) r B]
    omega
theorem Gs.next {B y1 y0 u z q r : Nat} (h : Gs B y1 y0 u z q r) (hm : (u * B + z) / (y1 * B + y0) < q) : Gs B y1 y0 u z (q - 1) (r + y1) := by
  refine ⟨?_, Nat.le_sub_one_of_lt hm⟩
  have hs := h.sum
  obtain ⟨p, rfl⟩ : ∃ p, q = p + 1 := ⟨q - 1, (Nat.succ_pred_eq_of_pos (Nat.lt_of_le_of_lt (Nat.zero_le _) hm)).symm⟩
  rw [Nat.add_mul p 1 y1, Nat.one_mul] at hs
  rw [Nat.add_sub_cancel]
  clear hm h
  omega
theorem Gs.last {B y1 y0 u z q r : Nat} (h : Gs B y1 y0 u z q r) (h0 : y0 < B) (hu : u < y1 * B + y0) (hr : B ≤ r) : q < B ∧ q * y0 ≤ r * B + z := by
  have hq : q < B := by
    rcases Nat.lt_or_ge q B with h3 | h3
    · exact h3
    · have h4 : B * y1 ≤ q * y1 := Nat.mul_le_mul_right _ h3
      have := h.sum
      rw [Nat.mul_comm B] at h4
      omega
  refine ⟨hq, ?_⟩
  have h5 : q * y0 ≤ B * B := Nat.mul_le_mul (Nat.le_of_lt hq) (Nat.le_of_lt h0)
  have h6 : B * B ≤ r * B := Nat.mul_le_mul_right _ hr
  omega
theorem div_halves (B U z1 z0 Y : Nat) (hY : 0 < Y) :
    (U * (B * B) + z1 * B + z0) / Y = (U * B + z1) / Y * B + ((U * B + z1) % Y * B + z0) / Y ∧
    (U * (B * B) + z1 * B + z0) % Y = ((U * B + z1) % Y * B + z0) % Y := by
  have h := Nat.div_add_mod (U * B + z1) Y
  generalize (U * B + z1) / Y = q1 at h ⊢
  generalize (U * B + z1) % Y = r1 at h ⊢
  have e : U * (B * B) + z1 * B + z0 = r1 * B + z0 + Y * (q1 * B) := by
    have e2 : (U * B + z1) * B = (Y * q1 + r1) * B := by rw [h]
    rw [Nat.add_mul, Nat.add_mul, Nat.mul_assoc U, Nat.mul_assoc Y q1] at e2
    omega
  rw [e, Nat.add_mul_div_left _ _ hY, Nat.add_mul_mod_self_left]
  exact ⟨Nat.add_comm _ _, rfl⟩
theorem div_shift (N Y s : Nat) : N * 2 ^ s / (Y * 2 ^ s) = N / Y ∧ N * 2 ^ s % (Y * 2 ^ s) / 2 ^ s = N % Y := by
  have hp : 0 < 2 ^ s := Nat.pow_pos (by omega)
  rw [Nat.mul_div_mul_right _ _ hp, Nat.mul_mod_mul_right, Nat.mul_div_cancel _ hp]
  exact ⟨rfl, rfl⟩
end Go.Proofs.Ytejnnghfelpioaa
namespace Go.Proofs.Ytejnnghfelpioaa
open Go.RowKit
theorem lz64_same (x : Nat) (h : x < 2 ^ 64) (w : World) : Calls Try.prog 83 #[.int .u64 (x : Int)] w fun e w' => e = .returned (.int .i64 ((64 - bl x : Nat) : Int)) ∧ w = w' :=
  (bits_LeadingZeros64 (x : Int) w (by omega) (by omega)).mono fun e w' ⟨h1, h2⟩ => ⟨by
    have := bl_le x 64 h
    rw [h1, Int.toNat_natCast, bl_lib x h]; congr 2; omega, h2.symm⟩
theorem u64w_nat (n : Nat) : IntKind.u64.wrap (n : Int) = ((n % 18446744073709551616 : Nat) : Int) := by rw [IntKind.wrap_u64]; omega
theorem div_second (U z1 z0 y1 y0 Y b : Nat) (hYe : Y = y1 * 4294967296 + y0) (hU : U < Y) (hY : Y < 2 ^ 64) (h1 : 0 < y1) (hz0 : z0 < 4294967296) (hb : b = (U * 4294967296 + z1) / (y1 * 4294967296 + y0)) :
    ∃ V q r : Nat, V = (U * 4294967296 + z1) % Y ∧ V < Y ∧
    IntKind.u64.wrap (IntKind.u64.wrap (IntKind.u64.wrap ((U : Int) * 4294967296) + (z1 : Int)) - IntKind.u64.wrap ((b : Int) * (Y : Int))) = (V : Int) ∧
    (V : Int).tdiv (y1 : Int) = (q : Int) ∧ IntKind.u64.wrap ((V : Int) - IntKind.u64.wrap ((q : Int) * (y1 : Int))) = (r : Int) ∧
    Hid (Gs 4294967296 y1 y0 V z0 q r) ∧ q < 2 ^ 64 ∧ r < y1 := by
  have hp : 0 < Y := by omega
  have hV := Nat.mod_lt (U * 4294967296 + z1) hp
  have hd := Nat.div_add_mod (U * 4294967296 + z1) Y
  rw [← hYe] at hb
  rw [← hb] at hd
  obtain ⟨V, hV2⟩ : ∃ V, V = (U * 4294967296 + z1) % Y := ⟨_, rfl⟩
  rw [← hV2] at hd hV
  have hq1 := Nat.div_add_mod V y1
  have hq2 := Nat.mod_lt V h1
  have hq3 := Nat.div_le_self V y1
  refine ⟨V, V / y1, V - V / y1 * y1, hV2, hV, ?_, rfl, ?_, hid (Gs.start hz0 h1), by omega, by rw [Nat.mul_comm] at hq1; omega⟩
  · rw [show (b : Int) * (Y : Int) = ((Y * b : Nat) : Int) by rw [Nat.mul_comm, Int.natCast_mul]]
    have e1 := IntKind.wrap_u64 ((U : Int) * 4294967296)
    have e2 := IntKind.wrap_u64 (((Y * b : Nat) : Int))
    rw [e1, e2, IntKind.wrap_u64, IntKind.wrap_u64]
    omega
  · rw [show ((V / y1 : Nat) : Int) * (y1 : Int) = ((V / y1 * y1 : Nat) : Int) by rw [Int.natCast_mul]]
    have h5 := Nat.div_mul_le_self V y1
    rw [u64w_nat, Nat.mod_eq_of_lt (by omega), IntKind.wrap_u64]
    omega
theorem div_third (V z0 y1 y0 Y a : Nat) (hYe : Y = y1 * 4294967296 + y0) (hp : 0 < Y) (hY : Y < 2 ^ 64) (ha : a = (V * 4294967296 + z0) / (y1 * 4294967296 + y0)) :
    ∃ R, R = (V * 4294967296 + z0) % Y ∧ R < 2 ^ 64 ∧ IntKind.u64.wrap (IntKind.u64.wrap (IntKind.u64.wrap ((V : Int) * 4294967296) + (z0 : Int)) - IntKind.u64.wrap ((a : Int) * (Y : Int))) = (R : Int) := by
  have hV := Nat.mod_lt (V * 4294967296 + z0) hp
  have hd := Nat.div_add_mod (V * 4294967296 + z0) Y
  rw [← hYe] at ha
  rw [← ha] at hd
  refine ⟨_, rfl, by omega, ?_⟩
  rw [show (a : Int) * (Y : Int) = ((Y * a : Nat) : Int) by rw [Nat.mul_comm, Int.natCast_mul]]
  have e1 := IntKind.wrap_u64 ((V : Int) * 4294967296)
  have e2 := IntKind.wrap_u64 (((Y * a : Nat) : Int))
  rw [e1, e2, IntKind.wrap_u64, IntKind.wrap_u64]
  omega
set_option maxRecDepth 100000 in
set_option maxHeartbeats 4000000 in
theorem div64_any (hi lo y : Nat) (hhi : hi < y) (hlo : lo < 2 ^ 64) (hy : y < 2 ^ 64) (w : World) : Calls Try.prog 81 #[.int .u64 (hi : Int), .int .u64 (lo : Int), .int .u64 (y : Int)] w fun e w' =>
    e = .returned (.tuple #[.int .u64 (((hi * 2 ^ 64 + lo) / y : Nat) : Int), .int .u64 (((hi * 2 ^ 64 + lo) % y : Nat) : Int)]) ∧ Below w.heap.size w w' := by
  by_cases h0 : hi = 0
  · subst h0
    have hy0 : ¬ (y : Int) = 0 := by omega
    have hy1 : ¬ (y : Int) ≤ 0 := by omega
    obtain ⟨q, hq⟩ : ∃ q, q = lo / y := ⟨_, rfl⟩
    obtain ⟨r, hr⟩ : ∃ r, r = lo % y := ⟨_, rfl⟩
    have hq2 : q < 2 ^ 64 := by rw [hq]; exact Nat.lt_of_le_of_lt (Nat.div_le_self _ _) hlo
    have hr2 : r < 2 ^ 64 := by rw [hr]; exact Nat.lt_of_le_of_lt (Nat.mod_le _ _) hlo
    have H1 : ((lo : Int).tdiv (y : Int)) = (q : Int) := by rw [hq]; rfl
    have H2 : ((lo : Int).tmod (y : Int)) = (r : Int) := by rw [hr]; rfl
    have H3 := hid (show (0 * 2 ^ 64 + lo) / y = q by rw [Nat.zero_mul, Nat.zero_add, hq])
    have H4 := hid (show (0 * 2 ^ 64 + lo) % y = r by rw [Nat.zero_mul, Nat.zero_add, hr])
    rw [H3.out, H4.out]
    clear hq hr H3 H4
    go_enter Try.func81, Try.ntmps81
    go_wp2_with (refine wp_region_ext (by kernel_rfl) (by kernel_rfl) ?_; (repeat (go_big_quiet_step (first | fail))); refine wpQuiet_nil ?_; rintro _ ⟨xw, rfl⟩)
    go_ret2
    exact ⟨rfl, (by repeat (first | (with_reducible first | exact Below.refl _ _ | assumption | refine World.ext_below_of ?_ ?_ _ | refine Below.setCell ?_ ?_ _ | refine Below.alloc ?_ ?_ _ | refine Below.drew ?_ | refine World.size_le_ext _ _ _ ?_) | (solve | simp [go_sem] | (simp [go_sem]; omega) | omega)))⟩
  · have hS := hid (fun w => lz64_same y hy w)
    obtain ⟨s, hs⟩ : ∃ s, s = 64 - bl y := ⟨_, rfl⟩
    rw [← hs] at hS
    have hsp := bl_spec y (by omega)
    have hbl := bl_le y 64 hy
    have hs63 : s ≤ 63 := by omega
    have hy0 : ¬ (y : Int) = 0 := by omega
    have hy1 : ¬ (y : Int) ≤ (hi : Int) := by omega
    have h00 : ¬ (hi : Int) = 0 := by omega
    obtain ⟨Y, hY⟩ : ∃ Y, Y = y * 2 ^ s := ⟨_, rfl⟩
    have hp : 0 < 2 ^ s := Nat.pow_pos (by omega)
    have hYlt : Y < 2 ^ 64 := by
      have h1 : y * 2 ^ s < 2 ^ bl y * 2 ^ s := Nat.mul_lt_mul_of_pos_right hsp.2.2 hp
      rw [← Nat.pow_add, show bl y + s = 64 by omega] at h1
      rw [hY]; exact h1
    have hYge : 2 ^ 63 ≤ Y := by
      have h1 : 2 ^ (bl y - 1) * 2 ^ s ≤ y * 2 ^ s := Nat.mul_le_mul_right _ hsp.2.1
      rw [← Nat.pow_add, show bl y - 1 + s = 63 by omega] at h1
      rw [hY]; exact h1
    have E1 : IntKind.u64.wrap ((y : Int) * 2 ^ s) = (Y : Int) := by
      rw [show (y : Int) * 2 ^ s = ((y * 2 ^ s : Nat) : Int) by rw [Int.natCast_mul, Int.natCast_pow]; rfl, ← hY, u64w_nat, Nat.mod_eq_of_lt (by omega)]
    obtain ⟨y1, hy1'⟩ : ∃ y1, y1 = Y / 4294967296 := ⟨_, rfl⟩
    obtain ⟨y0, hy0'⟩ : ∃ y0, y0 = Y % 4294967296 := ⟨_, rfl⟩
    have E2 : (Y : Int) / 4294967296 = (y1 : Int) := by omega
    have E3 : bits .and .u64 (Y : Int) 4294967295 = (y0 : Int) := by
      rw [show (4294967295 : Int) = ((2 ^ 32 - 1 : Nat) : Int) from rfl, u64_and_nat _ _ hYlt (by decide), Nat.and_two_pow_sub_one_eq_mod, hy0']
    have hlo2 : lo / 2 ^ (64 - s) < 2 ^ s := by
      rw [Nat.div_lt_iff_lt_mul (Nat.pow_pos (by omega)), ← Nat.pow_add, show s + (64 - s) = 64 by omega]; exact hlo
    obtain ⟨U, hU⟩ : ∃ U, U = hi * 2 ^ s + lo / 2 ^ (64 - s) := ⟨_, rfl⟩
    have hUY : U < Y := by
      have h1 : (hi + 1) * 2 ^ s ≤ y * 2 ^ s := Nat.mul_le_mul_right _ hhi
      rw [Nat.add_mul, Nat.one_mul] at h1
      omega
    have E4 : bits .or .u64 (IntKind.u64.wrap ((hi : Int) * 2 ^ s)) ((lo : Int) / 2 ^ (64 - s)) = (U : Int) := by
      have h1 : hi * 2 ^ s < 18446744073709551616 := Nat.lt_of_le_of_lt (by rw [hU]; exact Nat.le_add_right _ _) (Nat.lt_trans hUY hYlt)
      rw [show (hi : Int) * 2 ^ s = ((hi * 2 ^ s : Nat) : Int) by rw [Int.natCast_mul, Int.natCast_pow]; rfl, u64w_nat, Nat.mod_eq_of_lt h1]
      rw [show (lo : Int) / 2 ^ (64 - s) = ((lo / 2 ^ (64 - s) : Nat) : Int) by rw [Int.natCast_ediv, Int.natCast_pow]; rfl]
      rw [u64_or_nat _ _ h1 (Nat.lt_of_le_of_lt (Nat.div_le_self _ _) hlo), hU, Nat.or_comm, or_add _ _ _ hlo2, Nat.add_comm]
    obtain ⟨L, hL⟩ : ∃ L, L = lo * 2 ^ s % 2 ^ 64 := ⟨_, rfl⟩
    have hLlt : L < 2 ^ 64 := by rw [hL]; exact Nat.mod_lt _ (by decide)
    have E5 : IntKind.u64.wrap ((lo : Int) * 2 ^ s) = (L : Int) := by
      rw [show (lo : Int) * 2 ^ s = ((lo * 2 ^ s : Nat) : Int) by rw [Int.natCast_mul, Int.natCast_pow]; rfl, u64w_nat, hL]
    obtain ⟨z1, hz1⟩ : ∃ z1, z1 = L / 4294967296 := ⟨_, rfl⟩
    obtain ⟨z0, hz0⟩ : ∃ z0, z0 = L % 4294967296 := ⟨_, rfl⟩
    have E6 : (L : Int) / 4294967296 = (z1 : Int) := by omega
    have E7 : bits .and .u64 (L : Int) 4294967295 = (z0 : Int) := by
      rw [show (4294967295 : Int) = ((2 ^ 32 - 1 : Nat) : Int) from rfl, u64_and_nat _ _ hLlt (by decide), Nat.and_two_pow_sub_one_eq_mod, hz0]
    have HN := hid (show (hi * 2 ^ 64 + lo) * 2 ^ s = U * (4294967296 * 4294967296) + z1 * 4294967296 + z0 by
      have h1 : lo * 2 ^ s = lo / 2 ^ (64 - s) * 2 ^ 64 + L := by
        have e : lo * 2 ^ s / 2 ^ 64 = lo / 2 ^ (64 - s) := by
          rw [show (2 : Nat) ^ 64 = 2 ^ (64 - s) * 2 ^ s by rw [← Nat.pow_add]; congr 1; omega, Nat.mul_div_mul_right _ _ hp]
        have := Nat.div_add_mod (lo * 2 ^ s) (2 ^ 64)
        rw [e, ← hL] at this; omega
      rw [Nat.add_mul, Nat.mul_right_comm, h1, hU]
      omega)
    have HD := hid (div_shift (hi * 2 ^ 64 + lo) y s)
    have HYe := hid (show Y = y1 * 4294967296 + y0 by omega)
    rw [← hY, HN.out] at HD
    have hYpos : 0 < Y := by omega
    have HH := hid (div_halves 4294967296 U z1 z0 Y hYpos)
    have by1 : y1 < 4294967296 := by omega
    have by1' : 2147483648 ≤ y1 := by omega
    have by0 : y0 < 4294967296 := by omega
    have bz1 : z1 < 4294967296 := by omega
    have bz0 : z0 < 4294967296 := by omega
    have bU : U < 2 ^ 64 := by omega
    rw [← HD.out.1, ← HD.out.2, HH.out.1, HH.out.2]
    obtain ⟨X1, hX1⟩ : ∃ X, X = (U * 4294967296 + z1) / Y * 4294967296 + ((U * 4294967296 + z1) % Y * 4294967296 + z0) / Y := ⟨_, rfl⟩
    obtain ⟨X2, hX2⟩ : ∃ X, X = ((U * 4294967296 + z1) % Y * 4294967296 + z0) % Y / 2 ^ s := ⟨_, rfl⟩
    rw [← hX1, ← hX2]
    have HX1 := hid hX1
    have HX2 := hid hX2
    clear hX1 hX2
    obtain ⟨q, hq⟩ : ∃ q, q = U / y1 := ⟨_, rfl⟩
    have hG := hid (Gs.start (B := 4294967296) (y1 := y1) (y0 := y0) (u := U) bz1 (by omega))
    have hqle : q * y1 ≤ U := by rw [hq]; exact Nat.div_mul_le_self _ _
    have hrlt : U - q * y1 < y1 := by
      have h1 := Nat.div_add_mod U y1
      have h2 := Nat.mod_lt U (show 0 < y1 by omega)
      rw [Nat.mul_comm, ← hq] at h1; omega
    rw [← hq] at hG
    have bq : q < 2 ^ 64 := by rw [hq]; exact Nat.lt_of_le_of_lt (Nat.div_le_self _ _) bU
    obtain ⟨r, hr⟩ : ∃ r, r = U - q * y1 := ⟨_, rfl⟩
    rw [← hr] at hG hrlt
    have E8 : (U : Int).tdiv (y1 : Int) = (q : Int) := by rw [hq]; rfl
    have E9 : IntKind.u64.wrap ((U : Int) - IntKind.u64.wrap ((q : Int) * (y1 : Int))) = (r : Int) := by
      rw [show (q : Int) * (y1 : Int) = ((q * y1 : Nat) : Int) by rw [Int.natCast_mul], u64w_nat, Nat.mod_eq_of_lt (by omega), IntKind.wrap_u64]; omega
    have hn1 : ¬ (y1 : Int) = 0 := by omega
    have hUY' := hid hUY
    clear hsp hbl hs hp hlo2 hU hL hLlt hY hYge hy1' hy0' hz1 hz0 HD HH HN hhi hq hqle hr hUY hYpos
    go_enter Try.func81, Try.ntmps81
    go_wp2_with fail
    refine (hS.out _).mono ?_
    rintro e w1 ⟨rfl, rfl⟩
    go_wp2_with fail
    go_loopw [15, 16] (fun qv rv wr => ∃ q r : Nat, qv = .int .u64 q ∧ rv = .int .u64 r ∧ q < 2 ^ 64 ∧ r < 4294967296 ∧ Hid (Gs 4294967296 y1 y0 U z1 q r) ∧ wr = w)
      (fun qv _ _ => (intOf qv).toNat)
    case atStart => exact ⟨q, r, rfl, rfl, bq, by omega, hG, rfl⟩
    case round =>
      clear hG E1 E2 E3 E4 E5 E6 E7 E8 E9 bq hrlt hS
      obtain ⟨a, c, rfl, rfl, ba, bc, hG, rfl⟩ := hrel
      have hu : U < y1 * 4294967296 + y0 := by rw [← HYe.out]; exact hUY'.out
      have hYp : 0 < y1 * 4294967296 + y0 := by omega
      by_cases hq : 4294967296 ≤ a
      · have hM := hid (hG.out.more bz1 hu (.inl hq))
        have hN := hid (hG.out.next hM.out)
        obtain ⟨b, rfl⟩ : ∃ b, a = b + 1 := ⟨a - 1, by omega⟩
        rw [Nat.add_sub_cancel] at hN
        have hqi : ¬ ((b : Int) + 1 < 4294967296) := by omega
        have hqj : (4294967296 : Int) ≤ (b : Int) + 1 := by omega
        by_cases hc : 4294967296 ≤ c + y1
        · have hc' : (4294967296 : Int) ≤ (c : Int) + (y1 : Int) := by omega
          have hc2 : ¬ ((c : Int) + (y1 : Int) < 4294967296) := by omega
          have hL := hN.out.last by0 hu hc
          have hB := hN.out.right hYp hL.2
          have hblt := hL.1
          clear hq hM hN hG ba hc
          obtain ⟨V, q2, r2, hV1, hV2, F1, F2, F3, hG2, bq2, br2⟩ := div_second U z1 z0 y1 y0 Y b HYe.out hUY'.out hYlt (by omega) bz0 hB
          have HV := hid hV1
          have HBY := hid (show (U * 4294967296 + z1) / Y = b by rw [hB, HYe.out])
          have HV2 := hid hV2
          clear hB hV1
          go_wp2_with fail
          clear F1 F2 F3 hV2
          go_loopw [18, 16] (fun qv rv wr2 => ∃ q r : Nat, qv = .int .u64 q ∧ rv = .int .u64 r ∧ q < 2 ^ 64 ∧ r < 4294967296 ∧ Hid (Gs 4294967296 y1 y0 V z0 q r) ∧ wr2 = wr)
            (fun qv _ _ => (intOf qv).toNat)
          case atStart => exact ⟨q2, r2, rfl, rfl, bq2, by omega, hG2, rfl⟩
          case round =>
            clear hG2 bq2 br2
            obtain ⟨d, f, rfl, rfl, bd, bf, hG3, rfl⟩ := hrel
            have hu3 : V < y1 * 4294967296 + y0 := by rw [← HYe.out]; exact HV2.out
            by_cases hq3 : 4294967296 ≤ d
            · have hM3 := hid (hG3.out.more bz0 hu3 (.inl hq3))
              have hN3 := hid (hG3.out.next hM3.out)
              obtain ⟨g, rfl⟩ : ∃ g, d = g + 1 := ⟨d - 1, by omega⟩
              rw [Nat.add_sub_cancel] at hN3
              have hqi3 : ¬ ((g : Int) + 1 < 4294967296) := by omega
              have hqj3 : (4294967296 : Int) ≤ (g : Int) + 1 := by omega
              by_cases hc3 : 4294967296 ≤ f + y1
              · have hc' : (4294967296 : Int) ≤ (f : Int) + (y1 : Int) := by omega
                have hc2 : ¬ ((f : Int) + (y1 : Int) < 4294967296) := by omega
                have hL := hN3.out.last by0 hu3 hc3
                have hA := hN3.out.right hYp hL.2
                have hglt := hL.1
                clear hq3 hM3 hN3 hG3 bd hc3 hu3 hL
                have HA := hid (show (V * 4294967296 + z0) / Y = g by rw [hA, HYe.out])
                obtain ⟨R, hR, hRlt, F4⟩ := div_third V z0 y1 y0 Y g HYe.out (by rw [HYe.out]; exact hYp) hYlt hA
                have HR := hid hR
                clear hR hA
                go_wp2_with fail
                go_ret2
                refine ⟨(show Ending.returned (.tuple #[.int .u64 ((b : Int) * 4294967296 + (g : Int)), .int .u64 ((R : Int) / 2 ^ s)]) = _ from ?_), Below.refl _ _⟩
                have e1 : (X1 : Int) = (b : Int) * 4294967296 + (g : Int) := by
                  rw [HX1.out, ← HV.out, HA.out, HBY.out]; omega
                have e2 : (X2 : Int) = (R : Int) / 2 ^ s := by
                  rw [HX2.out, ← HV.out, ← HR.out, Int.natCast_ediv, Int.natCast_pow]; rfl
                rw [← e1, ← e2]
              · have hc' : ¬ (4294967296 : Int) ≤ (f : Int) + (y1 : Int) := by omega
                have hc2 : (f : Int) + (y1 : Int) < 4294967296 := by omega
                clear hu3
                go_wp2_with fail
                go_roundw
                case rel => exact ⟨g, f + y1, by go_num, by go_num, by omega, by omega, hN3, trivial⟩
                case measure => simp [intOf]
            · obtain ⟨p, hp⟩ : ∃ p, p = d * y0 := ⟨_, rfl⟩
              have hpi : (d : Int) * (y0 : Int) = (p : Int) := by rw [hp, Int.natCast_mul]
              have hplt : p < 18446744073709551616 := by
                have : d * y0 ≤ 4294967295 * 4294967295 := Nat.mul_le_mul (by omega) (by omega)
                omega
              have hqi3 : (d : Int) < 4294967296 := by omega
              have hqj3 : ¬ (4294967296 : Int) ≤ (d : Int) := by omega
              by_cases hgt : f * 4294967296 + z0 < p
              · have hM3 := hid (hG3.out.more bz0 hu3 (.inr (by rw [← hp]; exact hgt)))
                have hN3 := hid (hG3.out.next hM3.out)
                obtain ⟨g, hg⟩ : ∃ g, d = g + 1 := ⟨d - 1, by have := Nat.lt_of_le_of_lt (Nat.zero_le _) hM3.out; omega⟩
                rw [hg, Nat.add_sub_cancel] at hN3
                have hgi : (d : Int) - 1 = (g : Int) := by omega
                have hgd : g < d := by omega
                have hd1 : 1 ≤ d := by omega
                have hg2 : (4294967296 : Int) * (f : Int) + (z0 : Int) < (p : Int) := by omega
                by_cases hc3 : 4294967296 ≤ f + y1
                · have hc' : (4294967296 : Int) ≤ (f : Int) + (y1 : Int) := by omega
                  have hc2 : ¬ ((f : Int) + (y1 : Int) < 4294967296) := by omega
                  have hL := hN3.out.last by0 hu3 hc3
                  have hA := hN3.out.right hYp hL.2
                  have hglt := hL.1
                  have Hp := hid hp
                  clear hq3 hM3 hN3 hG3 bd hc3 hu3 hL hp hgt hg
                  have HA := hid (show (V * 4294967296 + z0) / Y = g by rw [hA, HYe.out])
                  obtain ⟨R, hR, hRlt, F4⟩ := div_third V z0 y1 y0 Y g HYe.out (by rw [HYe.out]; exact hYp) hYlt hA
                  have HR := hid hR
                  clear hR hA
                  go_wp2_with fail
                  go_ret2
                  refine ⟨(show Ending.returned (.tuple #[.int .u64 ((b : Int) * 4294967296 + (g : Int)), .int .u64 ((R : Int) / 2 ^ s)]) = _ from ?_), Below.refl _ _⟩
                  have e1 : (X1 : Int) = (b : Int) * 4294967296 + (g : Int) := by
                    rw [HX1.out, ← HV.out, HA.out, HBY.out]; omega
                  have e2 : (X2 : Int) = (R : Int) / 2 ^ s := by
                    rw [HX2.out, ← HV.out, ← HR.out, Int.natCast_ediv, Int.natCast_pow]; rfl
                  rw [← e1, ← e2]
                · have hc' : ¬ (4294967296 : Int) ≤ (f : Int) + (y1 : Int) := by omega
                  have hc2 : (f : Int) + (y1 : Int) < 4294967296 := by omega
                  clear hu3 hp hgt hg
                  go_wp2_with fail
                  go_roundw
                  case rel => exact ⟨g, f + y1, by go_num, by go_num, by omega, by omega, hN3, trivial⟩
                  case measure => simp [intOf]; omega
              · obtain ⟨g, hgd⟩ : ∃ g, g = d := ⟨d, rfl⟩
                have hA : g = (V * 4294967296 + z0) / (y1 * 4294967296 + y0) := by rw [hgd]; exact hG3.out.right hYp (by rw [← hp]; omega)
                have hg2 : ¬ ((4294967296 : Int) * (f : Int) + (z0 : Int) < (p : Int)) := by omega
                have hglt : g < 4294967296 := by omega
                subst hgd
                clear hq3 hG3 bd hu3 hp hgt
                have HA := hid (show (V * 4294967296 + z0) / Y = g by rw [hA, HYe.out])
                obtain ⟨R, hR, hRlt, F4⟩ := div_third V z0 y1 y0 Y g HYe.out (by rw [HYe.out]; exact hYp) hYlt hA
                have HR := hid hR
                clear hR hA
                go_wp2_with fail
                go_ret2
                refine ⟨(show Ending.returned (.tuple #[.int .u64 ((b : Int) * 4294967296 + (g : Int)), .int .u64 ((R : Int) / 2 ^ s)]) = _ from ?_), Below.refl _ _⟩
                have e1 : (X1 : Int) = (b : Int) * 4294967296 + (g : Int) := by
                  rw [HX1.out, ← HV.out, HA.out, HBY.out]; omega
                have e2 : (X2 : Int) = (R : Int) / 2 ^ s := by
                  rw [HX2.out, ← HV.out, ← HR.out, Int.natCast_ediv, Int.natCast_pow]; rfl
                rw [← e1, ← e2]
        · have hc' : ¬ (4294967296 : Int) ≤ (c : Int) + (y1 : Int) := by omega
          have hc2 : (c : Int) + (y1 : Int) < 4294967296 := by omega
          go_wp2_with fail
          go_roundw
          case rel => exact ⟨b, c + y1, by go_num, by go_num, by omega, by omega, hN, trivial⟩
          case measure => simp [intOf]
      · obtain ⟨p, hp⟩ : ∃ p, p = a * y0 := ⟨_, rfl⟩
        have hpi : (a : Int) * (y0 : Int) = (p : Int) := by rw [hp, Int.natCast_mul]
        have hplt : p < 18446744073709551616 := by
          have : a * y0 ≤ 4294967295 * 4294967295 := Nat.mul_le_mul (by omega) (by omega)
          omega
        have hqi : (a : Int) < 4294967296 := by omega
        have hqj : ¬ (4294967296 : Int) ≤ (a : Int) := by omega
        by_cases hgt : c * 4294967296 + z1 < p
        · have hM := hid (hG.out.more bz1 hu (.inr (by rw [← hp]; exact hgt)))
          have hN := hid (hG.out.next hM.out)
          obtain ⟨b, hb⟩ : ∃ b, a = b + 1 := ⟨a - 1, by have := Nat.lt_of_le_of_lt (Nat.zero_le _) hM.out; omega⟩
          rw [hb, Nat.add_sub_cancel] at hN
          have hbi : (a : Int) - 1 = (b : Int) := by omega
          have hbd : b < a := by omega
          have hd1 : 1 ≤ a := by omega
          have hg2 : (4294967296 : Int) * (c : Int) + (z1 : Int) < (p : Int) := by omega
          by_cases hc : 4294967296 ≤ c + y1
          · have hc' : (4294967296 : Int) ≤ (c : Int) + (y1 : Int) := by omega
            have hc2 : ¬ ((c : Int) + (y1 : Int) < 4294967296) := by omega
            have hL := hN.out.last by0 hu hc
            have hB := hN.out.right hYp hL.2
            have hblt := hL.1
            clear hq hM hN hG ba hc hp hgt hb
            obtain ⟨V, q2, r2, hV1, hV2, F1, F2, F3, hG2, bq2, br2⟩ := div_second U z1 z0 y1 y0 Y b HYe.out hUY'.out hYlt (by omega) bz0 hB
            have HV := hid hV1
            have HBY := hid (show (U * 4294967296 + z1) / Y = b by rw [hB, HYe.out])
            have HV2 := hid hV2
            clear hB hV1
            go_wp2_with fail
            clear F1 F2 F3 hV2
            go_loopw [18, 16] (fun qv rv wr2 => ∃ q r : Nat, qv = .int .u64 q ∧ rv = .int .u64 r ∧ q < 2 ^ 64 ∧ r < 4294967296 ∧ Hid (Gs 4294967296 y1 y0 V z0 q r) ∧ wr2 = wr)
              (fun qv _ _ => (intOf qv).toNat)
            case atStart => exact ⟨q2, r2, rfl, rfl, bq2, by omega, hG2, rfl⟩
            case round =>
              clear hG2 bq2 br2
              obtain ⟨d, f, rfl, rfl, bd, bf, hG3, rfl⟩ := hrel
              have hu3 : V < y1 * 4294967296 + y0 := by rw [← HYe.out]; exact HV2.out
              by_cases hq3 : 4294967296 ≤ d
              · have hM3 := hid (hG3.out.more bz0 hu3 (.inl hq3))
                have hN3 := hid (hG3.out.next hM3.out)
                obtain ⟨g, rfl⟩ : ∃ g, d = g + 1 := ⟨d - 1, by omega⟩
                rw [Nat.add_sub_cancel] at hN3
                have hqi3 : ¬ ((g : Int) + 1 < 4294967296) := by omega
                have hqj3 : (4294967296 : Int) ≤ (g : Int) + 1 := by omega
                by_cases hc3 : 4294967296 ≤ f + y1
                · have hc' : (4294967296 : Int) ≤ (f : Int) + (y1 : Int) := by omega
                  have hc2 : ¬ ((f : Int) + (y1 : Int) < 4294967296) := by omega
                  have hL := hN3.out.last by0 hu3 hc3
                  have hA := hN3.out.right hYp hL.2
                  have hglt := hL.1
                  clear hq3 hM3 hN3 hG3 bd hc3 hu3 hL
                  have HA := hid (show (V * 4294967296 + z0) / Y = g by rw [hA, HYe.out])
                  obtain ⟨R, hR, hRlt, F4⟩ := div_third V z0 y1 y0 Y g HYe.out (by rw [HYe.out]; exact hYp) hYlt hA
                  have HR := hid hR
                  clear hR hA
                  go_wp2_with fail
                  go_ret2
                  refine ⟨(show Ending.returned (.tuple #[.int .u64 ((b : Int) * 4294967296 + (g : Int)), .int .u64 ((R : Int) / 2 ^ s)]) = _ from ?_), Below.refl _ _⟩
                  have e1 : (X1 : Int) = (b : Int) * 4294967296 + (g : Int) := by
                    rw [HX1.out, ← HV.out, HA.out, HBY.out]; omega
                  have e2 : (X2 : Int) = (R : Int) / 2 ^ s := by
                    rw [HX2.out, ← HV.out, ← HR.out, Int.natCast_ediv, Int.natCast_pow]; rfl
                  rw [← e1, ← e2]
                · have hc' : ¬ (4294967296 : Int) ≤ (f : Int) + (y1 : Int) := by omega
                  have hc2 : (f : Int) + (y1 : Int) < 4294967296 := by omega
                  clear hu3
                  go_wp2_with fail
                  go_roundw
                  case rel => exact ⟨g, f + y1, by go_num, by go_num, by omega, by omega, hN3, trivial⟩
                  case measure => simp [intOf]
              · obtain ⟨p, hp⟩ : ∃ p, p = d * y0 := ⟨_, rfl⟩
                have hpi : (d : Int) * (y0 : Int) = (p : Int) := by rw [hp, Int.natCast_mul]
                have hplt : p < 18446744073709551616 := by
                  have : d * y0 ≤ 4294967295 * 4294967295 := Nat.mul_le_mul (by omega) (by omega)
                  omega
                have hqi3 : (d : Int) < 4294967296 := by omega
                have hqj3 : ¬ (4294967296 : Int) ≤ (d : Int) := by omega
                by_cases hgt : f * 4294967296 + z0 < p
                · have hM3 := hid (hG3.out.more bz0 hu3 (.inr (by rw [← hp]; exact hgt)))
                  have hN3 := hid (hG3.out.next hM3.out)
                  obtain ⟨g, hg⟩ : ∃ g, d = g + 1 := ⟨d - 1, by have := Nat.lt_of_le_of_lt (Nat.zero_le _) hM3.out; omega⟩
                  rw [hg, Nat.add_sub_cancel] at hN3
                  have hgi : (d : Int) - 1 = (g : Int) := by omega
                  have hgd : g < d := by omega
                  have hd1 : 1 ≤ d := by omega
                  have hg2 : (4294967296 : Int) * (f : Int) + (z0 : Int) < (p : Int) := by omega
                  by_cases hc3 : 4294967296 ≤ f + y1
                  · have hc' : (4294967296 : Int) ≤ (f : Int) + (y1 : Int) := by omega
                    have hc2 : ¬ ((f : Int) + (y1 : Int) < 4294967296) := by omega
                    have hL := hN3.out.last by0 hu3 hc3
                    have hA := hN3.out.right hYp hL.2
                    have hglt := hL.1
                    have Hp := hid hp
                    clear hq3 hM3 hN3 hG3 bd hc3 hu3 hL hp hgt hg
                    have HA := hid (show (V * 4294967296 + z0) / Y = g by rw [hA, HYe.out])
                    obtain ⟨R, hR, hRlt, F4⟩ := div_third V z0 y1 y0 Y g HYe.out (by rw [HYe.out]; exact hYp) hYlt hA
                    have HR := hid hR
                    clear hR hA
                    go_wp2_with fail
                    go_ret2
                    refine ⟨(show Ending.returned (.tuple #[.int .u64 ((b : Int) * 4294967296 + (g : Int)), .int .u64 ((R : Int) / 2 ^ s)]) = _ from ?_), Below.refl _ _⟩
                    have e1 : (X1 : Int) = (b : Int) * 4294967296 + (g : Int) := by
                      rw [HX1.out, ← HV.out, HA.out, HBY.out]; omega
                    have e2 : (X2 : Int) = (R : Int) / 2 ^ s := by
                      rw [HX2.out, ← HV.out, ← HR.out, Int.natCast_ediv, Int.natCast_pow]; rfl
                    rw [← e1, ← e2]
                  · have hc' : ¬ (4294967296 : Int) ≤ (f : Int) + (y1 : Int) := by omega
                    have hc2 : (f : Int) + (y1 : Int) < 4294967296 := by omega
                    clear hu3 hp hgt hg
                    go_wp2_with fail
                    go_roundw
                    case rel => exact ⟨g, f + y1, by go_num, by go_num, by omega, by omega, hN3, trivial⟩
                    case measure => simp [intOf]; omega
                · obtain ⟨g, hgd⟩ : ∃ g, g = d := ⟨d, rfl⟩
                  have hA : g = (V * 4294967296 + z0) / (y1 * 4294967296 + y0) := by rw [hgd]; exact hG3.out.right hYp (by rw [← hp]; omega)
                  have hg2 : ¬ ((4294967296 : Int) * (f : Int) + (z0 : Int) < (p : Int)) := by omega
                  have hglt : g < 4294967296 := by omega
                  subst hgd
                  clear hq3 hG3 bd hu3 hp hgt
                  have HA := hid (show (V * 4294967296 + z0) / Y = g by rw [hA, HYe.out])
                  obtain ⟨R, hR, hRlt, F4⟩ := div_third V z0 y1 y0 Y g HYe.out (by rw [HYe.out]; exact hYp) hYlt hA
                  have HR := hid hR
                  clear hR hA
                  go_wp2_with fail
                  go_ret2
                  refine ⟨(show Ending.returned (.tuple #[.int .u64 ((b : Int) * 4294967296 + (g : Int)), .int .u64 ((R : Int) / 2 ^ s)]) = _ from ?_), Below.refl _ _⟩
                  have e1 : (X1 : Int) = (b : Int) * 4294967296 + (g : Int) := by
                    rw [HX1.out, ← HV.out, HA.out, HBY.out]; omega
                  have e2 : (X2 : Int) = (R : Int) / 2 ^ s := by
                    rw [HX2.out, ← HV.out, ← HR.out, Int.natCast_ediv, Int.natCast_pow]; rfl
                  rw [← e1, ← e2]
          · have hc' : ¬ (4294967296 : Int) ≤ (c : Int) + (y1 : Int) := by omega
            have hc2 : (c : Int) + (y1 : Int) < 4294967296 := by omega
            clear hp hgt hb
            go_wp2_with fail
            go_roundw
            case rel => exact ⟨b, c + y1, by go_num, by go_num, by omega, by omega, hN, trivial⟩
            case measure => simp [intOf]; omega
        · obtain ⟨b, hbd⟩ : ∃ b, b = a := ⟨a, rfl⟩
          have hB : b = (U * 4294967296 + z1) / (y1 * 4294967296 + y0) := by rw [hbd]; exact hG.out.right hYp (by rw [← hp]; omega)
          have hg2 : ¬ ((4294967296 : Int) * (c : Int) + (z1 : Int) < (p : Int)) := by omega
          have hblt : b < 4294967296 := by omega
          subst hbd
          clear hq hG ba hp hgt
          obtain ⟨V, q2, r2, hV1, hV2, F1, F2, F3, hG2, bq2, br2⟩ := div_second U z1 z0 y1 y0 Y b HYe.out hUY'.out hYlt (by omega) bz0 hB
          have HV := hid hV1
          have HBY := hid (show (U * 4294967296 + z1) / Y = b by rw [hB, HYe.out])
          have HV2 := hid hV2
          clear hB hV1
          go_wp2_with fail
          clear F1 F2 F3 hV2
          go_loopw [18, 16] (fun qv rv wr2 => ∃ q r : Nat, qv = .int .u64 q ∧ rv = .int .u64 r ∧ q < 2 ^ 64 ∧ r < 4294967296 ∧ Hid (Gs 4294967296 y1 y0 V z0 q r) ∧ wr2 = wr)
            (fun qv _ _ => (intOf qv).toNat)
          case atStart => exact ⟨q2, r2, rfl, rfl, bq2, by omega, hG2, rfl⟩
          case round =>
            clear hG2 bq2 br2
            obtain ⟨d, f, rfl, rfl, bd, bf, hG3, rfl⟩ := hrel
            have hu3 : V < y1 * 4294967296 + y0 := by rw [← HYe.out]; exact HV2.out
            by_cases hq3 : 4294967296 ≤ d
            · have hM3 := hid (hG3.out.more bz0 hu3 (.inl hq3))
              have hN3 := hid (hG3.out.next hM3.out)
              obtain ⟨g, rfl⟩ : ∃ g, d = g + 1 := ⟨d - 1, by omega⟩
              rw [Nat.add_sub_cancel] at hN3
              have hqi3 : ¬ ((g : Int) + 1 < 4294967296) := by omega
              have hqj3 : (4294967296 : Int) ≤ (g : Int) + 1 := by omega
              by_cases hc3 : 4294967296 ≤ f + y1
              · have hc' : (4294967296 : Int) ≤ (f : Int) + (y1 : Int) := by omega
                have hc2 : ¬ ((f : Int) + (y1 : Int) < 4294967296) := by omega
                have hL := hN3.out.last by0 hu3 hc3
                have hA := hN3.out.right hYp hL.2
                have hglt := hL.1
                clear hq3 hM3 hN3 hG3 bd hc3 hu3 hL
                have HA := hid (show (V * 4294967296 + z0) / Y = g by rw [hA, HYe.out])
                obtain ⟨R, hR, hRlt, F4⟩ := div_third V z0 y1 y0 Y g HYe.out (by rw [HYe.out]; exact hYp) hYlt hA
                have HR := hid hR
                clear hR hA
                go_wp2_with fail
                go_ret2
                refine ⟨(show Ending.returned (.tuple #[.int .u64 ((b : Int) * 4294967296 + (g : Int)), .int .u64 ((R : Int) / 2 ^ s)]) = _ from ?_), Below.refl _ _⟩
                have e1 : (X1 : Int) = (b : Int) * 4294967296 + (g : Int) := by
                  rw [HX1.out, ← HV.out, HA.out, HBY.out]; omega
                have e2 : (X2 : Int) = (R : Int) / 2 ^ s := by
                  rw [HX2.out, ← HV.out, ← HR.out, Int.natCast_ediv, Int.natCast_pow]; rfl
                rw [← e1, ← e2]
              · have hc' : ¬ (4294967296 : Int) ≤ (f : Int) + (y1 : Int) := by omega
                have hc2 : (f : Int) + (y1 : Int) < 4294967296 := by omega
                clear hu3
                go_wp2_with fail
                go_roundw
                case rel => exact ⟨g, f + y1, by go_num, by go_num, by omega, by omega, hN3, trivial⟩
                case measure => simp [intOf]
            · obtain ⟨p, hp⟩ : ∃ p, p = d * y0 := ⟨_, rfl⟩
              have hpi : (d : Int) * (y0 : Int) = (p : Int) := by rw [hp, Int.natCast_mul]
              have hplt : p < 18446744073709551616 := by
                have : d * y0 ≤ 4294967295 * 4294967295 := Nat.mul_le_mul (by omega) (by omega)
                omega
              have hqi3 : (d : Int) < 4294967296 := by omega
              have hqj3 : ¬ (4294967296 : Int) ≤ (d : Int) := by omega
              by_cases hgt : f * 4294967296 + z0 < p
              · have hM3 := hid (hG3.out.more bz0 hu3 (.inr (by rw [← hp]; exact hgt)))
                have hN3 := hid (hG3.out.next hM3.out)
                obtain ⟨g, hg⟩ : ∃ g, d = g + 1 := ⟨d - 1, by have := Nat.lt_of_le_of_lt (Nat.zero_le _) hM3.out; omega⟩
                rw [hg, Nat.add_sub_cancel] at hN3
                have hgi : (d : Int) - 1 = (g : Int) := by omega
                have hgd : g < d := by omega
                have hd1 : 1 ≤ d := by omega
                have hg2 : (4294967296 : Int) * (f : Int) + (z0 : Int) < (p : Int) := by omega
                by_cases hc3 : 4294967296 ≤ f + y1
                · have hc' : (4294967296 : Int) ≤ (f : Int) + (y1 : Int) := by omega
                  have hc2 : ¬ ((f : Int) + (y1 : Int) < 4294967296) := by omega
                  have hL := hN3.out.last by0 hu3 hc3
                  have hA := hN3.out.right hYp hL.2
                  have hglt := hL.1
                  have Hp := hid hp
                  clear hq3 hM3 hN3 hG3 bd hc3 hu3 hL hp hgt hg
                  have HA := hid (show (V * 4294967296 + z0) / Y = g by rw [hA, HYe.out])
                  obtain ⟨R, hR, hRlt, F4⟩ := div_third V z0 y1 y0 Y g HYe.out (by rw [HYe.out]; exact hYp) hYlt hA
                  have HR := hid hR
                  clear hR hA
                  go_wp2_with fail
                  go_ret2
                  refine ⟨(show Ending.returned (.tuple #[.int .u64 ((b : Int) * 4294967296 + (g : Int)), .int .u64 ((R : Int) / 2 ^ s)]) = _ from ?_), Below.refl _ _⟩
                  have e1 : (X1 : Int) = (b : Int) * 4294967296 + (g : Int) := by
                    rw [HX1.out, ← HV.out, HA.out, HBY.out]; omega
                  have e2 : (X2 : Int) = (R : Int) / 2 ^ s := by
                    rw [HX2.out, ← HV.out, ← HR.out, Int.natCast_ediv, Int.natCast_pow]; rfl
                  rw [← e1, ← e2]
                · have hc' : ¬ (4294967296 : Int) ≤ (f : Int) + (y1 : Int) := by omega
                  have hc2 : (f : Int) + (y1 : Int) < 4294967296 := by omega
                  clear hu3 hp hgt hg
                  go_wp2_with fail
                  go_roundw
                  case rel => exact ⟨g, f + y1, by go_num, by go_num, by omega, by omega, hN3, trivial⟩
                  case measure => simp [intOf]; omega
              · obtain ⟨g, hgd⟩ : ∃ g, g = d := ⟨d, rfl⟩
                have hA : g = (V * 4294967296 + z0) / (y1 * 4294967296 + y0) := by rw [hgd]; exact hG3.out.right hYp (by rw [← hp]; omega)
                have hg2 : ¬ ((4294967296 : Int) * (f : Int) + (z0 : Int) < (p : Int)) := by omega
                have hglt : g < 4294967296 := by omega
                subst hgd
                clear hq3 hG3 bd hu3 hp hgt
                have HA := hid (show (V * 4294967296 + z0) / Y = g by rw [hA, HYe.out])
                obtain ⟨R, hR, hRlt, F4⟩ := div_third V z0 y1 y0 Y g HYe.out (by rw [HYe.out]; exact hYp) hYlt hA
                have HR := hid hR
                clear hR hA
                go_wp2_with fail
                go_ret2
                refine ⟨(show Ending.returned (.tuple #[.int .u64 ((b : Int) * 4294967296 + (g : Int)), .int .u64 ((R : Int) / 2 ^ s)]) = _ from ?_), Below.refl _ _⟩
                have e1 : (X1 : Int) = (b : Int) * 4294967296 + (g : Int) := by
                  rw [HX1.out, ← HV.out, HA.out, HBY.out]; omega
                have e2 : (X2 : Int) = (R : Int) / 2 ^ s := by
                  rw [HX2.out, ← HV.out, ← HR.out, Int.natCast_ediv, Int.natCast_pow]; rfl
                rw [← e1, ← e2]
end Go.Proofs.Ytejnnghfelpioaa
namespace Go.Proofs.Ytejnnghfelpioaa
open Go.RowKit
def win (Z k i : Nat) : Nat := Z / 2 ^ (64 * k) % 2 ^ (64 * i)
theorem win_zero (Z k : Nat) : win Z k 0 = 0 := by unfold win; rw [Nat.mul_zero, Nat.pow_zero, Nat.mod_one]
theorem win_succ (Z k i : Nat) : win Z k (i + 1) = win Z k i + 2 ^ (64 * i) * lmN Z (k + i) := by
  unfold win
  rw [low_succ]
  congr 2
  unfold lmN
  rw [Nat.div_div_eq_div_mul, ← Nat.pow_add]; congr 3; omega
theorem win_lt (Z k i : Nat) : win Z k i < 2 ^ (64 * i) := Nat.mod_lt _ (Nat.pow_pos (by omega))
theorem win_set (Z k i v : Nat) (hv : v < 2 ^ 64) : win (setL Z (k + i) v) k i = win Z k i := by
  induction i with
  | zero => rw [win_zero, win_zero]
  | succ i ih =>
    have h : ∀ m, m ≤ i → win (setL Z (k + (i + 1)) v) k m = win Z k m := fun m hm => by
      induction m with
      | zero => rw [win_zero, win_zero]
      | succ m ihm => rw [win_succ, win_succ, ihm (by omega), lmN_setL _ _ _ _ hv, if_neg (by omega)]
    rw [win_succ, win_succ, h i (Nat.le_refl _), lmN_setL _ _ _ _ hv, if_neg (by omega)]
theorem win_put (Z k i v : Nat) (hv : v < 2 ^ 64) : win (setL Z (k + i) v) k (i + 1) = win Z k i + 2 ^ (64 * i) * v := by
  rw [win_succ, win_set Z k i v hv, lmN_setL _ _ _ _ hv, if_pos rfl]
structure Turn (Z0 Z k i : Nat) : Prop where
  eq : Z + 2 ^ (64 * k) * win Z0 k i = Z0 + 2 ^ (64 * k) * win Z k i
  up : ∀ j, i ≤ j → lmN Z (k + j) = lmN Z0 (k + j)
theorem Turn.start (Z k : Nat) : Turn Z Z k 0 := ⟨rfl, fun _ _ => rfl⟩
theorem Turn.set {Z0 Z k i : Nat} (h : Turn Z0 Z k i) (v : Nat) (hv : v < 2 ^ 64) : Turn Z0 (setL Z (k + i) v) k (i + 1) := by
  refine ⟨?_, fun j hj => by rw [lmN_setL _ _ _ _ hv, if_neg (by omega)]; exact h.up j (by omega)⟩
  have h1 := setL_eq Z (k + i) v
  have h2 := h.eq
  have h3 := h.up i (Nat.le_refl _)
  rw [win_succ Z0, win_put Z k i v hv, Nat.mul_add, Nat.mul_add, ← Nat.mul_assoc, ← Nat.mul_assoc, ← Nat.pow_add, ← Nat.mul_add, ← h3]
  omega
theorem Turn.trans {Z0 Z1 Z2 k n : Nat} (h : Turn Z0 Z1 k n) (g : Turn Z1 Z2 k n) : Turn Z0 Z2 k n := by
  refine ⟨?_, fun j hj => (g.up j hj).trans (h.up j hj)⟩
  have h1 := h.eq
  have h2 := g.eq
  omega
def Mul (Z0 Z k V G i b c : Nat) : Prop := win Z k i + G * (V % 2 ^ (64 * i)) = win Z0 k i + 2 ^ (64 * i) * (b + c)
theorem Mul.start (Z k V G : Nat) : Mul Z Z k V G 0 0 0 := by
  unfold Mul; rw [Nat.mul_zero, Nat.pow_zero, Nat.mod_one]; omega
theorem Mul.step {Z0 Z k V G i b c hi lo l2 cc nw b2 : Nat} (h : Mul Z0 Z k V G i b c) (hup : lmN Z (k + i) = lmN Z0 (k + i)) (hnw : nw < 2 ^ 64)
    (h1 : G * lmN V i = lo + 2 ^ 64 * hi) (h2 : lo + c = l2 + 2 ^ 64 * cc) (h3 : nw + l2 + b = lmN Z (k + i) + 2 ^ 64 * b2) :
    Mul Z0 (setL Z (k + i) nw) k V G (i + 1) b2 (hi + cc) := by
  unfold Mul at *
  rw [win_put _ _ _ _ hnw, win_succ Z0, low_succ, Nat.mul_add G, pow64_succ]
  have e1 : G * (2 ^ (64 * i) * lmN V i) = 2 ^ (64 * i) * lo + 2 ^ (64 * i) * (2 ^ 64 * hi) := by rw [Nat.mul_left_comm, h1, Nat.mul_add]
  have e2 : 2 ^ (64 * i) * lo + 2 ^ (64 * i) * c = 2 ^ (64 * i) * l2 + 2 ^ (64 * i) * (2 ^ 64 * cc) := by rw [← Nat.mul_add, h2, Nat.mul_add]
  have e3 : 2 ^ (64 * i) * nw + 2 ^ (64 * i) * l2 + 2 ^ (64 * i) * b = 2 ^ (64 * i) * lmN Z0 (k + i) + 2 ^ (64 * i) * (2 ^ 64 * b2) := by rw [← Nat.mul_add, ← Nat.mul_add, h3, hup, Nat.mul_add]
  rw [Nat.mul_add] at h
  rw [Nat.mul_assoc, Nat.mul_add, Nat.mul_add, Nat.mul_add]
  rw [Nat.mul_add]
  omega
theorem Mul.last {Z0 Z k V G n b c nw b2 : Nat} (h : Mul Z0 Z k V G n b c) (hV : V < 2 ^ (64 * n)) (hup : lmN Z (k + n) = lmN Z0 (k + n)) (hnw : nw < 2 ^ 64) (h3 : nw + c + b = lmN Z (k + n) + 2 ^ 64 * b2) :
    win (setL Z (k + n) nw) k (n + 1) + G * V = win Z0 k (n + 1) + 2 ^ (64 * (n + 1)) * b2 := by
  unfold Mul at h
  rw [Nat.mod_eq_of_lt hV] at h
  rw [win_put _ _ _ _ hnw, win_succ Z0, pow64_succ]
  have e3 : 2 ^ (64 * n) * nw + 2 ^ (64 * n) * c + 2 ^ (64 * n) * b = 2 ^ (64 * n) * lmN Z0 (k + n) + 2 ^ (64 * n) * (2 ^ 64 * b2) := by rw [← Nat.mul_add, ← Nat.mul_add, h3, hup, Nat.mul_add]
  rw [Nat.mul_add] at h
  rw [Nat.mul_assoc]
  omega
def Adb (Z0 Z k V i c : Nat) : Prop := win Z k i + 2 ^ (64 * i) * c = win Z0 k i + V % 2 ^ (64 * i)
theorem Adb.start (Z k V : Nat) : Adb Z Z k V 0 0 := by
  unfold Adb; rw [Nat.mul_zero, Nat.pow_zero, Nat.mod_one]
theorem Adb.step {Z0 Z k V i c nw c2 : Nat} (h : Adb Z0 Z k V i c) (hup : lmN Z (k + i) = lmN Z0 (k + i)) (hnw : nw < 2 ^ 64) (h1 : lmN Z (k + i) + lmN V i + c = nw + 2 ^ 64 * c2) :
    Adb Z0 (setL Z (k + i) nw) k V (i + 1) c2 := by
  unfold Adb at *
  rw [win_put _ _ _ _ hnw, win_succ Z0, low_succ, pow64_succ]
  have e1 : 2 ^ (64 * i) * lmN Z0 (k + i) + 2 ^ (64 * i) * lmN V i + 2 ^ (64 * i) * c = 2 ^ (64 * i) * nw + 2 ^ (64 * i) * (2 ^ 64 * c2) := by rw [← Nat.mul_add, ← Nat.mul_add, ← hup, h1, Nat.mul_add]
  rw [Nat.mul_assoc]
  omega
theorem Adb.last {Z0 Z k V n c nw c2 : Nat} (h : Adb Z0 Z k V n c) (hV : V < 2 ^ (64 * n)) (hup : lmN Z (k + n) = lmN Z0 (k + n)) (hnw : nw < 2 ^ 64) (h1 : lmN Z (k + n) + 0 + c = nw + 2 ^ 64 * c2) :
    win (setL Z (k + n) nw) k (n + 1) + 2 ^ (64 * (n + 1)) * c2 = win Z0 k (n + 1) + V := by
  unfold Adb at h
  rw [Nat.mod_eq_of_lt hV] at h
  rw [win_put _ _ _ _ hnw, win_succ Z0, pow64_succ]
  have e1 : 2 ^ (64 * n) * lmN Z0 (k + n) + 2 ^ (64 * n) * c = 2 ^ (64 * n) * nw + 2 ^ (64 * n) * (2 ^ 64 * c2) := by rw [← Nat.mul_add, ← hup]; rw [Nat.add_zero] at h1; rw [h1, Nat.mul_add]
  rw [Nat.mul_assoc]
  omega
theorem guess_top (X V n q : Nat) (hq : q = X / V) (hV : 0 < V) (hv : 0 < lmN V n) (hVn : V < 2 ^ (64 * (n + 1))) :
    q ≤ (X / 2 ^ (64 * n)) / lmN V n := by
  have hp : 0 < 2 ^ (64 * n) := Nat.pow_pos (by omega)
  have hv1 : lmN V n = V / 2 ^ (64 * n) := by
    unfold lmN
    rw [pow64_succ, Nat.mul_comm] at hVn
    exact Nat.mod_eq_of_lt ((Nat.div_lt_iff_lt_mul hp).2 hVn)
  rw [Nat.le_div_iff_mul_le hv, Nat.le_div_iff_mul_le hp, hv1]
  have h1 := Nat.div_mul_le_self V (2 ^ (64 * n))
  have h2 := Nat.div_mul_le_self X V
  rw [← hq] at h2
  exact Nat.le_trans (by rw [Nat.mul_assoc]; exact Nat.mul_le_mul_left _ h1) h2
theorem guess_more (X V n q g r : Nat) (hq : q = X / V) (hV : 0 < V) (hs : X / 2 ^ (64 * (n + 1)) = g * (V / 2 ^ (64 * (n + 1))) + r) (hgt : r * 2 ^ 64 + lmN X n < g * lmN V n) : q < g := by
  rw [hq, Nat.div_lt_iff_lt_mul hV]
  have hp : 0 < 2 ^ (64 * n) := Nat.pow_pos (by omega)
  have h1 : V / 2 ^ (64 * n) = V / 2 ^ (64 * (n + 1)) * 2 ^ 64 + lmN V n := div_succ V n
  have h2 : X / 2 ^ (64 * n) = X / 2 ^ (64 * (n + 1)) * 2 ^ 64 + lmN X n := div_succ X n
  have h3 : X / 2 ^ (64 * n) < g * (V / 2 ^ (64 * n)) := by
    rw [h1, h2, hs]
    generalize V / 2 ^ (64 * (n + 1)) = A
    generalize lmN V n = v at hgt ⊢
    generalize lmN X n = x at hgt ⊢
    clear h1 h2 hs hq hp
    generalize (2 : Nat) ^ 64 = B at hgt ⊢
    rw [Nat.mul_add g (A * B) v, Nat.add_mul (g * A) r B, ← Nat.mul_assoc g A B]; omega
  have h4 := Nat.div_mul_le_self V (2 ^ (64 * n))
  have h5 := Nat.lt_of_lt_of_le ((Nat.div_lt_iff_lt_mul hp).1 h3) (Nat.le_of_eq (Nat.mul_assoc g (V / 2 ^ (64 * n)) (2 ^ (64 * n))))
  exact Nat.lt_of_lt_of_le h5 (Nat.mul_le_mul_left g h4)
end Go.Proofs.Ytejnnghfelpioaa
namespace Go.Proofs.Ytejnnghfelpioaa
open Go.RowKit
theorem win_div (Z k i n : Nat) (h : i ≤ n) : win Z k (n + 1) / 2 ^ (64 * i) % 2 ^ 64 = lmN Z (k + i) := by
  unfold win lmN
  have e : 2 ^ (64 * (n + 1)) = 2 ^ (64 * i) * (2 ^ 64 * 2 ^ (64 * (n - i))) := by rw [← Nat.pow_add, ← Nat.pow_add]; congr 1; omega
  have e0 : Z / 2 ^ (64 * (k + i)) = Z / 2 ^ (64 * k) / 2 ^ (64 * i) := by rw [Nat.div_div_eq_div_mul, ← Nat.pow_add, ← Nat.mul_add]
  rw [e0]
  generalize Z / 2 ^ (64 * k) = A
  have e1 := congrArg (fun x => A % x / 2 ^ (64 * i) % 2 ^ 64) e
  refine e1.trans ?_
  show A % (2 ^ (64 * i) * (2 ^ 64 * 2 ^ (64 * (n - i)))) / 2 ^ (64 * i) % 2 ^ 64 = _
  generalize 2 ^ (64 * (n - i)) = T
  generalize 2 ^ (64 * i) = S
  have e2 := Nat.mod_mul_right_div_self A S (2 ^ 64 * T)
  have e3 := Nat.mod_mul_right_mod (A / S) (2 ^ 64) T
  exact (congrArg (fun x => x % 2 ^ 64) e2).trans e3
theorem lmN_win (Z k i n : Nat) (h : i ≤ n) : lmN (win Z k (n + 1)) i = lmN Z (k + i) := win_div Z k i n h
theorem win_top (Z k n : Nat) : win Z k (n + 1) / 2 ^ (64 * n) = lmN Z (k + n) := by
  have h := win_div Z k n n (Nat.le_refl _)
  have h2 : win Z k (n + 1) / 2 ^ (64 * n) < 2 ^ 64 := by
    rw [Nat.div_lt_iff_lt_mul (Nat.pow_pos (by omega)), Nat.mul_comm, ← pow64_succ]
    exact win_lt _ _ _
  rw [Nat.mod_eq_of_lt h2] at h; exact h
theorem win_top2 (Z k n : Nat) : win Z k (n + 2) / 2 ^ (64 * n) = lmN Z (k + n + 1) * 2 ^ 64 + lmN Z (k + n) := by
  rw [div_succ (win Z k (n + 2)) n, lmN_win Z k n (n + 1) (by omega)]
  have := win_top Z k (n + 1)
  rw [show n + 1 + 1 = n + 2 from rfl] at this
  rw [this]; rfl
theorem step_fits (G v c hi lo l2 cc : Nat) (hG : G < 2 ^ 64) (hv : v < 2 ^ 64) (hc : c < 2 ^ 64) (hl : l2 < 2 ^ 64) (h1 : G * v = lo + 2 ^ 64 * hi) (h2 : lo + c = l2 + 2 ^ 64 * cc) : hi + cc < 2 ^ 64 := by
  have := mul64_le G v hG hv
  omega
theorem step_done (Z Z' k n V G : Nat) (hT : Turn Z Z' k (n + 1)) (hw : win Z' k (n + 1) + G * V = win Z k (n + 1)) (hV : 0 < V) (hq : win Z k (n + 1) / V ≤ G) :
    G = win Z k (n + 1) / V ∧ Z' + 2 ^ (64 * k) * (G * V) = Z := by
  refine ⟨Nat.le_antisymm ?_ hq, ?_⟩
  · rw [Nat.le_div_iff_mul_le hV]; omega
  · have h1 := hT.eq
    rw [← hw, Nat.mul_add] at h1
    omega
theorem step_again (Z Z' k n V G : Nat) (hw : win Z' k (n + 1) + G * V = win Z k (n + 1) + 2 ^ (64 * (n + 1)) * 1) (hV : 0 < V) : win Z k (n + 1) / V < G := by
  rw [Nat.div_lt_iff_lt_mul hV]
  have := win_lt Z' k (n + 1)
  omega
theorem step_back (Z Z1 Z2 k n V G c : Nat) (hG : 1 ≤ G) (hc : c ≤ 1) (hw : win Z1 k (n + 1) + G * V = win Z k (n + 1) + 2 ^ (64 * (n + 1)) * 1) (ha : win Z2 k (n + 1) + 2 ^ (64 * (n + 1)) * c = win Z1 k (n + 1) + V) :
    win Z2 k (n + 1) + (G - 1) * V = win Z k (n + 1) + 2 ^ (64 * (n + 1)) * (1 - c) := by
  obtain ⟨H, rfl⟩ : ∃ H, G = H + 1 := ⟨G - 1, by omega⟩
  rw [Nat.add_sub_cancel]
  rw [Nat.add_mul, Nat.one_mul] at hw
  have h01 : c = 0 ∨ c = 1 := by omega
  rcases h01 with rfl | rfl
  · rw [Nat.mul_zero] at ha; omega
  · rw [Nat.sub_self, Nat.mul_zero]; omega
def StI (g k N n Z V vb : Nat) (w wr : World) (Z' : Nat) : Prop := ArrM 23 N wr g Z' ∧ ArrM 23 n wr vb V ∧ Below g w wr
theorem StI.lt {g k N n Z V vb : Nat} {w wr : World} {Z' : Nat} (h : StI g k N n Z V vb w wr Z') : g < wr.heap.size := h.1.lt
theorem StI.next {g k N n Z V vb : Nat} {w wr wn : World} {Z' : Nat} (h : StI g k N n Z V vb w wr Z') (hb : Below wr.heap.size wr wn) : StI g k N n Z V vb w wn Z' :=
  ⟨h.1.below hb h.1.lt, h.2.1.below hb h.2.1.lt, h.2.2.trans (hb.mono (Nat.le_of_lt h.1.lt))⟩
theorem StI.put {g k N n Z V vb : Nat} {w wr : World} {Z' : Nat} (h : StI g k N n Z V vb w wr Z') (hvg : vb < g) (j v : Nat) (hv : v < 2 ^ 64) : StI g k N n Z V vb w (wr.setCell ⟨g, j, none⟩ (.int .u64 (v : Int))) (setL Z' j v) :=
  ⟨h.1.set j v hv, h.2.1.other (by show vb ≠ g; omega) _, h.2.2.setCell (p := ⟨g, j, none⟩) (Nat.le_refl _) _⟩
theorem StI.ext {g k N n Z V vb : Nat} {w wr : World} {Z' : Nat} (h : StI g k N n Z V vb w wr Z') (y : World) : StI g k N n Z V vb w (wr.ext y) Z' := h.next (wr.ext_below y)
set_option maxRecDepth 100000 in
set_option maxHeartbeats 20000000 in
theorem step_any (g k N Z vb m V cx : Nat) (w : World) (hX : ArrM 23 N w g Z) (hVb : ArrM 23 (m + 2) w vb V) (hvg : vb < g) (hm : m ≤ 7) (hk : k + m + 3 ≤ N) (hN : N ≤ 16) (hc : m + 3 ≤ cx)
    (hV1 : V < 2 ^ (64 * (m + 2))) (hV2 : 0 < lmN V (m + 1)) (hlt : win Z k (m + 3) < V * 2 ^ 64) :
    Calls Try.prog 84 #[.slice (some ⟨g, k, none⟩) ((m + 3 : Nat)) cx, .slice (some ⟨vb, 0, none⟩) ((m + 2 : Nat)) ((m + 2 : Nat))] w fun e w' => ∃ Z', e = .returned (.int .u64 ((win Z k (m + 3) / V : Nat) : Int)) ∧ ArrM 23 N w' g Z' ∧ Z' + 2 ^ (64 * k) * (win Z k (m + 3) / V * V) = Z ∧ Below g w w' := by
  have hVpos : 0 < V := by
    rcases Nat.eq_zero_or_pos V with h | h
    · subst h; simp [lmN] at hV2
    · exact h
  have c1 := hX.cell (k + (m + 2)) (by omega)
  have c2 := hVb.cell (m + 1) (by omega)
  have c3 := hX.cell (k + (m + 1)) (by omega)
  have l1 := hX.lt
  have l2 := hVb.lt
  have gz2 := lmN_lt Z (k + (m + 2))
  have gz1 := lmN_lt Z (k + (m + 1))
  have gv1 := lmN_lt V (m + 1)
  have gv0 := lmN_lt V m
  have hqb := hid (show win Z k (m + 3) / V < 2 ^ 64 by rw [Nat.div_lt_iff_lt_mul hVpos, Nat.mul_comm]; exact hlt)
  have HI := hid (show StI g k N (m + 2) Z V vb w w Z from ⟨hX, hVb, Below.refl _ _⟩)
  have HV1 := hid hV1
  have HVp := hid hVpos
  have HLT := hid hlt
  clear hV1 hVpos hlt hX hVb
  go_enter Try.func84, Try.ntmps84
  go_wp2_with fail
  (refine wp_region_ext (by kernel_rfl) (by kernel_rfl) ?_; (repeat (go_big_quiet_step (first | fail))); refine wpQuiet_nil ?_; rintro _ ⟨xw, rfl⟩)
  by_cases htop : lmN Z (k + (m + 2)) < lmN V (m + 1)
  · have c1' := c1
    have HT2 := hid (win_top2 Z k (m + 1))
    have hsum : win Z k (m + 3) / 2 ^ (64 * (m + 1)) = lmN Z (k + (m + 2)) * 2 ^ 64 + lmN Z (k + (m + 1)) := win_top2 Z k (m + 1)
    have hD := hid (fun w => div64_any (lmN Z (k + (m + 2))) (lmN Z (k + (m + 1))) (lmN V (m + 1)) htop gz1 gv1 w)
    rw [← hsum] at hD
    have hg0 := hid (guess_top (win Z k (m + 3)) V (m + 1) _ rfl HVp.out hV2 HV1.out)
    have hdm := Nat.div_add_mod (win Z k (m + 3) / 2 ^ (64 * (m + 1))) (lmN V (m + 1))
    have hml := Nat.mod_lt (win Z k (m + 3) / 2 ^ (64 * (m + 1))) hV2
    have hgl : win Z k (m + 3) / 2 ^ (64 * (m + 1)) / lmN V (m + 1) < 2 ^ 64 := by
      rw [Nat.div_lt_iff_lt_mul hV2, hsum]
      have : (lmN Z (k + (m + 2)) + 1) * 2 ^ 64 ≤ lmN V (m + 1) * 2 ^ 64 := Nat.mul_le_mul_right _ htop
      rw [Nat.mul_comm (2 ^ 64)]
      omega
    obtain ⟨G0, hG0⟩ : ∃ G, G = win Z k (m + 3) / 2 ^ (64 * (m + 1)) / lmN V (m + 1) := ⟨_, rfl⟩
    obtain ⟨R0, hR0⟩ : ∃ R, R = win Z k (m + 3) / 2 ^ (64 * (m + 1)) % lmN V (m + 1) := ⟨_, rfl⟩
    rw [← hG0, ← hR0] at hD hdm
    rw [← hG0] at hg0 hgl
    rw [← hR0] at hml
    rw [Nat.mul_comm] at hdm
    have HDM := hid hdm.symm
    clear hG0 hR0 hdm hsum HT2 c1'
    have lx1 := (w.ext_below xw).size
    have hcc1 := (w.cell?_ext xw g (k + (m + 2)) l1).trans c1
    have hcc2 := (w.cell?_ext xw vb (m + 1) l2).trans c2
    have hcc3 := (w.cell?_ext xw g (k + (m + 1)) l1).trans c3
    have hI2 : Hid (StI g k N (m + 2) Z V vb w (w.ext xw) Z) := hid ⟨HI.out.1.ext xw, HI.out.2.1.ext xw, World.ext_below_of HI.out.2.2 (by omega) xw⟩
    have ll1 : g < (w.ext xw).heap.size := by omega
    have ll2 : vb < (w.ext xw).heap.size := by omega
    clear c1 c2 c3 lx1 HI
    go_wp2_with fail
    generalize w.ext xw = w1 at hcc1 hcc2 hcc3 hI2 ll1 ll2 ⊢
    (refine wp_region_ext (by kernel_rfl) (by kernel_rfl) ?_; (repeat (go_big_quiet_step (first | (go_at_call 81; with_reducible refine Calls.ext_of (hD.out _))))); refine wpQuiet_nil ?_; rintro _ ⟨xw, rfl⟩)
    have hI3 : Hid (StI g k N (m + 2) Z V vb w (w1.ext xw) Z) := hid ⟨hI2.out.1.ext xw, hI2.out.2.1.ext xw, World.ext_below_of hI2.out.2.2 (by omega) xw⟩
    have ll1' := World.size_le_ext w1 xw _ ll1
    have ll2' := World.size_le_ext w1 xw _ ll2
    clear hI2 ll1 ll2 hcc1 hcc2 hcc3 hD
    go_wp2_with fail
    generalize w1.ext xw = w2 at hI3 ll1' ll2' ⊢
    simp only [decide_eq_true htop, show m + 2 - 1 = m + 1 from rfl]
    go_loopw [6, 8] (fun gv rv wr => ∃ G R : Nat, gv = .int .u64 (G : Int) ∧ rv = .int .u64 (R : Int) ∧ G < 2 ^ 64 ∧ R < 2 ^ 64 ∧ Hid (win Z k (m + 3) / V ≤ G ∧ win Z k (m + 3) / 2 ^ (64 * (m + 1)) = G * lmN V (m + 1) + R) ∧ Hid (StI g k N (m + 2) Z V vb w wr Z))
      (fun gv _ _ => (intOf gv).toNat)
    case atStart => exact ⟨G0, R0, rfl, rfl, hgl, by omega, hid ⟨hg0.out, HDM.out⟩, hI3⟩
    case round =>
      clear hgl hg0 hml HDM hI3 ll1' ll2'
      obtain ⟨G, R, rfl, rfl, bG, bR, hQ, hI⟩ := hrel
      obtain ⟨mhi, mlo, m1, m2, m3, m4⟩ := mul64_nat G (lmN V m) bG (lmN_lt _ _)
      have M4 := hid m4
      have HVB := hid hI.out.2.1
      have cv := HVB.out.cell m (by omega)
      have lv := HVB.out.lt
      clear m4
      go_wp2_with fail
      refine (M4.out _).mono ?_
      rintro e w3 ⟨rfl, hb3⟩
      have hI2 := hid (hI.out.next hb3)
      have cx0 := hI2.out.1.cell (k + m) (by omega)
      have cv1 := hI2.out.2.1.cell (m + 1) (by omega)
      have l1 := hI2.out.1.lt
      have l2 := hI2.out.2.1.lt
      have gx0 := lmN_lt Z (k + m)
      have hX0 := hid (show lmN (win Z k (m + 3)) m = lmN Z (k + m) from lmN_win Z k m (m + 2) (by omega))
      clear hI HVB cv lv hb3
      by_cases ha : mhi < R
      · obtain ⟨H, hH⟩ : ∃ H, H = G := ⟨G, rfl⟩
        subst hH
        have hHq := hid hQ.out.1
        have hIH := hI2
        clear hQ hI2 cx0 cv1 m3 M4
        go_wp2_with fail
        (try simp only [show m + 2 - 1 = m + 1 from rfl])
        go_loopw [13, 14, 95] (fun bv cv iv wr5 => ∃ i b c Z1 : Nat, i ≤ m + 2 ∧ b ≤ 1 ∧ c < 2 ^ 64 ∧ bv = .int .u64 (b : Int) ∧ cv = .int .u64 (c : Int) ∧ iv = .int .i64 (i : Int) ∧ Hid (Turn Z Z1 k i ∧ Mul Z Z1 k V H i b c) ∧ Hid (StI g k N (m + 2) Z V vb w wr5 Z1))
          (fun _ _ iv _ => m + 2 - (intOf iv).toNat)
        case atStart => exact ⟨0, 0, 0, Z, by omega, by omega, by omega, rfl, rfl, rfl, hid ⟨Turn.start Z k, Mul.start Z k V H⟩, hIH⟩
        case round =>
          clear hIH
          obtain ⟨i, b, c, Z1, hi, hb1, hc1, rfl, rfl, rfl, hTM, hI5⟩ := hrel
          by_cases hlt5 : i < m + 2
          · obtain ⟨ahi, alo, a1, a2, a3, a4⟩ := mul64_nat H (lmN V i) bG (lmN_lt _ _)
            obtain ⟨u1, v1, p1, p2, p3, p4⟩ := add64_nat0 alo c a2 hc1
            obtain ⟨u2, v2, r1, r2, r3, r4⟩ := sub64_nat (lmN Z1 (k + i)) u1 b (lmN_lt _ _) p1 hb1
            have hcs := step_fits H (lmN V i) c ahi alo u1 v1 bG (lmN_lt _ _) hc1 p1 a3 p3
            have HTM2 := hid (And.intro (hTM.out.1.set u2 r1) (hTM.out.2.step (hTM.out.1.up i (Nat.le_refl _)) r1 a3 p3 r3))
            have A4 := hid a4
            have cv5 := hI5.out.2.1.cell i hlt5
            have lv5 := hI5.out.2.1.lt
            clear a3 p3 r3 a4 hTM
            go_wp2_with fail
            refine (A4.out _).mono ?_
            rintro e w6 ⟨rfl, hb6⟩
            have hI6 := hid (hI5.out.next hb6)
            have cx6 := hI6.out.1.cell (k + i) (by omega)
            have fx6 := hI6.out.1.free (k + i)
            have lx6 := hI6.out.1.lt
            clear hI5 cv5 lv5 hb6 A4
            go_wp2_with fail
            go_roundw
            case rel => exact ⟨i + 1, v2, ahi + v1, setL Z1 (k + i) u2, by omega, r2, hcs, rfl, by go_num, by go_num, HTM2, hid (hI6.out.put hvg (k + i) u2 r1)⟩
            case measure => simp [intOf]; omega
          · obtain rfl : i = m + 2 := by omega
            obtain ⟨u3, v3, r1, r2, r3, r4⟩ := sub64_nat (lmN Z1 (k + (m + 2))) c b (lmN_lt _ _) hc1 hb1
            have HT3 := hid (hTM.out.1.set u3 r1)
            have HW3 := hid (hTM.out.2.last HV1.out (hTM.out.1.up (m + 2) (Nat.le_refl _)) r1 r3)
            have cx6 := hI5.out.1.cell (k + (m + 2)) (by omega)
            have fx6 := hI5.out.1.free (k + (m + 2))
            have lx6 := hI5.out.1.lt
            clear hTM hlt5 hi r3
            go_wp2_with fail
            have hI7 := hid (hI5.out.put hvg (k + (m + 2)) u3 r1)
            generalize wr.setCell ⟨g, k + (m + 2), none⟩ (.int .u64 (u3 : Int)) = w7 at hI7 ⊢
            clear hI5 cx6 fx6 lx6 r4
            go_loopw [6, 13] (fun gv bv wr7 => ∃ G3 b3 Z3 : Nat, G3 < 2 ^ 64 ∧ b3 ≤ 1 ∧ gv = .int .u64 (G3 : Int) ∧ bv = .int .u64 (b3 : Int) ∧ Hid (Turn Z Z3 k (m + 3) ∧ win Z3 k (m + 3) + G3 * V = win Z k (m + 3) + 2 ^ (64 * (m + 3)) * b3 ∧ win Z k (m + 3) / V ≤ G3) ∧ Hid (StI g k N (m + 2) Z V vb w wr7 Z3))
              (fun gv _ _ => (intOf gv).toNat)
            case atStart => exact ⟨H, v3, setL Z1 (k + (m + 2)) u3, bG, r2, rfl, rfl, hid ⟨HT3.out, HW3.out, hHq.out⟩, hI7⟩
            case round =>
              clear hI7 HT3 HW3
              obtain ⟨G3, b3, Z3, bG3, hb3, rfl, rfl, hF, hI8⟩ := hrel
              have hcase : b3 = 0 ∨ b3 = 1 := by omega
              rcases hcase with rfl | rfl
              · have hfin := step_done Z Z3 k (m + 2) V G3 hF.out.1 hF.out.2.1 HVp.out hF.out.2.2
                have HF1 := hid hfin.1
                have HF2 := hid hfin.2
                clear hfin hF
                go_wp2_with fail
                go_ret
                exact ⟨Z3, by rw [← HF1.out]; rfl, hI8.out.1, by rw [← HF1.out]; exact HF2.out, hI8.out.2.2⟩
              · have hag := step_again Z Z3 k (m + 2) V G3 hF.out.2.1 HVp.out
                obtain ⟨J, hJ⟩ : ∃ J, G3 = J + 1 := ⟨G3 - 1, by have := Nat.lt_of_le_of_lt (Nat.zero_le _) hag; omega⟩
                have hJi : (G3 : Int) - 1 = (J : Int) := by omega
                have hJ1 : 1 ≤ G3 := by omega
                have hJl : J < G3 := by omega
                have HJ := hid hJ
                have HAG := hid (show win Z k (m + 3) / V ≤ J from by have := hag; rw [hJ] at this; exact Nat.le_of_lt_succ this)
                clear hag hJ
                go_wp2_with fail
                go_loopw [19, 148] (fun cv iv wr8 => ∃ i c Z4 : Nat, i ≤ m + 2 ∧ c ≤ 1 ∧ cv = .int .u64 (c : Int) ∧ iv = .int .i64 (i : Int) ∧ Hid (Turn Z3 Z4 k i ∧ Adb Z3 Z4 k V i c) ∧ Hid (StI g k N (m + 2) Z V vb w wr8 Z4))
                  (fun _ iv _ => m + 2 - (intOf iv).toNat)
                case atStart => exact ⟨0, 0, Z3, by omega, by omega, rfl, rfl, hid ⟨Turn.start Z3 k, Adb.start Z3 k V⟩, hI8⟩
                case round =>
                  clear hI8
                  obtain ⟨i, c, Z4, hi, hc4, rfl, rfl, hTA, hI9⟩ := hrel
                  by_cases hlt9 : i < m + 2
                  · obtain ⟨u, v, p1, p2, p3, p4⟩ := add64_nat (lmN Z4 (k + i)) (lmN V i) c (lmN_lt _ _) (lmN_lt _ _) hc4
                    have HTA2 := hid (And.intro (hTA.out.1.set u p1) (hTA.out.2.step (hTA.out.1.up i (Nat.le_refl _)) p1 p3))
                    have cx9 := hI9.out.1.cell (k + i) (by omega)
                    have fx9 := hI9.out.1.free (k + i)
                    have lx9 := hI9.out.1.lt
                    have cv9 := hI9.out.2.1.cell i hlt9
                    have lv9 := hI9.out.2.1.lt
                    clear p3 hTA
                    go_wp2_with fail
                    (refine wp_region_ext_float 16 14 [0, 1, 2, 3, 4, 5, 6, 7, 8, 9, 10, 11, 12, 13, 15] [_, _, _, _, _, _, _, _, _, _, _, _, _, _, _] _ _ _ rfl rfl rfl rfl (by kernel_rfl) (by kernel_rfl) ?_; (repeat (go_big_quiet_step (first | fail))); refine wpQuiet_nil ?_; refine ⟨?_, ?_⟩; rotate_left; rintro _ ⟨xw, rfl⟩; rotate_left; (repeat (go_big_quiet_step (first | fail))); refine wpQuiet_nil ?_; rintro _ ⟨xw, rfl⟩)
                    all_goals
                      go_wp2_with fail
                      go_roundw
                      case rel => exact ⟨i + 1, v, setL Z4 (k + i) u, by omega, p2, rfl, by go_num, HTA2, hid ((hI9.out.ext xw).put hvg (k + i) u p1)⟩
                      case measure => simp [intOf]; omega
                  · obtain rfl : i = m + 2 := by omega
                    obtain ⟨u, v, p1, p2, p3, p4⟩ := add64_nat (lmN Z4 (k + (m + 2))) 0 c (lmN_lt _ _) (by omega) hc4
                    have HT5 := hid (hF.out.1.trans (hTA.out.1.set u p1))
                    have HW5 := hid (step_back Z Z3 (setL Z4 (k + (m + 2)) u) k (m + 2) V G3 v hJ1 p2 hF.out.2.1 (hTA.out.2.last HV1.out (hTA.out.1.up (m + 2) (Nat.le_refl _)) p1 p3))
                    have cx9 := hI9.out.1.cell (k + (m + 2)) (by omega)
                    have fx9 := hI9.out.1.free (k + (m + 2))
                    have lx9 := hI9.out.1.lt
                    have hv01 : (1 : Int) - (v : Int) = ((1 - v : Nat) : Int) := by omega
                    have p5 : ∀ w, (callFunc 65 #[.int .u64 ((lmN Z4 (k + (m + 2)) : Nat) : Int), .int .u64 0, .int .u64 (c : Int)]).run Try.prog w = .ok (.value (.tuple #[.int .u64 (u : Int), .int .u64 (v : Int)])) w := p4
                    clear p3 hTA hlt9 hi hF p4
                    go_wp2_with fail
                    go_roundw
                    case rel => exact ⟨J, 1 - v, setL Z4 (k + (m + 2)) u, by omega, by omega, by go_num, by go_num, hid ⟨HT5.out, by have := HW5.out; rw [HJ.out, Nat.add_sub_cancel] at this; exact this, HAG.out⟩, hid (hI9.out.put hvg (k + (m + 2)) u p1)⟩
                    case measure => simp [intOf]; omega
      · by_cases hb : mhi = R ∧ mlo ≤ lmN Z (k + m)
        · obtain ⟨hb1, hb2⟩ := hb
          subst hb1
          obtain ⟨H, hH⟩ : ∃ H, H = G := ⟨G, rfl⟩
          subst hH
          have hHq := hid hQ.out.1
          have hIH := hI2
          clear hQ hI2 cv1 m3 M4
          go_wp2_with fail
          (try simp only [show m + 2 - 1 = m + 1 from rfl])
          go_loopw [13, 14, 95] (fun bv cv iv wr5 => ∃ i b c Z1 : Nat, i ≤ m + 2 ∧ b ≤ 1 ∧ c < 2 ^ 64 ∧ bv = .int .u64 (b : Int) ∧ cv = .int .u64 (c : Int) ∧ iv = .int .i64 (i : Int) ∧ Hid (Turn Z Z1 k i ∧ Mul Z Z1 k V H i b c) ∧ Hid (StI g k N (m + 2) Z V vb w wr5 Z1))
            (fun _ _ iv _ => m + 2 - (intOf iv).toNat)
          case atStart => exact ⟨0, 0, 0, Z, by omega, by omega, by omega, rfl, rfl, rfl, hid ⟨Turn.start Z k, Mul.start Z k V H⟩, hIH⟩
          case round =>
            clear hIH
            obtain ⟨i, b, c, Z1, hi, hb1, hc1, rfl, rfl, rfl, hTM, hI5⟩ := hrel
            by_cases hlt5 : i < m + 2
            · obtain ⟨ahi, alo, a1, a2, a3, a4⟩ := mul64_nat H (lmN V i) bG (lmN_lt _ _)
              obtain ⟨u1, v1, p1, p2, p3, p4⟩ := add64_nat0 alo c a2 hc1
              obtain ⟨u2, v2, r1, r2, r3, r4⟩ := sub64_nat (lmN Z1 (k + i)) u1 b (lmN_lt _ _) p1 hb1
              have hcs := step_fits H (lmN V i) c ahi alo u1 v1 bG (lmN_lt _ _) hc1 p1 a3 p3
              have HTM2 := hid (And.intro (hTM.out.1.set u2 r1) (hTM.out.2.step (hTM.out.1.up i (Nat.le_refl _)) r1 a3 p3 r3))
              have A4 := hid a4
              have cv5 := hI5.out.2.1.cell i hlt5
              have lv5 := hI5.out.2.1.lt
              clear a3 p3 r3 a4 hTM
              go_wp2_with fail
              refine (A4.out _).mono ?_
              rintro e w6 ⟨rfl, hb6⟩
              have hI6 := hid (hI5.out.next hb6)
              have cx6 := hI6.out.1.cell (k + i) (by omega)
              have fx6 := hI6.out.1.free (k + i)
              have lx6 := hI6.out.1.lt
              clear hI5 cv5 lv5 hb6 A4
              go_wp2_with fail
              go_roundw
              case rel => exact ⟨i + 1, v2, ahi + v1, setL Z1 (k + i) u2, by omega, r2, hcs, rfl, by go_num, by go_num, HTM2, hid (hI6.out.put hvg (k + i) u2 r1)⟩
              case measure => simp [intOf]; omega
            · obtain rfl : i = m + 2 := by omega
              obtain ⟨u3, v3, r1, r2, r3, r4⟩ := sub64_nat (lmN Z1 (k + (m + 2))) c b (lmN_lt _ _) hc1 hb1
              have HT3 := hid (hTM.out.1.set u3 r1)
              have HW3 := hid (hTM.out.2.last HV1.out (hTM.out.1.up (m + 2) (Nat.le_refl _)) r1 r3)
              have cx6 := hI5.out.1.cell (k + (m + 2)) (by omega)
              have fx6 := hI5.out.1.free (k + (m + 2))
              have lx6 := hI5.out.1.lt
              clear hTM hlt5 hi r3
              go_wp2_with fail
              have hI7 := hid (hI5.out.put hvg (k + (m + 2)) u3 r1)
              generalize wr.setCell ⟨g, k + (m + 2), none⟩ (.int .u64 (u3 : Int)) = w7 at hI7 ⊢
              clear hI5 cx6 fx6 lx6 r4
              go_loopw [6, 13] (fun gv bv wr7 => ∃ G3 b3 Z3 : Nat, G3 < 2 ^ 64 ∧ b3 ≤ 1 ∧ gv = .int .u64 (G3 : Int) ∧ bv = .int .u64 (b3 : Int) ∧ Hid (Turn Z Z3 k (m + 3) ∧ win Z3 k (m + 3) + G3 * V = win Z k (m + 3) + 2 ^ (64 * (m + 3)) * b3 ∧ win Z k (m + 3) / V ≤ G3) ∧ Hid (StI g k N (m + 2) Z V vb w wr7 Z3))
                (fun gv _ _ => (intOf gv).toNat)
              case atStart => exact ⟨H, v3, setL Z1 (k + (m + 2)) u3, bG, r2, rfl, rfl, hid ⟨HT3.out, HW3.out, hHq.out⟩, hI7⟩
              case round =>
                clear hI7 HT3 HW3
                obtain ⟨G3, b3, Z3, bG3, hb3, rfl, rfl, hF, hI8⟩ := hrel
                have hcase : b3 = 0 ∨ b3 = 1 := by omega
                rcases hcase with rfl | rfl
                · have hfin := step_done Z Z3 k (m + 2) V G3 hF.out.1 hF.out.2.1 HVp.out hF.out.2.2
                  have HF1 := hid hfin.1
                  have HF2 := hid hfin.2
                  clear hfin hF
                  go_wp2_with fail
                  go_ret
                  exact ⟨Z3, by rw [← HF1.out]; rfl, hI8.out.1, by rw [← HF1.out]; exact HF2.out, hI8.out.2.2⟩
                · have hag := step_again Z Z3 k (m + 2) V G3 hF.out.2.1 HVp.out
                  obtain ⟨J, hJ⟩ : ∃ J, G3 = J + 1 := ⟨G3 - 1, by have := Nat.lt_of_le_of_lt (Nat.zero_le _) hag; omega⟩
                  have hJi : (G3 : Int) - 1 = (J : Int) := by omega
                  have hJ1 : 1 ≤ G3 := by omega
                  have hJl : J < G3 := by omega
                  have HJ := hid hJ
                  have HAG := hid (show win Z k (m + 3) / V ≤ J from by have := hag; rw [hJ] at this; exact Nat.le_of_lt_succ this)
                  clear hag hJ
                  go_wp2_with fail
                  go_loopw [19, 148] (fun cv iv wr8 => ∃ i c Z4 : Nat, i ≤ m + 2 ∧ c ≤ 1 ∧ cv = .int .u64 (c : Int) ∧ iv = .int .i64 (i : Int) ∧ Hid (Turn Z3 Z4 k i ∧ Adb Z3 Z4 k V i c) ∧ Hid (StI g k N (m + 2) Z V vb w wr8 Z4))
                    (fun _ iv _ => m + 2 - (intOf iv).toNat)
                  case atStart => exact ⟨0, 0, Z3, by omega, by omega, rfl, rfl, hid ⟨Turn.start Z3 k, Adb.start Z3 k V⟩, hI8⟩
                  case round =>
                    clear hI8
                    obtain ⟨i, c, Z4, hi, hc4, rfl, rfl, hTA, hI9⟩ := hrel
                    by_cases hlt9 : i < m + 2
                    · obtain ⟨u, v, p1, p2, p3, p4⟩ := add64_nat (lmN Z4 (k + i)) (lmN V i) c (lmN_lt _ _) (lmN_lt _ _) hc4
                      have HTA2 := hid (And.intro (hTA.out.1.set u p1) (hTA.out.2.step (hTA.out.1.up i (Nat.le_refl _)) p1 p3))
                      have cx9 := hI9.out.1.cell (k + i) (by omega)
                      have fx9 := hI9.out.1.free (k + i)
                      have lx9 := hI9.out.1.lt
                      have cv9 := hI9.out.2.1.cell i hlt9
                      have lv9 := hI9.out.2.1.lt
                      clear p3 hTA
                      go_wp2_with fail
                      (refine wp_region_ext_float 16 14 [0, 1, 2, 3, 4, 5, 6, 7, 8, 9, 10, 11, 12, 13, 15] [_, _, _, _, _, _, _, _, _, _, _, _, _, _, _] _ _ _ rfl rfl rfl rfl (by kernel_rfl) (by kernel_rfl) ?_; (repeat (go_big_quiet_step (first | fail))); refine wpQuiet_nil ?_; refine ⟨?_, ?_⟩; rotate_left; rintro _ ⟨xw, rfl⟩; rotate_left; (repeat (go_big_quiet_step (first | fail))); refine wpQuiet_nil ?_; rintro _ ⟨xw, rfl⟩)
                      all_goals
                        go_wp2_with fail
                        go_roundw
                        case rel => exact ⟨i + 1, v, setL Z4 (k + i) u, by omega, p2, rfl, by go_num, HTA2, hid ((hI9.out.ext xw).put hvg (k + i) u p1)⟩
                        case measure => simp [intOf]; omega
                    · obtain rfl : i = m + 2 := by omega
                      obtain ⟨u, v, p1, p2, p3, p4⟩ := add64_nat (lmN Z4 (k + (m + 2))) 0 c (lmN_lt _ _) (by omega) hc4
                      have HT5 := hid (hF.out.1.trans (hTA.out.1.set u p1))
                      have HW5 := hid (step_back Z Z3 (setL Z4 (k + (m + 2)) u) k (m + 2) V G3 v hJ1 p2 hF.out.2.1 (hTA.out.2.last HV1.out (hTA.out.1.up (m + 2) (Nat.le_refl _)) p1 p3))
                      have cx9 := hI9.out.1.cell (k + (m + 2)) (by omega)
                      have fx9 := hI9.out.1.free (k + (m + 2))
                      have lx9 := hI9.out.1.lt
                      have hv01 : (1 : Int) - (v : Int) = ((1 - v : Nat) : Int) := by omega
                      have p5 : ∀ w, (callFunc 65 #[.int .u64 ((lmN Z4 (k + (m + 2)) : Nat) : Int), .int .u64 0, .int .u64 (c : Int)]).run Try.prog w = .ok (.value (.tuple #[.int .u64 (u : Int), .int .u64 (v : Int)])) w := p4
                      clear p3 hTA hlt9 hi hF p4
                      go_wp2_with fail
                      go_roundw
                      case rel => exact ⟨J, 1 - v, setL Z4 (k + (m + 2)) u, by omega, by omega, by go_num, by go_num, hid ⟨HT5.out, by have := HW5.out; rw [HJ.out, Nat.add_sub_cancel] at this; exact this, HAG.out⟩, hid (hI9.out.put hvg (k + (m + 2)) u p1)⟩
                      case measure => simp [intOf]; omega
        · have hgt : R * 2 ^ 64 + lmN (win Z k (m + 3)) m < G * lmN V m := by rw [hX0.out, m3]; omega
          have hVt : V / 2 ^ (64 * (m + 1)) = lmN V (m + 1) := by
            unfold lmN
            rw [Nat.mod_eq_of_lt]
            rw [Nat.div_lt_iff_lt_mul (Nat.pow_pos (by omega)), Nat.mul_comm, ← pow64_succ]
            exact HV1.out
          have hmore := guess_more (win Z k (m + 3)) V m _ G R rfl HVp.out (by rw [hVt]; exact hQ.out.2) hgt
          obtain ⟨H, hH⟩ : ∃ H, G = H + 1 := ⟨G - 1, by have := Nat.lt_of_le_of_lt (Nat.zero_le _) hmore; omega⟩
          obtain ⟨u, v, p1, p2, p3, p4⟩ := add64_nat0 R (lmN V (m + 1)) bR gv1
          have hHq := hid (show win Z k (m + 3) / V ≤ H by rw [hH] at hmore; exact Nat.le_of_lt_succ hmore)
          have hHs := hid (show v = 0 → win Z k (m + 3) / 2 ^ (64 * (m + 1)) = H * lmN V (m + 1) + u from fun hv => by
            rw [hv] at p3
            rw [hQ.out.2, hH, Nat.add_mul, Nat.one_mul]; omega)
          have hHi : (G : Int) - 1 = (H : Int) := by omega
          have hGH : H < G := by omega
          have hG1 : 1 ≤ G := by omega
          have bGG := bG
          have bG : H < 2 ^ 64 := by omega
          have hjoin : ¬ mhi = R ∨ (mhi = R ∧ ¬ mlo ≤ lmN Z (k + m)) := by omega
          clear hQ hmore hgt hVt m3 M4 p3 hb hH
          have hv01 : v = 0 ∨ v = 1 := by omega
          rcases hjoin with he | ⟨he, he2⟩
          · rcases hv01 with hv0 | hv1
            · have p5 : ∀ w, (callFunc 65 #[.int .u64 (R : Int), .int .u64 ((lmN V (m + 1) : Nat) : Int), .int .u64 0]).run Try.prog w = .ok (.value (.tuple #[.int .u64 (u : Int), .int .u64 0])) w := fun w => by rw [p4 w, hv0]; rfl
              have hHs2 := hid (hHs.out hv0)
              clear p4 hv0 hHs
              go_wp2_with fail
              go_roundw
              case rel => exact ⟨H, u, by go_num, rfl, bG, p1, hid ⟨hHq.out, hHs2.out⟩, hI2⟩
              case measure => simp [intOf]; omega
            · have p5 : ∀ w, (callFunc 65 #[.int .u64 (R : Int), .int .u64 ((lmN V (m + 1) : Nat) : Int), .int .u64 0]).run Try.prog w = .ok (.value (.tuple #[.int .u64 (u : Int), .int .u64 1])) w := fun w => by rw [p4 w, hv1]; rfl
              have hIH := hI2
              clear hI2 hHs p4 hv1
              go_wp2_with fail
              (try simp only [show m + 2 - 1 = m + 1 from rfl])
              go_loopw [13, 14, 95] (fun bv cv iv wr5 => ∃ i b c Z1 : Nat, i ≤ m + 2 ∧ b ≤ 1 ∧ c < 2 ^ 64 ∧ bv = .int .u64 (b : Int) ∧ cv = .int .u64 (c : Int) ∧ iv = .int .i64 (i : Int) ∧ Hid (Turn Z Z1 k i ∧ Mul Z Z1 k V H i b c) ∧ Hid (StI g k N (m + 2) Z V vb w wr5 Z1))
                (fun _ _ iv _ => m + 2 - (intOf iv).toNat)
              case atStart => exact ⟨0, 0, 0, Z, by omega, by omega, by omega, rfl, rfl, rfl, hid ⟨Turn.start Z k, Mul.start Z k V H⟩, hIH⟩
              case round =>
                clear hIH
                obtain ⟨i, b, c, Z1, hi, hb1, hc1, rfl, rfl, rfl, hTM, hI5⟩ := hrel
                by_cases hlt5 : i < m + 2
                · obtain ⟨ahi, alo, a1, a2, a3, a4⟩ := mul64_nat H (lmN V i) bG (lmN_lt _ _)
                  obtain ⟨u1, v1, p1, p2, p3, p4⟩ := add64_nat0 alo c a2 hc1
                  obtain ⟨u2, v2, r1, r2, r3, r4⟩ := sub64_nat (lmN Z1 (k + i)) u1 b (lmN_lt _ _) p1 hb1
                  have hcs := step_fits H (lmN V i) c ahi alo u1 v1 bG (lmN_lt _ _) hc1 p1 a3 p3
                  have HTM2 := hid (And.intro (hTM.out.1.set u2 r1) (hTM.out.2.step (hTM.out.1.up i (Nat.le_refl _)) r1 a3 p3 r3))
                  have A4 := hid a4
                  have cv5 := hI5.out.2.1.cell i hlt5
                  have lv5 := hI5.out.2.1.lt
                  clear a3 p3 r3 a4 hTM
                  go_wp2_with fail
                  refine (A4.out _).mono ?_
                  rintro e w6 ⟨rfl, hb6⟩
                  have hI6 := hid (hI5.out.next hb6)
                  have cx6 := hI6.out.1.cell (k + i) (by omega)
                  have fx6 := hI6.out.1.free (k + i)
                  have lx6 := hI6.out.1.lt
                  clear hI5 cv5 lv5 hb6 A4
                  go_wp2_with fail
                  go_roundw
                  case rel => exact ⟨i + 1, v2, ahi + v1, setL Z1 (k + i) u2, by omega, r2, hcs, rfl, by go_num, by go_num, HTM2, hid (hI6.out.put hvg (k + i) u2 r1)⟩
                  case measure => simp [intOf]; omega
                · obtain rfl : i = m + 2 := by omega
                  obtain ⟨u3, v3, r1, r2, r3, r4⟩ := sub64_nat (lmN Z1 (k + (m + 2))) c b (lmN_lt _ _) hc1 hb1
                  have HT3 := hid (hTM.out.1.set u3 r1)
                  have HW3 := hid (hTM.out.2.last HV1.out (hTM.out.1.up (m + 2) (Nat.le_refl _)) r1 r3)
                  have cx6 := hI5.out.1.cell (k + (m + 2)) (by omega)
                  have fx6 := hI5.out.1.free (k + (m + 2))
                  have lx6 := hI5.out.1.lt
                  clear hTM hlt5 hi r3
                  go_wp2_with fail
                  have hI7 := hid (hI5.out.put hvg (k + (m + 2)) u3 r1)
                  generalize wr.setCell ⟨g, k + (m + 2), none⟩ (.int .u64 (u3 : Int)) = w7 at hI7 ⊢
                  clear hI5 cx6 fx6 lx6 r4
                  go_loopw [6, 13] (fun gv bv wr7 => ∃ G3 b3 Z3 : Nat, G3 < 2 ^ 64 ∧ b3 ≤ 1 ∧ gv = .int .u64 (G3 : Int) ∧ bv = .int .u64 (b3 : Int) ∧ Hid (Turn Z Z3 k (m + 3) ∧ win Z3 k (m + 3) + G3 * V = win Z k (m + 3) + 2 ^ (64 * (m + 3)) * b3 ∧ win Z k (m + 3) / V ≤ G3) ∧ Hid (StI g k N (m + 2) Z V vb w wr7 Z3))
                    (fun gv _ _ => (intOf gv).toNat)
                  case atStart => exact ⟨H, v3, setL Z1 (k + (m + 2)) u3, bG, r2, rfl, rfl, hid ⟨HT3.out, HW3.out, hHq.out⟩, hI7⟩
                  case round =>
                    clear hI7 HT3 HW3
                    obtain ⟨G3, b3, Z3, bG3, hb3, rfl, rfl, hF, hI8⟩ := hrel
                    have hcase : b3 = 0 ∨ b3 = 1 := by omega
                    rcases hcase with rfl | rfl
                    · have hfin := step_done Z Z3 k (m + 2) V G3 hF.out.1 hF.out.2.1 HVp.out hF.out.2.2
                      have HF1 := hid hfin.1
                      have HF2 := hid hfin.2
                      clear hfin hF
                      go_wp2_with fail
                      go_ret
                      exact ⟨Z3, by rw [← HF1.out]; rfl, hI8.out.1, by rw [← HF1.out]; exact HF2.out, hI8.out.2.2⟩
                    · have hag := step_again Z Z3 k (m + 2) V G3 hF.out.2.1 HVp.out
                      obtain ⟨J, hJ⟩ : ∃ J, G3 = J + 1 := ⟨G3 - 1, by have := Nat.lt_of_le_of_lt (Nat.zero_le _) hag; omega⟩
                      have hJi : (G3 : Int) - 1 = (J : Int) := by omega
                      have hJ1 : 1 ≤ G3 := by omega
                      have hJl : J < G3 := by omega
                      have HJ := hid hJ
                      have HAG := hid (show win Z k (m + 3) / V ≤ J from by have := hag; rw [hJ] at this; exact Nat.le_of_lt_succ this)
                      clear hag hJ
                      go_wp2_with fail
                      go_loopw [19, 148] (fun cv iv wr8 => ∃ i c Z4 : Nat, i ≤ m + 2 ∧ c ≤ 1 ∧ cv = .int .u64 (c : Int) ∧ iv = .int .i64 (i : Int) ∧ Hid (Turn Z3 Z4 k i ∧ Adb Z3 Z4 k V i c) ∧ Hid (StI g k N (m + 2) Z V vb w wr8 Z4))
                        (fun _ iv _ => m + 2 - (intOf iv).toNat)
                      case atStart => exact ⟨0, 0, Z3, by omega, by omega, rfl, rfl, hid ⟨Turn.start Z3 k, Adb.start Z3 k V⟩, hI8⟩
                      case round =>
                        clear hI8
                        obtain ⟨i, c, Z4, hi, hc4, rfl, rfl, hTA, hI9⟩ := hrel
                        by_cases hlt9 : i < m + 2
                        · obtain ⟨u, v, p1, p2, p3, p4⟩ := add64_nat (lmN Z4 (k + i)) (lmN V i) c (lmN_lt _ _) (lmN_lt _ _) hc4
                          have HTA2 := hid (And.intro (hTA.out.1.set u p1) (hTA.out.2.step (hTA.out.1.up i (Nat.le_refl _)) p1 p3))
                          have cx9 := hI9.out.1.cell (k + i) (by omega)
                          have fx9 := hI9.out.1.free (k + i)
                          have lx9 := hI9.out.1.lt
                          have cv9 := hI9.out.2.1.cell i hlt9
                          have lv9 := hI9.out.2.1.lt
                          clear p3 hTA
                          go_wp2_with fail
                          (refine wp_region_ext_float 16 14 [0, 1, 2, 3, 4, 5, 6, 7, 8, 9, 10, 11, 12, 13, 15] [_, _, _, _, _, _, _, _, _, _, _, _, _, _, _] _ _ _ rfl rfl rfl rfl (by kernel_rfl) (by kernel_rfl) ?_; (repeat (go_big_quiet_step (first | fail))); refine wpQuiet_nil ?_; refine ⟨?_, ?_⟩; rotate_left; rintro _ ⟨xw, rfl⟩; rotate_left; (repeat (go_big_quiet_step (first | fail))); refine wpQuiet_nil ?_; rintro _ ⟨xw, rfl⟩)
                          all_goals
                            go_wp2_with fail
                            go_roundw
                            case rel => exact ⟨i + 1, v, setL Z4 (k + i) u, by omega, p2, rfl, by go_num, HTA2, hid ((hI9.out.ext xw).put hvg (k + i) u p1)⟩
                            case measure => simp [intOf]; omega
                        · obtain rfl : i = m + 2 := by omega
                          obtain ⟨u, v, p1, p2, p3, p4⟩ := add64_nat (lmN Z4 (k + (m + 2))) 0 c (lmN_lt _ _) (by omega) hc4
                          have HT5 := hid (hF.out.1.trans (hTA.out.1.set u p1))
                          have HW5 := hid (step_back Z Z3 (setL Z4 (k + (m + 2)) u) k (m + 2) V G3 v hJ1 p2 hF.out.2.1 (hTA.out.2.last HV1.out (hTA.out.1.up (m + 2) (Nat.le_refl _)) p1 p3))
                          have cx9 := hI9.out.1.cell (k + (m + 2)) (by omega)
                          have fx9 := hI9.out.1.free (k + (m + 2))
                          have lx9 := hI9.out.1.lt
                          have hv01 : (1 : Int) - (v : Int) = ((1 - v : Nat) : Int) := by omega
                          have p5 : ∀ w, (callFunc 65 #[.int .u64 ((lmN Z4 (k + (m + 2)) : Nat) : Int), .int .u64 0, .int .u64 (c : Int)]).run Try.prog w = .ok (.value (.tuple #[.int .u64 (u : Int), .int .u64 (v : Int)])) w := p4
                          clear p3 hTA hlt9 hi hF p4
                          go_wp2_with fail
                          go_roundw
                          case rel => exact ⟨J, 1 - v, setL Z4 (k + (m + 2)) u, by omega, by omega, by go_num, by go_num, hid ⟨HT5.out, by have := HW5.out; rw [HJ.out, Nat.add_sub_cancel] at this; exact this, HAG.out⟩, hid (hI9.out.put hvg (k + (m + 2)) u p1)⟩
                          case measure => simp [intOf]; omega
          · subst he
            rcases hv01 with hv0 | hv1
            · have p5 : ∀ w, (callFunc 65 #[.int .u64 (mhi : Int), .int .u64 ((lmN V (m + 1) : Nat) : Int), .int .u64 0]).run Try.prog w = .ok (.value (.tuple #[.int .u64 (u : Int), .int .u64 0])) w := fun w => by rw [p4 w, hv0]; rfl
              have hHs2 := hid (hHs.out hv0)
              clear p4 hv0 hHs
              go_wp2_with fail
              go_roundw
              case rel => exact ⟨H, u, by go_num, rfl, bG, p1, hid ⟨hHq.out, hHs2.out⟩, hI2⟩
              case measure => simp [intOf]; omega
            · have p5 : ∀ w, (callFunc 65 #[.int .u64 (mhi : Int), .int .u64 ((lmN V (m + 1) : Nat) : Int), .int .u64 0]).run Try.prog w = .ok (.value (.tuple #[.int .u64 (u : Int), .int .u64 1])) w := fun w => by rw [p4 w, hv1]; rfl
              have hIH := hI2
              clear hI2 hHs p4 hv1
              go_wp2_with fail
              (try simp only [show m + 2 - 1 = m + 1 from rfl])
              go_loopw [13, 14, 95] (fun bv cv iv wr5 => ∃ i b c Z1 : Nat, i ≤ m + 2 ∧ b ≤ 1 ∧ c < 2 ^ 64 ∧ bv = .int .u64 (b : Int) ∧ cv = .int .u64 (c : Int) ∧ iv = .int .i64 (i : Int) ∧ Hid (Turn Z Z1 k i ∧ Mul Z Z1 k V H i b c) ∧ Hid (StI g k N (m + 2) Z V vb w wr5 Z1))
                (fun _ _ iv _ => m + 2 - (intOf iv).toNat)
              case atStart => exact ⟨0, 0, 0, Z, by omega, by omega, by omega, rfl, rfl, rfl, hid ⟨Turn.start Z k, Mul.start Z k V H⟩, hIH⟩
              case round =>
                clear hIH
                obtain ⟨i, b, c, Z1, hi, hb1, hc1, rfl, rfl, rfl, hTM, hI5⟩ := hrel
                by_cases hlt5 : i < m + 2
                · obtain ⟨ahi, alo, a1, a2, a3, a4⟩ := mul64_nat H (lmN V i) bG (lmN_lt _ _)
                  obtain ⟨u1, v1, p1, p2, p3, p4⟩ := add64_nat0 alo c a2 hc1
                  obtain ⟨u2, v2, r1, r2, r3, r4⟩ := sub64_nat (lmN Z1 (k + i)) u1 b (lmN_lt _ _) p1 hb1
                  have hcs := step_fits H (lmN V i) c ahi alo u1 v1 bG (lmN_lt _ _) hc1 p1 a3 p3
                  have HTM2 := hid (And.intro (hTM.out.1.set u2 r1) (hTM.out.2.step (hTM.out.1.up i (Nat.le_refl _)) r1 a3 p3 r3))
                  have A4 := hid a4
                  have cv5 := hI5.out.2.1.cell i hlt5
                  have lv5 := hI5.out.2.1.lt
                  clear a3 p3 r3 a4 hTM
                  go_wp2_with fail
                  refine (A4.out _).mono ?_
                  rintro e w6 ⟨rfl, hb6⟩
                  have hI6 := hid (hI5.out.next hb6)
                  have cx6 := hI6.out.1.cell (k + i) (by omega)
                  have fx6 := hI6.out.1.free (k + i)
                  have lx6 := hI6.out.1.lt
                  clear hI5 cv5 lv5 hb6 A4
                  go_wp2_with fail
                  go_roundw
                  case rel => exact ⟨i + 1, v2, ahi + v1, setL Z1 (k + i) u2, by omega, r2, hcs, rfl, by go_num, by go_num, HTM2, hid (hI6.out.put hvg (k + i) u2 r1)⟩
                  case measure => simp [intOf]; omega
                · obtain rfl : i = m + 2 := by omega
                  obtain ⟨u3, v3, r1, r2, r3, r4⟩ := sub64_nat (lmN Z1 (k + (m + 2))) c b (lmN_lt _ _) hc1 hb1
                  have HT3 := hid (hTM.out.1.set u3 r1)
                  have HW3 := hid (hTM.out.2.last HV1.out (hTM.out.1.up (m + 2) (Nat.le_refl _)) r1 r3)
                  have cx6 := hI5.out.1.cell (k + (m + 2)) (by omega)
                  have fx6 := hI5.out.1.free (k + (m + 2))
                  have lx6 := hI5.out.1.lt
                  clear hTM hlt5 hi r3
                  go_wp2_with fail
                  have hI7 := hid (hI5.out.put hvg (k + (m + 2)) u3 r1)
                  generalize wr.setCell ⟨g, k + (m + 2), none⟩ (.int .u64 (u3 : Int)) = w7 at hI7 ⊢
                  clear hI5 cx6 fx6 lx6 r4
                  go_loopw [6, 13] (fun gv bv wr7 => ∃ G3 b3 Z3 : Nat, G3 < 2 ^ 64 ∧ b3 ≤ 1 ∧ gv = .int .u64 (G3 : Int) ∧ bv = .int .u64 (b3 : Int) ∧ Hid (Turn Z Z3 k (m + 3) ∧ win Z3 k (m + 3) + G3 * V = win Z k (m + 3) + 2 ^ (64 * (m + 3)) * b3 ∧ win Z k (m + 3) / V ≤ G3) ∧ Hid (StI g k N (m + 2) Z V vb w wr7 Z3))
                    (fun gv _ _ => (intOf gv).toNat)
                  case atStart => exact ⟨H, v3, setL Z1 (k + (m + 2)) u3, bG, r2, rfl, rfl, hid ⟨HT3.out, HW3.out, hHq.out⟩, hI7⟩
                  case round =>
                    clear hI7 HT3 HW3
                    obtain ⟨G3, b3, Z3, bG3, hb3, rfl, rfl, hF, hI8⟩ := hrel
                    have hcase : b3 = 0 ∨ b3 = 1 := by omega
                    rcases hcase with rfl | rfl
                    · have hfin := step_done Z Z3 k (m + 2) V G3 hF.out.1 hF.out.2.1 HVp.out hF.out.2.2
                      have HF1 := hid hfin.1
                      have HF2 := hid hfin.2
                      clear hfin hF
                      go_wp2_with fail
                      go_ret
                      exact ⟨Z3, by rw [← HF1.out]; rfl, hI8.out.1, by rw [← HF1.out]; exact HF2.out, hI8.out.2.2⟩
                    · have hag := step_again Z Z3 k (m + 2) V G3 hF.out.2.1 HVp.out
                      obtain ⟨J, hJ⟩ : ∃ J, G3 = J + 1 := ⟨G3 - 1, by have := Nat.lt_of_le_of_lt (Nat.zero_le _) hag; omega⟩
                      have hJi : (G3 : Int) - 1 = (J : Int) := by omega
                      have hJ1 : 1 ≤ G3 := by omega
                      have hJl : J < G3 := by omega
                      have HJ := hid hJ
                      have HAG := hid (show win Z k (m + 3) / V ≤ J from by have := hag; rw [hJ] at this; exact Nat.le_of_lt_succ this)
                      clear hag hJ
                      go_wp2_with fail
                      go_loopw [19, 148] (fun cv iv wr8 => ∃ i c Z4 : Nat, i ≤ m + 2 ∧ c ≤ 1 ∧ cv = .int .u64 (c : Int) ∧ iv = .int .i64 (i : Int) ∧ Hid (Turn Z3 Z4 k i ∧ Adb Z3 Z4 k V i c) ∧ Hid (StI g k N (m + 2) Z V vb w wr8 Z4))
                        (fun _ iv _ => m + 2 - (intOf iv).toNat)
                      case atStart => exact ⟨0, 0, Z3, by omega, by omega, rfl, rfl, hid ⟨Turn.start Z3 k, Adb.start Z3 k V⟩, hI8⟩
                      case round =>
                        clear hI8
                        obtain ⟨i, c, Z4, hi, hc4, rfl, rfl, hTA, hI9⟩ := hrel
                        by_cases hlt9 : i < m + 2
                        · obtain ⟨u, v, p1, p2, p3, p4⟩ := add64_nat (lmN Z4 (k + i)) (lmN V i) c (lmN_lt _ _) (lmN_lt _ _) hc4
                          have HTA2 := hid (And.intro (hTA.out.1.set u p1) (hTA.out.2.step (hTA.out.1.up i (Nat.le_refl _)) p1 p3))
                          have cx9 := hI9.out.1.cell (k + i) (by omega)
                          have fx9 := hI9.out.1.free (k + i)
                          have lx9 := hI9.out.1.lt
                          have cv9 := hI9.out.2.1.cell i hlt9
                          have lv9 := hI9.out.2.1.lt
                          clear p3 hTA
                          go_wp2_with fail
                          (refine wp_region_ext_float 16 14 [0, 1, 2, 3, 4, 5, 6, 7, 8, 9, 10, 11, 12, 13, 15] [_, _, _, _, _, _, _, _, _, _, _, _, _, _, _] _ _ _ rfl rfl rfl rfl (by kernel_rfl) (by kernel_rfl) ?_; (repeat (go_big_quiet_step (first | fail))); refine wpQuiet_nil ?_; refine ⟨?_, ?_⟩; rotate_left; rintro _ ⟨xw, rfl⟩; rotate_left; (repeat (go_big_quiet_step (first | fail))); refine wpQuiet_nil ?_; rintro _ ⟨xw, rfl⟩)
                          all_goals
                            go_wp2_with fail
                            go_roundw
                            case rel => exact ⟨i + 1, v, setL Z4 (k + i) u, by omega, p2, rfl, by go_num, HTA2, hid ((hI9.out.ext xw).put hvg (k + i) u p1)⟩
                            case measure => simp [intOf]; omega
                        · obtain rfl : i = m + 2 := by omega
                          obtain ⟨u, v, p1, p2, p3, p4⟩ := add64_nat (lmN Z4 (k + (m + 2))) 0 c (lmN_lt _ _) (by omega) hc4
                          have HT5 := hid (hF.out.1.trans (hTA.out.1.set u p1))
                          have HW5 := hid (step_back Z Z3 (setL Z4 (k + (m + 2)) u) k (m + 2) V G3 v hJ1 p2 hF.out.2.1 (hTA.out.2.last HV1.out (hTA.out.1.up (m + 2) (Nat.le_refl _)) p1 p3))
                          have cx9 := hI9.out.1.cell (k + (m + 2)) (by omega)
                          have fx9 := hI9.out.1.free (k + (m + 2))
                          have lx9 := hI9.out.1.lt
                          have hv01 : (1 : Int) - (v : Int) = ((1 - v : Nat) : Int) := by omega
                          have p5 : ∀ w, (callFunc 65 #[.int .u64 ((lmN Z4 (k + (m + 2)) : Nat) : Int), .int .u64 0, .int .u64 (c : Int)]).run Try.prog w = .ok (.value (.tuple #[.int .u64 (u : Int), .int .u64 (v : Int)])) w := p4
                          clear p3 hTA hlt9 hi hF p4
                          go_wp2_with fail
                          go_roundw
                          case rel => exact ⟨J, 1 - v, setL Z4 (k + (m + 2)) u, by omega, by omega, by go_num, by go_num, hid ⟨HT5.out, by have := HW5.out; rw [HJ.out, Nat.add_sub_cancel] at this; exact this, HAG.out⟩, hid (hI9.out.put hvg (k + (m + 2)) u p1)⟩
                          case measure => simp [intOf]; omega
  · obtain ⟨H, hH⟩ : ∃ H : Nat, H = 18446744073709551615 := ⟨_, rfl⟩
    have hHi : (18446744073709551615 : Int) = (H : Int) := by omega
    have bG : H < 2 ^ 64 := by omega
    have hHq := hid (show win Z k (m + 3) / V ≤ H by have := hqb.out; omega)
    have hIH := hid (HI.out.ext xw)
    have hge : ¬ lmN Z (k + (m + 2)) < lmN V (m + 1) := htop
    rw [hHi]
    clear hH hHi c1 c2 c3 HI hqb l1 l2
    simp only [decide_eq_false hge, show m + 2 - 1 = m + 1 from rfl]
    clear hge htop
    generalize w.ext xw = w1 at hIH ⊢
    go_wp2_with fail
    (try simp only [show m + 2 - 1 = m + 1 from rfl])
    go_loopw [13, 14, 95] (fun bv cv iv wr5 => ∃ i b c Z1 : Nat, i ≤ m + 2 ∧ b ≤ 1 ∧ c < 2 ^ 64 ∧ bv = .int .u64 (b : Int) ∧ cv = .int .u64 (c : Int) ∧ iv = .int .i64 (i : Int) ∧ Hid (Turn Z Z1 k i ∧ Mul Z Z1 k V H i b c) ∧ Hid (StI g k N (m + 2) Z V vb w wr5 Z1))
      (fun _ _ iv _ => m + 2 - (intOf iv).toNat)
    case atStart => exact ⟨0, 0, 0, Z, by omega, by omega, by omega, rfl, rfl, rfl, hid ⟨Turn.start Z k, Mul.start Z k V H⟩, hIH⟩
    case round =>
      clear hIH
      obtain ⟨i, b, c, Z1, hi, hb1, hc1, rfl, rfl, rfl, hTM, hI5⟩ := hrel
      by_cases hlt5 : i < m + 2
      · obtain ⟨ahi, alo, a1, a2, a3, a4⟩ := mul64_nat H (lmN V i) bG (lmN_lt _ _)
        obtain ⟨u1, v1, p1, p2, p3, p4⟩ := add64_nat0 alo c a2 hc1
        obtain ⟨u2, v2, r1, r2, r3, r4⟩ := sub64_nat (lmN Z1 (k + i)) u1 b (lmN_lt _ _) p1 hb1
        have hcs := step_fits H (lmN V i) c ahi alo u1 v1 bG (lmN_lt _ _) hc1 p1 a3 p3
        have HTM2 := hid (And.intro (hTM.out.1.set u2 r1) (hTM.out.2.step (hTM.out.1.up i (Nat.le_refl _)) r1 a3 p3 r3))
        have A4 := hid a4
        have cv5 := hI5.out.2.1.cell i hlt5
        have lv5 := hI5.out.2.1.lt
        clear a3 p3 r3 a4 hTM
        go_wp2_with fail
        refine (A4.out _).mono ?_
        rintro e w6 ⟨rfl, hb6⟩
        have hI6 := hid (hI5.out.next hb6)
        have cx6 := hI6.out.1.cell (k + i) (by omega)
        have fx6 := hI6.out.1.free (k + i)
        have lx6 := hI6.out.1.lt
        clear hI5 cv5 lv5 hb6 A4
        go_wp2_with fail
        go_roundw
        case rel => exact ⟨i + 1, v2, ahi + v1, setL Z1 (k + i) u2, by omega, r2, hcs, rfl, by go_num, by go_num, HTM2, hid (hI6.out.put hvg (k + i) u2 r1)⟩
        case measure => simp [intOf]; omega
      · obtain rfl : i = m + 2 := by omega
        obtain ⟨u3, v3, r1, r2, r3, r4⟩ := sub64_nat (lmN Z1 (k + (m + 2))) c b (lmN_lt _ _) hc1 hb1
        have HT3 := hid (hTM.out.1.set u3 r1)
        have HW3 := hid (hTM.out.2.last HV1.out (hTM.out.1.up (m + 2) (Nat.le_refl _)) r1 r3)
        have cx6 := hI5.out.1.cell (k + (m + 2)) (by omega)
        have fx6 := hI5.out.1.free (k + (m + 2))
        have lx6 := hI5.out.1.lt
        clear hTM hlt5 hi r3
        go_wp2_with fail
        have hI7 := hid (hI5.out.put hvg (k + (m + 2)) u3 r1)
        generalize wr.setCell ⟨g, k + (m + 2), none⟩ (.int .u64 (u3 : Int)) = w7 at hI7 ⊢
        clear hI5 cx6 fx6 lx6 r4
        go_loopw [6, 13] (fun gv bv wr7 => ∃ G3 b3 Z3 : Nat, G3 < 2 ^ 64 ∧ b3 ≤ 1 ∧ gv = .int .u64 (G3 : Int) ∧ bv = .int .u64 (b3 : Int) ∧ Hid (Turn Z Z3 k (m + 3) ∧ win Z3 k (m + 3) + G3 * V = win Z k (m + 3) + 2 ^ (64 * (m + 3)) * b3 ∧ win Z k (m + 3) / V ≤ G3) ∧ Hid (StI g k N (m + 2) Z V vb w wr7 Z3))
          (fun gv _ _ => (intOf gv).toNat)
        case atStart => exact ⟨H, v3, setL Z1 (k + (m + 2)) u3, bG, r2, rfl, rfl, hid ⟨HT3.out, HW3.out, hHq.out⟩, hI7⟩
        case round =>
          clear hI7 HT3 HW3
          obtain ⟨G3, b3, Z3, bG3, hb3, rfl, rfl, hF, hI8⟩ := hrel
          have hcase : b3 = 0 ∨ b3 = 1 := by omega
          rcases hcase with rfl | rfl
          · have hfin := step_done Z Z3 k (m + 2) V G3 hF.out.1 hF.out.2.1 HVp.out hF.out.2.2
            have HF1 := hid hfin.1
            have HF2 := hid hfin.2
            clear hfin hF
            go_wp2_with fail
            go_ret
            exact ⟨Z3, by rw [← HF1.out]; rfl, hI8.out.1, by rw [← HF1.out]; exact HF2.out, hI8.out.2.2⟩
          · have hag := step_again Z Z3 k (m + 2) V G3 hF.out.2.1 HVp.out
            obtain ⟨J, hJ⟩ : ∃ J, G3 = J + 1 := ⟨G3 - 1, by have := Nat.lt_of_le_of_lt (Nat.zero_le _) hag; omega⟩
            have hJi : (G3 : Int) - 1 = (J : Int) := by omega
            have hJ1 : 1 ≤ G3 := by omega
            have hJl : J < G3 := by omega
            have HJ := hid hJ
            have HAG := hid (show win Z k (m + 3) / V ≤ J from by have := hag; rw [hJ] at this; exact Nat.le_of_lt_succ this)
            clear hag hJ
            go_wp2_with fail
            go_loopw [19, 148] (fun cv iv wr8 => ∃ i c Z4 : Nat, i ≤ m + 2 ∧ c ≤ 1 ∧ cv = .int .u64 (c : Int) ∧ iv = .int .i64 (i : Int) ∧ Hid (Turn Z3 Z4 k i ∧ Adb Z3 Z4 k V i c) ∧ Hid (StI g k N (m + 2) Z V vb w wr8 Z4))
              (fun _ iv _ => m + 2 - (intOf iv).toNat)
            case atStart => exact ⟨0, 0, Z3, by omega, by omega, rfl, rfl, hid ⟨Turn.start Z3 k, Adb.start Z3 k V⟩, hI8⟩
            case round =>
              clear hI8
              obtain ⟨i, c, Z4, hi, hc4, rfl, rfl, hTA, hI9⟩ := hrel
              by_cases hlt9 : i < m + 2
              · obtain ⟨u, v, p1, p2, p3, p4⟩ := add64_nat (lmN Z4 (k + i)) (lmN V i) c (lmN_lt _ _) (lmN_lt _ _) hc4
                have HTA2 := hid (And.intro (hTA.out.1.set u p1) (hTA.out.2.step (hTA.out.1.up i (Nat.le_refl _)) p1 p3))
                have cx9 := hI9.out.1.cell (k + i) (by omega)
                have fx9 := hI9.out.1.free (k + i)
                have lx9 := hI9.out.1.lt
                have cv9 := hI9.out.2.1.cell i hlt9
                have lv9 := hI9.out.2.1.lt
                clear p3 hTA
                go_wp2_with fail
                (refine wp_region_ext_float 16 14 [0, 1, 2, 3, 4, 5, 6, 7, 8, 9, 10, 11, 12, 13, 15] [_, _, _, _, _, _, _, _, _, _, _, _, _, _, _] _ _ _ rfl rfl rfl rfl (by kernel_rfl) (by kernel_rfl) ?_; (repeat (go_big_quiet_step (first | fail))); refine wpQuiet_nil ?_; refine ⟨?_, ?_⟩; rotate_left; rintro _ ⟨xw, rfl⟩; rotate_left; (repeat (go_big_quiet_step (first | fail))); refine wpQuiet_nil ?_; rintro _ ⟨xw, rfl⟩)
                all_goals
                  go_wp2_with fail
                  go_roundw
                  case rel => exact ⟨i + 1, v, setL Z4 (k + i) u, by omega, p2, rfl, by go_num, HTA2, hid ((hI9.out.ext xw).put hvg (k + i) u p1)⟩
                  case measure => simp [intOf]; omega
              · obtain rfl : i = m + 2 := by omega
                obtain ⟨u, v, p1, p2, p3, p4⟩ := add64_nat (lmN Z4 (k + (m + 2))) 0 c (lmN_lt _ _) (by omega) hc4
                have HT5 := hid (hF.out.1.trans (hTA.out.1.set u p1))
                have HW5 := hid (step_back Z Z3 (setL Z4 (k + (m + 2)) u) k (m + 2) V G3 v hJ1 p2 hF.out.2.1 (hTA.out.2.last HV1.out (hTA.out.1.up (m + 2) (Nat.le_refl _)) p1 p3))
                have cx9 := hI9.out.1.cell (k + (m + 2)) (by omega)
                have fx9 := hI9.out.1.free (k + (m + 2))
                have lx9 := hI9.out.1.lt
                have hv01 : (1 : Int) - (v : Int) = ((1 - v : Nat) : Int) := by omega
                have p5 : ∀ w, (callFunc 65 #[.int .u64 ((lmN Z4 (k + (m + 2)) : Nat) : Int), .int .u64 0, .int .u64 (c : Int)]).run Try.prog w = .ok (.value (.tuple #[.int .u64 (u : Int), .int .u64 (v : Int)])) w := p4
                clear p3 hTA hlt9 hi hF p4
                go_wp2_with fail
                go_roundw
                case rel => exact ⟨J, 1 - v, setL Z4 (k + (m + 2)) u, by omega, by omega, by go_num, by go_num, hid ⟨HT5.out, by have := HW5.out; rw [HJ.out, Nat.add_sub_cancel] at this; exact this, HAG.out⟩, hid (hI9.out.put hvg (k + (m + 2)) u p1)⟩
                case measure => simp [intOf]; omega
end Go.Proofs.Ytejnnghfelpioaa
namespace Go.Proofs.Ytejnnghfelpioaa
open Go.RowKit
theorem infoU : (Try.prog.info? 23).map (fun i => (i.zero, i.size, i.bytes)) = some (some (.int .u64 0), 1, 8) := by kernel_rfl
theorem uUs : Try.prog.underlying 99 = some (.slice 23) := by kernel_rfl
theorem mkM (N : Nat) (hN : N ≤ 1048576) (w : World) : (Instr.makeSlice 99 (.int .i64 (N : Int)) (.int .i64 (N : Int))).run Try.prog w = .ok (.slice (some ⟨w.heap.size, 0, none⟩) N N) (w.alloc (.cells (cellsM N 0) 23)) := by
  obtain ⟨i0, hi0, hz0, hz1, hz2⟩ := info_parts infoU
  have h := run_make (P := Try.prog) w 99 23 i0 (.int .u64 0) uUs hi0 hz0 .i64 .i64 (N : Int) (N : Int) (by omega) (Int.le_refl _) (by rw [hz2]; omega) (by omega)
  rw [h, Int.toNat_natCast, hz1, Nat.mul_one]
  congr 3
  apply Array.ext
  · simp [madeCells, cellsM]
  · intro j h1 h2
    simp [madeCells, Value.cells, Nat.mod_one, cellsM, lmN]
theorem div1_step (U d j : Nat) (hd : 0 < d) :
    (U / 2 ^ (64 * (j + 1)) % d * 2 ^ 64 + lmN U j) / d < 2 ^ 64 ∧ (U / 2 ^ (64 * (j + 1)) % d * 2 ^ 64 + lmN U j) % d = U / 2 ^ (64 * j) % d ∧
    setL (U / 2 ^ (64 * (j + 1)) / d * 2 ^ (64 * (j + 1))) j ((U / 2 ^ (64 * (j + 1)) % d * 2 ^ 64 + lmN U j) / d) = U / 2 ^ (64 * j) / d * 2 ^ (64 * j) := by
  have hs := div_succ U j
  have hl := lmN_lt U j
  rw [hs]
  generalize U / 2 ^ (64 * (j + 1)) = A
  generalize lmN U j = u at hl ⊢
  have hdm := Nat.div_add_mod A d
  have hml := Nat.mod_lt A hd
  generalize A / d = q at hdm ⊢
  generalize A % d = r at hdm hml ⊢
  have hB : (2 : Nat) ^ 64 = 18446744073709551616 := by decide
  have e : A * 2 ^ 64 + u = r * 2 ^ 64 + u + d * (q * 2 ^ 64) := by
    rw [← hdm, Nat.add_mul, Nat.mul_assoc]; omega
  have hq : (r * 2 ^ 64 + u) / d < 2 ^ 64 := by
    rw [Nat.div_lt_iff_lt_mul hd]
    have : (r + 1) * 2 ^ 64 ≤ d * 2 ^ 64 := Nat.mul_le_mul_right _ hml
    rw [Nat.mul_comm (2 ^ 64)]
    omega
  refine ⟨hq, by rw [e, Nat.add_mul_mod_self_left], ?_⟩
  rw [e, Nat.add_mul_div_left _ _ hd]
  have h1 := setL_eq (q * 2 ^ (64 * (j + 1))) j ((r * 2 ^ 64 + u) / d)
  have h0 : lmN (q * 2 ^ (64 * (j + 1))) j = 0 := by
    unfold lmN
    rw [pow64_succ, ← Nat.mul_assoc, Nat.mul_right_comm, Nat.mul_div_cancel _ (Nat.pow_pos (by omega)), Nat.mul_mod_left]
  rw [h0, Nat.mul_zero, Nat.add_zero] at h1
  rw [h1, pow64_succ, Nat.add_mul, Nat.mul_comm ((r * 2 ^ 64 + u) / d), Nat.mul_assoc q, Nat.mul_comm (2 ^ 64) (2 ^ (64 * j))]
  omega
set_option maxRecDepth 100000 in
set_option maxHeartbeats 4000000 in
theorem divide1_any (n U d : Nat) (v : Value) (w : World) (hr : RdM w v n U) (hU : U < 2 ^ (64 * n)) (hn : n ≤ 9) (hd : 0 < d) (hd2 : d < 2 ^ 64) :
    Calls Try.prog 63 #[v, wd d] w fun e w' => ∃ gq, e = .returned (.tuple #[.slice (some ⟨gq, 0, none⟩) n n, wd (U % d)]) ∧ ArrM 23 n w' gq (U / d) ∧ w.heap.size ≤ gq ∧ Below w.heap.size w w' := by
  have hd256 : d < 2 ^ 256 := Nat.lt_of_lt_of_le hd2 (by decide)
  have hW := hid (fun v w hr => width_any 4 d v w hr hd256 (by omega))
  have hb1 := (bl_spec d (by omega)).1
  have hb2 := bl_le d 64 hd2
  have hO := hid (fun w => wof_any (U % d) (Nat.lt_trans (Nat.mod_lt _ hd) hd2) w)
  have hmk := mkM n (by omega)
  have hl0 : lm d 0 = (d : Int) := by unfold lm; rw [lmN_zero', Nat.mod_eq_of_lt hd2]
  have H0 := hid (show U / 2 ^ (64 * n) = 0 from Nat.div_eq_of_lt hU)
  obtain ⟨a, cap, rfl, hc, hr⟩ := hr
  have HR := hid hr
  obtain ⟨bd, hbd⟩ : ∃ b, b = bl d := ⟨_, rfl⟩
  rw [← hbd] at hW hb1 hb2
  have HD := hid hd
  clear hr hbd hU
  unfold wd at *
  have hA0 := hid (show ArrW 25 (((w.alloc (.cells (cellsW d) 25)).alloc (.cells (cellsW 0) 25)).alloc (.cells (cellsM n 0) 23)) w.heap.size d from ((ArrW.new _ w d).alloc _).alloc _)
  have hrd := hid (show RdM ((w.alloc (.cells (cellsW d) 25)).alloc (.cells (cellsW 0) 25)) (.slice (some ⟨w.heap.size, 0, none⟩) 4 4) 4 d from ((ArrW.new _ w d).alloc _).toM.rd 4 (by omega))
  have hB0 := hid (show ArrW 25 (((w.alloc (.cells (cellsW d) 25)).alloc (.cells (cellsW 0) 25)).alloc (.cells (cellsM n 0) 23)) (w.heap.size + 1) 0 by
    have := ArrW.new 25 (w.alloc (.cells (cellsW d) 25)) 0
    rw [World.size_alloc] at this; exact this.alloc _)
  have hC0 := hid (show ArrM 23 n (((w.alloc (.cells (cellsW d) 25)).alloc (.cells (cellsW 0) 25)).alloc (.cells (cellsM n 0) 23)) (w.heap.size + 2) 0 by
    have := ArrM.new 23 n ((w.alloc (.cells (cellsW d) 25)).alloc (.cells (cellsW 0) 25)) 0
    rw [World.size_alloc, World.size_alloc] at this; exact this)
  have hb0 : Below w.heap.size w (((w.alloc (.cells (cellsW d) 25)).alloc (.cells (cellsW 0) 25)).alloc (.cells (cellsM n 0) 23)) := (((Below.refl _ _).alloc (Nat.le_refl _) _).alloc (by simp) _).alloc (by simp; omega) _
  go_enter Try.func63, Try.ntmps63
  go_wp2_with (refine wpList_alloc_new rfl 25 rfl (cellsW 0) zWd ?_; simp only [Act.put, pvA, pv0, pv1, World.size_alloc])
  refine (hW.out _ _ hrd.out).mono ?_
  rintro e w1 ⟨rfl, rfl⟩
  have hne : (((bd : Int) + 63) / 64) = 1 := by omega
  go_wp2_with fail
  (try simp only [World.size_alloc])
  generalize ((w.alloc (.cells (cellsW d) 25)).alloc (.cells (cellsW 0) 25)).alloc (.cells (cellsM n 0) 23) = w1 at hA0 hB0 hC0 hb0 ⊢
  (try simp only [hne])
  clear hW hrd
  go_loopw [8, 9] (fun rv iv wr => ∃ i : Nat, i ≤ n ∧ rv = .int .u64 ((U / 2 ^ (64 * i) % d : Nat) : Int) ∧ iv = .int .i64 ((i : Int) - 1) ∧ Hid (ArrW 25 wr w.heap.size d) ∧ Hid (ArrW 25 wr (w.heap.size + 1) 0) ∧ Hid (ArrM 23 n wr (w.heap.size + 2) (U / 2 ^ (64 * i) / d * 2 ^ (64 * i))) ∧ Below w.heap.size w wr)
    (fun _ iv _ => (intOf iv + 1).toNat)
  case atStart => exact ⟨n, by omega, by rw [H0.out, Nat.zero_mod]; rfl, by go_num, hA0, hB0, by rw [H0.out, Nat.zero_div, Nat.zero_mul]; exact hC0, hb0⟩
  case round =>
    clear hA0 hB0 hC0 hb0
    obtain ⟨i, hi, rfl, rfl, hA, hB, hC, hb⟩ := hrel
    by_cases h0 : i = 0
    · subst h0
      have hQ := hC.out
      have hr0 := hid (show U / 2 ^ (64 * 0) % d = U % d by rw [Nat.mul_zero, Nat.pow_zero, Nat.div_one])
      rw [show U / 2 ^ (64 * 0) / d * 2 ^ (64 * 0) = U / d by rw [Nat.mul_zero, Nat.pow_zero, Nat.div_one, Nat.mul_one]] at hQ
      rw [hr0.out]
      obtain ⟨r, hrr⟩ : ∃ r, r = U % d := ⟨_, rfl⟩
      rw [← hrr] at hO ⊢
      have HRR := hid hrr
      have HQ := hid hQ
      have iR := hid (iW r)
      have nR := hid (one_cellsW r)
      clear hrr hC hr0 hQ
      go_wp2_with fail
      refine (hO.out _).mono ?_
      rintro e w2 ⟨rfl, hb2⟩
      have hB2 := hid (hB.out.below hb2 hB.out.lt)
      have hQ2 := hid (HQ.out.below hb2 HQ.out.lt)
      have hb3 := hb.trans (hb2.mono hb.size)
      clear hB HQ hb hb2
      go_wp2_with (refine wpList_store_row rfl 25 (.tmp 5) (.tmp 50) rfl (w.heap.size + 1) _ rfl rfl 25 _ hB2.out iR.out rfl nR.out ?_; simp only [Act.put])
      refine bodyPost_ret (results_tmp_row rfl _ _ (w.heap.size + 1) 25 (cellsW r) (0, 0) _ rfl (heap_setRow' _ _ _ _ _ hB2.out) uWd rfl iR.out) rfl ⟨w.heap.size + 2, by rw [HRR.out]; rfl, ?_, by omega, below_setRow' hb3 _ (by omega) _⟩
      have := hQ2.out
      unfold ArrM at *
      simp only [World.setRow, Array.getElem?_modify]
      rw [if_neg (by omega)]; exact this
    · obtain ⟨j, rfl⟩ : ∃ j, i = j + 1 := ⟨i - 1, by omega⟩
      have e1 : (((j + 1 : Nat) : Int) - 1) = (j : Int) := by omega
      rw [e1]
      obtain ⟨s1, s2, s3⟩ := div1_step U d j HD.out
      obtain ⟨b, off, rfl, hbl, hcell⟩ := HR.out (by omega)
      have cx := (hb.cell (p := ⟨b, off + j, none⟩) hbl).trans (hcell j (by omega))
      have lb : b < wr.heap.size := Nat.lt_of_lt_of_le hbl hb.size
      have cd := hA.out.cell 0 (by omega)
      rw [hl0] at cd
      have ld := hA.out.lt
      have cq := hC.out.cell j (by omega)
      have fq := hC.out.free j
      have lq := hC.out.lt
      have hrl := Nat.mod_lt (U / 2 ^ (64 * (j + 1))) HD.out
      have hDv := hid (fun w => div64_any (U / 2 ^ (64 * (j + 1)) % d) (lmN U j) d hrl (lmN_lt _ _) hd2 w)
      obtain ⟨r, hr⟩ : ∃ r, r = U / 2 ^ (64 * (j + 1)) % d := ⟨_, rfl⟩
      rw [← hr] at s1 s2 s3 hDv hrl ⊢
      obtain ⟨q, hq⟩ : ∃ q, q = (r * 2 ^ 64 + lmN U j) / d := ⟨_, rfl⟩
      rw [← hq] at s1 s3 hDv
      obtain ⟨r2, hr2⟩ : ∃ r2, r2 = (r * 2 ^ 64 + lmN U j) % d := ⟨_, rfl⟩
      rw [← hr2] at s2 hDv
      have S2 := hid s2
      have S3 := hid s3
      clear e1 h0 hcell s2 s3 hr hq hr2
      go_wp2_with fail
      (refine wp_region_ext_float 14 12 [0, 1, 2, 3, 4, 5, 6, 7, 8, 9, 10, 11, 13] [_, _, _, _, _, _, _, _, _, _, _, _, _] _ _ _ rfl rfl rfl rfl (by kernel_rfl) (by kernel_rfl) ?_; (repeat (go_big_quiet_step (first | (go_at_call 81; with_reducible refine Calls.ext_of (hDv.out _))))); refine wpQuiet_nil ?_; refine ⟨?_, ?_⟩; rotate_left; rintro _ ⟨xw, rfl⟩; rotate_left; (repeat (go_big_quiet_step (first | (go_at_call 81; with_reducible refine Calls.ext_of (hDv.out _))))); refine wpQuiet_nil ?_; rintro _ ⟨xw, rfl⟩)
      all_goals
        go_wp2_with fail
        go_roundw
        case rel =>
          refine ⟨j, by omega, by rw [← S2.out], by go_num, hid ((hA.out.ext xw).other (by show w.heap.size ≠ w.heap.size + 2; omega) _), hid ((hB.out.ext xw).other (by show w.heap.size + 1 ≠ w.heap.size + 2; omega) _), hid ?_, (World.ext_below_of hb hb.size xw).setCell (p := ⟨w.heap.size + 2, j, none⟩) (by show w.heap.size ≤ w.heap.size + 2; omega) _⟩
          rw [← S3.out]
          exact (hC.out.ext xw).set j q s1
        case measure => simp [intOf]
end Go.Proofs.Ytejnnghfelpioaa
namespace Go.Proofs.Ytejnnghfelpioaa
open Go.RowKit
end Go.Proofs.Ytejnnghfelpioaa
namespace Go.Proofs.Ytejnnghfelpioaa
open Go.RowKit
theorem shl_limb0 (x s : Nat) : lmN (x * 2 ^ s) 0 = lmN x 0 * 2 ^ s % 2 ^ 64 := by
  unfold lmN
  rw [Nat.mul_zero, Nat.pow_zero, Nat.div_one, Nat.div_one, Nat.mod_mul_mod]
theorem shl_limb (x s i : Nat) (hs : s < 64) : lmN (x * 2 ^ s) (i + 1) = lmN x (i + 1) * 2 ^ s % 2 ^ 64 ||| lmN x i / 2 ^ (64 - s) := by
  have h := (lmN_shl x s (i + 1)).2.2 (by omega)
  rw [show s / 64 = 0 by omega, show s % 64 = s by omega, Nat.sub_zero, Nat.add_sub_cancel] at h
  by_cases h0 : s = 0
  · subst h0
    rw [h, if_pos rfl, Nat.pow_zero, Nat.mul_one, Nat.mod_eq_of_lt (lmN_lt _ _), Nat.div_eq_of_lt (lmN_lt _ _), Nat.or_zero]
  · rw [h, if_neg h0]
theorem shr_limb (x s i : Nat) (hs : s < 64) : lmN (x / 2 ^ s) i = lmN x i / 2 ^ s ||| lmN x (i + 1) * 2 ^ (64 - s) % 2 ^ 64 := by
  by_cases h0 : s = 0
  · subst h0
    rw [Nat.pow_zero, Nat.div_one, Nat.div_one, Nat.sub_zero, Nat.mul_mod_left, Nat.or_zero]
  · have h := lmN_shr x s i (by omega)
    rw [show s / 64 = 0 by omega, show s % 64 = s by omega, Nat.add_zero] at h
    exact h
theorem or_shl (c u s : Nat) (hs : s < 64) (hc : c < 2 ^ s) : c ||| u * 2 ^ s % 2 ^ 64 = c + u * 2 ^ s % 2 ^ 64 := by
  have e : u * 2 ^ s % 2 ^ 64 = u % 2 ^ (64 - s) * 2 ^ s := by
    have h := shl_mod u (64 - s) (by omega)
    rw [show 64 - (64 - s) = s by omega] at h
    rw [h, Nat.mul_comm]
  rw [e, or_add _ _ _ hc]
theorem lift_step (U s i : Nat) (hs : s < 64) :
    lmN (U % 2 ^ (64 * i) * 2 ^ s) i < 2 ^ s ∧ lmN (U % 2 ^ (64 * i) * 2 ^ s) i + lmN U i * 2 ^ s % 2 ^ 64 < 2 ^ 64 ∧
    setL (setL (U % 2 ^ (64 * i) * 2 ^ s) i (lmN (U % 2 ^ (64 * i) * 2 ^ s) i + lmN U i * 2 ^ s % 2 ^ 64)) (i + 1) (lmN U i / 2 ^ (64 - s)) = U % 2 ^ (64 * (i + 1)) * 2 ^ s := by
  have hl := low_lt U i
  have hp : 0 < 2 ^ (64 * i) := Nat.pow_pos (by omega)
  have hps : 0 < 2 ^ s := Nat.pow_pos (by omega)
  have hs2 : 2 ^ s ≤ 2 ^ 63 := Nat.pow_le_pow_right (by omega) (by omega)
  have hX : U % 2 ^ (64 * i) * 2 ^ s < 2 ^ (64 * i) * 2 ^ s := Nat.mul_lt_mul_of_pos_right hl hps
  have hq : U % 2 ^ (64 * i) * 2 ^ s / 2 ^ (64 * i) < 2 ^ s := by rw [Nat.div_lt_iff_lt_mul hp, Nat.mul_comm (2 ^ s)]; exact hX
  have hc : lmN (U % 2 ^ (64 * i) * 2 ^ s) i < 2 ^ s := Nat.lt_of_le_of_lt (Nat.mod_le _ _) hq
  have hsum := or_shl (lmN (U % 2 ^ (64 * i) * 2 ^ s) i) (lmN U i) s hs hc
  have hlt : lmN (U % 2 ^ (64 * i) * 2 ^ s) i + lmN U i * 2 ^ s % 2 ^ 64 < 2 ^ 64 := by
    rw [← hsum]
    exact Nat.or_lt_two_pow (Nat.lt_trans hc (Nat.lt_of_le_of_lt hs2 (by decide))) (Nat.mod_lt _ (by decide))
  refine ⟨hc, hlt, ?_⟩
  have h1 := setL_eq (U % 2 ^ (64 * i) * 2 ^ s) i (lmN (U % 2 ^ (64 * i) * 2 ^ s) i + lmN U i * 2 ^ s % 2 ^ 64)
  have h2 := setL_eq (setL (U % 2 ^ (64 * i) * 2 ^ s) i (lmN (U % 2 ^ (64 * i) * 2 ^ s) i + lmN U i * 2 ^ s % 2 ^ 64)) (i + 1) (lmN U i / 2 ^ (64 - s))
  have h3 : lmN (setL (U % 2 ^ (64 * i) * 2 ^ s) i (lmN (U % 2 ^ (64 * i) * 2 ^ s) i + lmN U i * 2 ^ s % 2 ^ 64)) (i + 1) = 0 := by
    rw [lmN_setL _ _ _ _ hlt, if_neg (by omega)]
    apply lmN_hi
    rw [pow64_succ]
    exact Nat.lt_of_lt_of_le hX (Nat.mul_le_mul_left _ (Nat.le_trans hs2 (by decide)))
  rw [h3, Nat.mul_zero, Nat.add_zero] at h2
  rw [h2, low_succ, Nat.add_mul, Nat.mul_assoc]
  have e1 : lmN U i * 2 ^ s / 2 ^ 64 = lmN U i / 2 ^ (64 - s) := by
    rw [show (2 : Nat) ^ 64 = 2 ^ (64 - s) * 2 ^ s by rw [← Nat.pow_add]; congr 1; omega, Nat.mul_div_mul_right _ _ hps]
  have e2 := Nat.div_add_mod (lmN U i * 2 ^ s) (2 ^ 64)
  rw [e1] at e2
  have e3 : 2 ^ (64 * i) * (lmN U i * 2 ^ s) = 2 ^ (64 * i) * (2 ^ 64 * (lmN U i / 2 ^ (64 - s))) + 2 ^ (64 * i) * (lmN U i * 2 ^ s % 2 ^ 64) := by rw [← Nat.mul_add, e2]
  rw [e3, pow64_succ]
  rw [Nat.mul_add] at h1
  rw [Nat.mul_assoc (2 ^ (64 * i)) (2 ^ 64)]
  omega
theorem long_step (Z Z' V k q n : Nat) (hV : 0 < V) (hVn : V < 2 ^ (64 * n)) (hZ : Z < V * 2 ^ (64 * (k + 1))) (hw : win Z k (n + 1) = Z / 2 ^ (64 * k)) (hq : q = Z / 2 ^ (64 * k) / V) (he : Z' + 2 ^ (64 * k) * (q * V) = Z) : Z' < V * 2 ^ (64 * k) := by
  have hp : 0 < 2 ^ (64 * k) := Nat.pow_pos (by omega)
  have h1 := Nat.div_add_mod (Z / 2 ^ (64 * k)) V
  have h2 := Nat.mod_lt (Z / 2 ^ (64 * k)) hV
  have h3 := Nat.div_add_mod Z (2 ^ (64 * k))
  have h4 := Nat.mod_lt Z hp
  rw [← hq] at h1
  have h5 : Z / 2 ^ (64 * k) + 1 ≤ V * q + V := by omega
  have h6 := Nat.mul_le_mul_left (2 ^ (64 * k)) h5
  rw [Nat.mul_add, Nat.mul_add, Nat.mul_one, Nat.mul_comm V q] at h6
  rw [Nat.mul_comm V]
  omega
theorem long_win (Z V k n : Nat) (hVn : V < 2 ^ (64 * n)) (hZ : Z < V * 2 ^ (64 * (k + 1))) : win Z k (n + 1) = Z / 2 ^ (64 * k) ∧ win Z k (n + 1) < V * 2 ^ 64 := by
  have hp : 0 < 2 ^ (64 * k) := Nat.pow_pos (by omega)
  have h1 : Z / 2 ^ (64 * k) < V * 2 ^ 64 := by
    rw [Nat.div_lt_iff_lt_mul hp, Nat.mul_assoc, Nat.mul_comm (2 ^ 64), ← pow64_succ]; exact hZ
  have h2 : V * 2 ^ 64 ≤ 2 ^ (64 * (n + 1)) := by rw [pow64_succ]; exact Nat.mul_le_mul_right _ (Nat.le_of_lt hVn)
  have h3 : win Z k (n + 1) = Z / 2 ^ (64 * k) := Nat.mod_eq_of_lt (Nat.lt_of_lt_of_le h1 h2)
  exact ⟨h3, by rw [h3]; exact h1⟩
theorem setL_below (Q k v : Nat) (h : Q % 2 ^ (64 * (k + 1)) = 0) : setL Q k v = Q + 2 ^ (64 * k) * v ∧ (Q + 2 ^ (64 * k) * v) % 2 ^ (64 * k) = 0 := by
  have h0 : lmN Q k = 0 := by
    have := low_succ Q k
    rw [h] at this
    have hp : 0 < 2 ^ (64 * k) := Nat.pow_pos (by omega)
    rcases Nat.eq_zero_or_pos (lmN Q k) with h1 | h1
    · exact h1
    · have : 0 < 2 ^ (64 * k) * lmN Q k := Nat.mul_pos hp h1
      omega
  have h1 := setL_eq Q k v
  rw [h0, Nat.mul_zero, Nat.add_zero] at h1
  refine ⟨h1, ?_⟩
  rw [Nat.add_mul_mod_self_left]
  have h2 := low_succ Q k
  rw [h, h0, Nat.mul_zero, Nat.add_zero] at h2
  exact h2.symm
theorem top_limb (d : Nat) (h : 2 ^ 64 ≤ d) (h2 : d < 2 ^ 256) : ∃ m, m ≤ 2 ∧ (bl d + 63) / 64 = m + 2 ∧ d < 2 ^ (64 * (m + 2)) ∧ 0 < lmN d (m + 1) ∧ 64 * (m + 1) + bl (lmN d (m + 1)) = bl d := by
  have hs := bl_spec d (by have : 0 < 2 ^ 64 := by decide
                           omega)
  have hb := bl_le d 256 h2
  have h65 : 65 ≤ bl d := by
    rcases Nat.lt_or_ge (bl d) 65 with h3 | h3
    · have : 2 ^ bl d ≤ 2 ^ 64 := Nat.pow_le_pow_right (by omega) (by omega)
      omega
    · exact h3
  obtain ⟨m, hm⟩ : ∃ m, (bl d + 63) / 64 = m + 2 := ⟨(bl d + 63) / 64 - 2, by omega⟩
  have hd : d < 2 ^ (64 * (m + 2)) := Nat.lt_of_lt_of_le hs.2.2 (Nat.pow_le_pow_right (by omega) (by omega))
  have hn : lmN d (m + 1) ≠ 0 := by
    unfold lmN
    have hp : 0 < 2 ^ (64 * (m + 1)) := Nat.pow_pos (by omega)
    rw [show m + 2 = (m + 1) + 1 from rfl, pow64_succ, Nat.mul_comm] at hd
    rw [Nat.mod_eq_of_lt ((Nat.div_lt_iff_lt_mul hp).2 hd)]
    have : 2 ^ (64 * (m + 1)) ≤ d := Nat.le_trans (Nat.pow_le_pow_right (by omega) (by omega)) hs.2.1
    have := Nat.div_pos this hp
    omega
  exact ⟨m, by omega, hm, hd, Nat.pos_of_ne_zero hn, bl_top d (m + 1) hd hn⟩
end Go.Proofs.Ytejnnghfelpioaa
namespace Go.Proofs.Ytejnnghfelpioaa
open Go.RowKit
structure DvA (N L m d : Nat) (w wr : World) (Vv : Nat) : Prop where
  box : ArrW 25 wr N d
  res : ArrW 25 wr (N + 1) 0
  quo : ArrM 23 L wr (N + 2) 0
  dv : ArrM 23 (m + 2) wr (N + 3) Vv
  below : Below N w wr
theorem DvA.put {N L m d : Nat} {w wr : World} {Vv : Nat} (h : DvA N L m d w wr Vv) (j v : Nat) (hv : v < 2 ^ 64) : DvA N L m d w (wr.setCell ⟨N + 3, j, none⟩ (.int .u64 (v : Int))) (setL Vv j v) :=
  ⟨h.box.other (by show N ≠ N + 3; omega) _, h.res.other (by show N + 1 ≠ N + 3; omega) _, h.quo.other (by show N + 2 ≠ N + 3; omega) _, h.dv.set j v hv, h.below.setCell (p := ⟨N + 3, j, none⟩) (by show N ≤ N + 3; omega) _⟩
theorem DvA.ext {N L m d : Nat} {w wr : World} {Vv : Nat} (h : DvA N L m d w wr Vv) (hN : N ≤ w.heap.size) (y : World) : DvA N L m d w (wr.ext y) Vv :=
  ⟨h.box.ext y, h.res.ext y, h.quo.ext y, h.dv.ext y, World.ext_below_of h.below (Nat.le_trans hN h.below.size) y⟩
structure DvC (N L m d X V : Nat) (w wr : World) (Q Z : Nat) : Prop where
  box : ArrW 25 wr N d
  res : ArrW 25 wr (N + 1) 0
  quo : ArrM 23 L wr (N + 2) Q
  dv : ArrM 23 (m + 2) wr (N + 3) V
  xs : ArrM 23 (L + 1) wr X Z
  below : Below N w wr
theorem DvC.put {N L m d X V : Nat} {w wr : World} {Q Z : Nat} (h : DvC N L m d X V w wr Q Z) (hX : N + 3 < X) (j v : Nat) (hv : v < 2 ^ 64) : DvC N L m d X V w (wr.setCell ⟨X, j, none⟩ (.int .u64 (v : Int))) Q (setL Z j v) :=
  ⟨h.box.other (by show N ≠ X; omega) _, h.res.other (by show N + 1 ≠ X; omega) _, h.quo.other (by show N + 2 ≠ X; omega) _, h.dv.other (by show N + 3 ≠ X; omega) _, h.xs.set j v hv, h.below.setCell (p := ⟨X, j, none⟩) (by show N ≤ X; omega) _⟩
theorem DvC.putq {N L m d X V : Nat} {w wr : World} {Q Z : Nat} (h : DvC N L m d X V w wr Q Z) (hX : N + 3 < X) (j v : Nat) (hv : v < 2 ^ 64) : DvC N L m d X V w (wr.setCell ⟨N + 2, j, none⟩ (.int .u64 (v : Int))) (setL Q j v) Z :=
  ⟨h.box.other (by show N ≠ N + 2; omega) _, h.res.other (by show N + 1 ≠ N + 2; omega) _, h.quo.set j v hv, h.dv.other (by show N + 3 ≠ N + 2; omega) _, h.xs.other (by show X ≠ N + 2; omega) _, h.below.setCell (p := ⟨N + 2, j, none⟩) (by show N ≤ N + 2; omega) _⟩
theorem DvC.ext {N L m d X V : Nat} {w wr : World} {Q Z : Nat} (h : DvC N L m d X V w wr Q Z) (hN : N ≤ w.heap.size) (y : World) : DvC N L m d X V w (wr.ext y) Q Z :=
  ⟨h.box.ext y, h.res.ext y, h.quo.ext y, h.dv.ext y, h.xs.ext y, World.ext_below_of h.below (Nat.le_trans hN h.below.size) y⟩
theorem DvC.turn {N L m d X V : Nat} {w wr wn : World} {Q Z Z' : Nat} (h : DvC N L m d X V w wr Q Z) (hX : N + 3 < X) (hb : Below X wr wn) (hx : ArrM 23 (L + 1) wn X Z') : DvC N L m d X V w wn Q Z' :=
  ⟨h.box.below hb (by omega), h.res.below hb (by omega), h.quo.below hb (by omega), h.dv.below hb (by omega), hx, h.below.trans (hb.mono (by omega))⟩
theorem DvC.alloc {N L m d X V : Nat} {w wr : World} {Q Z : Nat} (h : DvC N L m d X V w wr Q Z) (hN : N ≤ w.heap.size) (o : Obj) : DvC N L m d X V w (wr.alloc o) Q Z :=
  ⟨h.box.alloc _, h.res.alloc _, h.quo.alloc _, h.dv.alloc _, h.xs.alloc _, h.below.alloc (Nat.le_trans hN h.below.size) _⟩
set_option maxRecDepth 100000 in
set_option maxHeartbeats 8000000 in
theorem divideN_any (L U d : Nat) (v : Value) (w : World) (hr : RdM w v L U) (hU : U < 2 ^ (64 * L)) (hL4 : 4 ≤ L) (hL9 : L ≤ 9) (hd : 2 ^ 64 ≤ d) (hd256 : d < 2 ^ 256) :
    Calls Try.prog 63 #[v, wd d] w fun e w' => ∃ gq, e = .returned (.tuple #[.slice (some ⟨gq, 0, none⟩) L L, wd (U % d)]) ∧ ArrM 23 L w' gq (U / d) ∧ w.heap.size ≤ gq ∧ Below w.heap.size w w' := by
  have hW := hid (fun v w hr => width_any 4 d v w hr hd256 (by omega))
  obtain ⟨m, hm2, hbn, hdn, htop, hbt⟩ := top_limb d hd hd256
  have hb2 := bl_le d 256 hd256
  have htl := bl_le (lmN d (m + 1)) 64 (lmN_lt _ _)
  have hLZ := hid (fun w => lz64_same (lmN d (m + 1)) (lmN_lt _ _) w)
  have hds := bl_spec d (by omega)
  obtain ⟨s, hs⟩ : ∃ s, s = 64 - bl (lmN d (m + 1)) := ⟨_, rfl⟩
  rw [← hs] at hLZ
  have htb := (bl_spec (lmN d (m + 1)) (by omega)).1
  have hs63 : s ≤ 63 := by omega
  obtain ⟨V, hV⟩ : ∃ V, V = d * 2 ^ s := ⟨_, rfl⟩
  have hps : 0 < 2 ^ s := Nat.pow_pos (by omega)
  have hV1 : V < 2 ^ (64 * (m + 2)) := by
    rw [hV, show 64 * (m + 2) = bl d + s by omega, Nat.pow_add]
    exact Nat.mul_lt_mul_of_pos_right hds.2.2 hps
  have hV0 : 2 ^ (64 * (m + 1) + 63) ≤ V := by
    rw [hV, show 64 * (m + 1) + 63 = bl d - 1 + s by omega, Nat.pow_add]
    exact Nat.mul_le_mul_right _ hds.2.1
  have hV2 : 0 < lmN V (m + 1) := by
    unfold lmN
    have hp : 0 < 2 ^ (64 * (m + 1)) := Nat.pow_pos (by omega)
    have h1 := hV1
    rw [show m + 2 = (m + 1) + 1 from rfl, pow64_succ, Nat.mul_comm] at h1
    rw [Nat.mod_eq_of_lt ((Nat.div_lt_iff_lt_mul hp).2 h1)]
    exact Nat.div_pos (Nat.le_trans (Nat.pow_le_pow_right (by omega) (by omega)) hV0) hp
  have hVpos : 0 < V := by rw [hV]; exact Nat.mul_pos (by omega) hps
  have hZ0 : U * 2 ^ s < V * 2 ^ (64 * (L - (m + 2) + 1)) := by
    have h1 : U * 2 ^ s < 2 ^ (64 * L) * 2 ^ s := Nat.mul_lt_mul_of_pos_right hU hps
    have h2 : 2 ^ (64 * L) * 2 ^ s ≤ 2 ^ (64 * L) * 2 ^ 63 := Nat.mul_le_mul_left _ (Nat.pow_le_pow_right (by omega) hs63)
    have h3 : 2 ^ (64 * (m + 1) + 63) * 2 ^ (64 * (L - (m + 2) + 1)) ≤ V * 2 ^ (64 * (L - (m + 2) + 1)) := Nat.mul_le_mul_right _ hV0
    rw [← Nat.pow_add] at h2 h3
    rw [← Nat.pow_add] at h2
    rw [show 64 * (m + 1) + 63 + 64 * (L - (m + 2) + 1) = 64 * L + 63 by omega] at h3
    rw [← Nat.pow_add] at h1
    omega
  have HU := hid (show U % 2 ^ (64 * L) = U from Nat.mod_eq_of_lt hU)
  obtain ⟨bd, hbd⟩ : ∃ b, b = bl d := ⟨_, rfl⟩
  rw [← hbd] at hW
  have hne : (((bd : Int) + 63) / 64) = (m : Int) + 2 := by omega
  have HV := hid hV
  have HV1 := hid hV1
  have HV2 := hid hV2
  have HVp := hid hVpos
  have HZ0 := hid hZ0
  have hVd : V / 2 ^ s = d := by rw [hV, Nat.mul_div_cancel _ hps]
  have HVd := hid hVd
  have hmk := mkM L (by omega)
  have hmk2 : ∀ w : World, (Instr.makeSlice 99 (.int .i64 ((m : Int) + 2)) (.int .i64 ((m : Int) + 2))).run Try.prog w = .ok (.slice (some ⟨w.heap.size, 0, none⟩) (m + 2) (m + 2)) (w.alloc (.cells (cellsM (m + 2) 0) 23)) := fun w => mkM (m + 2) (by omega) w
  have hmk3 : ∀ w : World, (Instr.makeSlice 99 (.int .i64 ((L : Int) + 1)) (.int .i64 ((L : Int) + 1))).run Try.prog w = .ok (.slice (some ⟨w.heap.size, 0, none⟩) (L + 1) (L + 1)) (w.alloc (.cells (cellsM (L + 1) 0) 23)) := fun w => mkM (L + 1) (by omega) w
  obtain ⟨a, cap, rfl, hc, hr⟩ := hr
  have HR := hid hr
  have hmne : ¬ (m : Int) + 2 = 1 := by omega
  have hml : m + 2 ≤ 4 := by omega
  clear hr hU hd hd256 hbn hdn htop hbt hb2 htl hds hs htb hV hV1 hV0 hV2 hVpos hZ0 hVd hbd hps
  unfold wd at *
  have hA0 := hid (show ArrW 25 (((w.alloc (.cells (cellsW d) 25)).alloc (.cells (cellsW 0) 25)).alloc (.cells (cellsM L 0) 23)) w.heap.size d from ((ArrW.new _ w d).alloc _).alloc _)
  have hrd := hid (show RdM ((w.alloc (.cells (cellsW d) 25)).alloc (.cells (cellsW 0) 25)) (.slice (some ⟨w.heap.size, 0, none⟩) 4 4) 4 d from ((ArrW.new _ w d).alloc _).toM.rd 4 (by omega))
  have hB0 := hid (show ArrW 25 (((w.alloc (.cells (cellsW d) 25)).alloc (.cells (cellsW 0) 25)).alloc (.cells (cellsM L 0) 23)) (w.heap.size + 1) 0 by
    have := ArrW.new 25 (w.alloc (.cells (cellsW d) 25)) 0
    rw [World.size_alloc] at this; exact this.alloc _)
  have hC0 := hid (show ArrM 23 L (((w.alloc (.cells (cellsW d) 25)).alloc (.cells (cellsW 0) 25)).alloc (.cells (cellsM L 0) 23)) (w.heap.size + 2) 0 by
    have := ArrM.new 23 L ((w.alloc (.cells (cellsW d) 25)).alloc (.cells (cellsW 0) 25)) 0
    rw [World.size_alloc, World.size_alloc] at this; exact this)
  have hb0 : Below w.heap.size w (((w.alloc (.cells (cellsW d) 25)).alloc (.cells (cellsW 0) 25)).alloc (.cells (cellsM L 0) 23)) := (((Below.refl _ _).alloc (Nat.le_refl _) _).alloc (by simp) _).alloc (by simp; omega) _
  have cd := hA0.out.cell (m + 1) (by omega)
  have ld := hA0.out.lt
  go_enter Try.func63, Try.ntmps63
  go_wp2_with (refine wpList_alloc_new rfl 25 rfl (cellsW 0) zWd ?_; simp only [Act.put, pvA, pv0, pv1, World.size_alloc])
  refine (hW.out _ _ hrd.out).mono ?_
  rintro e w1 ⟨rfl, rfl⟩
  go_wp2_with fail
  refine (hLZ.out _).mono ?_
  rintro e w1 ⟨rfl, rfl⟩
  have hbf : (((m : Int) + 2) == 1) = false := beq_eq_false_iff_ne.2 (by omega)
  simp only [hne, hbf]
  have hI0 : Hid (DvA w.heap.size L m d w ((((w.alloc (.cells (cellsW d) 25)).alloc (.cells (cellsW 0) 25)).alloc (.cells (cellsM L 0) 23)).alloc (.cells (cellsM (m + 2) 0) 23)) (V % 2 ^ (64 * 0))) := hid ⟨hA0.out.alloc _, hB0.out.alloc _, hC0.out.alloc _, by
    rw [Nat.mul_zero, Nat.pow_zero, Nat.mod_one]
    have := ArrM.new 23 (m + 2) (((w.alloc (.cells (cellsW d) 25)).alloc (.cells (cellsW 0) 25)).alloc (.cells (cellsM L 0) 23)) 0
    rw [World.size_alloc, World.size_alloc, World.size_alloc] at this; exact this, hb0.alloc hb0.size _⟩
  clear hA0 hB0 hC0 hb0 hrd cd ld hW hLZ hbf
  go_wp2_with fail
  (try simp only [World.size_alloc, show m + 2 - 1 = m + 1 from rfl])
  generalize (((w.alloc (.cells (cellsW d) 25)).alloc (.cells (cellsW 0) 25)).alloc (.cells (cellsM L 0) 23)).alloc (.cells (cellsM (m + 2) 0) 23) = w1 at hI0 ⊢
  have h64 : (64 - (s : Int)).toNat = 64 - s := by omega
  go_loopw [59] (fun iv wr => ∃ i : Nat, i ≤ m + 2 ∧ iv = .int .i64 (i : Int) ∧ Hid (DvA w.heap.size L m d w wr (V % 2 ^ (64 * i))))
    (fun iv _ => m + 2 - (intOf iv).toNat)
  case atStart => exact ⟨0, by omega, rfl, hI0⟩
  case round =>
    clear hI0
    obtain ⟨i, hi, rfl, hI⟩ := hrel
    by_cases hlt : i < m + 2
    · have cd := hI.out.box.cell i (by omega)
      have ld := hI.out.box.lt
      have cv := hI.out.dv.cell i hlt
      have fv := hI.out.dv.free i
      have lv := hI.out.dv.lt
      have gd := lmN_lt d i
      obtain ⟨u1, hu1⟩ : ∃ u, u = lmN d i * 2 ^ s % 2 ^ 64 := ⟨_, rfl⟩
      have bu1 : u1 < 2 ^ 64 := by rw [hu1]; exact Nat.mod_lt _ (by decide)
      have E1 : IntKind.u64.wrap (lm d i * 2 ^ s) = (u1 : Int) := by
        unfold lm
        rw [hu1, show ((lmN d i : Nat) : Int) * 2 ^ s = ((lmN d i * 2 ^ s : Nat) : Int) by rw [Int.natCast_mul, Int.natCast_pow]; rfl, u64w_nat]
      rcases Nat.eq_zero_or_pos i with h0 | h0
      · subst h0
        have HS := hid (show V % 2 ^ (64 * (0 + 1)) = setL (V % 2 ^ (64 * 0)) 0 u1 by
          rw [low_succ, setL_top _ _ _ (low_lt V 0), HV.out, shl_limb0, hu1])
        clear hu1
        go_wp2_with fail
        go_roundw
        case rel => exact ⟨1, by omega, by go_num, hid (by rw [show (1 : Nat) = 0 + 1 from rfl, HS.out]; exact hI.out.put 0 u1 bu1)⟩
        case measure => simp [intOf]
      · obtain ⟨j, rfl⟩ : ∃ j, i = j + 1 := ⟨i - 1, by omega⟩
        have cd2 := hI.out.box.cell j (by omega)
        have hv2 : lmN V (j + 1) = u1 ||| lmN d j / 2 ^ (64 - s) := by rw [HV.out, shl_limb d s j (by omega), hu1]
        have HVal := hid (show bits .or .u64 (u1 : Int) (lm d j / 2 ^ (64 - s)) = ((lmN V (j + 1) : Nat) : Int) by
          rw [hv2, ← u64_or_nat _ _ bu1 (Nat.lt_of_le_of_lt (Nat.div_le_self _ _) (lmN_lt d j)), Int.natCast_ediv, Int.natCast_pow]; rfl)
        have HS := hid (show V % 2 ^ (64 * (j + 1 + 1)) = setL (setL (V % 2 ^ (64 * (j + 1))) (j + 1) u1) (j + 1) (lmN V (j + 1)) by
          rw [low_succ, setL_twice _ _ _ _ (low_lt V (j + 1)) bu1])
        have hI1 := hid (hI.out.put (j + 1) u1 bu1)
        clear hu1 hv2
        go_wp2_with fail
        clear cd cd2 ld cv fv lv hI
        generalize wr.setCell ⟨w.heap.size + 3, j + 1, none⟩ (.int .u64 (u1 : Int)) = wr at hI1 ⊢
        have cd2 := hI1.out.box.cell j (by omega)
        have ld := hI1.out.box.lt
        have cv := hI1.out.dv.cell (j + 1) hlt
        rw [lmN_setL _ _ _ _ bu1, if_pos rfl] at cv
        have fv := hI1.out.dv.free (j + 1)
        have lv := hI1.out.dv.lt
        (refine wp_region_ext_tail 13 (by kernel_rfl) (by kernel_rfl) ?_; simp only [List.take_succ_cons, List.take_zero, List.drop_succ_cons, List.drop_zero]; (repeat (go_big_quiet_step (first | fail))); refine wpQuiet_nil ?_; rintro _ ⟨xw, rfl⟩)
        go_wp2_with fail
        go_roundw
        case rel =>
          rw [HVal.out]
          exact ⟨j + 1 + 1, by omega, by go_num, hid (by rw [HS.out]; exact (hI1.out.ext (Nat.le_refl _) xw).put (j + 1) _ (lmN_lt _ _))⟩
        case measure => simp [intOf]; omega
    · obtain rfl : i = m + 2 := by omega
      rw [Nat.mod_eq_of_lt HV1.out] at hI
      have hXn := hI.out.dv.lt
      obtain ⟨X, hX⟩ : ∃ X, X = wr.heap.size := ⟨_, rfl⟩
      have hXA : Hid (ArrM 23 (L + 1) (wr.alloc (.cells (cellsM (L + 1) 0) 23)) X (U % 2 ^ (64 * 0) * 2 ^ s)) := hid (by
        rw [Nat.mul_zero, Nat.pow_zero, Nat.mod_one, Nat.zero_mul, hX]; exact ArrM.new _ _ _ _)
      have hI2 : Hid (DvA w.heap.size L m d w (wr.alloc (.cells (cellsM (L + 1) 0) 23)) V) := hid ⟨hI.out.box.alloc _, hI.out.res.alloc _, hI.out.quo.alloc _, hI.out.dv.alloc _, hI.out.below.alloc hI.out.below.size _⟩
      clear hI hlt hi
      go_wp2_with fail
      (try simp only [← hX])
      generalize wr.alloc (.cells (cellsM (L + 1) 0) 23) = w2 at hXA hI2 ⊢
      rw [← hX] at hXn
      clear hX
      have hJ : Hid (DvC w.heap.size L m d X V w w2 0 (U % 2 ^ (64 * 0) * 2 ^ s)) := hid ⟨hI2.out.box, hI2.out.res, hI2.out.quo, hI2.out.dv, hXA.out, hI2.out.below⟩
      clear hXA hI2
      go_loopw [92] (fun iv wr => ∃ i : Nat, i ≤ L ∧ iv = .int .i64 (i : Int) ∧ Hid (DvC w.heap.size L m d X V w wr 0 (U % 2 ^ (64 * i) * 2 ^ s)))
        (fun iv _ => L - (intOf iv).toNat)
      case atStart => exact ⟨0, by omega, rfl, hJ⟩
      case round =>
        clear hJ
        obtain ⟨i, hi, rfl, hJ⟩ := hrel
        by_cases hlt : i < L
        · obtain ⟨b, off, rfl, hbl, hcell⟩ := HR.out (by omega)
          obtain ⟨t1, t2, t3⟩ := lift_step U s i (by omega)
          have cx := hJ.out.xs.cell i (by omega)
          have fx := hJ.out.xs.free i
          have lx := hJ.out.xs.lt
          have cu := (hJ.out.below.cell (p := ⟨b, off + i, none⟩) hbl).trans (hcell i hlt)
          have lu : b < wr.heap.size := Nat.lt_of_lt_of_le hbl hJ.out.below.size
          have gu := lmN_lt U i
          obtain ⟨c, hc2⟩ : ∃ c, c = lmN (U % 2 ^ (64 * i) * 2 ^ s) i := ⟨_, rfl⟩
          rw [← hc2] at t1 t2 t3 cx
          have hcs : c < 2 ^ 64 := Nat.lt_trans t1 (Nat.lt_of_le_of_lt (Nat.pow_le_pow_right (by omega) hs63) (by decide))
          obtain ⟨y, hy⟩ : ∃ y, y = c + lmN U i * 2 ^ s % 2 ^ 64 := ⟨_, rfl⟩
          have HVal := hid (show bits .or .u64 (c : Int) (IntKind.u64.wrap (((lmN U i : Nat) : Int) * 2 ^ s)) = (y : Int) by
            rw [show ((lmN U i : Nat) : Int) * 2 ^ s = ((lmN U i * 2 ^ s : Nat) : Int) by rw [Int.natCast_mul, Int.natCast_pow]; rfl, u64w_nat, show (18446744073709551616 : Nat) = 2 ^ 64 from by decide]
            rw [u64_or_nat _ _ hcs (Nat.mod_lt _ (by decide)), or_shl c _ s (by omega) t1, hy])
          rw [← hy] at t2 t3
          have HT3 := hid t3
          obtain ⟨z, hz⟩ : ∃ z, z = lmN U i / 2 ^ (64 - s) := ⟨_, rfl⟩
          have hz2 : z < 2 ^ 64 := by rw [hz]; exact Nat.lt_of_le_of_lt (Nat.div_le_self _ _) gu
          have HZv := hid (show (((lmN U i : Nat) : Int)) / 2 ^ (64 - s) = (z : Int) by rw [hz, Int.natCast_ediv, Int.natCast_pow]; rfl)
          rw [← hz] at HT3
          clear hc2 hy hz t3 hcell t1
          go_wp2_with fail
          (refine wp_region_ext_tail 12 (by kernel_rfl) (by kernel_rfl) ?_; simp only [List.take_succ_cons, List.take_zero, List.drop_succ_cons, List.drop_zero]; (repeat (go_big_quiet_step (first | fail))); refine wpQuiet_nil ?_; rintro _ ⟨xw, rfl⟩)
          have hJ1 := hid ((hJ.out.ext (Nat.le_refl _) xw).put hXn i y t2)
          have cx1 := hJ.out.xs.cell (i + 1) (by omega)
          have fx1 := hJ.out.xs.free (i + 1)
          have hbX : ¬ b = X := by omega
          have hbX' : ¬ X = b := by omega
          go_wp2_with fail
          rw [HVal.out]
          rw [HZv.out]
          go_roundw
          case rel => exact ⟨i + 1, by omega, by go_num, hid (by rw [← HT3.out]; exact hJ1.out.put hXn (i + 1) z hz2)⟩
          case measure => simp [intOf]; omega
        · obtain rfl : L = i := by omega
          rw [HU.out] at hJ
          clear hlt hi
          have hge : ¬ ((L : Int) - ((m : Int) + 2) < 0) := by omega
          go_wp2_with fail
          go_loopw [15] (fun kv wr => ∃ k Q Z : Nat, k ≤ L - (m + 2) + 1 ∧ kv = .int .i64 ((k : Int) - 1) ∧ Hid (Z < V * 2 ^ (64 * k) ∧ Z + V * Q = U * 2 ^ s ∧ Q % 2 ^ (64 * k) = 0) ∧ Hid (DvC w.heap.size L m d X V w wr Q Z))
            (fun kv _ => (intOf kv + 1).toNat)
          case atStart => exact ⟨L - (m + 2) + 1, 0, U * 2 ^ s, Nat.le_refl _, by go_num, hid ⟨HZ0.out, by rw [Nat.mul_zero, Nat.add_zero], Nat.zero_mod _⟩, hJ⟩
          case round =>
            clear hJ
            obtain ⟨k, Q, Z, hk, rfl, hQ, hJ⟩ := hrel
            by_cases h0 : k = 0
            · subst h0
              have hZV : Z < V := by have := hQ.out.1; rw [Nat.mul_zero, Nat.pow_zero, Nat.mul_one] at this; exact this
              have hdiv : U * 2 ^ s / V = Q := by
                rw [← hQ.out.2.1, Nat.add_mul_div_left _ _ HVp.out, Nat.div_eq_of_lt hZV, Nat.zero_add]
              have hmod : U * 2 ^ s % V = Z := by
                rw [← hQ.out.2.1, Nat.add_mul_mod_self_left, Nat.mod_eq_of_lt hZV]
              have hsh := div_shift U d s
              rw [← HV.out, hdiv, hmod] at hsh
              have HQd := hid hsh.1.symm
              have HRd := hid hsh.2.symm
              have HZl := hid (show Z / 2 ^ s % 2 ^ (64 * (m + 2)) = Z / 2 ^ s from Nat.mod_eq_of_lt (Nat.lt_of_le_of_lt (Nat.div_le_self _ _) (Nat.lt_trans hZV HV1.out)))
              have hRs := hid hJ.out.below.size
              have hJ1 := hid (hJ.out.alloc (Nat.le_refl _) (.cells (cellsW 0) 25))
              have hR1 := hid (ArrW.new 25 wr 0)
              have hXR := hJ.out.xs.lt
              have hqR := hJ.out.quo.lt
              clear hQ hZV hdiv hmod hsh hJ hk
              go_wp2_with (refine wpList_alloc_new rfl 25 rfl (cellsW 0) zWd ?_; simp only [Act.put, pvA, pv0, pv1, World.size_alloc])
              generalize ((0 : Nat) : Int) - 1 = mone
              obtain ⟨R, hR⟩ : ∃ R, R = wr.heap.size := ⟨_, rfl⟩
              have hK : Hid (DvC w.heap.size L m d X V w (wr.alloc (.cells (cellsW 0) 25)) Q Z ∧ ArrM 25 4 (wr.alloc (.cells (cellsW 0) 25)) R (Z / 2 ^ s % 2 ^ (64 * 0))) := hid ⟨hJ1.out, by
                rw [Nat.mul_zero, Nat.pow_zero, Nat.mod_one, hR]; exact hR1.out.toM⟩
              rw [← hR] at hXR ⊢
              generalize wr.alloc (.cells (cellsW 0) 25) = w6 at hK ⊢
              clear hJ1 hR1 hR hRs hqR
              go_loopw [140] (fun iv wr => ∃ i : Nat, i ≤ m + 2 ∧ iv = .int .i64 (i : Int) ∧ Hid (DvC w.heap.size L m d X V w wr Q Z ∧ ArrM 25 4 wr R (Z / 2 ^ s % 2 ^ (64 * i))))
                (fun iv _ => m + 2 - (intOf iv).toNat)
              case atStart => exact ⟨0, by omega, rfl, hK⟩
              case round =>
                clear hK
                obtain ⟨i, hi, rfl, hK⟩ := hrel
                by_cases hlt : i < m + 2
                · have cx := hK.out.1.xs.cell i (by omega)
                  have cx1 := hK.out.1.xs.cell (i + 1) (by omega)
                  have lx := hK.out.1.xs.lt
                  have cr := hK.out.2.cell i (by omega)
                  have fr := hK.out.2.free i
                  have lr := hK.out.2.lt
                  have gx := lmN_lt Z i
                  have gx1 := lmN_lt Z (i + 1)
                  have HVal := hid (show bits .or .u64 (((lmN Z i : Nat) : Int) / 2 ^ s) (IntKind.u64.wrap (((lmN Z (i + 1) : Nat) : Int) * 2 ^ (64 - s))) = ((lmN (Z / 2 ^ s) i : Nat) : Int) by
                    rw [shr_limb Z s i (by omega), show ((lmN Z i : Nat) : Int) / 2 ^ s = ((lmN Z i / 2 ^ s : Nat) : Int) by rw [Int.natCast_ediv, Int.natCast_pow]; rfl]
                    rw [show ((lmN Z (i + 1) : Nat) : Int) * 2 ^ (64 - s) = ((lmN Z (i + 1) * 2 ^ (64 - s) : Nat) : Int) by rw [Int.natCast_mul, Int.natCast_pow]; rfl, u64w_nat, show (18446744073709551616 : Nat) = 2 ^ 64 from by decide]
                    rw [u64_or_nat _ _ (Nat.lt_of_le_of_lt (Nat.div_le_self _ _) gx) (Nat.mod_lt _ (by decide))])
                  have HS := hid (show Z / 2 ^ s % 2 ^ (64 * (i + 1)) = setL (Z / 2 ^ s % 2 ^ (64 * i)) i (lmN (Z / 2 ^ s) i) by
                    rw [low_succ, setL_top _ _ _ (low_lt _ i)])
                  go_wp2_with fail
                  (refine wp_region_ext_tail 17 (by kernel_rfl) (by kernel_rfl) ?_; simp only [List.take_succ_cons, List.take_zero, List.drop_succ_cons, List.drop_zero]; (repeat (go_big_quiet_step (first | fail))); refine wpQuiet_nil ?_; rintro _ ⟨xw, rfl⟩)
                  go_wp2_with fail
                  go_roundw
                  case rel =>
                    rw [HVal.out]
                    refine ⟨i + 1, by omega, by go_num, hid ⟨?_, by rw [HS.out]; exact (hK.out.2.ext xw).set i _ (lmN_lt _ _)⟩⟩
                    have hE := hK.out.1.ext (Nat.le_refl _) xw
                    exact ⟨hE.box.other (by show w.heap.size ≠ R; omega) _, hE.res.other (by show w.heap.size + 1 ≠ R; omega) _, hE.quo.other (by show w.heap.size + 2 ≠ R; omega) _, hE.dv.other (by show w.heap.size + 3 ≠ R; omega) _, hE.xs.other (by show X ≠ R; omega) _, hE.below.setCell (p := ⟨R, i, none⟩) (by show w.heap.size ≤ R; omega) _⟩
                  case measure => simp [intOf]; omega
                · obtain rfl : i = m + 2 := by omega
                  rw [HZl.out, ← HRd.out, ← HQd.out] at hK
                  obtain ⟨r, hr⟩ : ∃ r, r = U % d := ⟨_, rfl⟩
                  rw [← hr] at hK
                  have HRR := hid hr
                  have hRw := hid hK.out.2.toW
                  have hres := hid hK.out.1.res
                  have hquo := hid hK.out.1.quo
                  have hbel := hK.out.1.below
                  have iR := hid (iW r)
                  have nR := hid (one_cellsW r)
                  clear hr hK hlt hi
                  go_wp2_with fail
                  ((try simp only [World.size_alloc]); refine wp_region_ext_tail 3 (by kernel_rfl) (by kernel_rfl) ?_; simp only [List.take_succ_cons, List.take_zero, List.drop_succ_cons, List.drop_zero]; (repeat (first | (refine wpQuiet_load_part rfl 25 (.tmp 16) rfl R 0 rfl 25 _ (cellsW _) (0, 0) _ hRw.out (fun j v h => by rw [Nat.zero_add]; exact h) uWd rfl iR.out ?_; simp only [Act.put, pvA, pv0, pv1]) | go_big_quiet_step (first | fail))); refine wpQuiet_nil ?_; rintro _ ⟨xw, rfl⟩)
                  have hres2 := hid (hres.out.ext xw)
                  have hquo2 := hid (hquo.out.ext xw)
                  have hbel2 := World.ext_below_of hbel hbel.size xw
                  clear hres hquo hbel
                  go_wp2_with (refine wpList_store_row rfl 25 (.tmp 5) (.tmp 162) rfl (w.heap.size + 1) _ rfl rfl 25 _ hres2.out iR.out rfl nR.out ?_; simp only [Act.put])
                  refine bodyPost_ret (results_tmp_row rfl _ _ (w.heap.size + 1) 25 (cellsW r) (0, 0) _ rfl (heap_setRow' _ _ _ _ _ hres2.out) uWd rfl iR.out) rfl ⟨w.heap.size + 2, by rw [HRR.out]; rfl, ?_, by omega, below_setRow' hbel2 _ (by omega) _⟩
                  have h9 := hquo2.out
                  unfold ArrM at *
                  simp only [World.setRow, Array.getElem?_modify]
                  rw [if_neg (by omega)]; exact h9
            · obtain ⟨j, rfl⟩ : ∃ j, k = j + 1 := ⟨k - 1, by omega⟩
              have e1 : (((j + 1 : Nat) : Int) - 1) = (j : Int) := by omega
              rw [e1]
              obtain ⟨w1', w2'⟩ := long_win Z V j (m + 2) HV1.out hQ.out.1
              have hSt := hid (step_any X j (L + 1) Z (w.heap.size + 3) m V (L + 1 - j) wr hJ.out.xs hJ.out.dv hXn (by omega) (by omega) (by omega) (by omega) HV1.out HV2.out w2')
              obtain ⟨q, hq⟩ : ∃ q, q = win Z j (m + 3) / V := ⟨_, rfl⟩
              rw [← hq] at hSt
              have hq64 : q < 2 ^ 64 := by rw [hq, Nat.div_lt_iff_lt_mul HVp.out, Nat.mul_comm]; exact w2'
              have hqe := hid (show q = Z / 2 ^ (64 * j) / V by rw [hq, ← w1'])
              have hW1 := hid w1'
              have cq := hJ.out.quo.cell j (by omega)
              clear e1 h0 hq w1' w2'
              go_wp2_with fail
              rw [show j + (m + 2) + 1 - j = m + 3 by omega]
              refine hSt.out.mono ?_
              rintro e w5 ⟨Z', rfl, hx5, he5, hb5⟩
              have hJ5 := hid (hJ.out.turn hXn hb5 hx5)
              have cq5 := hJ5.out.quo.cell j (by omega)
              have fq5 := hJ5.out.quo.free j
              have lq5 := hJ5.out.quo.lt
              have hnew := setL_below Q j q hQ.out.2.2
              have HN1 := hid hnew.1
              have HN2 := hid (And.intro (long_step Z Z' V j q (m + 2) HVp.out HV1.out hQ.out.1 hW1.out hqe.out he5) (And.intro (show Z' + V * (Q + 2 ^ (64 * j) * q) = U * 2 ^ s by
                have h1 := hQ.out.2.1
                rw [← he5] at h1
                rw [Nat.mul_add, Nat.mul_left_comm V, Nat.mul_comm V q]
                omega) hnew.2))
              clear hJ hb5 hx5 he5 hSt hnew cq
              go_wp2_with fail
              go_roundw
              case rel => exact ⟨j, Q + 2 ^ (64 * j) * q, Z', by omega, by go_num, HN2, hid (by rw [← HN1.out]; exact hJ5.out.putq hXn j q hq64)⟩
              case measure => simp [intOf]
end Go.Proofs.Ytejnnghfelpioaa
namespace Go.Proofs.Ytejnnghfelpioaa
open Go.RowKit
theorem divide_any (n U d : Nat) (v : Value) (w : World) (hr : RdM w v n U) (hU : U < 2 ^ (64 * n)) (hn4 : 4 ≤ n) (hn : n ≤ 9) (hd : 0 < d) (hd2 : d < 2 ^ 256) :
    Calls Try.prog 63 #[v, wd d] w fun e w' => ∃ gq, e = .returned (.tuple #[.slice (some ⟨gq, 0, none⟩) n n, wd (U % d)]) ∧ ArrM 23 n w' gq (U / d) ∧ w.heap.size ≤ gq ∧ Below w.heap.size w w' := by
  by_cases h : d < 2 ^ 64
  · exact divide1_any n U d v w hr hU hn hd h
  · exact divideN_any n U d v w hr hU hn4 hn (by omega) hd2
set_option maxHeartbeats 2000000 in
theorem wmulmod_any (a b d : Nat) (w : World) (ha : a < 2 ^ 256) (hb : b < 2 ^ 256) (hd256 : d < 2 ^ 256) : Calls Try.prog 53 #[wd a, wd b, wd d] w fun e w' => e = .returned (wd (modW (a * b) d)) ∧ Below w.heap.size w w' := by
  have hZ := hid (fun w => wzero_any d hd256 w)
  have iA := hid (iW a)
  have iB := hid (iW b)
  have iD := hid (iW d)
  have nD := hid (one_cellsW d)
  by_cases h0 : d = 0
  · have HY := hid (show modW (a * b) d = d by unfold modW; rw [if_pos h0, h0])
    rw [decide_eq_true h0] at hZ
    rw [HY.out]
    clear h0 HY ha hb hd256
    unfold wd at *
    have hA0 := hid (show ArrW 25 ((((w.alloc (.cells (cellsW a) 25)).alloc (.cells (cellsW b) 25)).alloc (.cells (cellsW d) 25)).alloc (.cells (cellsW 0) 25)) w.heap.size a from (((ArrW.new _ w a).alloc _).alloc _).alloc _)
    have hB0 := hid (show ArrW 25 ((((w.alloc (.cells (cellsW a) 25)).alloc (.cells (cellsW b) 25)).alloc (.cells (cellsW d) 25)).alloc (.cells (cellsW 0) 25)) (w.heap.size + 1) b by
      have := ArrW.new 25 (w.alloc (.cells (cellsW a) 25)) b
      rw [World.size_alloc] at this; exact (this.alloc _).alloc _)
    have hC0 := hid (show ArrW 25 ((((w.alloc (.cells (cellsW a) 25)).alloc (.cells (cellsW b) 25)).alloc (.cells (cellsW d) 25)).alloc (.cells (cellsW 0) 25)) (w.heap.size + 2) d by
      have := ArrW.new 25 ((w.alloc (.cells (cellsW a) 25)).alloc (.cells (cellsW b) 25)) d
      rw [World.size_alloc, World.size_alloc] at this; exact this.alloc _)
    have hD0 := hid (show ArrW 25 ((((w.alloc (.cells (cellsW a) 25)).alloc (.cells (cellsW b) 25)).alloc (.cells (cellsW d) 25)).alloc (.cells (cellsW 0) 25)) (w.heap.size + 3) 0 by
      have := ArrW.new 25 (((w.alloc (.cells (cellsW a) 25)).alloc (.cells (cellsW b) 25)).alloc (.cells (cellsW d) 25)) 0
      rw [World.size_alloc, World.size_alloc, World.size_alloc] at this; exact this)
    have hb0 : Below w.heap.size w ((((w.alloc (.cells (cellsW a) 25)).alloc (.cells (cellsW b) 25)).alloc (.cells (cellsW d) 25)).alloc (.cells (cellsW 0) 25)) := ((((Below.refl _ _).alloc (Nat.le_refl _) _).alloc (by simp) _).alloc (by simp; omega) _).alloc (by simp; omega) _
    go_enter Try.func53, Try.ntmps53
    go_wp2_with (first | (refine wpList_alloc_new rfl 25 rfl (cellsW 0) zWd ?_; simp only [Act.put, pvA, pv0, pv1, World.size_alloc]) | (refine wpList_load_row rfl 25 (.tmp 5) rfl (w.heap.size + 2) rfl 25 _ (0, 0) _ hC0.out uWd rfl iD.out ?_; simp only [Act.put, pvA, pv0, pv1]))
    refine (hZ.out _).mono ?_
    rintro e w1 ⟨rfl, hb1⟩
    have hC1 := hid (hC0.out.below hb1 hC0.out.lt)
    have hD1 := hid (hD0.out.below hb1 hD0.out.lt)
    have hb2 := hb0.trans (hb1.mono hb0.size)
    clear hA0 hB0 hC0 hD0 hb0 hb1
    go_wp2_with (first | (refine wpList_load_row rfl 25 (.tmp 5) rfl (w.heap.size + 2) rfl 25 _ (0, 0) _ hC1.out uWd rfl iD.out ?_; simp only [Act.put, pvA, pv0, pv1]) | (refine wpList_store_row rfl 25 (.tmp 6) (.tmp 12) rfl (w.heap.size + 3) _ rfl rfl 25 _ hD1.out iD.out rfl nD.out ?_; simp only [Act.put]))
    refine bodyPost_ret (results_cell_row rfl _ _ (w.heap.size + 3) 25 (cellsW d) (0, 0) _ rfl (heap_setRow' _ _ _ _ _ hD1.out) uWd rfl iD.out) rfl ⟨rfl, below_setRow' hb2 _ (by omega) _⟩
  · have HY := hid (show modW (a * b) d = a * b % d by unfold modW; rw [if_neg h0])
    rw [decide_eq_false h0] at hZ
    rw [HY.out]
    have hF := hid (fun w => wfull_any a b w ha hb)
    have hab : a * b < 2 ^ (64 * 8) := by
      have := Nat.mul_lt_mul'' ha hb
      rw [← Nat.pow_add, show 256 + 256 = 64 * 8 from rfl] at this; exact this
    have hDv := hid (fun v w hr => divide_any 8 (a * b) d v w hr hab (by omega) (by omega) (Nat.pos_of_ne_zero h0) hd256)
    obtain ⟨s, hs⟩ : ∃ s, s = a * b := ⟨_, rfl⟩
    obtain ⟨r, hr⟩ : ∃ r, r = s % d := ⟨_, rfl⟩
    rw [← hs] at hF hDv ⊢
    rw [← hr] at hDv ⊢
    clear ha hb h0 HY hd256 hab hs hr
    unfold wd at *
    have iR := hid (iW r)
    have nR := hid (one_cellsW r)
    have iP := hid (iM8 s)
    have nP := hid (one_cellsM 8 s)
    have hA0 := hid (show ArrW 25 ((((w.alloc (.cells (cellsW a) 25)).alloc (.cells (cellsW b) 25)).alloc (.cells (cellsW d) 25)).alloc (.cells (cellsW 0) 25)) w.heap.size a from (((ArrW.new _ w a).alloc _).alloc _).alloc _)
    have hB0 := hid (show ArrW 25 ((((w.alloc (.cells (cellsW a) 25)).alloc (.cells (cellsW b) 25)).alloc (.cells (cellsW d) 25)).alloc (.cells (cellsW 0) 25)) (w.heap.size + 1) b by
      have := ArrW.new 25 (w.alloc (.cells (cellsW a) 25)) b
      rw [World.size_alloc] at this; exact (this.alloc _).alloc _)
    have hC0 := hid (show ArrW 25 ((((w.alloc (.cells (cellsW a) 25)).alloc (.cells (cellsW b) 25)).alloc (.cells (cellsW d) 25)).alloc (.cells (cellsW 0) 25)) (w.heap.size + 2) d by
      have := ArrW.new 25 ((w.alloc (.cells (cellsW a) 25)).alloc (.cells (cellsW b) 25)) d
      rw [World.size_alloc, World.size_alloc] at this; exact this.alloc _)
    have hD0 := hid (show ArrW 25 ((((w.alloc (.cells (cellsW a) 25)).alloc (.cells (cellsW b) 25)).alloc (.cells (cellsW d) 25)).alloc (.cells (cellsW 0) 25)) (w.heap.size + 3) 0 by
      have := ArrW.new 25 (((w.alloc (.cells (cellsW a) 25)).alloc (.cells (cellsW b) 25)).alloc (.cells (cellsW d) 25)) 0
      rw [World.size_alloc, World.size_alloc, World.size_alloc] at this; exact this)
    have hb0 : Below w.heap.size w ((((w.alloc (.cells (cellsW a) 25)).alloc (.cells (cellsW b) 25)).alloc (.cells (cellsW d) 25)).alloc (.cells (cellsW 0) 25)) := ((((Below.refl _ _).alloc (Nat.le_refl _) _).alloc (by simp) _).alloc (by simp; omega) _).alloc (by simp; omega) _
    go_enter Try.func53, Try.ntmps53
    go_wp2_with (first | (refine wpList_alloc_new rfl 25 rfl (cellsW 0) zWd ?_; simp only [Act.put, pvA, pv0, pv1, World.size_alloc]) | (refine wpList_load_row rfl 25 (.tmp 5) rfl (w.heap.size + 2) rfl 25 _ (0, 0) _ hC0.out uWd rfl iD.out ?_; simp only [Act.put, pvA, pv0, pv1]))
    refine (hZ.out _).mono ?_
    rintro e w1 ⟨rfl, hb1⟩
    have hA1 := hid (hA0.out.below hb1 hA0.out.lt)
    have hB1 := hid (hB0.out.below hb1 hB0.out.lt)
    have hC1 := hid (hC0.out.below hb1 hC0.out.lt)
    have hD1 := hid (hD0.out.below hb1 hD0.out.lt)
    have hb2 := hb0.trans (hb1.mono hb0.size)
    clear hA0 hB0 hC0 hD0 hb0 hb1
    go_wp2_with (first | (refine wpList_load_row rfl 25 (.tmp 3) rfl w.heap.size rfl 25 _ (0, 0) _ hA1.out uWd rfl iA.out ?_; simp only [Act.put, pvA, pv0, pv1]) | (refine wpList_load_row rfl 25 (.tmp 4) rfl (w.heap.size + 1) rfl 25 _ (0, 0) _ hB1.out uWd rfl iB.out ?_; simp only [Act.put, pvA, pv0, pv1]))
    refine (hF.out _).mono ?_
    rintro e w2 ⟨rfl, hb3⟩
    have hC2 := hid ((hC1.out.below hb3 hC1.out.lt).alloc (.cells (cellsM 8 s) 102))
    have hD2 := hid ((hD1.out.below hb3 hD1.out.lt).alloc (.cells (cellsM 8 s) 102))
    have hP2 := hid (ArrM.new 102 8 w2 s)
    have hb4 := hb2.trans (hb3.mono hb2.size)
    have hb5 := hb4.alloc hb4.size (.cells (cellsM 8 s) 102)
    have hsz : w.heap.size + 4 ≤ w2.heap.size := by have h1 := (hD1.out.below hb3 hD1.out.lt).lt; omega
    clear hA1 hB1 hC1 hD1 hb2 hb3
    go_wp2_with (first | (refine wpList_allocStore 102 15 7 (cellsM 8 s) (cellsM 8 0) rfl rfl rfl rfl rfl rfl (by decide) (by simp) rfl (by kernel_rfl) (by rw [size_cellsM, size_cellsM]) iP.out nP.out ?_; simp only [Act.put, pvA, pv0, pv1]))
    have hrd := hid (hP2.out.rd 8 (by omega))
    generalize hw3 : w2.alloc (.cells (cellsM 8 s) 102) = w3 at hC2 hD2 hP2 hb5 hrd ⊢
    have hsz3 : w2.heap.size ≤ w3.heap.size := by rw [← hw3]; simp
    refine wp_region_loose_tail 8 [.kn (.slice (some ⟨w2.heap.size, 0, none⟩) 8 8), .kn (.agg (cellsW (d))), .lo (fun v _ => ∃ q, v = .tuple #[q, .agg (cellsW r)]), .lo (fun v _ => ∃ q, v = .tuple #[q, .agg (cellsW r)]), .lo (fun _ _ => True), .kn (.agg (cellsW (r))), .lo (fun v w => ∃ b, v = .pointer (some ⟨b, 0, none⟩) ∧ ArrW 25 w b 0 ∧ w2.heap.size ≤ b), .lo (fun _ _ => True)] (by kernel_rfl) (by kernel_rfl) (by kernel_rfl) ?_ ?_
    · refine keepsAll_kn (keepsAll_kn (keepsAll_lo (fun _ _ _ h _ => h) (keepsAll_lo (fun _ _ _ h _ => h) (keepsAll_lo (fun _ _ _ h _ => h) (keepsAll_kn (keepsAll_lo ?_ (keepsAll_lo (fun _ _ _ h _ => h) trivial)))))))
      rintro v w w' ⟨b, h1, h2, h3⟩ hb
      exact ⟨b, h1, h2.below hb h2.lt, h3⟩
    simp only [List.take_succ_cons, List.take_zero, List.drop_succ_cons, List.drop_zero]
    (refine loose_step_on rfl (fun W' hB' hd K hK => ?_) ?_; (focus (clear hd; go_simp; exact hK _ _ (Below.refl _ _) rfl)); rintro _ rfl; simp only [Act.put, pvA, pv0, pv1])
    (refine loose_step_on rfl (fun W' hB' hd K hK => wp_load_block 25 (.tmp 5) rfl (w.heap.size + 2) rfl 25 _ _ (ArrW.below hC2.out hB' (ArrW.lt hC2.out)) uWd rfl iD.out (hK _ _ (Below.refl _ _) rfl)) ?_; rintro _ rfl; simp only [Act.put, pvA, pv0, pv1])
    (refine loose_step_on rfl (fun W' hB' hd K hK => ?_) ?_; (focus (clear hd; go_simp; refine (hDv.out _ _ (hrd.out.below hB')).mono ?_; rintro _ _ ⟨gq, rfl, h1, h2, h3⟩; exact hK _ _ h3 ⟨_, rfl⟩)); intro v19 _; simp only [Act.put, pvA, pv0, pv1])
    (refine loose_step_on rfl (fun W' hB' hd K hK => ?_) ?_; (focus (have g19 : ∃ q, v19 = .tuple #[q, .agg (cellsW r)] := hd ⟨2, Ground.data⟩ (by simp) rfl _ 19 rfl rfl (by simp); clear hd; go_simp; exact hK _ _ (Below.refl _ _) g19)); intro v16 _; simp only [Act.put, pvA, pv0, pv1])
    (refine loose_step_on rfl (fun W' hB' hd K hK => ?_) ?_; (focus (have g16 : ∃ q, v16 = .tuple #[q, .agg (cellsW r)] := hd ⟨3, Ground.data⟩ (by simp) rfl _ 16 rfl rfl (by simp); clear hd; obtain ⟨x1, rfl⟩ := g16; go_simp; exact hK _ _ (Below.refl _ _) trivial)); intro v20 _; simp only [Act.put, pvA, pv0, pv1])
    (refine loose_step_on rfl (fun W' hB' hd K hK => ?_) ?_; (focus (have g16 : ∃ q, v16 = .tuple #[q, .agg (cellsW r)] := hd ⟨3, Ground.data⟩ (by simp) rfl _ 16 rfl rfl (by simp); clear hd; obtain ⟨x1, rfl⟩ := g16; go_simp; exact hK _ _ (Below.refl _ _) rfl)); rintro _ rfl; simp only [Act.put, pvA, pv0, pv1])
    (refine loose_step_on rfl (fun W' hB' hd K hK => wp_alloc_new 25 rfl (cellsW 0) zWd (hK _ _ ((Below.refl _ _).alloc (Nat.le_refl _) _) ⟨_, rfl, ArrW.new _ _ _, Nat.le_trans hsz3 hB'.size⟩)) ?_; intro v9 _; simp only [Act.put, pvA, pv0, pv1])
    (refine loose_step_on rfl (fun W' hB' hd K hK => ?_) ?_; (focus (clear hd; go_simp; exact hK _ _ (Below.refl _ _) trivial)); intro v8 _; simp only [Act.put, pvA, pv0, pv1])
    intro w6 hb6 hf
    have g9 : ∃ b, v9 = .pointer (some ⟨b, 0, none⟩) ∧ ArrW 25 w6 b 0 ∧ w2.heap.size ≤ b := hf 6 _ 9 (by first | omega | simp) rfl rfl (by simp)
    clear hf
    obtain ⟨bb, rfl, hR6, hle⟩ := g9
    have hD6 := hid ((hD2.out.below hb6 hD2.out.lt).otherRow (show w.heap.size + 3 ≠ bb by omega) (cellsW r))
    have HR := hid hR6
    have HR2 := hid (hR6.row r)
    have hb7 := below_setRow' (hb5.trans (hb6.mono hb5.size)) bb (by omega) (cellsW r)
    clear hb6 hC2 hD2 hP2 hrd hR6
    go_wp2_with (first | (refine wpList_store_row rfl 25 (.tmp 9) (.tmp 21) rfl bb _ rfl rfl 25 _ HR.out iR.out rfl nR.out ?_; simp only [Act.put]) | (refine wpList_load_row rfl 25 (.tmp 9) rfl bb rfl 25 _ (0, 0) _ HR2.out uWd rfl iR.out ?_; simp only [Act.put, pvA, pv0, pv1]) | (refine wpList_store_row rfl 25 (.tmp 6) (.tmp 22) rfl (w.heap.size + 3) _ rfl rfl 25 _ hD6.out iR.out rfl nR.out ?_; simp only [Act.put]))
    refine bodyPost_ret (results_cell_row rfl _ _ (w.heap.size + 3) 25 (cellsW r) (0, 0) _ rfl (heap_setRow' _ _ _ _ _ hD6.out) uWd rfl iR.out) rfl ⟨rfl, below_setRow' hb7 _ (by omega) _⟩
end Go.Proofs.Ytejnnghfelpioaa
namespace Go.Proofs.Ytejnnghfelpioaa
open Go.RowKit
set_option maxHeartbeats 2000000 in
theorem waddmod_any (a b d : Nat) (w : World) (ha : a < 2 ^ 256) (hb : b < 2 ^ 256) (hd256 : d < 2 ^ 256) : Calls Try.prog 32 #[wd a, wd b, wd d] w fun e w' => e = .returned (wd (modW (a + b) d)) ∧ Below w.heap.size w w' := by
  have hZ := hid (fun w => wzero_any d hd256 w)
  have iA := hid (iW a)
  have iB := hid (iW b)
  have iD := hid (iW d)
  have nD := hid (one_cellsW d)
  by_cases h0 : d = 0
  · have HY := hid (show modW (a + b) d = d by unfold modW; rw [if_pos h0, h0])
    rw [decide_eq_true h0] at hZ
    rw [HY.out]
    clear h0 HY ha hb hd256
    unfold wd at *
    have hA0 := hid (show ArrW 25 ((((w.alloc (.cells (cellsW a) 25)).alloc (.cells (cellsW b) 25)).alloc (.cells (cellsW d) 25)).alloc (.cells (cellsW 0) 25)) w.heap.size a from (((ArrW.new _ w a).alloc _).alloc _).alloc _)
    have hB0 := hid (show ArrW 25 ((((w.alloc (.cells (cellsW a) 25)).alloc (.cells (cellsW b) 25)).alloc (.cells (cellsW d) 25)).alloc (.cells (cellsW 0) 25)) (w.heap.size + 1) b by
      have := ArrW.new 25 (w.alloc (.cells (cellsW a) 25)) b
      rw [World.size_alloc] at this; exact (this.alloc _).alloc _)
    have hC0 := hid (show ArrW 25 ((((w.alloc (.cells (cellsW a) 25)).alloc (.cells (cellsW b) 25)).alloc (.cells (cellsW d) 25)).alloc (.cells (cellsW 0) 25)) (w.heap.size + 2) d by
      have := ArrW.new 25 ((w.alloc (.cells (cellsW a) 25)).alloc (.cells (cellsW b) 25)) d
      rw [World.size_alloc, World.size_alloc] at this; exact this.alloc _)
    have hD0 := hid (show ArrW 25 ((((w.alloc (.cells (cellsW a) 25)).alloc (.cells (cellsW b) 25)).alloc (.cells (cellsW d) 25)).alloc (.cells (cellsW 0) 25)) (w.heap.size + 3) 0 by
      have := ArrW.new 25 (((w.alloc (.cells (cellsW a) 25)).alloc (.cells (cellsW b) 25)).alloc (.cells (cellsW d) 25)) 0
      rw [World.size_alloc, World.size_alloc, World.size_alloc] at this; exact this)
    have hb0 : Below w.heap.size w ((((w.alloc (.cells (cellsW a) 25)).alloc (.cells (cellsW b) 25)).alloc (.cells (cellsW d) 25)).alloc (.cells (cellsW 0) 25)) := ((((Below.refl _ _).alloc (Nat.le_refl _) _).alloc (by simp) _).alloc (by simp; omega) _).alloc (by simp; omega) _
    go_enter Try.func32, Try.ntmps32
    go_wp2_with (first | (refine wpList_alloc_new rfl 25 rfl (cellsW 0) zWd ?_; simp only [Act.put, pvA, pv0, pv1, World.size_alloc]) | (refine wpList_load_row rfl 25 (.tmp 5) rfl (w.heap.size + 2) rfl 25 _ (0, 0) _ hC0.out uWd rfl iD.out ?_; simp only [Act.put, pvA, pv0, pv1]))
    refine (hZ.out _).mono ?_
    rintro e w1 ⟨rfl, hb1⟩
    have hC1 := hid (hC0.out.below hb1 hC0.out.lt)
    have hD1 := hid (hD0.out.below hb1 hD0.out.lt)
    have hb2 := hb0.trans (hb1.mono hb0.size)
    clear hA0 hB0 hC0 hD0 hb0 hb1
    go_wp2_with (first | (refine wpList_load_row rfl 25 (.tmp 5) rfl (w.heap.size + 2) rfl 25 _ (0, 0) _ hC1.out uWd rfl iD.out ?_; simp only [Act.put, pvA, pv0, pv1]) | (refine wpList_store_row rfl 25 (.tmp 6) (.tmp 13) rfl (w.heap.size + 3) _ rfl rfl 25 _ hD1.out iD.out rfl nD.out ?_; simp only [Act.put]))
    refine bodyPost_ret (results_cell_row rfl _ _ (w.heap.size + 3) 25 (cellsW d) (0, 0) _ rfl (heap_setRow' _ _ _ _ _ hD1.out) uWd rfl iD.out) rfl ⟨rfl, below_setRow' hb2 _ (by omega) _⟩
  · have HY := hid (show modW (a + b) d = (a + b) % d by unfold modW; rw [if_neg h0])
    rw [decide_eq_false h0] at hZ
    rw [HY.out]
    have hF := hid (fun w => wsum_any a b w ha hb)
    have hab : a + b < 2 ^ (64 * 5) := by
      have h5 := Nat.pow_add 2 256 64
      rw [show 256 + 64 = 64 * 5 from rfl] at h5
      rw [h5]
      clear h5 hF HY hZ iA iB iD nD
      omega
    have hDv := hid (fun v w hr => divide_any 5 (a + b) d v w hr hab (by omega) (by omega) (Nat.pos_of_ne_zero h0) hd256)
    obtain ⟨s, hs⟩ : ∃ s, s = a + b := ⟨_, rfl⟩
    obtain ⟨r, hr⟩ : ∃ r, r = s % d := ⟨_, rfl⟩
    have hc64 : s / 2 ^ 256 < 2 ^ 64 := by omega
    rw [← hs] at hF hDv ⊢
    rw [← hr] at hDv ⊢
    clear ha hb h0 HY hd256 hab hs hr
    unfold wd at *
    have iR := hid (iW r)
    have nR := hid (one_cellsW r)
    obtain ⟨c, hcc⟩ : ∃ c, c = s / 2 ^ 256 := ⟨_, rfl⟩
    obtain ⟨l, hll⟩ : ∃ l, l = s % 2 ^ 256 := ⟨_, rfl⟩
    have hcells := hid (show cellsM 5 s = (#[.int .u64 (lm l 0), .int .u64 (lm l 1), .int .u64 (lm l 2), .int .u64 (lm l 3), .int .u64 (c : Int)] : Array Value) from by
      have e : ∀ i, i < 4 → lmN l i = lmN s i := fun i hi => by
        rw [hll]
        unfold lmN
        have e1 : (2 : Nat) ^ 256 = 2 ^ (64 * i) * 2 ^ (256 - 64 * i) := by rw [← Nat.pow_add]; congr 1; omega
        have e2 : (2 : Nat) ^ (256 - 64 * i) = 2 ^ 64 * 2 ^ (192 - 64 * i) := by rw [← Nat.pow_add]; congr 1; omega
        rw [e1, Nat.mod_mul_right_div_self, e2, Nat.mod_mul_right_mod]
      have e4 : lmN s 4 = c := by
        rw [hcc]
        unfold lmN
        rw [show 64 * 4 = 256 from rfl]
        exact Nat.mod_eq_of_lt hc64
      unfold lm
      rw [e 0 (by omega), e 1 (by omega), e 2 (by omega), e 3 (by omega), ← e4]
      rfl)
    rw [← hcc, ← hll] at hF
    have iL := hid (iW l)
    have nL := hid (one_cellsW l)
    clear hcc hll
    have hA0 := hid (show ArrW 25 ((((w.alloc (.cells (cellsW a) 25)).alloc (.cells (cellsW b) 25)).alloc (.cells (cellsW d) 25)).alloc (.cells (cellsW 0) 25)) w.heap.size a from (((ArrW.new _ w a).alloc _).alloc _).alloc _)
    have hB0 := hid (show ArrW 25 ((((w.alloc (.cells (cellsW a) 25)).alloc (.cells (cellsW b) 25)).alloc (.cells (cellsW d) 25)).alloc (.cells (cellsW 0) 25)) (w.heap.size + 1) b by
      have := ArrW.new 25 (w.alloc (.cells (cellsW a) 25)) b
      rw [World.size_alloc] at this; exact (this.alloc _).alloc _)
    have hC0 := hid (show ArrW 25 ((((w.alloc (.cells (cellsW a) 25)).alloc (.cells (cellsW b) 25)).alloc (.cells (cellsW d) 25)).alloc (.cells (cellsW 0) 25)) (w.heap.size + 2) d by
      have := ArrW.new 25 ((w.alloc (.cells (cellsW a) 25)).alloc (.cells (cellsW b) 25)) d
      rw [World.size_alloc, World.size_alloc] at this; exact this.alloc _)
    have hD0 := hid (show ArrW 25 ((((w.alloc (.cells (cellsW a) 25)).alloc (.cells (cellsW b) 25)).alloc (.cells (cellsW d) 25)).alloc (.cells (cellsW 0) 25)) (w.heap.size + 3) 0 by
      have := ArrW.new 25 (((w.alloc (.cells (cellsW a) 25)).alloc (.cells (cellsW b) 25)).alloc (.cells (cellsW d) 25)) 0
      rw [World.size_alloc, World.size_alloc, World.size_alloc] at this; exact this)
    have hb0 : Below w.heap.size w ((((w.alloc (.cells (cellsW a) 25)).alloc (.cells (cellsW b) 25)).alloc (.cells (cellsW d) 25)).alloc (.cells (cellsW 0) 25)) := ((((Below.refl _ _).alloc (Nat.le_refl _) _).alloc (by simp) _).alloc (by simp; omega) _).alloc (by simp; omega) _
    go_enter Try.func32, Try.ntmps32
    go_wp2_with (first | (refine wpList_alloc_new rfl 25 rfl (cellsW 0) zWd ?_; simp only [Act.put, pvA, pv0, pv1, World.size_alloc]) | (refine wpList_load_row rfl 25 (.tmp 5) rfl (w.heap.size + 2) rfl 25 _ (0, 0) _ hC0.out uWd rfl iD.out ?_; simp only [Act.put, pvA, pv0, pv1]))
    refine (hZ.out _).mono ?_
    rintro e w1 ⟨rfl, hb1⟩
    have hA1 := hid (hA0.out.below hb1 hA0.out.lt)
    have hB1 := hid (hB0.out.below hb1 hB0.out.lt)
    have hC1 := hid (hC0.out.below hb1 hC0.out.lt)
    have hD1 := hid (hD0.out.below hb1 hD0.out.lt)
    have hb2 := hb0.trans (hb1.mono hb0.size)
    clear hA0 hB0 hC0 hD0 hb0 hb1
    go_wp2_with (first | (refine wpList_load_row rfl 25 (.tmp 3) rfl w.heap.size rfl 25 _ (0, 0) _ hA1.out uWd rfl iA.out ?_; simp only [Act.put, pvA, pv0, pv1]) | (refine wpList_load_row rfl 25 (.tmp 4) rfl (w.heap.size + 1) rfl 25 _ (0, 0) _ hB1.out uWd rfl iB.out ?_; simp only [Act.put, pvA, pv0, pv1]))
    refine (hF.out _).mono ?_
    rintro e w2 ⟨rfl, hb3⟩
    have hC2 := hid ((hC1.out.below hb3 hC1.out.lt).alloc (.cells (cellsW l) 25))
    have hD2 := hid ((hD1.out.below hb3 hD1.out.lt).alloc (.cells (cellsW l) 25))
    have hL2 := hid (ArrW.new 25 w2 l)
    have hb4 := hb2.trans (hb3.mono hb2.size)
    have hb5 := hb4.alloc hb4.size (.cells (cellsW l) 25)
    have hsz : w.heap.size + 4 ≤ w2.heap.size := by have h1 := (hD1.out.below hb3 hD1.out.lt).lt; omega
    clear hA1 hB1 hC1 hD1 hb2 hb3
    have q0 : (cellsW l)[0]? = some (.int .u64 (lm l 0)) := rfl
    have q1 : (cellsW l)[1]? = some (.int .u64 (lm l 1)) := rfl
    have q2 : (cellsW l)[2]? = some (.int .u64 (lm l 2)) := rfl
    have q3 : (cellsW l)[3]? = some (.int .u64 (lm l 3)) := rfl
    have hC3 := hid (hC2.out.alloc (.cells #[.int .u64 (lm l 0), .int .u64 (lm l 1), .int .u64 (lm l 2), .int .u64 (lm l 3), .int .u64 (c : Int)] 23))
    have hD3 := hid (hD2.out.alloc (.cells #[.int .u64 (lm l 0), .int .u64 (lm l 1), .int .u64 (lm l 2), .int .u64 (lm l 3), .int .u64 (c : Int)] 23))
    have hb6 := hb5.alloc hb5.size (.cells #[.int .u64 (lm l 0), .int .u64 (lm l 1), .int .u64 (lm l 2), .int .u64 (lm l 3), .int .u64 (c : Int)] 23)
    have hrd := hid (show RdM ((w2.alloc (.cells (cellsW l) 25)).alloc (.cells #[.int .u64 (lm l 0), .int .u64 (lm l 1), .int .u64 (lm l 2), .int .u64 (lm l 3), .int .u64 (c : Int)] 23)) (.slice (some ⟨w2.heap.size + 1, 0, none⟩) 5 5) 5 s by
      have h := (ArrM.new 23 5 (w2.alloc (.cells (cellsW l) 25)) s).rd 5 (by omega)
      rw [World.size_alloc, hcells.out] at h; exact h)
    clear hb4 hb5 hC2 hD2 hL2 hcells
    go_wp2_with (first | (refine wpList_allocStore 25 18 7 (cellsW l) (cellsW 0) rfl rfl rfl rfl rfl rfl (by decide) (by simp) rfl (by kernel_rfl) rfl iL.out nL.out ?_; simp only [Act.put, pvA, pv0, pv1]) | (refine wpList_load_row rfl 25 (.tmp 5) rfl (w.heap.size + 2) rfl 25 _ (0, 0) _ hC3.out uWd rfl iD.out ?_; simp only [Act.put, pvA, pv0, pv1]))
    refine (hDv.out _ _ hrd.out).mono ?_
    rintro e w5 ⟨gq, rfl, h1, h2, hb7⟩
    have hD4 := hid ((hD3.out.below hb7 hD3.out.lt).alloc (.cells (cellsW 0) 25))
    have hR4 := hid (ArrW.new 25 w5 0)
    have hb8 := hb6.trans (hb7.mono hb6.size)
    have hb9 := hb8.alloc hb8.size (.cells (cellsW 0) 25)
    have hsz5 : w.heap.size + 4 ≤ w5.heap.size := by have h1 := (hD3.out.below hb7 hD3.out.lt).lt; omega
    have hR5 := hid (hR4.out.row r)
    have hD5 := hid (hD4.out.otherRow (show w.heap.size + 3 ≠ w5.heap.size by omega) (cellsW r))
    have hb10 := below_setRow' hb9 w5.heap.size (by omega) (cellsW r)
    clear h1 h2 hb7 hD3 hC3 hrd hb8 hb9 hb6
    go_wp2_with (first | (refine wpList_alloc_new rfl 25 rfl (cellsW 0) zWd ?_; simp only [Act.put, pvA, pv0, pv1, World.size_alloc]) | (refine wpList_store_row rfl 25 (.tmp 10) (.tmp 34) rfl w5.heap.size _ rfl rfl 25 _ hR4.out iR.out rfl nR.out ?_; simp only [Act.put]) | (refine wpList_load_row rfl 25 (.tmp 10) rfl w5.heap.size rfl 25 _ (0, 0) _ hR5.out uWd rfl iR.out ?_; simp only [Act.put, pvA, pv0, pv1]) | (refine wpList_store_row rfl 25 (.tmp 6) (.tmp 35) rfl (w.heap.size + 3) _ rfl rfl 25 _ hD5.out iR.out rfl nR.out ?_; simp only [Act.put]))
    refine bodyPost_ret (results_cell_row rfl _ _ (w.heap.size + 3) 25 (cellsW r) (0, 0) _ rfl (heap_setRow' _ _ _ _ _ hD5.out) uWd rfl iR.out) rfl ⟨rfl, below_setRow' hb10 _ (by omega) _⟩
end Go.Proofs.Ytejnnghfelpioaa
namespace Go.Proofs.Ytejnnghfelpioaa
open Go.RowKit
theorem below_alloc (w : World) (o : Obj) : Below w.heap.size w (w.alloc o) := (Below.refl _ _).alloc (Nat.le_refl _) o
end Go.Proofs.Ytejnnghfelpioaa
namespace Go.Proofs.Ytejnnghfelpioaa
open Go.RowKit
theorem modW_lN (s : Nat) : modW s lN = s % lN := by unfold modW; rw [if_neg (by have := lN_pos; omega)]
set_option maxHeartbeats 1000000 in
theorem ladd_any (a b : Nat) (w : World) (ha : a < 2 ^ 256) (hb : b < 2 ^ 256) : Calls Try.prog 11 #[wd a, wd b] w fun e w' => e = .returned (wd ((a + b) % lN)) ∧ Below w.heap.size w w' := by
  have hL := hid fL_any
  have hM := hid (fun w => waddmod_any a b lN w ha hb lN_lt)
  rw [modW_lN] at hM
  obtain ⟨r, hr⟩ : ∃ r, r = (a + b) % lN := ⟨_, rfl⟩
  rw [← hr] at hM ⊢
  generalize lN = l at *
  clear ha hb hr
  unfold wd at *
  have iA := hid (iW a)
  have iB := hid (iW b)
  have iR := hid (iW r)
  have nR := hid (one_cellsW r)
  have hA0 := hid (show ArrW 25 (((w.alloc (.cells (cellsW a) 25)).alloc (.cells (cellsW b) 25)).alloc (.cells (cellsW 0) 25)) w.heap.size a from ((ArrW.new _ w a).alloc _).alloc _)
  have hB0 := hid (show ArrW 25 (((w.alloc (.cells (cellsW a) 25)).alloc (.cells (cellsW b) 25)).alloc (.cells (cellsW 0) 25)) (w.heap.size + 1) b by
    have := ArrW.new 25 (w.alloc (.cells (cellsW a) 25)) b
    rw [World.size_alloc] at this; exact this.alloc _)
  have hC0 := hid (show ArrW 25 (((w.alloc (.cells (cellsW a) 25)).alloc (.cells (cellsW b) 25)).alloc (.cells (cellsW 0) 25)) (w.heap.size + 2) 0 by
    have := ArrW.new 25 ((w.alloc (.cells (cellsW a) 25)).alloc (.cells (cellsW b) 25)) 0
    rw [World.size_alloc, World.size_alloc] at this; exact this)
  have hb0 : Below w.heap.size w (((w.alloc (.cells (cellsW a) 25)).alloc (.cells (cellsW b) 25)).alloc (.cells (cellsW 0) 25)) := (((Below.refl _ _).alloc (Nat.le_refl _) _).alloc (by simp) _).alloc (by simp; omega) _
  go_enter Try.func11, Try.ntmps11
  go_wp2_with (refine wpList_alloc_new rfl 25 rfl (cellsW 0) zWd ?_; simp only [Act.put, pvA, pv0, pv1, World.size_alloc])
  generalize ((w.alloc (.cells (cellsW a) 25)).alloc (.cells (cellsW b) 25)).alloc (.cells (cellsW 0) 25) = w1 at hA0 hB0 hC0 hb0 ⊢
  ((try simp only [World.size_alloc]); refine wp_region_ext_tail 4 (by kernel_rfl) (by kernel_rfl) ?_; simp only [List.take_succ_cons, List.take_zero, List.drop_succ_cons, List.drop_zero]; (repeat (first | (refine wpQuiet_load_want 25 (.tmp 2) rfl w.heap.size rfl 25 (cellsW _) _ hA0.out uWd rfl iA.out rfl ?_; simp only [Act.put, pvA, pv0, pv1]) | (refine wpQuiet_load_want 25 (.tmp 3) rfl (w.heap.size + 1) rfl 25 (cellsW _) _ hB0.out uWd rfl iB.out rfl ?_; simp only [Act.put, pvA, pv0, pv1]) | go_big_quiet_step (first | (go_at_call 19; with_reducible refine Calls.ext_of (hL.out _)) | (go_at_call 32; with_reducible refine Calls.ext_of (hM.out _))))); refine wpQuiet_nil ?_; rintro _ ⟨xw, rfl⟩)
  have hC1 := hid (hC0.out.ext xw)
  have hb1 := World.ext_below_of hb0 hb0.size xw
  generalize w1.ext xw = w2 at hC1 hb1 ⊢
  clear hA0 hB0 hC0 hb0
  (refine wpList_store_row rfl 25 (.tmp 4) (.tmp 8) rfl (w.heap.size + 2) _ rfl rfl 25 _ hC1.out iR.out rfl nR.out ?_; simp only [Act.put])
  go_wp2
  refine bodyPost_ret (results_cell_row rfl _ _ (w.heap.size + 2) 25 (cellsW r) (0, 0) _ rfl (heap_setRow' _ _ _ _ _ hC1.out) uWd rfl iR.out) rfl ⟨rfl, below_setRow' hb1 _ (by omega) _⟩
set_option maxHeartbeats 1000000 in
theorem lmul_any (a b : Nat) (w : World) (ha : a < 2 ^ 256) (hb : b < 2 ^ 256) : Calls Try.prog 24 #[wd a, wd b] w fun e w' => e = .returned (wd ((a * b) % lN)) ∧ Below w.heap.size w w' := by
  have hL := hid fL_any
  have hM := hid (fun w => wmulmod_any a b lN w ha hb lN_lt)
  rw [modW_lN] at hM
  obtain ⟨r, hr⟩ : ∃ r, r = (a * b) % lN := ⟨_, rfl⟩
  rw [← hr] at hM ⊢
  generalize lN = l at *
  clear ha hb hr
  unfold wd at *
  have iA := hid (iW a)
  have iB := hid (iW b)
  have iR := hid (iW r)
  have nR := hid (one_cellsW r)
  have hA0 := hid (show ArrW 25 (((w.alloc (.cells (cellsW a) 25)).alloc (.cells (cellsW b) 25)).alloc (.cells (cellsW 0) 25)) w.heap.size a from ((ArrW.new _ w a).alloc _).alloc _)
  have hB0 := hid (show ArrW 25 (((w.alloc (.cells (cellsW a) 25)).alloc (.cells (cellsW b) 25)).alloc (.cells (cellsW 0) 25)) (w.heap.size + 1) b by
    have := ArrW.new 25 (w.alloc (.cells (cellsW a) 25)) b
    rw [World.size_alloc] at this; exact this.alloc _)
  have hC0 := hid (show ArrW 25 (((w.alloc (.cells (cellsW a) 25)).alloc (.cells (cellsW b) 25)).alloc (.cells (cellsW 0) 25)) (w.heap.size + 2) 0 by
    have := ArrW.new 25 ((w.alloc (.cells (cellsW a) 25)).alloc (.cells (cellsW b) 25)) 0
    rw [World.size_alloc, World.size_alloc] at this; exact this)
  have hb0 : Below w.heap.size w (((w.alloc (.cells (cellsW a) 25)).alloc (.cells (cellsW b) 25)).alloc (.cells (cellsW 0) 25)) := (((Below.refl _ _).alloc (Nat.le_refl _) _).alloc (by simp) _).alloc (by simp; omega) _
  go_enter Try.func24, Try.ntmps24
  go_wp2_with (refine wpList_alloc_new rfl 25 rfl (cellsW 0) zWd ?_; simp only [Act.put, pvA, pv0, pv1, World.size_alloc])
  generalize ((w.alloc (.cells (cellsW a) 25)).alloc (.cells (cellsW b) 25)).alloc (.cells (cellsW 0) 25) = w1 at hA0 hB0 hC0 hb0 ⊢
  ((try simp only [World.size_alloc]); refine wp_region_ext_tail 4 (by kernel_rfl) (by kernel_rfl) ?_; simp only [List.take_succ_cons, List.take_zero, List.drop_succ_cons, List.drop_zero]; (repeat (first | (refine wpQuiet_load_want 25 (.tmp 2) rfl w.heap.size rfl 25 (cellsW _) _ hA0.out uWd rfl iA.out rfl ?_; simp only [Act.put, pvA, pv0, pv1]) | (refine wpQuiet_load_want 25 (.tmp 3) rfl (w.heap.size + 1) rfl 25 (cellsW _) _ hB0.out uWd rfl iB.out rfl ?_; simp only [Act.put, pvA, pv0, pv1]) | go_big_quiet_step (first | (go_at_call 19; with_reducible refine Calls.ext_of (hL.out _)) | (go_at_call 53; with_reducible refine Calls.ext_of (hM.out _))))); refine wpQuiet_nil ?_; rintro _ ⟨xw, rfl⟩)
  have hC1 := hid (hC0.out.ext xw)
  have hb1 := World.ext_below_of hb0 hb0.size xw
  generalize w1.ext xw = w2 at hC1 hb1 ⊢
  clear hA0 hB0 hC0 hb0
  (refine wpList_store_row rfl 25 (.tmp 4) (.tmp 8) rfl (w.heap.size + 2) _ rfl rfl 25 _ hC1.out iR.out rfl nR.out ?_; simp only [Act.put])
  go_wp2
  refine bodyPost_ret (results_cell_row rfl _ _ (w.heap.size + 2) 25 (cellsW r) (0, 0) _ rfl (heap_setRow' _ _ _ _ _ hC1.out) uWd rfl iR.out) rfl ⟨rfl, below_setRow' hb1 _ (by omega) _⟩
def leN (ys : List (BitVec 8)) : Nat := num (ys.map fun y => y.toNat)
theorem le_dig (ys : List (BitVec 8)) : Dig (ys.map fun y => y.toNat) := fun d hd => by
  obtain ⟨y, _, rfl⟩ := List.mem_map.1 hd
  exact y.isLt
theorem le_nd (ys : List (BitVec 8)) (i : Nat) : ((nd (ys.map fun y => y.toNat) i : Nat) : Int) = yv (ny ys i) := by
  unfold nd ny yv
  rw [List.getD_eq_getElem?_getD, List.getD_eq_getElem?_getD, List.getElem?_map]
  cases ys[i]? <;> rfl
theorem leN_lt (ys : List (BitVec 8)) (h : ys.length ≤ 32) : leN ys < 2 ^ 256 := by
  have h1 := num_lt _ (le_dig ys)
  have h2 : 256 ^ (ys.map fun y => y.toNat).length ≤ 256 ^ 32 := Nat.pow_le_pow_right (by omega) (by rw [List.length_map]; exact h)
  rw [pow256_32] at h2
  exact Nat.lt_of_lt_of_le h1 h2
set_option maxHeartbeats 2000000 in
theorem little_any (ys : List (BitVec 8)) (v : Value) (w : World) (hr : RdY w v ys) (hl : ys.length ≤ 32) : Calls Try.prog 59 #[v] w fun e w' => e = .returned (wd (leN ys)) ∧ Below w.heap.size w w' := by
  obtain ⟨a, cap, rfl, hc, hx⟩ := hr
  have HX := hid hx
  obtain ⟨l, hL⟩ : ∃ l, l = ys.map fun y => y.toNat := ⟨_, rfl⟩
  have hD : Dig l := by rw [hL]; exact le_dig ys
  have hnd : ∀ i, ((nd l i : Nat) : Int) = yv (ny ys i) := fun i => by rw [hL]; exact le_nd ys i
  have hll : l.length = ys.length := by rw [hL, List.length_map]
  have HLE := hid (show leN ys = num l by rw [hL]; rfl)
  rw [HLE.out]
  have HD := hid hD
  have HND := hid hnd
  clear hx hL hD hnd HLE
  unfold wd
  have hA0 := hid (ArrW.new 25 w 0)
  have hb0 : Below w.heap.size w (w.alloc (.cells (cellsW 0) 25)) := (Below.refl _ _).alloc (Nat.le_refl _) _
  go_enter Try.func59, Try.ntmps59
  go_wp2_with (refine wpList_alloc_new rfl 25 rfl (cellsW 0) zWd ?_; simp only [Act.put, pvA, pv0, pv1, World.size_alloc])
  generalize w.alloc (.cells (cellsW 0) 25) = w1 at hA0 hb0 ⊢
  go_loopw [7] (fun iv wr => ∃ i : Nat, i ≤ ys.length ∧ iv = .int .i64 (i : Int) ∧ Hid (ArrW 25 wr w.heap.size (num (l.take i))) ∧ Below w.heap.size w wr)
    (fun iv _ => ys.length - (intOf iv).toNat)
  case atStart => exact ⟨0, by omega, rfl, hA0, hb0⟩
  case round =>
    clear hA0 hb0
    obtain ⟨i, hi, rfl, hA, hb⟩ := hrel
    by_cases hlt : i < ys.length
    · obtain ⟨b, off, rfl, hbl, hcell⟩ := HX.out (by intro e; subst e; simp at hlt)
      have cx := (hb.cell (p := ⟨b, off + i, none⟩) hbl).trans (hcell i hlt)
      have gx := nd_dig HD.out i
      have c1 := hA.out.cell (i / 8) (by omega)
      have f1 := hA.out.free (i / 8)
      have l1 := hA.out.lt
      have lb : b < wr.heap.size := Nat.lt_of_lt_of_le hbl hb.size
      have hsh : (8 * ((i : Int) % 8)).toNat = 8 * (i % 8) := by omega
      have hxl := num_take_lt l HD.out i
      have hq := cellsW_add (num (l.take i)) (nd l i) i hxl gx (by omega)
      have hn := hid (show num (l.take (i + 1)) = num (l.take i) + 256 ^ i * nd l i from num_take_succ l i)
      have hle : nd l i * 2 ^ (8 * (i % 8)) < 18446744073709551616 := by
        have h1 : 2 ^ (8 * (i % 8)) ≤ 2 ^ 56 := Nat.pow_le_pow_right (by omega) (by omega)
        have h2 : nd l i * 2 ^ (8 * (i % 8)) ≤ 255 * 2 ^ 56 := Nat.mul_le_mul (by omega) h1
        omega
      have hv : bits .or .u64 (lm (num (l.take i)) (i / 8)) (IntKind.u64.wrap (((nd l i : Nat) : Int) * 2 ^ (8 * (i % 8)))) = ((lmN (num (l.take i)) (i / 8) ||| nd l i * 2 ^ (8 * (i % 8)) : Nat) : Int) := by
        rw [show ((nd l i : Nat) : Int) * 2 ^ (8 * (i % 8)) = ((nd l i * 2 ^ (8 * (i % 8)) : Nat) : Int) by rw [Int.natCast_mul, Int.natCast_pow]; rfl]
        rw [show IntKind.u64.wrap ((nd l i * 2 ^ (8 * (i % 8)) : Nat) : Int) = ((nd l i * 2 ^ (8 * (i % 8)) : Nat) : Int) by rw [IntKind.wrap_u64]; omega]
        exact u64_or_nat _ _ (lmN_lt _ _) hle
      rw [← HND.out i] at cx
      have HV := hid hv
      have HQ := hid hq
      clear hq hv hle hxl hcell
      obtain ⟨d, hd⟩ : ∃ d, d = nd l i := ⟨_, rfl⟩
      rw [← hd] at cx HV HQ hn gx
      clear hd
      go_wp2_with fail
      (refine wp_region_ext_tail 12 (by kernel_rfl) (by kernel_rfl) ?_; simp only [List.take_succ_cons, List.take_zero, List.drop_succ_cons, List.drop_zero]; (repeat (go_big_quiet_step (first | fail))); refine wpQuiet_nil ?_; rintro _ ⟨xw, rfl⟩)
      go_wp2
      go_roundw
      case rel =>
        rw [HV.out]
        refine ⟨i + 1, by omega, by go_num, hid ?_, (World.ext_below_of hb hb.size xw).setCell (p := ⟨w.heap.size, i / 8, none⟩) (Nat.le_refl _) _⟩
        rw [hn.out]
        exact (hA.out.ext xw).set _ _ HQ.out
      case measure => simp [intOf]; omega
    · obtain rfl : i = ys.length := by omega
      rw [List.take_of_length_le (by omega)] at hA
      obtain ⟨y, hy⟩ : ∃ y, y = num l := ⟨_, rfl⟩
      rw [← hy] at hA
      have HY := hid hy
      have iY := hid (iW y)
      have nY := hid (one_cellsW y)
      clear hy
      go_wp2_with (first | (refine wpList_load_row rfl 25 (.tmp 2) rfl w.heap.size rfl 25 _ (0, 0) _ hA.out uWd rfl iY.out ?_; simp only [Act.put, pvA, pv0, pv1]) | (refine wpList_store_row rfl 25 (.tmp 2) (.tmp 25) rfl w.heap.size _ rfl rfl 25 _ hA.out iY.out rfl nY.out ?_; simp only [Act.put]))
      refine bodyPost_ret (results_cell_row rfl _ _ w.heap.size 25 (cellsW y) (0, 0) _ rfl (heap_setRow' _ _ _ _ _ hA.out) uWd rfl iY.out) rfl ⟨by rw [HY.out], below_setRow' hb _ (Nat.le_refl _) _⟩
def fdN (m : Nat) (ys : List (BitVec 8)) : Nat := if ys.length = 32 ∧ leN ys < m then leN ys else 0
def fdE (m : Nat) (ys : List (BitVec 8)) : Int := if ys.length = 32 then (if leN ys < m then 0 else 20) else 1
theorem fdN_lt (m : Nat) (ys : List (BitVec 8)) : fdN m ys < 2 ^ 256 := by
  unfold fdN; split
  · rename_i h; exact leN_lt ys (by omega)
  · exact Nat.pow_pos (by omega)
set_option maxHeartbeats 2000000 in
theorem fread_any (ys : List (BitVec 8)) (m : Nat) (v : Value) (w : World) (hr : RdY w v ys) (hm : m < 2 ^ 256) : Calls Try.prog 31 #[v, wd m] w fun e w' => e = .returned (.tuple #[wd (fdN m ys), .int .i64 (fdE m ys)]) ∧ Below w.heap.size w w' := by
  have iM := hid (iW m)
  have iZ := hid (iW 0)
  have nZ := hid (one_cellsW 0)
  have hBn := hid nil_built
  have HM := hid hm
  clear hm
  have hA0 := hid (show ArrW 25 ((w.alloc (.cells (cellsW m) 25)).alloc (.cells (cellsW 0) 25)) w.heap.size m from (ArrW.new _ w m).alloc _)
  have hC0 := hid (show ArrW 25 ((w.alloc (.cells (cellsW m) 25)).alloc (.cells (cellsW 0) 25)) (w.heap.size + 1) 0 by
    have := ArrW.new 25 (w.alloc (.cells (cellsW m) 25)) 0
    rw [World.size_alloc] at this; exact this)
  have hb0 : Below w.heap.size w ((w.alloc (.cells (cellsW m) 25)).alloc (.cells (cellsW 0) 25)) := ((Below.refl _ _).alloc (Nat.le_refl _) _).alloc (by simp) _
  have hv0 := hid (hr.below hb0)
  clear hr
  obtain ⟨a, cap, rfl, hc, hx⟩ := hv0.out
  have HX := hid hx
  clear hx
  unfold wd
  by_cases hlen : ys.length = 32
  · have hll : (ys.length : Int) = 32 := by omega
    have HLt := hid (leN_lt ys (by omega))
    have hL := hid (fun w h => little_any ys (.slice a ys.length cap) w h (by omega))
    have HN := hid (show fdN m ys = if leN ys < m then leN ys else 0 by unfold fdN; simp only [hlen, true_and])
    have HE := hid (show fdE m ys = if leN ys < m then 0 else 20 by unfold fdE; rw [if_pos hlen])
    have hC := hid (fun w => wcmp_any (leN ys) m w HLt.out HM.out)
    obtain ⟨x, hx⟩ : ∃ x, x = leN ys := ⟨_, rfl⟩
    rw [← hx] at HN HE hL hC
    rw [hlen] at hL hv0
    have HV := hid hlen
    have hcond : ((x < m) ∧ cmpI x m < 0) ∨ (¬ x < m ∧ 0 ≤ cmpI x m) := by
      have := cmpI_neg x m
      by_cases h : x < m
      · exact .inl ⟨h, this.2 h⟩
      · exact .inr ⟨h, by omega⟩
    obtain ⟨c, hcc⟩ : ∃ c, c = cmpI x m := ⟨_, rfl⟩
    rw [← hcc] at hC hcond
    unfold wd at *
    have iX := hid (iW x)
    have nX := hid (one_cellsW x)
    clear hx hcc HLt
    rw [hlen]
    clear hlen hll
    go_enter Try.func31, Try.ntmps31
    go_wp2_with (refine wpList_alloc_new rfl 25 rfl (cellsW 0) zWd ?_; simp only [Act.put, pvA, pv0, pv1, World.size_alloc])
    refine (hL.out _ hv0.out).mono ?_
    rintro e w1 ⟨rfl, hb1⟩
    have hA1 := hid ((hA0.out.below hb1 hA0.out.lt).alloc (.cells (cellsW x) 25))
    have hC1 := hid ((hC0.out.below hb1 hC0.out.lt).alloc (.cells (cellsW x) 25))
    have hX1 := hid (ArrW.new 25 w1 x)
    have hb2 := hb0.trans (hb1.mono hb0.size)
    have hb3 := hb2.alloc hb2.size (.cells (cellsW x) 25)
    have hsz : w.heap.size + 2 ≤ w1.heap.size := by have := (hC0.out.below hb1 hC0.out.lt).lt; omega
    clear hA0 hC0 hb0 hb1 hb2 hv0
    obtain ⟨G, hG⟩ : ∃ G, G = w1.heap.size := ⟨_, rfl⟩
    go_wp2_with (first | (refine wpList_allocStore 25 12 6 (cellsW x) (cellsW 0) rfl rfl rfl rfl rfl rfl (by decide) (by simp) rfl (by kernel_rfl) rfl iX.out nX.out ?_; simp only [Act.put, pvA, pv0, pv1]) | (refine wpList_load_row rfl 25 (.tmp 6) rfl w1.heap.size rfl 25 _ (0, 0) _ hX1.out uWd rfl iX.out ?_; simp only [Act.put, pvA, pv0, pv1]) | (refine wpList_load_row rfl 25 (.tmp 3) rfl w.heap.size rfl 25 _ (0, 0) _ hA1.out uWd rfl iM.out ?_; simp only [Act.put, pvA, pv0, pv1]))
    rw [← hG] at hX1 hsz ⊢
    generalize w1.alloc (.cells (cellsW x) 25) = w2 at hA1 hC1 hX1 hb3 ⊢
    clear hG
    refine (hC.out _).mono ?_
    rintro e w3 ⟨rfl, hb4⟩
    have hC2 := hid (hC1.out.below hb4 hC1.out.lt)
    have hX2 := hid (hX1.out.below hb4 hX1.out.lt)
    have hb5 := hb3.trans (hb4.mono hb3.size)
    clear hA1 hC1 hX1 hb3 hb4
    rcases hcond with ⟨h1, h2⟩ | ⟨h1, h2⟩
    · have H1 := hid h1
      clear h1
      go_wp2_with (first | (refine wpList_load_row rfl 25 (.tmp 6) rfl G rfl 25 _ (0, 0) _ hX2.out uWd rfl iX.out ?_; simp only [Act.put, pvA, pv0, pv1]) | (refine wpList_store_row rfl 25 (.tmp 4) (.tmp 18) rfl (w.heap.size + 1) _ rfl rfl 25 _ hC2.out iX.out rfl nX.out ?_; simp only [Act.put]))
      refine bodyPost_ret (results_row_tmp rfl _ _ (w.heap.size + 1) 25 (cellsW x) (0, 0) _ rfl (heap_setRow' _ _ _ _ _ hC2.out) uWd rfl iX.out) rfl ⟨by rw [HN.out, HE.out, if_pos H1.out, if_pos H1.out]; rfl, below_setRow' hb5 _ (by omega) _⟩
    · have H1 := hid h1
      clear h1
      go_wp2_with (refine wpList_buildStore 25 _ (.tmp 4) 17 (cellsW 0) _ rfl rfl rfl rfl rfl rfl (by simp) (by first | exact hBn.out | (simp only [List.map_toArray, List.map_cons, List.map_nil]; exact hBn.out)) rfl 25 _ hC2.out iZ.out rfl nZ.out ?_; simp only [Act.put, pvA, pv0, pv1])
      refine bodyPost_ret (results_row_tmp rfl _ _ (w.heap.size + 1) 25 (cellsW 0) (0, 0) _ rfl (heap_setRow' _ _ _ _ _ hC2.out) uWd rfl iZ.out) rfl ⟨by rw [HN.out, HE.out, if_neg H1.out, if_neg H1.out]; rfl, below_setRow' hb5 _ (by omega) _⟩
  · have hll : ¬ (ys.length : Int) = 32 := by omega
    have HN := hid (show fdN m ys = 0 by unfold fdN; rw [if_neg (fun h => hlen h.1)])
    have HE := hid (show fdE m ys = 1 by unfold fdE; rw [if_neg hlen])
    rw [HN.out, HE.out]
    clear hlen
    go_enter Try.func31, Try.ntmps31
    go_wp2_with (first | (refine wpList_alloc_new rfl 25 rfl (cellsW 0) zWd ?_; simp only [Act.put, pvA, pv0, pv1, World.size_alloc]) | (refine wpList_buildStore 25 _ (.tmp 4) 10 (cellsW 0) _ rfl rfl rfl rfl rfl rfl (by simp) (by first | exact hBn.out | (simp only [List.map_toArray, List.map_cons, List.map_nil]; exact hBn.out)) rfl 25 _ hC0.out iZ.out rfl nZ.out ?_; simp only [Act.put, pvA, pv0, pv1]))
    refine bodyPost_ret (results_row_tmp rfl _ _ (w.heap.size + 1) 25 (cellsW 0) (0, 0) _ rfl (heap_setRow' _ _ _ _ _ hC0.out) uWd rfl iZ.out) rfl ⟨rfl, below_setRow' hb0 _ (by omega) _⟩
set_option maxHeartbeats 1000000 in
theorem fRead_any (ys : List (BitVec 8)) (v : Value) (w : World) (hr : RdY w v ys) : Calls Try.prog 33 #[v] w fun e w' => e = .returned (.tuple #[wd (fdN pN ys), .int .i64 (fdE pN ys)]) ∧ Below w.heap.size w w' := by
  have hP := hid fP_any
  have hR := hid (fun w h => fread_any ys pN v w h pN_lt)
  obtain ⟨x, hx⟩ : ∃ x, x = fdN pN ys := ⟨_, rfl⟩
  obtain ⟨y, hy⟩ : ∃ y, y = fdE pN ys := ⟨_, rfl⟩
  rw [← hx, ← hy] at hR ⊢
  generalize pN = k at *
  clear hx hy
  unfold wd at *
  have iX := hid (iW x)
  have nX := hid (one_cellsW x)
  have hC0 := hid (ArrW.new 25 w 0)
  have hb0 : Below w.heap.size w (w.alloc (.cells (cellsW 0) 25)) := (Below.refl _ _).alloc (Nat.le_refl _) _
  have hv0 := hid (hr.below hb0)
  clear hr
  go_enter Try.func33, Try.ntmps33
  go_wp2_with (refine wpList_alloc_new rfl 25 rfl (cellsW 0) zWd ?_; simp only [Act.put, pvA, pv0, pv1, World.size_alloc])
  refine (hP.out _).mono ?_
  rintro e w1 ⟨rfl, hb1⟩
  have hC1 := hid (hC0.out.below hb1 hC0.out.lt)
  have hv1 := hid (hv0.out.below hb1)
  have hb2 := hb0.trans (hb1.mono hb0.size)
  clear hC0 hv0 hb0 hb1
  go_wp2_with fail
  refine (hR.out _ hv1.out).mono ?_
  rintro e w2 ⟨rfl, hb3⟩
  have hC2 := hid (hC1.out.below hb3 hC1.out.lt)
  have hb4 := hb2.trans (hb3.mono hb2.size)
  clear hC1 hv1 hb2 hb3
  go_wp2_with (refine wpList_store_row rfl 25 (.tmp 2) (.tmp 7) rfl w.heap.size _ rfl rfl 25 _ hC2.out iX.out rfl nX.out ?_; simp only [Act.put])
  refine bodyPost_ret (results_row_tmp rfl _ _ w.heap.size 25 (cellsW x) (0, 0) _ rfl (heap_setRow' _ _ _ _ _ hC2.out) uWd rfl iX.out) rfl ⟨rfl, below_setRow' hb4 _ (Nat.le_refl _) _⟩
set_option maxHeartbeats 1000000 in
theorem fLread_any (ys : List (BitVec 8)) (v : Value) (w : World) (hr : RdY w v ys) : Calls Try.prog 10 #[v] w fun e w' => e = .returned (.tuple #[wd (fdN lN ys), .int .i64 (fdE lN ys)]) ∧ Below w.heap.size w w' := by
  have hP := hid fL_any
  have hR := hid (fun w h => fread_any ys lN v w h lN_lt)
  obtain ⟨x, hx⟩ : ∃ x, x = fdN lN ys := ⟨_, rfl⟩
  obtain ⟨y, hy⟩ : ∃ y, y = fdE lN ys := ⟨_, rfl⟩
  rw [← hx, ← hy] at hR ⊢
  generalize lN = k at *
  clear hx hy
  unfold wd at *
  have iX := hid (iW x)
  have nX := hid (one_cellsW x)
  have hC0 := hid (ArrW.new 25 w 0)
  have hb0 : Below w.heap.size w (w.alloc (.cells (cellsW 0) 25)) := (Below.refl _ _).alloc (Nat.le_refl _) _
  have hv0 := hid (hr.below hb0)
  clear hr
  go_enter Try.func10, Try.ntmps10
  go_wp2_with (refine wpList_alloc_new rfl 25 rfl (cellsW 0) zWd ?_; simp only [Act.put, pvA, pv0, pv1, World.size_alloc])
  refine (hP.out _).mono ?_
  rintro e w1 ⟨rfl, hb1⟩
  have hC1 := hid (hC0.out.below hb1 hC0.out.lt)
  have hv1 := hid (hv0.out.below hb1)
  have hb2 := hb0.trans (hb1.mono hb0.size)
  clear hC0 hv0 hb0 hb1
  go_wp2_with fail
  refine (hR.out _ hv1.out).mono ?_
  rintro e w2 ⟨rfl, hb3⟩
  have hC2 := hid (hC1.out.below hb3 hC1.out.lt)
  have hb4 := hb2.trans (hb3.mono hb2.size)
  clear hC1 hv1 hb2 hb3
  go_wp2_with (refine wpList_store_row rfl 25 (.tmp 2) (.tmp 7) rfl w.heap.size _ rfl rfl 25 _ hC2.out iX.out rfl nX.out ?_; simp only [Act.put])
  refine bodyPost_ret (results_row_tmp rfl _ _ w.heap.size 25 (cellsW x) (0, 0) _ rfl (heap_setRow' _ _ _ _ _ hC2.out) uWd rfl iX.out) rfl ⟨rfl, below_setRow' hb4 _ (Nat.le_refl _) _⟩
end Go.Proofs.Ytejnnghfelpioaa
namespace Go.Proofs.Ytejnnghfelpioaa
open Go.RowKit
def natsY (ys : List (BitVec 8)) : List Nat := ys.map fun y => y.toNat
def flN (ys : List (BitVec 8)) : Nat := if 64 < ys.length then 0 else leN ys % lN
def flE (ys : List (BitVec 8)) : Int := if 64 < ys.length then 1 else 0
end Go.Proofs.Ytejnnghfelpioaa
namespace Go.Proofs.Ytejnnghfelpioaa
open Go.RowKit
def leL (x : Nat) : List (BitVec 8) := (List.range 32).map fun i => b8 (x / 256 ^ i)
theorem leL_len (x : Nat) : (leL x).length = 32 := by simp [leL]
def lsY (x : Nat) : Nat → List (BitVec 8)
  | 0 => List.replicate 32 0
  | i + 1 => (lsY x i).set i (b8 (x / 256 ^ i))
theorem lsY_len (x i : Nat) : (lsY x i).length = 32 := by induction i <;> simp [lsY, *]
theorem lsY_at (x i j : Nat) (hi : i ≤ 32) (hj : j < 32) : (lsY x i)[j]? = some (if j < i then b8 (x / 256 ^ j) else 0) := by
  induction i with
  | zero => rw [if_neg (by omega)]; unfold lsY; rw [List.getElem?_replicate, if_pos hj]
  | succ i ih =>
    rw [lsY, List.getElem?_set, lsY_len]
    by_cases h : i = j
    · rw [if_pos h, if_pos (by omega), if_pos (by omega), h]
    · rw [if_neg h, ih (by omega)]
      by_cases h2 : j < i
      · rw [if_pos h2, if_pos (by omega)]
      · rw [if_neg h2, if_neg (by omega)]
theorem lsY_end (x : Nat) : lsY x 32 = leL x := by
  apply List.ext_getElem?
  intro j
  rcases Nat.lt_or_ge j 32 with hj | hj
  · rw [lsY_at x 32 j (by omega) hj, if_pos hj]; simp [leL, hj]
  · rw [List.getElem?_eq_none (by rw [lsY_len]; exact hj), List.getElem?_eq_none (by rw [leL_len]; exact hj)]
set_option maxHeartbeats 2000000 in
theorem fbytes_any (a : Nat) (w : World) (ha : a < 2 ^ 256) : Calls Try.prog 25 #[wd a] w fun e w' => ∃ v', e = .returned v' ∧ RdY w' v' (leL (a % pN)) ∧ Below w.heap.size w w' := by
  have hBl := hid (fun w => below_any a w ha)
  have hmk : ∀ w : World, (Instr.makeSlice 22 (.int .i64 32) (.int .i64 32)).run Try.prog w = .ok (.slice (some ⟨w.heap.size, 0, none⟩) 32 32) (w.alloc (.cells (cellsY (lsY 0 0)) 5)) := mkY 32 (by omega)
  obtain ⟨x, hx⟩ : ∃ x, x = a % pN := ⟨_, rfl⟩
  rw [← hx] at hBl ⊢
  have hend := hid (lsY_end x)
  clear ha hx
  unfold wd at *
  have iA := hid (iW a)
  have iX := hid (iW x)
  have nX := hid (one_cellsW x)
  have hA0 := hid (ArrW.new 25 w a)
  have hb0 : Below w.heap.size w (w.alloc (.cells (cellsW a) 25)) := (Below.refl _ _).alloc (Nat.le_refl _) _
  go_enter Try.func25, Try.ntmps25
  go_wp2_with (refine wpList_load_row rfl 25 (.tmp 1) rfl w.heap.size rfl 25 _ (0, 0) _ hA0.out uWd rfl iA.out ?_; simp only [Act.put, pvA, pv0, pv1])
  refine (hBl.out _).mono ?_
  rintro e w1 ⟨rfl, hb1⟩
  have hA1 := hid (hA0.out.step hb1)
  have hA2 := hid ((hA1.out.row x).alloc (.cells (cellsY (lsY 0 0)) 5))
  have hY2 := hid (ArrY.new 5 (w1.setRow w.heap.size (cellsW x)) (lsY 0 0))
  have hb2 := hb0.trans (hb1.mono hb0.size)
  have hb3 := below_setRow' hb2 w.heap.size (Nat.le_refl _) (cellsW x)
  have hb4 := hb3.alloc hb3.size (.cells (cellsY (lsY 0 0)) 5)
  have hsz : w.heap.size + 1 ≤ (w1.setRow w.heap.size (cellsW x)).heap.size := (hA1.out.row x).lt
  have hsr : (w1.setRow w.heap.size (cellsW x)).heap.size = w1.heap.size := by simp [World.setRow]
  rw [hsr] at hY2 hsz
  obtain ⟨G, hG⟩ : ∃ G, G = w1.heap.size := ⟨_, rfl⟩
  have HG := hid hG
  have HSR := hid hsr
  clear hG hsr
  go_wp2_with (refine wpList_store_row rfl 25 (.tmp 1) (.tmp 6) rfl w.heap.size _ rfl rfl 25 _ hA1.out iX.out (by rw [size_cellsW, size_cellsW]) nX.out ?_; simp only [Act.put])
  (try rw [HSR.out])
  rw [← HG.out] at hY2 hsz ⊢
  generalize (w1.setRow w.heap.size (cellsW x)).alloc (.cells (cellsY (lsY 0 0)) 5) = w3 at hA2 hY2 hb4 ⊢
  clear hA0 hb0 hb1 hA1 hb2 hb3 HG HSR
  have hY3 := hid (show ArrY 5 w3 G (lsY x 0) from hY2.out)
  go_loopw [10] (fun iv wr => ∃ i : Nat, i ≤ 32 ∧ iv = .int .i64 (i : Int) ∧ Hid (ArrW 25 wr w.heap.size x) ∧ Hid (ArrY 5 wr G (lsY x i)) ∧ Below w.heap.size w wr)
    (fun iv _ => 32 - (intOf iv).toNat)
  case atStart => exact ⟨0, by omega, rfl, hA2, hY3, hb4⟩
  case round =>
    clear hA2 hY2 hY3 hb4
    obtain ⟨i, hi, rfl, hA, hY, hb⟩ := hrel
    by_cases hlt : i < 32
    · have c1 := hA.out.cell (i / 8) (by omega)
      have c2 := hY.out.cell i (by rw [lsY_len]; omega)
      have f2 := hY.out.free i
      have l1 := hA.out.lt
      have l2 := hY.out.lt
      have n1 := lm_nonneg x (i / 8)
      have n2 := lm_lt x (i / 8)
      have hV := hid (lm_b8 x i hlt)
      have hsh : (8 * ((i : Int) % 8)).toNat = 8 * (i % 8) := by omega
      go_wp2
      go_roundw
      case rel =>
        rw [hV.out]
        exact ⟨i + 1, by omega, by go_num, hid (hA.out.other (by show w.heap.size ≠ G; omega) _), hid (hY.out.set _ _), hb.setCell (p := ⟨G, i, none⟩) (by show w.heap.size ≤ G; omega) _⟩
      case measure => simp [intOf]; omega
    · obtain rfl : i = 32 := by omega
      have hE := hY.out
      rw [hend.out] at hE
      have hR := hid (hE.rd 32 (by rw [leL_len]; exact Nat.le_refl _))
      rw [leL_len] at hR
      clear hY hE
      go_wp2
      go_ret
      exact ⟨_, rfl, hR.out, hb⟩
def valY (ys : List (BitVec 8)) : List Value := ys.map fun y => Value.int .u8 (yv y)
theorem natsY_leL (x : Nat) : natsY (leL x) = byN x 32 := by
  apply List.ext_getElem?
  intro j
  have key : ∀ n, ∀ j, j < n → (byN x n)[j]? = some (x / 256 ^ j % 256) := by
    intro n
    induction n with
    | zero => intro j hj; omega
    | succ n ih =>
      intro j hj
      rw [byN]
      by_cases h : j < n
      · rw [List.getElem?_append_left (by rw [byN_len]; exact h)]; exact ih j h
      · obtain rfl : j = n := by omega
        rw [List.getElem?_append_right (by rw [byN_len]; omega), byN_len, Nat.sub_self]; rfl
  by_cases hj : j < 32
  · rw [key 32 j hj]
    unfold natsY leL
    simp [hj, b8]
  · rw [List.getElem?_eq_none (by unfold natsY; simp [leL_len]; omega), List.getElem?_eq_none (by rw [byN_len]; omega)]
theorem leN_leL (x : Nat) (h : x < 2 ^ 256) : leN (leL x) = x := by
  show num (natsY (leL x)) = x
  rw [natsY_leL, byN_num, pow256_32, Nat.mod_eq_of_lt h]
end Go.Proofs.Ytejnnghfelpioaa
namespace Go.Proofs.Ytejnnghfelpioaa
open Go.RowKit
def pmF (a : Nat) : Nat → Nat → Nat
  | 0, _ => 1
  | f + 1, e => if e = 0 then 1 else (fun h => if e % 2 = 1 then h * h % pN * a % pN else h * h % pN) (pmF a f (e / 2))
theorem pmF_eq (a : Nat) : ∀ f e, e < 2 ^ f → pmF a f e = powP a e
  | 0, e, h => by
    have : e = 0 := by simpa using h
    subst this; rw [powP_zero]; rfl
  | f + 1, e, h => by
    rw [pmF]
    by_cases h0 : e = 0
    · rw [if_pos h0, h0, powP_zero]
    · rw [if_neg h0, pmF_eq a f (e / 2) (by rw [Nat.pow_succ] at h; omega)]
      show (if e % 2 = 1 then powP a (e / 2) * powP a (e / 2) % pN * a % pN else powP a (e / 2) * powP a (e / 2) % pN) = powP a e
      rw [powP_double]
      by_cases h1 : e % 2 = 1
      · rw [if_pos h1, powP_succ]; congr 1; omega
      · rw [if_neg h1]; congr 1; omega
theorem pow2 (a e : Nat) (h : e < 2 ^ 256) : powP a e = pmF a 256 e := (pmF_eq a 256 e h).symm
theorem pow_i : powP 2 (pN / 4) = 19681161376707505956807079304988542015446066515923890162744021073123829784752 := by
  rw [pow2 2 _ (show pN / 4 < 2 ^ 256 by decide +kernel)]; decide +kernel
end Go.Proofs.Ytejnnghfelpioaa
