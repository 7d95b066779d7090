import Derived.Test.YtmlaenfgfgloeaaBase
/-! conclaveref03.prime. -/
set_option maxRecDepth 4000
set_option linter.unusedVariables false
set_option linter.unusedSimpArgs false
namespace Go.Proofs.Ytmlaenfgfgloeaa
open Go.RowKit

def prL : List Nat := [2, 3, 5, 7, 11, 13, 17, 19, 23, 29, 31, 37, 41, 43, 47, 53, 59, 61, 67, 71, 73, 79, 83, 89, 97, 101, 103, 107, 109, 113, 127, 131, 137, 139, 149, 151, 157, 163, 167, 173, 179, 181, 191, 193, 197, 199, 211, 223, 227, 229, 233, 239, 241, 251, 257, 263, 269, 271, 277, 281, 283, 293, 307, 311, 313, 317, 331, 337, 347, 349, 353, 359, 367, 373, 379, 383, 389, 397, 401, 409]
def prN (i : Nat) : Nat := prL.getD i 0
/-- How many primes there are up to n. -/
def cnt (n : Nat) : Nat := (prL.filter fun p => decide (p ≤ n)).length
/-- No divisor of n from 2 on below d. -/
def okTo (n d : Nat) : Bool := (List.range d).all fun e => decide (e < 2) || decide (n % e ≠ 0)
theorem okTo_succ (n d : Nat) (hd : 2 ≤ d) : okTo n (d + 1) = (okTo n d && decide (n % d ≠ 0)) := by
  unfold okTo
  rw [List.range_succ, List.all_append]
  simp [show ¬ d < 2 by omega]
theorem okTo_all0 : ((List.range 410).all fun n => (List.range 22).all fun d => !(decide (2 ≤ n) && decide (2 ≤ d) && decide ((d - 1) * (d - 1) ≤ n) && decide (n < d * d)) || (okTo n d == decide (n ∈ prL))) = true := by decide +kernel
theorem okTo_all (n : Nat) (hn : n ≤ 409) (h2 : 2 ≤ n) (d : Nat) (hd : d ≤ 21) (hd2 : 2 ≤ d) (hl : (d - 1) * (d - 1) ≤ n) (hu : n < d * d) : okTo n d = decide (n ∈ prL) := by
  have h := List.all_eq_true.1 (List.all_eq_true.1 okTo_all0 n (List.mem_range.2 (by omega))) d (List.mem_range.2 (by omega))
  rw [decide_eq_true h2, decide_eq_true hd2, decide_eq_true hl, decide_eq_true hu] at h
  simpa using h
theorem cnt_step : ∀ n, n < 409 → cnt (n + 1) = (if n + 1 ∈ prL then cnt n + 1 else cnt n) ∧ (n + 1 ∈ prL → prN (cnt n) = n + 1) := by decide +kernel
theorem cnt_top : ∀ n, n ≤ 409 → cnt n ≤ 79 → n < 409 := by decide +kernel
theorem prN_bd : ∀ i, i < 80 → 2 ≤ prN i ∧ prN i ≤ 409 := by decide +kernel
theorem sq_le : ∀ d, d ≤ 21 → ∀ n, n ≤ 409 → d * d ≤ n → d ≤ 20 := by
  intro d hd n hn h
  rcases Nat.lt_or_ge d 21 with h1 | h1
  · omega
  · obtain rfl : d = 21 := by omega
    omega

set_option maxHeartbeats 2000000 in
theorem prime_any (i : Nat) (w : World) (hi : i < 80) :
    Calls Try.prog 41 #[.int .i64 (i : Int)] w fun e w' => e = .returned (.int .i64 ((prN i : Nat) : Int)) ∧ Below w.heap.size w w' := by
  go_enter Try.func41, Try.ntmps41
  go_wp2
  go_loopw [0, 3] (fun iv nv wr => ∃ n : Nat, 1 ≤ n ∧ n ≤ 409 ∧ iv = .int .i64 ((i : Int) - (cnt n : Nat)) ∧ nv = .int .i64 (n : Int) ∧ (cnt n ≤ i ∨ (cnt n = i + 1 ∧ prN i = n)) ∧ Below w.heap.size w wr)
    (fun _ nv _ => 410 - (intOf nv).toNat)
  case atStart => exact ⟨1, by omega, by omega, by simp [show cnt 1 = 0 from by decide +kernel], rfl, .inl (by rw [show cnt 1 = 0 from by decide +kernel]; omega), Below.refl _ _⟩
  case round =>
    obtain ⟨n, h1, h2, rfl, rfl, hc, hb⟩ := hrel
    obtain ⟨c, hcn⟩ : ∃ c, c = cnt n := ⟨_, rfl⟩
    rw [← hcn] at hc ⊢
    by_cases hlt : c ≤ i
    · have hn := cnt_top n h2 (by omega)
      have HC := hid hcn
      have hge : (c : Int) ≤ (i : Int) := by omega
      clear hc hcn
      go_wp2
      obtain ⟨m, hm⟩ : ∃ m : Nat, m = n + 1 := ⟨_, rfl⟩
      have hmi : (n : Int) + 1 = (m : Int) := by omega
      rw [hmi]
      obtain ⟨w1, hw1⟩ : ∃ w1 : World, w1 = wr := ⟨_, rfl⟩
      subst hw1
      have HM := hid hm
      have hm2 : 2 ≤ m := by omega
      have hm9 : m ≤ 409 := by omega
      clear hm hmi
      go_loopw [4, 5] (fun bv dv wr => ∃ d : Nat, 2 ≤ d ∧ d ≤ 21 ∧ bv = .bool (okTo m d) ∧ dv = .int .i64 (d : Int) ∧ Hid ((d - 1) * (d - 1) ≤ m) ∧ Below w.heap.size w wr)
        (fun _ dv _ => 22 - (intOf dv).toNat)
      case atStart => exact ⟨2, by omega, by omega, rfl, rfl, hid (by omega), hb⟩
      case round =>
        clear hb
        obtain ⟨d, hd2, hd21, rfl, rfl, hlow, hb⟩ := hrel
        obtain ⟨q, hq⟩ : ∃ q : Nat, q = d * d := ⟨_, rfl⟩
        have hwr : wrap64 ((d : Int) * (d : Int)) = (q : Int) := by
          have h3 : d * d ≤ 21 * 21 := Nat.mul_le_mul hd21 hd21
          rw [hq, Int.natCast_mul]
          have h4 : ((d * d : Nat) : Int) = (d : Int) * (d : Int) := Int.natCast_mul d d
          unfold wrap64; omega
        have HQ := hid hq
        clear hq
        by_cases hle : q ≤ m
        · have hd20 : d ≤ 20 := sq_le d hd21 m hm9 (by rw [← HQ.out]; exact hle)
          obtain ⟨bb, hbb⟩ : ∃ bb, bb = okTo m d := ⟨_, rfl⟩
          rw [← hbb]
          have HL2 := hid (show (d + 1 - 1) * (d + 1 - 1) ≤ m by rw [Nat.add_sub_cancel, ← HQ.out]; exact hle)
          obtain ⟨r, hr⟩ : ∃ r : Nat, r = m % d := ⟨_, rfl⟩
          have hri : (m : Int) % (d : Int) = (r : Int) := by omega
          have HO := hid (show okTo m (d + 1) = (bb && decide (r ≠ 0)) by rw [okTo_succ _ _ hd2, hbb, hr])
          clear hbb hr
          cases bb
          · rw [Bool.false_and] at HO
            go_wp2
            go_roundw
            case rel => exact ⟨d + 1, by omega, by omega, by rw [HO.out], by go_num, HL2, hb⟩
            case measure => simp [intOf]; omega
          · rw [Bool.true_and] at HO
            by_cases h0 : r = 0
            · subst h0
              go_wp2
              go_roundw
              case rel => exact ⟨d + 1, by omega, by omega, by rw [HO.out]; rfl, by go_num, HL2, hb⟩
              case measure => simp [intOf]; omega
            · have hr0 : ¬ (r : Int) = 0 := by omega
              rw [decide_eq_true h0] at HO
              go_wp2
              go_roundw
              case rel => exact ⟨d + 1, by omega, by omega, by rw [HO.out]; simpa using h0, by go_num, HL2, hb⟩
              case measure => simp [intOf]; omega
        · have hp := okTo_all m hm9 hm2 d hd21 hd2 hlow.out (by rw [← HQ.out]; omega)
          have hst := cnt_step n hn
          rw [← HM.out, ← HC.out] at hst
          rw [hp]
          by_cases hmem : m ∈ prL
          · rw [if_pos hmem] at hst
            have HS := hid (And.intro hst.1 (hst.2 hmem))
            rw [decide_eq_true hmem]
            clear hst hp hmem
            go_wp2
            go_roundw
            case rel => exact ⟨m, by omega, by omega, by rw [HS.out.1]; go_num, rfl, by
              rcases Nat.lt_or_ge c i with h | h
              · exact .inl (by rw [HS.out.1]; omega)
              · have : c = i := by omega
                subst this
                exact .inr ⟨HS.out.1, HS.out.2⟩, hb⟩
            case measure => have := HM.out; simp [intOf]; omega
          · rw [if_neg hmem] at hst
            have HS := hid hst.1
            rw [decide_eq_false hmem]
            clear hst hp hmem
            go_wp2
            go_roundw
            case rel => exact ⟨m, by omega, by omega, by rw [HS.out], rfl, .inl (by rw [HS.out]; exact hlt), hb⟩
            case measure => have := HM.out; simp [intOf]; omega
    · obtain ⟨rfl, hpr⟩ : c = i + 1 ∧ prN i = n := by
        rcases hc with h | h
        · exact absurd h hlt
        · exact h
      have HP := hid hpr
      have hneg : ¬ (0 : Int) ≤ (i : Int) - ((i + 1 : Nat) : Int) := by omega
      clear hpr hcn hc
      go_wp2
      go_ret
      exact ⟨by rw [HP.out]; rfl, hb⟩
end Go.Proofs.Ytmlaenfgfgloeaa
