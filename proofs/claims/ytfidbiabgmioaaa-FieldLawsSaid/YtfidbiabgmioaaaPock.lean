import Derived.Test.YtfidbiabgmioaaaBase
/-! Plain numbers: Fermat, Pocklington, and that 2^255 - 19 is a prime number. -/
set_option maxRecDepth 4000
set_option linter.unusedVariables false
set_option linter.unusedSimpArgs false
namespace Go.Proofs.Ytfidbiabgmioaaa

def IsP (r : Nat) : Prop := 2 ≤ r ∧ ∀ d, d ∣ r → d = 1 ∨ d = r

theorem IsP.euclid {r a b : Nat} (h : IsP r) (hd : r ∣ a * b) : r ∣ a ∨ r ∣ b := by
  rcases h.2 (Nat.gcd r a) (Nat.gcd_dvd_left r a) with h1 | h1
  · exact .inr (Nat.Coprime.dvd_of_dvd_mul_left h1 hd)
  · exact .inl (h1 ▸ Nat.gcd_dvd_right r a)
theorem IsP.coprime {r a : Nat} (h : IsP r) (hn : ¬ r ∣ a) : Nat.gcd r a = 1 := by
  rcases h.2 (Nat.gcd r a) (Nat.gcd_dvd_left r a) with h1 | h1
  · exact h1
  · exact absurd (h1 ▸ Nat.gcd_dvd_right r a) hn

/-- A prime divisor, whose square is no more than n if n is none. -/
theorem prime_div : ∀ (k n : Nat), n ≤ k → 2 ≤ n → ∃ r, IsP r ∧ r ∣ n ∧ (¬ IsP n → r * r ≤ n) := by
  intro k
  induction k with
  | zero => intro n h1 h2; omega
  | succ k ih =>
    intro n h1 h2
    by_cases hp : IsP n
    · exact ⟨n, hp, Nat.dvd_refl n, fun h => absurd hp h⟩
    · have hne : ∃ d, d ∣ n ∧ d ≠ 1 ∧ d ≠ n := by
        apply Classical.byContradiction
        intro hc
        apply hp
        refine ⟨h2, fun d hd => ?_⟩
        by_cases e1 : d = 1
        · exact .inl e1
        · by_cases e2 : d = n
          · exact .inr e2
          · exact absurd ⟨d, hd, e1, e2⟩ hc
      obtain ⟨d, ⟨e, he⟩, hd1, hd2⟩ := hne
      have hd0 : d ≠ 0 := by rintro rfl; rw [Nat.zero_mul] at he; omega
      have he0 : e ≠ 0 := by rintro rfl; rw [Nat.mul_zero] at he; omega
      have he1 : e ≠ 1 := by rintro rfl; rw [Nat.mul_one] at he; exact hd2 he.symm
      have hdl : d < n := by rw [he]; have := Nat.mul_lt_mul_of_pos_left (show 1 < e by omega) (show 0 < d by omega); omega
      have hel : e < n := by rw [he]; have := Nat.mul_lt_mul_of_pos_right (show 1 < d by omega) (show 0 < e by omega); omega
      rcases Nat.le_total d e with hle | hle
      · obtain ⟨r, hr, hrd, _⟩ := ih d (by omega) (by omega)
        refine ⟨r, hr, Nat.dvd_trans hrd ⟨e, he⟩, fun _ => ?_⟩
        have hrl := Nat.le_of_dvd (by omega) hrd
        rw [he]; exact Nat.mul_le_mul hrl (Nat.le_trans hrl hle)
      · obtain ⟨r, hr, hrd, _⟩ := ih e (by omega) (by omega)
        refine ⟨r, hr, Nat.dvd_trans hrd ⟨d, by rw [he, Nat.mul_comm]⟩, fun _ => ?_⟩
        have hrl := Nat.le_of_dvd (by omega) hrd
        rw [he]; exact Nat.mul_le_mul (Nat.le_trans hrl hle) hrl

/-- By trial. -/
def noDiv (n : Nat) : Nat → Bool
  | 0 => true
  | d + 1 => (decide (d < 2) || decide (n % d ≠ 0)) && noDiv n d
theorem noDiv_spec (n : Nat) : ∀ k, noDiv n k = true → ∀ d, 2 ≤ d → d < k → ¬ d ∣ n := by
  intro k
  induction k with
  | zero => intro _ d _ h; omega
  | succ k ih =>
    intro h d h2 hl
    rw [noDiv, Bool.and_eq_true] at h
    by_cases e : d = k
    · subst e
      intro hd
      have h1 := h.1
      rw [Bool.or_eq_true, decide_eq_true_eq, decide_eq_true_eq] at h1
      rcases h1 with h1 | h1
      · omega
      · exact h1 (Nat.mod_eq_zero_of_dvd hd)
    · exact ih h.2 d h2 (by omega)
theorem prime_trial (n k : Nat) (h2 : 2 ≤ n) (hk : n < k * k) (h : noDiv n k = true) : IsP n := by
  obtain ⟨r, hr, hd, hs⟩ := prime_div n n (Nat.le_refl _) h2
  apply Classical.byContradiction
  intro hn
  have h3 := hs hn
  have hrk : r < k := by
    rcases Nat.lt_or_ge r k with h4 | h4
    · exact h4
    · exact absurd (Nat.le_trans (Nat.mul_le_mul h4 h4) h3) (by omega)
  exact noDiv_spec n k h r hr.1 hrk hd

/-! ### Powers modulo n -/
theorem pow_mod_cong {a b n : Nat} (h : a % n = b % n) : ∀ k, a ^ k % n = b ^ k % n := by
  intro k
  induction k with
  | zero => rfl
  | succ k ih => rw [Nat.pow_succ, Nat.pow_succ, Nat.mul_mod, ih, h, ← Nat.mul_mod]
theorem pow_one_mul {a n k : Nat} (h : a ^ k % n = 1 % n) (m : Nat) : a ^ (k * m) % n = 1 % n := by
  rw [Nat.pow_mul, pow_mod_cong h m, Nat.one_pow]
theorem pow_one_gcd {a n : Nat} : ∀ x y : Nat, a ^ x % n = 1 % n → a ^ y % n = 1 % n → a ^ (Nat.gcd x y) % n = 1 % n := by
  intro x
  induction x using Nat.strongRecOn with
  | ind x ih =>
    intro y hx hy
    by_cases h0 : x = 0
    · subst h0; rw [Nat.gcd_zero_left]; exact hy
    · rw [Nat.gcd_rec]
      refine ih (y % x) (Nat.mod_lt _ (by omega)) x ?_ hx
      have e : a ^ y = a ^ (x * (y / x)) * a ^ (y % x) := by rw [← Nat.pow_add, Nat.div_add_mod]
      have h1 := pow_one_mul hx (y / x)
      rw [e, Nat.mul_mod, h1, ← Nat.mul_mod, Nat.one_mul] at hy
      exact hy

/-! ### Fermat -/
def ch : Nat → Nat → Nat
  | _, 0 => 1
  | 0, _ + 1 => 0
  | n + 1, k + 1 => ch n k + ch n (k + 1)
theorem ch_over : ∀ n k, n < k → ch n k = 0 := by
  intro n
  induction n with
  | zero => intro k h; cases k with
    | zero => omega
    | succ k => rfl
  | succ n ih => intro k h; cases k with
    | zero => omega
    | succ k => rw [ch, ih k (by omega), ih (k + 1) (by omega)]
theorem ch_self : ∀ n, ch n n = 1 := by
  intro n
  induction n with
  | zero => rfl
  | succ n ih => rw [ch, ih, ch_over n (n + 1) (by omega)]
theorem ch_zero (n : Nat) : ch n 0 = 1 := by cases n <;> rfl
theorem ch_mul : ∀ n k, ch (n + 1) (k + 1) * (k + 1) = (n + 1) * ch n k := by
  intro n
  induction n with
  | zero => intro k; cases k with
    | zero => rfl
    | succ k => simp [ch]
  | succ n ih =>
    intro k
    cases k with
    | zero =>
      have h0 := ih 0
      rw [ch_zero, Nat.zero_add, Nat.mul_one, Nat.mul_one] at h0
      rw [show ch (n + 1 + 1) (0 + 1) = ch (n + 1) 0 + ch (n + 1) (0 + 1) from rfl, ch_zero, Nat.zero_add, Nat.mul_one, Nat.mul_one]; omega
    | succ k =>
      have h1 := ih k
      have h2 := ih (k + 1)
      rw [show ch (n + 1 + 1) (k + 1 + 1) = ch (n + 1) (k + 1) + ch (n + 1) (k + 1 + 1) from rfl]
      have h3 : ch (n + 1) (k + 1) * (k + 1 + 1) = (n + 1) * ch n k + ch (n + 1) (k + 1) := by rw [Nat.mul_succ, h1]
      rw [Nat.add_mul, h3, h2]
      have h4 : ch (n + 1) (k + 1) = ch n k + ch n (k + 1) := rfl
      have h5 : (n + 1 + 1) * ch (n + 1) (k + 1) = (n + 1) * ch (n + 1) (k + 1) + ch (n + 1) (k + 1) := Nat.succ_mul _ _
      rw [h5]
      have h6 : (n + 1) * ch (n + 1) (k + 1) = (n + 1) * ch n k + (n + 1) * ch n (k + 1) := by rw [h4, Nat.mul_add]
      omega
theorem dvd_sub_mod (a b r : Nat) (h : b % r = a % r) : r ∣ b - a := by
  rcases Nat.lt_or_ge b a with h1 | h1
  · rw [Nat.sub_eq_zero_of_le (Nat.le_of_lt h1)]; exact ⟨0, rfl⟩
  · exact ⟨b / r - a / r, by have e1 := Nat.div_add_mod b r; have e2 := Nat.div_add_mod a r; rw [Nat.mul_sub]; omega⟩
def sumTo (f : Nat → Nat) : Nat → Nat
  | 0 => 0
  | n + 1 => sumTo f n + f n
theorem sumTo_front (f : Nat → Nat) : ∀ n, sumTo f (n + 1) = f 0 + sumTo (fun k => f (k + 1)) n := by
  intro n
  induction n with
  | zero => simp [sumTo]
  | succ n ih => rw [sumTo, ih, sumTo, Nat.add_assoc]
theorem sumTo_add (f g : Nat → Nat) : ∀ n, sumTo (fun k => f k + g k) n = sumTo f n + sumTo g n := by
  intro n
  induction n with
  | zero => rfl
  | succ n ih => simp only [sumTo, ih]; omega
theorem sumTo_mul (f : Nat → Nat) (a : Nat) : ∀ n, sumTo (fun k => a * f k) n = a * sumTo f n := by
  intro n
  induction n with
  | zero => rfl
  | succ n ih => simp only [sumTo, ih, Nat.mul_add]
theorem sumTo_congr {f g : Nat → Nat} : ∀ n, (∀ k, k < n → f k = g k) → sumTo f n = sumTo g n := by
  intro n
  induction n with
  | zero => intro _; rfl
  | succ n ih => intro h; rw [sumTo, sumTo, ih fun k hk => h k (by omega), h n (by omega)]
theorem sumTo_dvd (r : Nat) (f : Nat → Nat) : ∀ n, (∀ k, k < n → r ∣ f k) → r ∣ sumTo f n := by
  intro n
  induction n with
  | zero => intro _; exact ⟨0, rfl⟩
  | succ n ih => intro h; exact Nat.dvd_add (ih fun k hk => h k (by omega)) (h n (by omega))
theorem binom (a : Nat) : ∀ n, (a + 1) ^ n = sumTo (fun k => ch n k * a ^ k) (n + 1) := by
  intro n
  induction n with
  | zero => simp [sumTo, ch]
  | succ n ih =>
    rw [sumTo_front, ch_zero]
    have e1 : sumTo (fun k => ch (n + 1) (k + 1) * a ^ (k + 1)) (n + 1) = sumTo (fun k => a * (ch n k * a ^ k) + ch n (k + 1) * a ^ (k + 1)) (n + 1) :=
      sumTo_congr _ fun k _ => by
        rw [show ch (n + 1) (k + 1) = ch n k + ch n (k + 1) from rfl, Nat.add_mul, Nat.pow_succ]
        rw [show ch n k * (a ^ k * a) = a * (ch n k * a ^ k) by rw [← Nat.mul_assoc, Nat.mul_comm]]
    have e2 : sumTo (fun k => ch n k * a ^ k) (n + 1 + 1) = ch n 0 * a ^ 0 + sumTo (fun k => ch n (k + 1) * a ^ (k + 1)) (n + 1) := sumTo_front _ _
    have e3 : sumTo (fun k => ch n k * a ^ k) (n + 1 + 1) = sumTo (fun k => ch n k * a ^ k) (n + 1) := by
      rw [sumTo, ch_over n (n + 1) (by omega), Nat.zero_mul, Nat.add_zero]
    rw [e1, sumTo_add, sumTo_mul, ← ih]
    rw [ch_zero] at e2
    rw [e3, ← ih] at e2
    rw [Nat.pow_succ, Nat.mul_add, Nat.mul_one, Nat.mul_comm _ a]
    omega
theorem fermat_add (r : Nat) (h : IsP r) (a : Nat) : (a + 1) ^ r % r = (a ^ r + 1) % r := by
  obtain ⟨m, rfl⟩ : ∃ m, r = m + 1 := ⟨r - 1, by have := h.1; omega⟩
  rw [binom a (m + 1), sumTo, sumTo_front, ch_self, ch_zero, Nat.pow_zero, Nat.one_mul, Nat.one_mul]
  have hd : (m + 1) ∣ sumTo (fun k => ch (m + 1) (k + 1) * a ^ (k + 1)) m := sumTo_dvd _ _ _ fun k hk => by
    have h1 : (m + 1) ∣ ch (m + 1) (k + 1) * (k + 1) := ⟨ch m k, ch_mul m k⟩
    rcases h.euclid h1 with h2 | h2
    · exact Nat.dvd_trans h2 ⟨_, rfl⟩
    · have := Nat.le_of_dvd (by omega) h2; omega
  obtain ⟨c, hc⟩ := hd
  rw [hc, show 1 + (m + 1) * c + a ^ (m + 1) = a ^ (m + 1) + 1 + (m + 1) * c by omega, Nat.add_mul_mod_self_left]
theorem fermat0 (r : Nat) (h : IsP r) : ∀ a, a ^ r % r = a % r := by
  intro a
  induction a with
  | zero => rw [Nat.zero_pow (by have := h.1; omega)]
  | succ a ih => rw [fermat_add r h a, Nat.add_mod, ih, ← Nat.add_mod]
theorem fermat (r : Nat) (h : IsP r) (a : Nat) (hn : a % r ≠ 0) : a ^ (r - 1) % r = 1 := by
  have h2 := h.1
  have h0 := fermat0 r h a
  obtain ⟨m, rfl⟩ : ∃ m, r = m + 1 := ⟨r - 1, by omega⟩
  rw [Nat.add_sub_cancel]
  have hpos : 0 < a ^ m := Nat.pow_pos (by rcases Nat.eq_zero_or_pos a with e | e; (subst e; simp at hn); exact e)
  have hd : (m + 1) ∣ a * (a ^ m - 1) := by
    rw [Nat.mul_sub, Nat.mul_one, Nat.mul_comm, ← Nat.pow_succ]
    exact (dvd_sub_mod a (a ^ (m + 1)) (m + 1) h0)
  rcases h.euclid hd with h3 | h3
  · exact absurd (Nat.mod_eq_zero_of_dvd h3) hn
  · obtain ⟨c, hc⟩ := h3
    rw [show a ^ m = 1 + (m + 1) * c by omega, Nat.add_mul_mod_self_left, Nat.mod_eq_of_lt (by omega)]

/-- Pocklington: q is a prime that comes in r - 1 for each prime r of n. -/
theorem pock_one {n q c a r : Nat} (hq : IsP q) (hc : n - 1 = q * c) (h1 : a ^ (n - 1) % n = 1) (h2 : Nat.gcd (a ^ c % n + (n - 1)) n = 1) (hn : 2 ≤ n) (hr : IsP r) (hd : r ∣ n) : q ∣ r - 1 := by
  have h1r : a ^ (n - 1) % r = 1 % r := by
    rw [← Nat.mod_mod_of_dvd (a ^ (n - 1)) hd, h1]
  have har : a % r ≠ 0 := by
    intro h0
    have h3 : a ^ (n - 1) % r = 0 := by
      obtain ⟨k, hk⟩ : ∃ k, n - 1 = k + 1 := ⟨n - 2, by omega⟩
      rw [hk, Nat.pow_succ, Nat.mul_mod, h0, Nat.mul_zero, Nat.zero_mod]
    have := hr.1
    rw [h3, Nat.mod_eq_of_lt (by omega)] at h1r; omega
  have hf : a ^ (r - 1) % r = 1 % r := by rw [fermat r hr a har, Nat.mod_eq_of_lt (by have := hr.1; omega)]
  apply Classical.byContradiction
  intro hqn
  have hg : Nat.gcd (q * c) (r - 1) ∣ c := by
    have hcop : Nat.Coprime (Nat.gcd (q * c) (r - 1)) q :=
      (show Nat.Coprime (r - 1) q from Nat.Coprime.symm (hq.coprime hqn)).coprime_dvd_left (Nat.gcd_dvd_right _ _)
    exact hcop.dvd_of_dvd_mul_left (Nat.gcd_dvd_left _ _)
  have h4 := pow_one_gcd (a := a) (n := r) (n - 1) (r - 1) h1r hf
  rw [hc] at h4
  obtain ⟨k, hk⟩ := hg
  have h5 : a ^ c % r = 1 % r := by
    obtain ⟨g, hgd⟩ : ∃ g, g = Nat.gcd (q * c) (r - 1) := ⟨_, rfl⟩
    rw [← hgd] at h4 hk
    rw [hk]; exact pow_one_mul h4 k
  have hr1 : r ∣ a ^ c % n + (n - 1) := by
    obtain ⟨e, he⟩ := hd
    have h6 : (a ^ c % n) % r = 1 % r := by rw [Nat.mod_mod_of_dvd _ ⟨e, he⟩]; exact h5
    have h7 : (a ^ c % n + (n - 1)) % r = (1 + (n - 1)) % r := by rw [Nat.add_mod, h6, ← Nat.add_mod]
    rw [show 1 + (n - 1) = n by omega, he, Nat.mul_mod_right] at h7
    rw [← he] at h7
    exact Nat.dvd_of_mod_eq_zero h7
  have h8 := Nat.dvd_gcd hr1 hd
  rw [h2] at h8
  have := Nat.le_of_dvd (by omega) h8
  have := hr.1
  omega

theorem prime_of {n F : Nat} (hn : 2 ≤ n) (hF : n < F * F) (hF2 : 1 ≤ F) (h : ∀ r, IsP r → r ∣ n → F ∣ r - 1) : IsP n := by
  obtain ⟨r, hr, hd, hs⟩ := prime_div n n (Nat.le_refl _) hn
  apply Classical.byContradiction
  intro hnp
  have h3 := hs hnp
  have hle := Nat.le_of_dvd (by have := hr.1; omega) (h r hr hd)
  have : F * F ≤ r * r := Nat.mul_le_mul (by omega) (by omega)
  omega
theorem pock1 {n q c a : Nat} (hq : IsP q) (hn : 2 ≤ n) (hc : n - 1 = q * c) (h1 : a ^ (n - 1) % n = 1) (h2 : Nat.gcd (a ^ c % n + (n - 1)) n = 1) (hF : n < q * q) : IsP n :=
  prime_of hn hF (by have := hq.1; omega) fun r hr hd => pock_one hq hc h1 h2 hn hr hd
theorem pock2 {n q c s d a : Nat} (hq : IsP q) (hs : IsP s) (hqs : Nat.gcd q s = 1) (hn : 2 ≤ n) (hc : n - 1 = q * c) (hd : n - 1 = s * d) (h1 : a ^ (n - 1) % n = 1)
    (h2 : Nat.gcd (a ^ c % n + (n - 1)) n = 1) (h3 : Nat.gcd (a ^ d % n + (n - 1)) n = 1) (hF : n < (q * s) * (q * s)) : IsP n :=
  prime_of hn hF (by have := Nat.mul_le_mul hq.1 hs.1; omega) fun r hr hd' =>
    Nat.Coprime.mul_dvd_of_dvd_of_dvd hqs (pock_one hq hc h1 h2 hn hr hd') (pock_one hs hd h1 h3 hn hr hd')

/-! ### Fast powers, and the primes -/
def pmG (n a : Nat) : Nat → Nat → Nat
  | 0, _ => 1 % n
  | f + 1, e => (if e % 2 = 1 then a else 1) * (pmG n a f (e / 2) * pmG n a f (e / 2) % n) % n
theorem pmG_eq (n a : Nat) : ∀ f e, e < 2 ^ f → pmG n a f e = a ^ e % n := by
  intro f
  induction f with
  | zero => intro e h; obtain rfl : e = 0 := by simp at h; exact h
            rfl
  | succ f ih =>
    intro e h
    have h2 : e / 2 < 2 ^ f := by rw [Nat.pow_succ] at h; omega
    rw [pmG, ih _ h2]
    have e1 : a ^ e = (if e % 2 = 1 then a else 1) * (a ^ (e / 2) * a ^ (e / 2)) := by
      rw [← Nat.pow_add]
      by_cases h1 : e % 2 = 1
      · rw [if_pos h1, Nat.mul_comm, ← Nat.pow_succ]; congr 1; omega
      · rw [if_neg h1, Nat.one_mul]; congr 1; omega
    rw [e1, Nat.mul_mod _ ((a ^ (e / 2) % n) * (a ^ (e / 2) % n) % n), Nat.mod_mod, ← Nat.mul_mod (a ^ (e / 2)), ← Nat.mul_mod]
theorem pockF1 {n q c a : Nat} (f : Nat) (hq : IsP q) (hn : 2 ≤ n) (hc : n - 1 = q * c) (hl : n - 1 < 2 ^ f) (hlc : c < 2 ^ f) (h1 : pmG n a f (n - 1) = 1) (h2 : Nat.gcd (pmG n a f c + (n - 1)) n = 1) (hF : n < q * q) : IsP n := by
  rw [pmG_eq _ _ _ _ hl] at h1
  rw [pmG_eq _ _ _ _ hlc] at h2
  exact pock1 hq hn hc h1 h2 hF
theorem pockF2 {n q c s d a : Nat} (f : Nat) (hq : IsP q) (hs : IsP s) (hqs : Nat.gcd q s = 1) (hn : 2 ≤ n) (hc : n - 1 = q * c) (hd : n - 1 = s * d) (hl : n - 1 < 2 ^ f) (hlc : c < 2 ^ f) (hld : d < 2 ^ f)
    (h1 : pmG n a f (n - 1) = 1) (h2 : Nat.gcd (pmG n a f c + (n - 1)) n = 1) (h3 : Nat.gcd (pmG n a f d + (n - 1)) n = 1) (hF : n < (q * s) * (q * s)) : IsP n := by
  rw [pmG_eq _ _ _ _ hl] at h1
  rw [pmG_eq _ _ _ _ hlc] at h2
  rw [pmG_eq _ _ _ _ hld] at h3
  exact pock2 hq hs hqs hn hc hd h1 h2 h3 hF
theorem ip_47 : IsP 47 := prime_trial 47 7 (by decide) (by decide) (by decide +kernel)
theorem ip_353 : IsP 353 := prime_trial 353 19 (by decide) (by decide) (by decide +kernel)
theorem ip_75707 : IsP 75707 := prime_trial 75707 276 (by decide) (by decide) (by decide +kernel)
theorem ip_C : IsP 8574133 := prime_trial 8574133 2929 (by decide) (by decide) (by decide +kernel)
theorem ip_B : IsP 1919519569386763 :=
  pockF2 (q := 8574133) (c := 223873314) (s := 47) (d := 40840841901846) (a := 2) 64 ip_C ip_47 (by decide +kernel) (by decide +kernel) (by decide +kernel) (by decide +kernel) (by decide +kernel) (by decide +kernel) (by decide +kernel) (by decide +kernel) (by decide +kernel) (by decide +kernel) (by decide +kernel)
theorem ip_A : IsP 75445702479781427272750846543864801 :=
  pockF2 (q := 1919519569386763) (c := 39304471641247389600) (s := 75707) (d := 996548568557483816196003626400) (a := 2) 128 ip_B ip_75707 (by decide +kernel) (by decide +kernel) (by decide +kernel) (by decide +kernel) (by decide +kernel) (by decide +kernel) (by decide +kernel) (by decide +kernel) (by decide +kernel) (by decide +kernel) (by decide +kernel)
theorem ip_q1 : IsP 74058212732561358302231226437062788676166966415465897661863160754340907 :=
  pockF2 (q := 75445702479781427272750846543864801) (c := 981609426360740691344999861639072106) (s := 353) (d := 209796636636151156663544550813209033076960244803019540118592523383402) (a := 2) 256 ip_A ip_353 (by decide +kernel) (by decide +kernel) (by decide +kernel) (by decide +kernel) (by decide +kernel) (by decide +kernel) (by decide +kernel) (by decide +kernel) (by decide +kernel) (by decide +kernel) (by decide +kernel)
theorem ip_p : IsP 57896044618658097711785492504343953926634992332820282019728792003956564819949 :=
  pockF1 (q := 74058212732561358302231226437062788676166966415465897661863160754340907) (c := 781764) (a := 2) 256 ip_q1 (by decide +kernel) (by decide +kernel) (by decide +kernel) (by decide +kernel) (by decide +kernel) (by decide +kernel) (by decide +kernel)
end Go.Proofs.Ytfidbiabgmioaaa
