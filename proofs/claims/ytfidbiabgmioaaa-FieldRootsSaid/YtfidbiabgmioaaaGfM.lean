import Derived.Test.YtfidbiabgmioaaaRFA
/-! conclaveref04's numbers as digits of 16 bits: the plain laws. -/
set_option maxRecDepth 4000
set_option linter.unusedVariables false
set_option linter.unusedSimpArgs false
namespace Go.Proofs.Ytfidbiabgmioaaa
open Go.RowKit

/-- Numbers as lists of digits of 16 bits, the lowest first; whatever sign. -/
def ni (xs : List Int) (j : Nat) : Int := xs.getD j 0
def val : List Int → Int
  | [] => 0
  | x :: l => x + 65536 * val l
theorem ni_cons_succ (x : Int) (l : List Int) (j : Nat) : ni (x :: l) (j + 1) = ni l j := by simp [ni]
theorem ni_out (l : List Int) (j : Nat) (h : l.length ≤ j) : ni l j = 0 := by simp [ni, List.getElem?_eq_none h]
theorem ni_set (l : List Int) (i j : Nat) (x : Int) (hi : i < l.length) : ni (l.set i x) j = if i = j then x else ni l j := by
  unfold ni
  rw [List.getD_eq_getElem?_getD, List.getElem?_set, List.getD_eq_getElem?_getD]
  split <;> simp_all
theorem ni_take (l : List Int) (i j : Nat) : ni (l.take i) j = if j < i then ni l j else 0 := by
  unfold ni
  rw [List.getD_eq_getElem?_getD, List.getD_eq_getElem?_getD, List.getElem?_take]
  split <;> rfl
theorem ni_drop (l : List Int) (i j : Nat) : ni (l.drop i) j = ni l (i + j) := by
  unfold ni
  rw [List.getD_eq_getElem?_getD, List.getD_eq_getElem?_getD, List.getElem?_drop]
theorem ni_ext {s t : List Int} (hl : s.length = t.length) (h : ∀ i, i < s.length → ni s i = ni t i) : s = t := by
  apply List.ext_getElem hl
  intro i h1 h2
  have := h i h1
  unfold ni at this
  simpa [List.getD_eq_getElem?_getD, h1, h2] using this
theorem val_app (a b : List Int) : val (a ++ b) = val a + 65536 ^ a.length * val b := by
  induction a with
  | nil => simp [val]
  | cons x a ih =>
    show x + 65536 * val (a ++ b) = x + 65536 * val a + 65536 ^ (a.length + 1) * val b
    rw [ih, Int.mul_add, Int.pow_succ, ← Int.mul_assoc, Int.mul_comm 65536 (65536 ^ a.length), Int.add_assoc]
theorem val_split (l : List Int) (i : Nat) (h : i ≤ l.length) : val l = val (l.take i) + 65536 ^ i * val (l.drop i) := by
  have := val_app (l.take i) (l.drop i)
  rw [List.take_append_drop, List.length_take, Nat.min_eq_left h] at this
  exact this
theorem val_drop (l : List Int) (i : Nat) : val (l.drop i) = ni l i + 65536 * val (l.drop (i + 1)) := by
  induction l generalizing i with
  | nil => simp [val, ni]
  | cons x l ih =>
    cases i with
    | zero => simp [val, ni]
    | succ i => rw [List.drop_succ_cons, List.drop_succ_cons, ni_cons_succ]; exact ih i
theorem val_take_succ (l : List Int) (i : Nat) (h : i < l.length) : val (l.take (i + 1)) = val (l.take i) + 65536 ^ i * ni l i := by
  have h1 : l.take (i + 1) = l.take i ++ [ni l i] := by
    rw [List.take_succ_eq_append_getElem h]; simp [ni, h]
  rw [h1, val_app, List.length_take, Nat.min_eq_left (by omega)]
  simp [val]
theorem val_set (l : List Int) (j : Nat) (x : Int) (h : j < l.length) : val (l.set j x) = val l + 65536 ^ j * (x - ni l j) := by
  induction l generalizing j with
  | nil => simp at h
  | cons y l ih =>
    cases j with
    | zero => simp [val, ni]; omega
    | succ j =>
      rw [List.set_cons_succ, ni_cons_succ]
      show y + 65536 * val (l.set j x) = y + 65536 * val l + 65536 ^ (j + 1) * (x - ni l j)
      rw [ih j (by simpa using h), Int.mul_add, Int.pow_succ, ← Int.mul_assoc, Int.mul_comm 65536 (65536 ^ j), Int.add_assoc]
theorem drop_set_le (l : List Int) (i j : Nat) (x : Int) (h : i < j) : (l.set i x).drop j = l.drop j := by
  rw [List.drop_set, if_pos h]
theorem drop_set_eq (l : List Int) (i j : Nat) (x : Int) (h : j ≤ i) : (l.set i x).drop j = (l.drop j).set (i - j) x := by
  rw [List.drop_set, if_neg (by omega)]
/-- The i-th digit of a number. -/
def dgI (V : Int) (i : Nat) : Int := V / 65536 ^ i % 65536
theorem dgI_bd (V : Int) (i : Nat) : 0 ≤ dgI V i ∧ dgI V i ≤ 65535 := by unfold dgI; omega
def dgL (V : Int) : List Int := (List.range 16).map (dgI V)
theorem dgL_len (V : Int) : (dgL V).length = 16 := by simp [dgL]
theorem dgL_ni (V : Int) (i : Nat) (h : i < 16) : ni (dgL V) i = dgI V i := by simp [ni, dgL, h]
theorem pow_div_succ (V : Int) (i : Nat) : V / 65536 ^ (i + 1) = V / 65536 ^ i / 65536 := by
  have hp : (0 : Int) ≤ 65536 ^ i := Int.pow_nonneg (by omega)
  rw [Int.pow_succ, ← Int.ediv_ediv_of_nonneg hp]
theorem mod_succ (V : Int) (i : Nat) : V % 65536 ^ (i + 1) = V % 65536 ^ i + 65536 ^ i * dgI V i := by
  have h1 := Int.emod_add_mul_ediv V (65536 ^ (i + 1))
  have h2 := Int.emod_add_mul_ediv V (65536 ^ i)
  have h3 := Int.emod_add_mul_ediv (V / 65536 ^ i) 65536
  rw [← pow_div_succ] at h3
  unfold dgI
  rw [← h3] at h2
  have h4 : (65536 : Int) ^ (i + 1) * (V / 65536 ^ (i + 1)) = 65536 ^ i * (65536 * (V / 65536 ^ (i + 1))) := by rw [Int.pow_succ, Int.mul_assoc]
  rw [Int.mul_add] at h2
  omega
theorem val_digits (s : List Int) (V : Int) (i : Nat) (hi : i ≤ s.length) (h : ∀ j, j < i → ni s j = dgI V j) : val (s.take i) = V % 65536 ^ i := by
  induction i with
  | zero => simp [val, Int.emod_one]
  | succ i ih => rw [val_take_succ _ _ (by omega), ih (by omega) (fun j hj => h j (by omega)), h i (by omega), mod_succ]
theorem val_dgL (V : Int) : val (dgL V) = V % 65536 ^ 16 := by
  have := val_digits (dgL V) V 16 (by rw [dgL_len]; omega) (fun j hj => dgL_ni V j hj)
  rwa [List.take_of_length_le (by rw [dgL_len]; omega)] at this
/-- What a carry makes of a number. -/
def carL (V : Int) : List Int := (dgL V).set 0 (dgI V 0 + 38 * (V / 65536 ^ 16))
def carV (V : Int) : Int := V % 65536 ^ 16 + 38 * (V / 65536 ^ 16)
theorem carL_len (V : Int) : (carL V).length = 16 := by simp [carL, dgL_len]
theorem carL_val (V : Int) : val (carL V) = carV V := by
  unfold carL carV
  rw [val_set _ _ _ (by rw [dgL_len]; omega), val_dgL, dgL_ni _ _ (by omega)]
  simp; omega
theorem carL_ni (V : Int) (i : Nat) (h : i < 16) : ni (carL V) i = if 0 = i then dgI V 0 + 38 * (V / 65536 ^ 16) else dgI V i := by
  unfold carL
  rw [ni_set _ _ _ _ (by rw [dgL_len]; omega), dgL_ni _ _ h]
/-- The state of a carry, i digits done. -/
structure CarI (V : Int) (s : List Int) (i : Nat) : Prop where
  len : s.length = 16
  low : ∀ j, j < i → ni s j = dgI V j
  high : val (s.drop i) = V / 65536 ^ i
  big : ∀ j, i < j → -1152921504606846976 ≤ ni s j ∧ ni s j ≤ 1152921504606846976
  here : -1153062242095202304 ≤ ni s i ∧ ni s i ≤ 1153062242095202304
theorem CarI.start (o : List Int) (hl : o.length = 16) (hb : ∀ j, -1152921504606846976 ≤ ni o j ∧ ni o j ≤ 1152921504606846976) : CarI (val o) o 0 :=
  ⟨hl, fun j hj => absurd hj (by omega), by simp, fun j _ => hb j, by have := hb 0; omega⟩
theorem CarI.digit {V : Int} {s : List Int} {i : Nat} (h : CarI V s i) : ni s i % 65536 = dgI V i := by
  have h1 := h.high
  rw [val_drop] at h1
  unfold dgI
  rw [← h1, Int.add_mul_emod_self_left]
theorem CarI.step {V : Int} {s : List Int} {i : Nat} (h : CarI V s i) (hi : i < 15) :
    CarI V ((s.set i (ni s i - ni s i / 65536 * 65536)).set (i + 1) (ni s (i + 1) + ni s i / 65536)) (i + 1) := by
  have hd := h.digit
  have hl := h.len
  have e : ni s i - ni s i / 65536 * 65536 = ni s i % 65536 := by omega
  rw [e]
  have hn : ∀ j, ni ((s.set i (ni s i % 65536)).set (i + 1) (ni s (i + 1) + ni s i / 65536)) j = if i + 1 = j then ni s (i + 1) + ni s i / 65536 else if i = j then ni s i % 65536 else ni s j := fun j => by
    rw [ni_set _ _ _ _ (by simp; omega), ni_set _ _ _ _ (by omega)]
  refine ⟨by simp [hl], fun j hj => ?_, ?_, fun j hj => ?_, ?_⟩
  · rw [hn, if_neg (by omega)]
    by_cases hij : i = j
    · rw [if_pos hij, ← hij, hd]
    · rw [if_neg hij]; exact h.low j (by omega)
  · rw [drop_set_eq _ _ _ _ (Nat.le_refl _), drop_set_le _ _ _ _ (by omega), val_set _ _ _ (by simp; omega), ni_drop, Nat.sub_self, Nat.add_zero]
    have h1 := h.high
    rw [val_drop] at h1
    rw [pow_div_succ, ← h1]
    simp
    omega
  · rw [hn, if_neg (by omega), if_neg (by omega)]; exact h.big j (by omega)
  · rw [hn, if_pos rfl]
    have h1 := h.big (i + 1) (by omega)
    have h2 := h.here
    omega
theorem CarI.stop {V : Int} {s : List Int} (h : CarI V s 15) :
    ((s.set 15 (ni s 15 - ni s 15 / 65536 * 65536)).set 0 (ni s 0 + 38 * (ni s 15 / 65536))) = carL V ∧ ni s 0 = dgI V 0 ∧ ni s 15 / 65536 = V / 65536 ^ 16 := by
  have hd := h.digit
  have hl := h.len
  have e : ni s 15 - ni s 15 / 65536 * 65536 = ni s 15 % 65536 := by omega
  have h1 := h.high
  rw [val_drop, show s.drop (15 + 1) = [] from List.drop_eq_nil_of_le (by omega)] at h1
  have h2 : ni s 15 / 65536 = V / 65536 ^ 16 := by
    rw [show (16 : Nat) = 15 + 1 from rfl, pow_div_succ, ← h1]; simp [val]
  refine ⟨ni_ext (by simp [hl, carL_len]) fun j hj => ?_, h.low 0 (by omega), h2⟩
  simp [hl] at hj
  rw [ni_set _ _ _ _ (by simp; omega), ni_set _ _ _ _ (by omega), carL_ni _ _ hj, e, hd, h2, h.low 0 (by omega)]
  by_cases h0 : 0 = j
  · rw [if_pos h0, if_pos h0]
  · rw [if_neg h0, if_neg h0]
    by_cases h15 : 15 = j
    · rw [if_pos h15, h15]
    · rw [if_neg h15]; exact h.low j (by omega)
def Gd (B : Int) (o : List Int) : Prop := o.length = 16 ∧ ∀ j, -B ≤ ni o j ∧ ni o j ≤ B
theorem val_bd (l : List Int) (B : Int) (hB : 0 ≤ B) (h : ∀ j, -B ≤ ni l j ∧ ni l j ≤ B) : -(2 * (B * 65536 ^ l.length) - B) ≤ val l ∧ val l ≤ 2 * (B * 65536 ^ l.length) - B := by
  induction l with
  | nil => simp [val]; omega
  | cons x l ih =>
    have h0 := h 0
    have ih := ih (fun j => by have := h (j + 1); rwa [ni_cons_succ] at this)
    have hx : ni (x :: l) 0 = x := by simp [ni]
    rw [hx] at h0
    have e : B * 65536 ^ (x :: l).length = 65536 * (B * 65536 ^ l.length) := by
      rw [List.length_cons, Int.pow_succ, ← Int.mul_assoc, Int.mul_comm 65536]
    rw [e]
    show _ ≤ x + 65536 * val l ∧ x + 65536 * val l ≤ _
    generalize B * 65536 ^ l.length = K at *
    omega
theorem T16 : (65536 : Int) ^ 16 = 115792089237316195423570985008687907853269984665640564039457584007913129639936 := by decide +kernel
theorem carV_two (T V : Int) (hT : 100000000000000000000 ≤ T) (h1 : -(2 * (18014398509481984 * T)) ≤ V) (h2 : V ≤ 2 * (18014398509481984 * T)) :
    0 ≤ (V % T + 38 * (V / T)) % T + 38 * ((V % T + 38 * (V / T)) / T) ∧ (V % T + 38 * (V / T)) % T + 38 * ((V % T + 38 * (V / T)) / T) < T := by
  have e1 := Int.emod_add_mul_ediv V T
  have e2 := Int.emod_nonneg V (show T ≠ 0 by omega)
  have e3 := Int.emod_lt_of_pos V (show 0 < T by omega)
  have c1 : V / T ≤ 36028797018963968 := Int.ediv_le_of_le_mul (by omega) (by omega)
  have c2 : -36028797018963968 ≤ V / T := Int.le_ediv_of_mul_le (by omega) (by omega)
  generalize V / T = c at *
  generalize V % T = u at *
  have f1 := Int.emod_add_mul_ediv (u + 38 * c) T
  have f2 := Int.emod_nonneg (u + 38 * c) (show T ≠ 0 by omega)
  have f3 := Int.emod_lt_of_pos (u + 38 * c) (show 0 < T by omega)
  have d1 : (u + 38 * c) / T < 2 := Int.ediv_lt_of_lt_mul (by omega) (by omega)
  have d2 : -1 ≤ (u + 38 * c) / T := Int.le_ediv_of_mul_le (by omega) (by omega)
  generalize (u + 38 * c) / T = d at *
  generalize (u + 38 * c) % T = z at *
  have hd : d = -1 ∨ d = 0 ∨ d = 1 := by omega
  rcases hd with rfl | rfl | rfl <;> omega
theorem carV_range (V : Int) (B : Int) (hB : 0 ≤ B) (hB2 : B ≤ 18014398509481984) (h1 : -(2 * (B * 65536 ^ 16)) ≤ V) (h2 : V ≤ 2 * (B * 65536 ^ 16)) : 0 ≤ carV (carV V) ∧ carV (carV V) < 65536 ^ 16 := by
  unfold carV
  have hT := T16
  have h3 : B * 65536 ^ 16 ≤ 18014398509481984 * 65536 ^ 16 := Int.mul_le_mul_of_nonneg_right hB2 (Int.pow_nonneg (by omega))
  refine carV_two (65536 ^ 16) V (by omega) (by omega) (by omega)
theorem carL_small (V : Int) (h1 : 0 ≤ V) (h2 : V < 65536 ^ 16) : carL V = dgL V := by
  unfold carL
  rw [Int.ediv_eq_zero_of_lt h1 h2]
  refine ni_ext (by simp) fun i hi => ?_
  simp [dgL_len] at hi
  rw [ni_set _ _ _ _ (by rw [dgL_len]; omega)]
  split
  · rename_i h; subst h; rw [dgL_ni _ _ (by omega)]; omega
  · rfl
theorem carL_gd (V : Int) (B : Int) (h1 : -B ≤ V / 65536 ^ 16) (h2 : V / 65536 ^ 16 ≤ B) (hB : 65535 ≤ B) : Gd (39 * B) (carL V) := by
  refine ⟨carL_len V, fun j => ?_⟩
  by_cases hj : j < 16
  · rw [carL_ni _ _ hj]
    have := dgI_bd V 0
    have := dgI_bd V j
    split <;> omega
  · rw [ni_out _ _ (by rw [carL_len]; omega)]; omega
theorem carL_gd2 (V : Int) (h1 : -1 ≤ V / 65536 ^ 16) (h2 : V / 65536 ^ 16 ≤ 1) : Gd 1048576 (carL V) := by
  refine ⟨carL_len V, fun j => ?_⟩
  by_cases hj : j < 16
  · rw [carL_ni _ _ hj]
    have := dgI_bd V 0
    have := dgI_bd V j
    split <;> omega
  · rw [ni_out _ _ (by rw [carL_len]; omega)]; omega
theorem carV_div (V : Int) (h1 : -(2 * (10995116277760000 * 65536 ^ 16)) ≤ V) (h2 : V ≤ 2 * (10995116277760000 * 65536 ^ 16)) : -1 ≤ carV V / 65536 ^ 16 ∧ carV V / 65536 ^ 16 ≤ 1 ∧ -21990232555520000 ≤ V / 65536 ^ 16 ∧ V / 65536 ^ 16 ≤ 21990232555520000 := by
  unfold carV
  have hT := T16
  have hT2 : (100000000000000000000 : Int) ≤ 65536 ^ 16 := by omega
  generalize (65536 : Int) ^ 16 = T at *
  have e1 := Int.emod_add_mul_ediv V T
  have e2 := Int.emod_nonneg V (show T ≠ 0 by omega)
  have e3 := Int.emod_lt_of_pos V (show 0 < T by omega)
  have c1 : V / T ≤ 21990232555520000 := Int.ediv_le_of_le_mul (by omega) (by omega)
  have c2 : -21990232555520000 ≤ V / T := Int.le_ediv_of_mul_le (by omega) (by omega)
  generalize V / T = c at *
  generalize V % T = u at *
  have d1 : (u + 38 * c) / T < 2 := Int.ediv_lt_of_lt_mul (by omega) (by omega)
  have d2 : -1 ≤ (u + 38 * c) / T := Int.le_ediv_of_mul_le (by omega) (by omega)
  omega
def pI : Int := 57896044618658097711785492504343953926634992332820282019728792003956564819949
theorem pI_two : (65536 : Int) ^ 16 = 2 * pI + 38 := by decide +kernel
theorem carV_mod (V : Int) : carV V % pI = V % pI := by
  unfold carV
  have h := Int.emod_add_mul_ediv V (65536 ^ 16)
  have h2 := pI_two
  generalize V / 65536 ^ 16 = c at *
  generalize V % 65536 ^ 16 = u at *
  generalize (65536 : Int) ^ 16 = T at *
  subst h2
  have e : V = u + 38 * c + pI * (2 * c) := by
    rw [← h, Int.add_mul, Int.mul_comm 2 pI, Int.mul_assoc]; omega
  rw [e, Int.add_mul_emod_self_left]

/-! Products. -/
structure TimI (a b : List Int) (i k : Nat) (t : List Int) : Prop where
  len : t.length = 31
  eq : val t = val (a.take i) * val b + 65536 ^ i * (ni a i * val (b.take k))
  bd : ∀ j, -((16 * i + k) * 1099511627776) ≤ ni t j ∧ ni t j ≤ (16 * i + k) * 1099511627776
theorem val_zeros (n : Nat) : val (List.replicate n 0) = 0 := by
  induction n with
  | zero => rfl
  | succ n ih => rw [List.replicate_succ]; show 0 + 65536 * val _ = 0; rw [ih]; rfl
theorem ni_zeros (n j : Nat) : ni (List.replicate n 0) j = 0 := by
  unfold ni
  rw [List.getD_eq_getElem?_getD, List.getElem?_replicate]
  split <;> rfl
theorem TimI.start (a b : List Int) : TimI a b 0 0 (List.replicate 31 0) :=
  ⟨by simp, by rw [val_zeros]; simp [val], fun j => by rw [ni_zeros]; simp⟩
theorem mul_bd (x y : Int) (h1 : -1048576 ≤ x ∧ x ≤ 1048576) (h2 : -1048576 ≤ y ∧ y ≤ 1048576) : -1099511627776 ≤ x * y ∧ x * y ≤ 1099511627776 := by
  have h3 : x.natAbs ≤ 1048576 := by omega
  have h4 : y.natAbs ≤ 1048576 := by omega
  have h5 : (x * y).natAbs ≤ 1048576 * 1048576 := by rw [Int.natAbs_mul]; exact Nat.mul_le_mul h3 h4
  omega
theorem TimI.step {a b : List Int} {i k : Nat} {t : List Int} (h : TimI a b i k t) (ha : Gd 1048576 a) (hb : Gd 1048576 b) (hi : i < 16) (hk : k < 16) : TimI a b i (k + 1) (t.set (i + k) (ni t (i + k) + ni a i * ni b k)) := by
  have hm := mul_bd _ _ (ha.2 i) (hb.2 k)
  refine ⟨by simp [h.len], ?_, fun j => ?_⟩
  · rw [val_set _ _ _ (by rw [h.len]; omega), h.eq, val_take_succ _ _ (by rw [hb.1]; omega)]
    have e : (65536 : Int) ^ (i + k) = 65536 ^ i * 65536 ^ k := Int.pow_add ..
    rw [e, Int.mul_add, Int.mul_add]
    rw [show ni t (i + k) + ni a i * ni b k - ni t (i + k) = ni a i * ni b k by omega]
    rw [show ni a i * (65536 ^ k * ni b k) = 65536 ^ k * (ni a i * ni b k) by rw [← Int.mul_assoc, ← Int.mul_assoc, Int.mul_comm (ni a i)]]
    rw [Int.mul_assoc (65536 ^ i)]
    omega
  · rw [ni_set _ _ _ _ (by rw [h.len]; omega)]
    have h1 := h.bd j
    have h2 := h.bd (i + k)
    push_cast
    split <;> omega
theorem TimI.next {a b : List Int} {i : Nat} {t : List Int} (h : TimI a b i 16 t) (ha : a.length = 16) (hb : b.length = 16) (hi : i < 16) : TimI a b (i + 1) 0 t := by
  refine ⟨h.len, ?_, fun j => by have := h.bd j; push_cast at *; omega⟩
  rw [h.eq, val_take_succ a i (by omega), List.take_of_length_le (show b.length ≤ 16 by omega), Int.add_mul, Int.mul_assoc]
  simp [val]
theorem TimI.stop {a b : List Int} {t : List Int} (h : TimI a b 16 0 t) (ha : a.length = 16) : val t = val a * val b := by
  rw [h.eq, List.take_of_length_le (by omega)]; simp [val]
structure FolI (t : List Int) (i : Nat) (o : List Int) : Prop where
  len : o.length = 16
  eq : val (o.take i) = val (t.take i) + 38 * val ((t.drop 16).take (if i < 16 then i else 15))
  bd : ∀ j, -10995116277760000 ≤ ni o j ∧ ni o j ≤ 10995116277760000
theorem FolI.start (t : List Int) : FolI t 0 (List.replicate 16 0) := ⟨by simp, by simp [val], fun j => by rw [ni_zeros]; omega⟩
theorem FolI.step {t o : List Int} {i : Nat} (h : FolI t i o) (ht : t.length = 31) (hi : i < 15) (hb : ∀ j, -281474976710656 ≤ ni t j ∧ ni t j ≤ 281474976710656) : FolI t (i + 1) (o.set i (ni t i + 38 * ni t (i + 16))) := by
  refine ⟨by simp [h.len], ?_, fun j => ?_⟩
  · rw [val_take_succ _ _ (by simp [h.len]; omega), val_take_succ _ _ (by omega), ni_set _ _ _ _ (by rw [h.len]; omega), if_pos rfl, List.take_set_of_le (Nat.le_refl _), h.eq, if_pos (by omega), if_pos (by omega)]
    rw [val_take_succ _ _ (by simp [ht]; omega), ni_drop, Nat.add_comm 16 i, Int.mul_add]
    generalize ni t (i + 16) = x
    generalize (65536 : Int) ^ i = P
    rw [Int.mul_add, Int.mul_left_comm P 38 x]
    omega
  · rw [ni_set _ _ _ _ (by rw [h.len]; omega)]
    have := h.bd j
    have := hb i
    have := hb (i + 16)
    split <;> omega
theorem FolI.last {t o : List Int} (h : FolI t 15 o) (ht : t.length = 31) (hb : ∀ j, -281474976710656 ≤ ni t j ∧ ni t j ≤ 281474976710656) : FolI t 16 (o.set 15 (ni t 15)) := by
  refine ⟨by simp [h.len], ?_, fun j => ?_⟩
  · rw [val_take_succ (o.set 15 (ni t 15)) 15 (by simp [h.len]), val_take_succ t 15 (by omega), ni_set _ _ _ _ (by rw [h.len]; omega), if_pos rfl, List.take_set_of_le (Nat.le_refl _), h.eq, if_pos (by omega), if_neg (by omega)]
    omega
  · rw [ni_set _ _ _ _ (by rw [h.len]; omega)]
    have := h.bd j
    have := hb 15
    split <;> omega
theorem FolI.stop {t o : List Int} (h : FolI t 16 o) (ht : t.length = 31) : val o % pI = val t % pI ∧ Gd 10995116277760000 o := by
  refine ⟨?_, h.len, fun j => h.bd j⟩
  have h1 := h.eq
  rw [show o.take 16 = o from List.take_of_length_le (by rw [h.len]; omega), if_neg (by omega), show (t.drop 16).take 15 = t.drop 16 from List.take_of_length_le (by simp [ht])] at h1
  have h2 := val_split t 16 (by omega)
  have h3 := pI_two
  rw [h1, h2]
  generalize val (t.drop 16) = y
  generalize val (t.take 16) = x
  generalize (65536 : Int) ^ 16 = T at *
  subst h3
  rw [show x + (2 * pI + 38) * y = x + 38 * y + pI * (2 * y) by rw [Int.add_mul, Int.mul_comm 2 pI, Int.mul_assoc]; omega, Int.add_mul_emod_self_left]

/-! What is left modulo P, digit by digit. -/
theorem dig_unique (s : List Int) (hl : s.length = 16) (h : ∀ j, j < 16 → 0 ≤ ni s j ∧ ni s j ≤ 65535) : s = dgL (val s) := by
  have key : ∀ i, i ≤ 16 → val (s.drop i) = val s / 65536 ^ i := by
    intro i hi
    induction i with
    | zero => simp
    | succ i ih =>
      have h1 := ih (by omega)
      have h2 := h i (by omega)
      rw [val_drop] at h1
      rw [pow_div_succ, ← h1]
      omega
  refine ni_ext (by rw [hl, dgL_len]) fun j hj => ?_
  rw [hl] at hj
  have h1 := key j (by omega)
  have h2 := h j hj
  rw [val_drop] at h1
  rw [dgL_ni _ _ hj]
  unfold dgI
  rw [← h1]
  omega
def pD (i : Nat) : Int := if i = 0 then 65517 else if i < 15 then 65535 else 32767
structure SubI (V : Int) (i : Nat) (m : List Int) : Prop where
  len : m.length = 16
  low : ∀ j, j + 1 < i → 0 ≤ ni m j ∧ ni m j ≤ 65535
  raw : -65536 ≤ ni m (i - 1) ∧ ni m (i - 1) ≤ 65535
  rest : ∀ j, i ≤ j → j < 16 → ni m j = dgI V j
  eq : val (m.take i) = val ((dgL V).take i) - val ((dgL pI).take i)
theorem pI_dg : ∀ i, i < 16 → ni (dgL pI) i = pD i := by decide +kernel
theorem SubI.start (V : Int) : SubI V 1 ((dgL V).set 0 (dgI V 0 - 65517)) := by
  have h0 := dgI_bd V 0
  refine ⟨by simp [dgL_len], fun j hj => by omega, ?_, fun j h1 h2 => ?_, ?_⟩
  · rw [ni_set _ _ _ _ (by rw [dgL_len]; omega), if_pos rfl]; omega
  · rw [ni_set _ _ _ _ (by rw [dgL_len]; omega), if_neg (by omega), dgL_ni _ _ h2]
  · rw [val_take_succ _ 0 (by simp [dgL_len]), val_take_succ _ 0 (by simp [dgL_len]), val_take_succ _ 0 (by simp [dgL_len]), pI_dg 0 (by omega), ni_set _ _ _ _ (by rw [dgL_len]; omega), if_pos rfl, dgL_ni _ _ (by omega)]
    simp [val, pD]
theorem SubI.step {V : Int} {i : Nat} {m : List Int} (h : SubI V i m) (h1 : 1 ≤ i) (hi : i < 16) : SubI V (i + 1) ((m.set i (ni m i - pD i - ni m (i - 1) / 65536 % 2)).set (i - 1) (ni m (i - 1) % 65536)) := by
  have hl := h.len
  have hr := h.raw
  have hd := dgI_bd V i
  have hm := h.rest i (Nat.le_refl _) hi
  have hp : 0 ≤ pD i ∧ pD i ≤ 65535 := by unfold pD; split <;> (try split) <;> omega
  have hn : ∀ j, ni ((m.set i (ni m i - pD i - ni m (i - 1) / 65536 % 2)).set (i - 1) (ni m (i - 1) % 65536)) j = if i - 1 = j then ni m (i - 1) % 65536 else if i = j then ni m i - pD i - ni m (i - 1) / 65536 % 2 else ni m j := fun j => by
    rw [ni_set _ _ _ _ (by simp; omega), ni_set _ _ _ _ (by omega)]
  refine ⟨by simp [hl], fun j hj => ?_, ?_, fun j g1 g2 => ?_, ?_⟩
  · rw [hn]
    by_cases e : i - 1 = j
    · rw [if_pos e]; omega
    · rw [if_neg e, if_neg (by omega)]; exact h.low j (by omega)
  · rw [Nat.add_sub_cancel, hn, if_neg (by omega), if_pos rfl]; omega
  · rw [hn, if_neg (by omega), if_neg (by omega)]; exact h.rest j (by omega) g2
  · rw [val_take_succ _ i (by simp [hl]; omega), hn, if_neg (by omega), if_pos rfl, val_take_succ _ i (by rw [dgL_len]; omega), val_take_succ _ i (by rw [dgL_len]; omega), pI_dg _ hi, dgL_ni _ _ hi]
    have e1 : ((m.set i (ni m i - pD i - ni m (i - 1) / 65536 % 2)).set (i - 1) (ni m (i - 1) % 65536)).take i = (m.take i).set (i - 1) (ni m (i - 1) % 65536) := by
      rw [List.take_set, List.take_set_of_le (Nat.le_refl _)]
    rw [e1, val_set _ _ _ (by simp [hl]; omega), h.eq, ni_take, if_pos (by omega), hm]
    have e2 : (65536 : Int) ^ i = 65536 ^ (i - 1) * 65536 := by
      have := Int.pow_succ (65536 : Int) (i - 1)
      rwa [show (i - 1).succ = i by omega] at this
    rw [e2]
    generalize (65536 : Int) ^ (i - 1) = P
    generalize ni m (i - 1) = r at *
    have hb : r % 65536 - r = 65536 * (r / 65536 % 2) := by omega
    rw [hb, Int.mul_sub, Int.mul_sub, Int.mul_assoc P 65536, Int.mul_assoc P 65536, Int.mul_assoc P 65536]
    omega
theorem SubI.stop {V : Int} {m : List Int} (h : SubI V 16 m) (h0 : 0 ≤ V) (hT : V < 65536 ^ 16) : val m = V - pI ∧ (0 ≤ ni m 15 → pI ≤ V ∧ m = dgL (V - pI)) ∧ (ni m 15 < 0 → V < pI) := by
  have e := h.eq
  rw [List.take_of_length_le (by rw [h.len]; omega), List.take_of_length_le (by rw [dgL_len]; omega), List.take_of_length_le (by rw [dgL_len]; omega), val_dgL, val_dgL, Int.emod_eq_of_lt h0 hT, show pI % 65536 ^ 16 = pI by decide +kernel] at e
  have hs := val_split m 15 (by rw [h.len]; omega)
  have hd : val (m.drop 15) = ni m 15 := by rw [val_drop, show m.drop (15 + 1) = [] from List.drop_eq_nil_of_le (by rw [h.len]; omega)]; simp [val]
  rw [hd] at hs
  have hlow : ∀ j, j < 15 → 0 ≤ ni m j ∧ ni m j ≤ 65535 := fun j hj => h.low j (by omega)
  have ht : 0 ≤ val (m.take 15) ∧ val (m.take 15) < 65536 ^ 15 := by
    have key : ∀ i, i ≤ 15 → 0 ≤ val (m.take i) ∧ val (m.take i) < 65536 ^ i := by
      intro i hi
      induction i with
      | zero => simp [val]
      | succ i ih =>
        have h1 := ih (by omega)
        have h2 := hlow i (by omega)
        rw [val_take_succ _ _ (by rw [h.len]; omega), Int.pow_succ]
        have hp : (0 : Int) < 65536 ^ i := Int.pow_pos (by omega)
        generalize (65536 : Int) ^ i = P at *
        have h3 : 0 ≤ P * ni m i := Int.mul_nonneg (by omega) h2.1
        have h4 : P * ni m i ≤ P * 65535 := Int.mul_le_mul_of_nonneg_left h2.2 (by omega)
        omega
    exact key 15 (by omega)
  refine ⟨e, fun h15 => ?_, fun h15 => ?_⟩
  · have h1 : 0 ≤ (65536 : Int) ^ 15 * ni m 15 := Int.mul_nonneg (Int.pow_nonneg (by omega)) h15
    refine ⟨by omega, ?_⟩
    rw [← e]
    refine dig_unique m h.len fun j hj => ?_
    by_cases hj2 : j < 15
    · exact hlow j hj2
    · obtain rfl : j = 15 := by omega
      exact ⟨h15, by have hr : -65536 ≤ ni m 15 ∧ ni m 15 ≤ 65535 := h.raw; omega⟩
  · have h1 : (65536 : Int) ^ 15 * ni m 15 ≤ 65536 ^ 15 * (-1) := Int.mul_le_mul_of_nonneg_left (by omega) (Int.pow_nonneg (by omega))
    omega
def cellsI (xs : List Int) : Array Value := (xs.map (Value.int .i64)).toArray
def ArrI (t : TypeId) (w : World) (b : Nat) (xs : List Int) : Prop := w.heap[b]? = some (.cells (cellsI xs) t (0, 0))
theorem ArrI.cell {t : TypeId} {w : World} {b : Nat} {xs : List Int} (h : ArrI t w b xs) (j : Nat) (hj : j < xs.length) : w.cell? ⟨b, j, none⟩ = some (.int .i64 (ni xs j)) := by
  unfold ArrI at h
  simp [World.cell?, h, cellsI, ni, hj]
theorem ArrI.free {t : TypeId} {w : World} {b : Nat} {xs : List Int} (h : ArrI t w b xs) (j : Nat) : w.frozen? ⟨b, j, none⟩ = false := by
  unfold ArrI at h
  simp [World.frozen?, h]
theorem ArrI.lt {t : TypeId} {w : World} {b : Nat} {xs : List Int} (h : ArrI t w b xs) : b < w.heap.size := by
  unfold ArrI at h
  exact (Array.getElem?_eq_some_iff.1 h).1
theorem ArrI.set {t : TypeId} {w : World} {b : Nat} {xs : List Int} (h : ArrI t w b xs) (j : Nat) (x : Int) : ArrI t (w.setCell ⟨b, j, none⟩ (.int .i64 x)) b (xs.set j x) := by
  unfold ArrI at *
  simp [World.setCell, Array.getElem?_modify, h, cellsI, List.map_set]
theorem ArrI.other {t : TypeId} {w : World} {b : Nat} {xs : List Int} (h : ArrI t w b xs) {a : Addr} (ha : b ≠ a.block) (v : Value) : ArrI t (w.setCell a v) b xs := by
  unfold ArrI at *
  rw [Below.heap_setCell _ _ _ _ ha]; exact h
theorem ArrI.below {t : TypeId} {w w' : World} {b B : Nat} {xs : List Int} (h : ArrI t w b xs) (hb : Below B w w') (hB : b < B) : ArrI t w' b xs := by
  unfold ArrI at *
  rw [hb.block b hB]; exact h
theorem ArrI.alloc {t : TypeId} {w : World} {b : Nat} {xs : List Int} (h : ArrI t w b xs) (o : Obj) : ArrI t (w.alloc o) b xs := by
  unfold ArrI at *
  rw [Below.heap_alloc _ _ _ (ArrI.lt h)]; exact h
theorem ArrI.drew {t : TypeId} {w : World} {b : Nat} {xs : List Int} (h : ArrI t w b xs) : ArrI t w.drew b xs := h
theorem ArrI.drewN {t : TypeId} {w : World} {b : Nat} {xs : List Int} (h : ArrI t w b xs) (n : Nat) : ArrI t (w.drewN n) b xs := h
theorem ArrI.ext {t : TypeId} {w : World} {b : Nat} {xs : List Int} (h : ArrI t w b xs) (x : World) : ArrI t (w.ext x) b xs := h.below (w.ext_below x) h.lt
theorem ArrI.new (t : TypeId) (w : World) (xs : List Int) : ArrI t (w.alloc (.cells (cellsI xs) t)) w.heap.size xs := by
  unfold ArrI
  show (w.heap.push _)[w.heap.size]? = _
  simp

theorem size_cellsI (s : List Int) : (cellsI s).size = s.length := by simp [cellsI]
theorem one_cellsI (s : List Int) : (cellsI s).all (·.oneCell') = true := by
  rw [Array.all_eq_true_iff_forall_mem]
  intro v hv
  simp [cellsI] at hv
  obtain ⟨x, _, rfl⟩ := hv
  rfl
theorem cellsI_set (s : List Int) (i : Nat) (x : Int) : (cellsI s).setIfInBounds i (.int .i64 x) = cellsI (s.set i x) := by simp [cellsI, List.map_set]
theorem ArrI.row {t : TypeId} {w : World} {b : Nat} {xs : List Int} (h : ArrI t w b xs) (ys : List Int) : ArrI t (w.setRow b (cellsI ys)) b ys := heap_setRow' _ _ _ _ _ h
theorem ArrI.otherRow {t : TypeId} {w : World} {b g : Nat} {xs : List Int} (h : ArrI t w b xs) (hg : b ≠ g) (cs : Array Value) : ArrI t (w.setRow g cs) b xs := by
  unfold ArrI at *
  simp only [World.setRow, Array.getElem?_modify]
  rw [if_neg (by omega)]; exact h

theorem uGF : Try.prog.underlying 87 = some (.array 16 2) := by kernel_rfl
theorem iGF : (Try.prog.info? 87).map (·.size) = some 16 := by kernel_rfl
theorem zGF : (Try.prog.info? 87).bind (·.zero) = some (.agg (cellsI (List.replicate 16 0))) := by kernel_rfl
theorem iGFx (o : List Int) (h : o.length = 16) : (Try.prog.info? 87).map (·.size) = some (cellsI o).size := by rw [size_cellsI, h]; exact iGF
theorem zT31 : (Try.prog.info? 94).bind (·.zero) = some (.agg (cellsI (List.replicate 31 0))) := by kernel_rfl
theorem i64_and65535 (n : Int) : bits .and .i64 n 65535 = n % 65536 := by
  have h1 : (BitVec.ofInt 64 65535).toNat = 2 ^ 16 - 1 := by decide
  have key : (BitVec.ofInt 64 n &&& BitVec.ofInt 64 65535).toNat = (n % ((2 ^ 64 : Nat) : Int)).toNat % 2 ^ 16 := by
    rw [BitVec.toNat_and, BitVec.toNat_ofInt, h1, Nat.and_two_pow_sub_one_eq_mod]
  show IntKind.i64.wrap ((BitVec.ofInt 64 n &&& BitVec.ofInt 64 65535).toNat : Nat) = n % 65536
  rw [key, IntKind.wrap_i64]
  omega
end Go.Proofs.Ytfidbiabgmioaaa

/-! conclaveref04.Carry. -/
namespace Go.Proofs.Ytfidbiabgmioaaa
open Go.RowKit

set_option maxHeartbeats 4000000 in
theorem carry_any (o : List Int) (w : World) (hl : o.length = 16) (hb : ∀ j, -1152921504606846976 ≤ ni o j ∧ ni o j ≤ 1152921504606846976) :
    Calls Try.prog 135 #[.agg (cellsI o)] w fun e w' => e = .returned (.agg (cellsI (carL (val o)))) ∧ Below w.heap.size w w' := by
  have hst := hid (CarI.start o hl hb)
  obtain ⟨V, hV⟩ : ∃ V, V = val o := ⟨_, rfl⟩
  rw [← hV] at hst ⊢
  have iO := hid (iGFx o hl)
  clear hl hb hV
  have hA0 := hid (show ArrI 87 ((w.alloc (.cells (cellsI o) 87)).alloc (.cells (cellsI (List.replicate 16 0)) 87)) w.heap.size o from (ArrI.new _ w o).alloc _)
  have hC0 := hid (show ArrI 87 ((w.alloc (.cells (cellsI o) 87)).alloc (.cells (cellsI (List.replicate 16 0)) 87)) (w.heap.size + 1) (List.replicate 16 0) by
    have := ArrI.new 87 (w.alloc (.cells (cellsI o) 87)) (List.replicate 16 0)
    rw [World.size_alloc] at this; exact this)
  have hb0 : Below w.heap.size w ((w.alloc (.cells (cellsI o) 87)).alloc (.cells (cellsI (List.replicate 16 0)) 87)) := ((Below.refl _ _).alloc (Nat.le_refl _) _).alloc (by simp) _
  obtain ⟨z, hz⟩ : ∃ z : List Int, z = List.replicate 16 0 := ⟨_, rfl⟩
  have zZ := hid zGF
  have hzl : z.length = 16 := by rw [hz]; simp
  rw [← hz] at hA0 hC0 hb0 zZ
  clear hz
  go_enter Try.func135, Try.ntmps135
  go_wp2_with (refine wpList_alloc_new rfl 87 rfl (cellsI z) zZ.out ?_; simp only [Act.put, List.setIfInBounds_toArray, List.set_cons_zero, List.set_cons_succ, World.size_alloc])
  generalize (w.alloc (.cells (cellsI o) 87)).alloc (.cells (cellsI z) 87) = w1 at hA0 hC0 hb0 ⊢
  go_loopw [3] (fun iv wr => ∃ (i : Nat) (s : List Int), i ≤ 16 ∧ iv = .int .i64 (i : Int) ∧ Hid ((i < 16 → CarI V s i) ∧ (i = 16 → s = carL V)) ∧ Hid (ArrI 87 wr w.heap.size s) ∧ Hid (ArrI 87 wr (w.heap.size + 1) z) ∧ Below w.heap.size w wr)
    (fun iv _ => 16 - (intOf iv).toNat)
  case atStart => exact ⟨0, o, by omega, rfl, hid ⟨fun _ => hst.out, fun h => by omega⟩, hA0, hC0, hb0⟩
  case round =>
    clear hA0 hC0 hb0 hst
    obtain ⟨i, s, hi, rfl, hI, hA, hC, hb⟩ := hrel
    by_cases hlt : i < 16
    · have hc := hid (hI.out.1 hlt)
      clear hI
      have hsl := hc.out.len
      have hh := hc.out.here
      have cx := hA.out.cell i (by omega)
      have fx := hA.out.free i
      have lx := hA.out.lt
      obtain ⟨x, hx⟩ : ∃ x, x = ni s i := ⟨_, rfl⟩
      rw [← hx] at cx hh
      have HX := hid hx
      clear hx
      obtain ⟨q, hq⟩ : ∃ q, q = x / 65536 := ⟨_, rfl⟩
      have q1 : -17600000000000 ≤ q := by omega
      have q2 : q ≤ 17600000000000 := by omega
      have q3 : 0 ≤ x - q * 65536 ∧ x - q * 65536 ≤ 65535 := by omega
      have q4 : x / 65536 = q := hq.symm
      have HQ := hid hq
      clear hq
      by_cases h15 : i < 15
      · have cy := hA.out.cell (i + 1) (by omega)
        have fy := hA.out.free (i + 1)
        have hy2 := hc.out.big (i + 1) (by omega)
        have hstep := hid (hc.out.step h15)
        obtain ⟨y, hy⟩ : ∃ y, y = ni s (i + 1) := ⟨_, rfl⟩
        rw [← hy] at cy hy2 hstep
        rw [← HX.out, ← HQ.out] at hstep
        have h15i : (i : Int) < 15 := by omega
        clear hy hc h15
        go_wp2
        go_roundw
        case rel =>
          exact ⟨i + 1, _, by omega, by go_num, hid ⟨fun _ => hstep.out, fun h => by omega⟩, hid ((hA.out.set i _).set (i + 1) _), hid ((hC.out.other (by show w.heap.size + 1 ≠ w.heap.size; omega) _).other (by show w.heap.size + 1 ≠ w.heap.size; omega) _), (hb.setCell (p := ⟨w.heap.size, i, none⟩) (Nat.le_refl _) _).setCell (p := ⟨w.heap.size, i + 1, none⟩) (Nat.le_refl _) _⟩
        case measure => simp [intOf]; omega
      · obtain rfl : i = 15 := by omega
        have cy := hA.out.cell 0 (by omega)
        have fy := hA.out.free 0
        have hd0 := dgI_bd V 0
        have hstop := hid hc.out.stop
        obtain ⟨y, hy⟩ : ∃ y, y = ni s 0 := ⟨_, rfl⟩
        rw [← hy] at cy hstop
        rw [← HX.out, ← HQ.out] at hstop
        have hy2 : 0 ≤ y ∧ y ≤ 65535 := by have := hstop.out.2.1; omega
        clear hy hc h15
        go_wp2
        go_roundw
        case rel =>
          exact ⟨16, _, by omega, by go_num, hid ⟨fun h => by omega, fun _ => hstop.out.1⟩, hid ((hA.out.set 15 _).set 0 _), hid ((hC.out.other (by show w.heap.size + 1 ≠ w.heap.size; omega) _).other (by show w.heap.size + 1 ≠ w.heap.size; omega) _), (hb.setCell (p := ⟨w.heap.size, 15, none⟩) (Nat.le_refl _) _).setCell (p := ⟨w.heap.size, 0, none⟩) (Nat.le_refl _) _⟩
        case measure => simp [intOf]
    · obtain rfl : i = 16 := by omega
      have hs := hI.out.2 rfl
      have HS := hid hs
      have iS := hid (iGFx s (by rw [hs]; exact carL_len V))
      have zS := hid (show (cellsI z).size = (cellsI s).size by rw [size_cellsI, size_cellsI, hzl, hs, carL_len])
      have nS := hid (one_cellsI s)
      clear hs hI hlt hi
      go_wp2_with (first | (refine wpList_load_row rfl 87 (.tmp 1) rfl w.heap.size rfl 87 _ (0, 0) _ hA.out uGF rfl iS.out ?_; simp only [Act.put, List.setIfInBounds_toArray, List.set_cons_zero, List.set_cons_succ]) | (refine wpList_store_row rfl 87 (.tmp 2) (.tmp 38) rfl (w.heap.size + 1) _ rfl rfl 87 _ hC.out iS.out zS.out nS.out ?_; simp only [Act.put]))
      refine bodyPost_ret (results_cell_row rfl _ _ (w.heap.size + 1) 87 (cellsI s) (0, 0) _ rfl (heap_setRow' _ _ _ _ _ hC.out) uGF rfl iS.out) rfl ⟨by rw [HS.out], below_setRow' hb _ (by omega) _⟩
end Go.Proofs.Ytfidbiabgmioaaa

/-! conclaveref04.Times. -/
namespace Go.Proofs.Ytfidbiabgmioaaa
open Go.RowKit

set_option maxHeartbeats 4000000 in
theorem times16_any (a b : List Int) (w : World) (ha : Gd 1048576 a) (hb : Gd 1048576 b) :
    Calls Try.prog 129 #[.agg (cellsI a), .agg (cellsI b)] w fun e w' => ∃ o, e = .returned (.agg (cellsI o)) ∧ Gd 1048576 o ∧ val o % pI = val a * val b % pI ∧ Below w.heap.size w w' := by
  have HA := hid ha
  have HB := hid hb
  have iA := hid (iGFx a ha.1)
  have iB := hid (iGFx b hb.1)
  clear ha hb
  obtain ⟨z, hz⟩ : ∃ z : List Int, z = List.replicate 16 0 := ⟨_, rfl⟩
  have zZ := hid zGF
  have hzl : z.length = 16 := by rw [hz]; simp
  have hF0 := hid (fun t => FolI.start t)
  rw [← hz] at zZ hF0
  clear hz
  obtain ⟨y, hy⟩ : ∃ y : List Int, y = List.replicate 31 0 := ⟨_, rfl⟩
  have zY := hid zT31
  have hT0 := hid (TimI.start a b)
  rw [← hy] at zY hT0
  clear hy
  obtain ⟨W0, hW0⟩ : ∃ W0, W0 = (((w.alloc (.cells (cellsI a) 87)).alloc (.cells (cellsI b) 87)).alloc (.cells (cellsI z) 87)).alloc (.cells (cellsI y) 94) := ⟨_, rfl⟩
  have hA0 := hid (show ArrI 87 W0 w.heap.size a by rw [hW0]; exact (((ArrI.new _ w a).alloc _).alloc _).alloc _)
  have hB0 := hid (show ArrI 87 W0 (w.heap.size + 1) b by
    have := ArrI.new 87 (w.alloc (.cells (cellsI a) 87)) b
    rw [World.size_alloc] at this; rw [hW0]; exact (this.alloc _).alloc _)
  have hC0 := hid (show ArrI 87 W0 (w.heap.size + 2) z by
    have := ArrI.new 87 ((w.alloc (.cells (cellsI a) 87)).alloc (.cells (cellsI b) 87)) z
    rw [World.size_alloc, World.size_alloc] at this; rw [hW0]; exact this.alloc _)
  have hT1 := hid (show ArrI 94 W0 (w.heap.size + 3) y by
    have := ArrI.new 94 (((w.alloc (.cells (cellsI a) 87)).alloc (.cells (cellsI b) 87)).alloc (.cells (cellsI z) 87)) y
    rw [World.size_alloc, World.size_alloc, World.size_alloc] at this; rw [hW0]; exact this)
  have hb0 : Below w.heap.size w W0 := by rw [hW0]; exact ((((Below.refl _ _).alloc (Nat.le_refl _) _).alloc (by simp) _).alloc (by simp; omega) _).alloc (by simp; omega) _
  go_enter Try.func129, Try.ntmps129
  go_wp2_with (first | (refine wpList_alloc_new rfl 87 rfl (cellsI z) zZ.out ?_; simp only [Act.put, List.setIfInBounds_toArray, List.set_cons_zero, List.set_cons_succ, World.size_alloc]) | (refine wpList_alloc_new rfl 94 rfl (cellsI y) zY.out ?_; simp only [Act.put, List.setIfInBounds_toArray, List.set_cons_zero, List.set_cons_succ, World.size_alloc]))
  rw [← hW0]
  clear hW0
  go_loopw [6] (fun iv wr => ∃ (i : Nat) (t : List Int), i ≤ 16 ∧ iv = .int .i64 (i : Int) ∧ Hid (TimI a b i 0 t) ∧ Hid (ArrI 87 wr w.heap.size a) ∧ Hid (ArrI 87 wr (w.heap.size + 1) b) ∧ Hid (ArrI 87 wr (w.heap.size + 2) z) ∧ Hid (ArrI 94 wr (w.heap.size + 3) t) ∧ Below w.heap.size w wr)
    (fun iv _ => 16 - (intOf iv).toNat)
  case atStart => exact ⟨0, y, by omega, rfl, hT0, hA0, hB0, hC0, hT1, hb0⟩
  case round =>
    clear hA0 hB0 hC0 hT0 hT1 hb0
    obtain ⟨i, t, hi, rfl, hI, hA, hB, hC, hT, hb⟩ := hrel
    by_cases hlt : i < 16
    · go_wp2
      go_loopw [7] (fun kv wr => ∃ (k : Nat) (t : List Int), k ≤ 16 ∧ kv = .int .i64 (k : Int) ∧ Hid (TimI a b i k t) ∧ Hid (ArrI 87 wr w.heap.size a) ∧ Hid (ArrI 87 wr (w.heap.size + 1) b) ∧ Hid (ArrI 87 wr (w.heap.size + 2) z) ∧ Hid (ArrI 94 wr (w.heap.size + 3) t) ∧ Below w.heap.size w wr)
        (fun kv _ => 16 - (intOf kv).toNat)
      case atStart => exact ⟨0, t, by omega, rfl, hI, hA, hB, hC, hT, hb⟩
      case round =>
        clear hI hA hB hC hT hb
        obtain ⟨k, t, hk, rfl, hI, hA, hB, hC, hT, hb⟩ := hrel
        by_cases hklt : k < 16
        · have ca := hA.out.cell i (by rw [HA.out.1]; exact hlt)
          have cb := hB.out.cell k (by rw [HB.out.1]; exact hklt)
          have ct := hT.out.cell (i + k) (by rw [hI.out.len]; omega)
          have ft := hT.out.free (i + k)
          have la := hA.out.lt
          have lb := hB.out.lt
          have lt := hT.out.lt
          have hst := hid (hI.out.step HA.out HB.out hlt hklt)
          have hm := mul_bd _ _ (HA.out.2 i) (HB.out.2 k)
          have hbd := hI.out.bd (i + k)
          obtain ⟨x, hx⟩ : ∃ x, x = ni a i := ⟨_, rfl⟩
          obtain ⟨u, hu⟩ : ∃ u, u = ni b k := ⟨_, rfl⟩
          obtain ⟨v, hv⟩ : ∃ v, v = ni t (i + k) := ⟨_, rfl⟩
          rw [← hx] at ca hm hst
          rw [← hu] at cb hm hst
          rw [← hv] at ct hbd hst
          obtain ⟨m, hm2⟩ : ∃ m, m = x * u := ⟨_, rfl⟩
          rw [← hm2] at hm hst
          have hv1 : -281474976710656 ≤ v ∧ v ≤ 281474976710656 := by omega
          have hw1 : IntKind.i64.wrap (x * u) = m := by rw [← hm2, IntKind.wrap_i64]; omega
          have hw2 : wrap64 (x * u) = m := by rw [← hm2]; unfold wrap64; omega
          have hw3 : IntKind.i64.wrap (v + m) = v + m := by rw [IntKind.wrap_i64]; omega
          clear hx hu hv hm2 hbd hI
          go_wp2_with fail
          (refine wp_region_ext_tail 17 (by kernel_rfl) (by kernel_rfl) ?_; simp only [List.take_succ_cons, List.take_zero, List.drop_succ_cons, List.drop_zero]; (repeat (go_big_quiet_step (first | fail))); refine wpQuiet_nil ?_; rintro _ ⟨xw, rfl⟩)
          go_wp2
          go_roundw
          case rel =>
            exact ⟨k + 1, _, by omega, by go_num, hst, hid ((hA.out.ext xw).other (by show w.heap.size ≠ w.heap.size + 3; omega) _), hid ((hB.out.ext xw).other (by show w.heap.size + 1 ≠ w.heap.size + 3; omega) _), hid ((hC.out.ext xw).other (by show w.heap.size + 2 ≠ w.heap.size + 3; omega) _), hid ((hT.out.ext xw).set (i + k) _), (World.ext_below_of hb hb.size xw).setCell (p := ⟨w.heap.size + 3, i + k, none⟩) (by show w.heap.size ≤ w.heap.size + 3; omega) _⟩
          case measure => simp [intOf]; omega
        · obtain rfl : k = 16 := by omega
          have hn := hid (hI.out.next HA.out.1 HB.out.1 hlt)
          go_wp2
          go_roundw
          case rel => exact ⟨i + 1, t, by omega, by go_num, hn, hA, hB, hC, hT, hb⟩
          case measure => simp [intOf]; omega
    · obtain rfl : i = 16 := by omega
      have hval := hid (hI.out.stop HA.out.1)
      have htl := hI.out.len
      have htb := hid (fun j => (show -281474976710656 ≤ ni t j ∧ ni t j ≤ 281474976710656 by have := hI.out.bd j; omega))
      clear hI hA hB hlt hi
      go_wp2_with (refine wpList_alloc_new rfl 87 rfl (cellsI z) zZ.out ?_; simp only [Act.put, List.setIfInBounds_toArray, List.set_cons_zero, List.set_cons_succ, World.size_alloc])
      have hC2 := hid (hC.out.alloc (.cells (cellsI z) 87))
      have hT2 := hid (hT.out.alloc (.cells (cellsI z) 87))
      have hO2 := hid (ArrI.new 87 wr z)
      have hb2 := hb.alloc hb.size (.cells (cellsI z) 87)
      have hG4 : w.heap.size + 4 ≤ wr.heap.size := by have := hT.out.lt; omega
      obtain ⟨G, hG⟩ : ∃ G, G = wr.heap.size := ⟨_, rfl⟩
      rw [← hG] at hO2 hG4 ⊢
      generalize wr.alloc (.cells (cellsI z) 87) = w2 at hC2 hT2 hO2 hb2 ⊢
      clear hG hC hT hb
      go_loopw [9] (fun iv wr => ∃ (i : Nat) (o : List Int), i ≤ 16 ∧ iv = .int .i64 (i : Int) ∧ Hid (FolI t i o) ∧ Hid (ArrI 87 wr (w.heap.size + 2) z) ∧ Hid (ArrI 94 wr (w.heap.size + 3) t) ∧ Hid (ArrI 87 wr G o) ∧ Below w.heap.size w wr)
        (fun iv _ => 16 - (intOf iv).toNat)
      case atStart => exact ⟨0, z, by omega, rfl, hid (hF0.out t), hC2, hT2, hO2, hb2⟩
      case round =>
        clear hC2 hT2 hO2 hb2 hF0
        obtain ⟨i, o, hi, rfl, hI, hC, hT, hO, hb⟩ := hrel
        by_cases hlt : i < 16
        · have c1 := hT.out.cell i (by omega)
          have l1 := hT.out.lt
          have c2 := hO.out.cell i (by rw [hI.out.len]; exact hlt)
          have f2 := hO.out.free i
          have l2 := hO.out.lt
          have b1 := htb.out i
          have hol := hI.out.len
          by_cases h15 : i < 15
          · have hst := hid (hI.out.step htl h15 htb.out)
            have b2 := htb.out (i + 16)
            obtain ⟨x, hx⟩ : ∃ x, x = ni t i := ⟨_, rfl⟩
            obtain ⟨u, hu⟩ : ∃ u, u = ni t (i + 16) := ⟨_, rfl⟩
            rw [← hx] at c1 b1 hst
            rw [← hu] at b2 hst
            have h15i : (i : Int) < 15 := by omega
            clear hx h15
            go_wp2_with fail
            have hC3 := hid (hC.out.other (show w.heap.size + 2 ≠ (⟨G, i, none⟩ : Addr).block by show w.heap.size + 2 ≠ G; omega) (.int .i64 x))
            have hT3 := hid (hT.out.other (show w.heap.size + 3 ≠ (⟨G, i, none⟩ : Addr).block by show w.heap.size + 3 ≠ G; omega) (.int .i64 x))
            have hO3 := hid (hO.out.set i x)
            have hb3 : Below w.heap.size w (wr.setCell ⟨G, i, none⟩ (.int .i64 x)) := hb.setCell (p := ⟨G, i, none⟩) (by show w.heap.size ≤ G; omega) _
            generalize wr.setCell ⟨G, i, none⟩ (.int .i64 x) = w3 at hC3 hT3 hO3 hb3 ⊢
            clear hC hT hO hb c1 c2 f2 l1 l2
            have c3 := hT3.out.cell (i + 16) (by omega)
            rw [← hu] at c3
            have l3 := hT3.out.lt
            have c4 := hO3.out.cell i (by simp [hol]; omega)
            rw [ni_set _ _ _ _ (by omega), if_pos rfl] at c4
            have f4 := hO3.out.free i
            have l4 := hO3.out.lt
            have hw1 : IntKind.i64.wrap (38 * u) = 38 * u := by rw [IntKind.wrap_i64]; omega
            have hw3 : IntKind.i64.wrap (x + 38 * u) = x + 38 * u := by rw [IntKind.wrap_i64]; omega
            clear hu
            (refine wp_region_ext_tail 11 (by kernel_rfl) (by kernel_rfl) ?_; simp only [List.take_succ_cons, List.take_zero, List.drop_succ_cons, List.drop_zero]; (repeat (go_big_quiet_step (first | fail))); refine wpQuiet_nil ?_; rintro _ ⟨xw, rfl⟩)
            go_wp2
            go_roundw
            case rel =>
              refine ⟨i + 1, _, by omega, by go_num, hst, hid ((hC3.out.ext xw).other (by show w.heap.size + 2 ≠ G; omega) _), hid ((hT3.out.ext xw).other (by show w.heap.size + 3 ≠ G; omega) _), hid ?_, (World.ext_below_of hb3 hb3.size xw).setCell (p := ⟨G, i, none⟩) (by show w.heap.size ≤ G; omega) _⟩
              have := (hO3.out.ext xw).set i (x + 38 * u)
              rw [List.set_set] at this
              exact this
            case measure => simp [intOf]; omega
          · obtain rfl : i = 15 := by omega
            have hst := hid (hI.out.last htl htb.out)
            go_wp2
            go_roundw
            case rel =>
              exact ⟨16, _, by omega, rfl, hst, hid (hC.out.other (by show w.heap.size + 2 ≠ G; omega) _), hid (hT.out.other (by show w.heap.size + 3 ≠ G; omega) _), hid (hO.out.set 15 _), hb.setCell (p := ⟨G, 15, none⟩) (by show w.heap.size ≤ G; omega) _⟩
            case measure => simp [intOf]
        · obtain rfl : i = 16 := by omega
          obtain ⟨hm, hgd⟩ := hI.out.stop htl
          have iO := hid (iGFx o hgd.1)
          have hbd := val_bd o 10995116277760000 (by omega) hgd.2
          rw [hgd.1] at hbd
          have hdv := carV_div (val o) (by omega) (by omega)
          have h1 := hid (fun w => carry_any o w hgd.1 (fun j => by have := hgd.2 j; omega))
          have g1 := carL_gd (val o) 21990232555520000 (by omega) (by omega) (by omega)
          have h2 := hid (fun w => carry_any (carL (val o)) w (carL_len _) (fun j => by have := g1.2 j; omega))
          rw [carL_val] at h2
          have g2 := carL_gd2 (carV (val o)) hdv.1 hdv.2.1
          have HG := hid g2
          have HV := hid (show val (carL (carV (val o))) % pI = val a * val b % pI by rw [carL_val, carV_mod, carV_mod, hm, hval.out])
          obtain ⟨o1, ho1⟩ : ∃ o1, o1 = carL (val o) := ⟨_, rfl⟩
          rw [← ho1] at h1 h2
          obtain ⟨o2, ho2⟩ : ∃ o2, o2 = carL (carV (val o)) := ⟨_, rfl⟩
          rw [← ho2] at h2 HG HV
          have i2 := hid (iGFx o2 HG.out.1)
          have z2 := hid (show (cellsI z).size = (cellsI o2).size by rw [size_cellsI, size_cellsI, hzl, HG.out.1])
          have n2 := hid (one_cellsI o2)
          clear hm hgd hbd hdv g1 g2 ho1 ho2 hI hT hlt hi htl htb hval
          go_wp2_with (refine wpList_load_row rfl 87 (.tmp 8) rfl G rfl 87 _ (0, 0) _ hO.out uGF rfl iO.out ?_; simp only [Act.put, List.setIfInBounds_toArray, List.set_cons_zero, List.set_cons_succ])
          refine (h1.out _).mono ?_
          rintro e w3 ⟨rfl, hb3⟩
          have hC3 := hid (hC.out.below hb3 hC.out.lt)
          have hb4 := hb.trans (hb3.mono hb.size)
          clear hC hb hb3 hO
          go_wp2_with fail
          refine (h2.out _).mono ?_
          rintro e w4 ⟨rfl, hb5⟩
          have hC4 := hid (hC3.out.below hb5 hC3.out.lt)
          have hb6 := hb4.trans (hb5.mono hb4.size)
          clear hC3 hb4 hb5
          go_wp2_with (refine wpList_store_row rfl 87 (.tmp 4) (.tmp 59) rfl (w.heap.size + 2) _ rfl rfl 87 _ hC4.out i2.out z2.out n2.out ?_; simp only [Act.put])
          refine bodyPost_ret (results_cell_row rfl _ _ (w.heap.size + 2) 87 (cellsI o2) (0, 0) _ rfl (heap_setRow' _ _ _ _ _ hC4.out) uGF rfl i2.out) rfl ⟨o2, rfl, HG.out, HV.out, below_setRow' hb6 _ (by omega) _⟩
end Go.Proofs.Ytfidbiabgmioaaa

/-! conclaveref04: Digits, Small. -/
namespace Go.Proofs.Ytfidbiabgmioaaa
open Go.RowKit

theorem lmN_add16 (x d i j : Nat) (hx : x < 65536 ^ i) (hd : d < 65536) (hj : j < 4) : lmN (x + 65536 ^ i * d) j = (if j = i / 4 then lmN x j + d * 2 ^ (16 * (i % 4)) else lmN x j) ∧ (j = i / 4 → lmN x j < 2 ^ (16 * (i % 4))) := by
  have e65536 : (65536 : Nat) ^ i = 2 ^ (64 * (i / 4)) * 2 ^ (16 * (i % 4)) := by
    rw [show (65536 : Nat) = 2 ^ 16 from rfl, ← Nat.pow_mul, ← Nat.pow_add]; congr 1; omega
  unfold lmN
  by_cases h : j = i / 4
  · subst h
    rw [if_pos rfl]
    have hp : 0 < 2 ^ (64 * (i / 4)) := Nat.pow_pos (by omega)
    have h1 : x / 2 ^ (64 * (i / 4)) < 2 ^ (16 * (i % 4)) := by rw [Nat.div_lt_iff_lt_mul hp, Nat.mul_comm, ← e65536]; exact hx
    have h2 : 2 ^ (16 * (i % 4)) * 65536 ≤ 2 ^ 64 := by
      rw [show (65536 : Nat) = 2 ^ 16 from rfl, ← Nat.pow_add]; exact Nat.pow_le_pow_right (by omega) (by omega)
    have h3 : 2 ^ (16 * (i % 4)) * d ≤ 2 ^ (16 * (i % 4)) * 65535 := Nat.mul_le_mul_left _ (by omega)
    have m1 : (x / 2 ^ (64 * (i / 4)) + 2 ^ (16 * (i % 4)) * d) % 2 ^ 64 = x / 2 ^ (64 * (i / 4)) + 2 ^ (16 * (i % 4)) * d := Nat.mod_eq_of_lt (by omega)
    have m2 : x / 2 ^ (64 * (i / 4)) % 2 ^ 64 = x / 2 ^ (64 * (i / 4)) := Nat.mod_eq_of_lt (by omega)
    rw [e65536, Nat.mul_assoc, Nat.add_mul_div_left _ _ hp, m1, m2, Nat.mul_comm d]
    exact ⟨rfl, fun _ => h1⟩
  · rw [if_neg h]
    refine ⟨?_, fun e => absurd e h⟩
    rcases Nat.lt_or_ge j (i / 4) with hlt | hge
    · have e2 : (65536 : Nat) ^ i * d = 2 ^ (64 * j) * (2 ^ 64 * (2 ^ (16 * i - 64 * j - 64) * d)) := by
        rw [show (65536 : Nat) = 2 ^ 16 from rfl, ← Nat.pow_mul, ← Nat.mul_assoc, ← Nat.mul_assoc, ← Nat.pow_add, ← Nat.pow_add]; congr 2; omega
      rw [e2, Nat.add_mul_div_left _ _ (Nat.pow_pos (by omega)), Nat.add_mul_mod_self_left]
    · have h4 : 65536 ^ (i + 1) ≤ 2 ^ (64 * j) := by
        rw [show (65536 : Nat) = 2 ^ 16 from rfl, ← Nat.pow_mul]; exact Nat.pow_le_pow_right (by omega) (by omega)
      have h5 : 65536 ^ i * d ≤ 65536 ^ i * 65535 := Nat.mul_le_mul_left _ (by omega)
      rw [Nat.pow_succ] at h4
      rw [Nat.div_eq_of_lt (by omega), Nat.div_eq_of_lt (by omega)]
theorem lmN_half (x i : Nat) (hi : i < 16) : lmN x (i / 4) / 2 ^ (16 * (i % 4)) % 65536 = x / 65536 ^ i % 65536 := by
  have e65536 : (65536 : Nat) ^ i = 2 ^ (64 * (i / 4)) * 2 ^ (16 * (i % 4)) := by
    rw [show (65536 : Nat) = 2 ^ 16 from rfl, ← Nat.pow_mul, ← Nat.pow_add]; congr 1; omega
  rw [e65536, ← Nat.div_div_eq_div_mul]
  unfold lmN
  generalize x / 2 ^ (64 * (i / 4)) = y
  have hc : i % 4 = 0 ∨ i % 4 = 1 ∨ i % 4 = 2 ∨ i % 4 = 3 := by omega
  rcases hc with h | h | h | h <;> rw [h] <;> omega
theorem cellsW_add16 (x d i : Nat) (hx : x < 65536 ^ i) (hd : d < 65536) (hi : i < 16) : (cellsW x).setIfInBounds (i / 4) (.int .u64 ((lmN x (i / 4) ||| d * 2 ^ (16 * (i % 4)) : Nat) : Int)) = cellsW (x + 65536 ^ i * d) := by
  have hj : i / 4 < 4 := by omega
  have h := fun j hj => lmN_add16 x d i j hx hd hj
  rw [or_add _ _ _ ((h _ hj).2 rfl)]
  have hc : i / 4 = 0 ∨ i / 4 = 1 ∨ i / 4 = 2 ∨ i / 4 = 3 := by omega
  have h0 := (h 0 (by omega)).1
  have h1 := (h 1 (by omega)).1
  have h2 := (h 2 (by omega)).1
  have h3 := (h 3 (by omega)).1
  unfold cellsW lm
  rw [h0, h1, h2, h3]
  rcases hc with e | e | e | e <;> simp [e]

theorem dgI_nat (x i : Nat) : dgI (x : Int) i = ((x / 65536 ^ i % 65536 : Nat) : Int) := by
  unfold dgI
  rw [Int.natCast_emod, Int.natCast_ediv, Int.natCast_pow]; rfl
theorem lm_half (x i : Nat) (hi : i < 16) : bits .and .u64 (lm x (i / 4) / 2 ^ (16 * (i % 4))) 65535 = dgI (x : Int) i := by
  rw [dgI_nat, ← lmN_half x i hi]
  unfold lm
  rw [show ((lmN x (i / 4) : Nat) : Int) / 2 ^ (16 * (i % 4)) = ((lmN x (i / 4) / 2 ^ (16 * (i % 4)) : Nat) : Int) by rw [Int.natCast_ediv, Int.natCast_pow]; rfl]
  rw [show (65535 : Int) = ((65535 : Nat) : Int) from rfl, u64_and_nat _ _ (Nat.lt_of_le_of_lt (Nat.div_le_self _ _) (lmN_lt _ _)) (by decide), show (65535 : Nat) = 2 ^ 16 - 1 from rfl, Nat.and_two_pow_sub_one_eq_mod]

set_option maxHeartbeats 2000000 in
theorem digits_any (x : Nat) (w : World) (hx : x < 2 ^ 256) : Calls Try.prog 128 #[wd x] w fun e w' => e = .returned (.agg (cellsI (dgL (x : Int)))) ∧ Below w.heap.size w w' := by
  clear hx
  obtain ⟨z, hz⟩ : ∃ z : List Int, z = List.replicate 16 0 := ⟨_, rfl⟩
  have zZ := hid zGF
  have hzl : z.length = 16 := by rw [hz]; simp
  rw [← hz] at zZ
  clear hz
  unfold wd
  obtain ⟨W0, hW0⟩ : ∃ W0, W0 = ((w.alloc (.cells (cellsW x) 24)).alloc (.cells (cellsI z) 87)).alloc (.cells (cellsI z) 87) := ⟨_, rfl⟩
  have hA0 := hid (show ArrW 24 W0 w.heap.size x by rw [hW0]; exact ((ArrW.new _ w x).alloc _).alloc _)
  have hR0 := hid (show ArrI 87 W0 (w.heap.size + 1) z by
    have := ArrI.new 87 (w.alloc (.cells (cellsW x) 24)) z
    rw [World.size_alloc] at this; rw [hW0]; exact this.alloc _)
  have hO0 := hid (show ArrI 87 W0 (w.heap.size + 2) z by
    have := ArrI.new 87 ((w.alloc (.cells (cellsW x) 24)).alloc (.cells (cellsI z) 87)) z
    rw [World.size_alloc, World.size_alloc] at this; rw [hW0]; exact this)
  have hb0 : Below w.heap.size w W0 := by rw [hW0]; exact (((Below.refl _ _).alloc (Nat.le_refl _) _).alloc (by simp) _).alloc (by simp; omega) _
  go_enter Try.func128, Try.ntmps128
  go_wp2_with (refine wpList_alloc_new rfl 87 rfl (cellsI z) zZ.out ?_; simp only [Act.put, List.setIfInBounds_toArray, List.set_cons_zero, List.set_cons_succ, World.size_alloc])
  rw [← hW0]
  clear hW0
  go_loopw [4] (fun iv wr => ∃ (i : Nat) (s : List Int), i ≤ 16 ∧ iv = .int .i64 (i : Int) ∧ Hid (s.length = 16 ∧ ∀ j, j < i → ni s j = dgI (x : Int) j) ∧ Hid (ArrW 24 wr w.heap.size x) ∧ Hid (ArrI 87 wr (w.heap.size + 1) z) ∧ Hid (ArrI 87 wr (w.heap.size + 2) s) ∧ Below w.heap.size w wr)
    (fun iv _ => 16 - (intOf iv).toNat)
  case atStart => exact ⟨0, z, by omega, rfl, hid ⟨hzl, fun j hj => by omega⟩, hA0, hR0, hO0, hb0⟩
  case round =>
    clear hA0 hR0 hO0 hb0
    obtain ⟨i, s, hi, rfl, hS, hA, hR, hO, hb⟩ := hrel
    by_cases hlt : i < 16
    · have c1 := hA.out.cell (i / 4) (by omega)
      have l1 := hA.out.lt
      have n1 := lm_nonneg x (i / 4)
      have n2 := lm_lt x (i / 4)
      have c2 := hO.out.cell i (by rw [hS.out.1]; exact hlt)
      have f2 := hO.out.free i
      have l2 := hO.out.lt
      have hV := lm_half x i hlt
      have hd := dgI_bd (x : Int) i
      have hsh : (16 * ((i : Int) % 4)).toNat = 16 * (i % 4) := by omega
      have hnew := hid (show (s.set i (dgI (x : Int) i)).length = 16 ∧ ∀ j, j < i + 1 → ni (s.set i (dgI (x : Int) i)) j = dgI (x : Int) j from ⟨by simp [hS.out.1], fun j hj => by
        rw [ni_set _ _ _ _ (by rw [hS.out.1]; exact hlt)]
        by_cases e : i = j
        · rw [if_pos e, e]
        · rw [if_neg e]; exact hS.out.2 j (by omega)⟩)
      obtain ⟨d, hd2⟩ : ∃ d, d = dgI (x : Int) i := ⟨_, rfl⟩
      rw [← hd2] at hV hd hnew
      clear hd2 hS
      go_wp2
      go_roundw
      case rel =>
        exact ⟨i + 1, _, by omega, by go_num, hnew, hid (hA.out.other (by show w.heap.size ≠ w.heap.size + 2; omega) _), hid (hR.out.other (by show w.heap.size + 1 ≠ w.heap.size + 2; omega) _), hid (hO.out.set i _), hb.setCell (p := ⟨w.heap.size + 2, i, none⟩) (by show w.heap.size ≤ w.heap.size + 2; omega) _⟩
      case measure => simp [intOf]; omega
    · obtain rfl : i = 16 := by omega
      have hs : s = dgL (x : Int) := ni_ext (by rw [hS.out.1, dgL_len]) fun j hj => by
        rw [hS.out.1] at hj
        rw [hS.out.2 j hj, dgL_ni _ _ hj]
      have HS := hid hs
      have hsl := hS.out.1
      have iS := hid (iGFx s hsl)
      have zS := hid (show (cellsI z).size = (cellsI s).size by rw [size_cellsI, size_cellsI, hzl, hsl])
      have nS := hid (one_cellsI s)
      clear hs hS hlt hi hA
      go_wp2_with (first | (refine wpList_load_row rfl 87 (.tmp 3) rfl (w.heap.size + 2) rfl 87 _ (0, 0) _ hO.out uGF rfl iS.out ?_; simp only [Act.put, List.setIfInBounds_toArray, List.set_cons_zero, List.set_cons_succ]) | (refine wpList_store_row rfl 87 (.tmp 2) (.tmp 22) rfl (w.heap.size + 1) _ rfl rfl 87 _ hR.out iS.out zS.out nS.out ?_; simp only [Act.put]))
      refine bodyPost_ret (results_cell_row rfl _ _ (w.heap.size + 1) 87 (cellsI s) (0, 0) _ rfl (heap_setRow' _ _ _ _ _ hR.out) uGF rfl iS.out) rfl ⟨by rw [HS.out], below_setRow' hb _ (by omega) _⟩
end Go.Proofs.Ytfidbiabgmioaaa

/-! conclaveref04.Small. -/
namespace Go.Proofs.Ytfidbiabgmioaaa
open Go.RowKit

theorem T16n : (65536 : Int) ^ 16 = ((65536 ^ 16 : Nat) : Int) := by decide +kernel
/-- What is left behind k looks at P. -/
def lessV (V : Int) : Nat → Int
  | 0 => V
  | k + 1 => if pI ≤ lessV V k then lessV V k - pI else lessV V k
theorem lessV_bd (V : Int) (h0 : 0 ≤ V) (hT : V < 65536 ^ 16) (k : Nat) : 0 ≤ lessV V k ∧ lessV V k < 65536 ^ 16 := by
  induction k with
  | zero => exact ⟨h0, hT⟩
  | succ k ih =>
    rw [lessV]
    have hp : 0 < pI := by decide +kernel
    split <;> omega
theorem lessV_two (V : Int) (h0 : 0 ≤ V) (hT : V < 65536 ^ 16) : lessV V 2 = V % pI := by
  have h2 := pI_two
  have hp : 38 < pI := by decide +kernel
  have e1 : lessV V 1 = if pI ≤ V then V - pI else V := rfl
  have e2 : lessV V 2 = if pI ≤ lessV V 1 then lessV V 1 - pI else lessV V 1 := rfl
  rw [e2, e1]
  by_cases h1 : pI ≤ V
  · rw [if_pos h1]
    by_cases h3 : pI ≤ V - pI
    · rw [if_pos h3, show V = (V - pI - pI) + pI * 2 by omega, Int.add_mul_emod_self_left, Int.emod_eq_of_lt (by omega) (by omega)]; omega
    · rw [if_neg h3, show V = (V - pI) + pI * 1 by omega, Int.add_mul_emod_self_left, Int.emod_eq_of_lt (by omega) (by omega)]; omega
  · rw [if_neg h1, if_neg h1, Int.emod_eq_of_lt h0 (by omega)]

set_option maxHeartbeats 8000000 in
set_option maxRecDepth 100000 in
theorem small16_any (a : List Int) (w : World) (ha : Gd 1048576 a) : Calls Try.prog 130 #[.agg (cellsI a)] w fun e w' => e = .returned (wd (val a % pI).toNat) ∧ Below w.heap.size w w' := by
  have iA := hid (iGFx a ha.1)
  have hbd := val_bd a 1048576 (by omega) ha.2
  rw [ha.1] at hbd
  have hr2 := carV_range (val a) 1048576 (by omega) (by omega) (by omega) (by omega)
  have hdv := carV_div (val a) (by have := T16; omega) (by have := T16; omega)
  have h1 := hid (fun w => carry_any a w ha.1 (fun j => by have := ha.2 j; omega))
  have g1 := carL_gd (val a) 21990232555520000 (by omega) (by omega) (by omega)
  have h2 := hid (fun w => carry_any (carL (val a)) w (carL_len _) (fun j => by have := g1.2 j; omega))
  rw [carL_val] at h2
  have g2 := carL_gd2 (carV (val a)) hdv.1 hdv.2.1
  have h3 := hid (fun w => carry_any (carL (carV (val a))) w (carL_len _) (fun j => by have := g2.2 j; omega))
  rw [carL_val, carL_small _ hr2.1 hr2.2] at h3
  have hVm : carV (carV (val a)) % pI = val a % pI := by rw [carV_mod, carV_mod]
  have hlast := lessV_two _ hr2.1 hr2.2
  rw [hVm] at hlast
  have hLB := hid (fun k => lessV_bd _ hr2.1 hr2.2 k)
  obtain ⟨V, hV⟩ : ∃ V, V = carV (carV (val a)) := ⟨_, rfl⟩
  obtain ⟨o1, ho1⟩ : ∃ o, o = carL (val a) := ⟨_, rfl⟩
  obtain ⟨o2, ho2⟩ : ∃ o, o = carL (carV (val a)) := ⟨_, rfl⟩
  rw [← hV] at h3 hlast hLB
  rw [← ho1] at h1 h2
  rw [← ho2] at h2 h3
  obtain ⟨R, hR⟩ : ∃ R, R = val a % pI := ⟨_, rfl⟩
  rw [← hR] at hlast ⊢
  have HL := hid hlast
  have z1 := hid (show (cellsI a).size = (cellsI (dgL V)).size by rw [size_cellsI, size_cellsI, ha.1, dgL_len])
  have iV := hid (fun X => iGFx (dgL X) (dgL_len X))
  have nV := hid (fun X => one_cellsI (dgL X))
  have sV := hid (fun X Y => show (cellsI (dgL X)).size = (cellsI (dgL Y)).size by rw [size_cellsI, size_cellsI, dgL_len, dgL_len])
  have zs := hid (fun X => show (cellsI (List.replicate 16 0)).size = (cellsI (dgL X)).size by rw [size_cellsI, size_cellsI, dgL_len]; rfl)
  clear ha hbd hr2 hdv g1 g2 hVm hlast hV ho1 ho2 hR
  unfold wd
  have hA0 := hid (show ArrI 87 ((w.alloc (.cells (cellsI a) 87)).alloc (.cells (cellsW 0) 24)) w.heap.size a from (ArrI.new _ w a).alloc _)
  have hC0 := hid (show ArrW 24 ((w.alloc (.cells (cellsI a) 87)).alloc (.cells (cellsW 0) 24)) (w.heap.size + 1) 0 by
    have := ArrW.new 24 (w.alloc (.cells (cellsI a) 87)) 0
    rw [World.size_alloc] at this; exact this)
  have hb0 : Below w.heap.size w ((w.alloc (.cells (cellsI a) 87)).alloc (.cells (cellsW 0) 24)) := ((Below.refl _ _).alloc (Nat.le_refl _) _).alloc (by simp) _
  go_enter Try.func130, Try.ntmps130
  go_wp2_with (first | (refine wpList_alloc_new rfl 24 rfl (cellsW 0) zWd ?_; simp only [Act.put, List.setIfInBounds_toArray, List.set_cons_zero, List.set_cons_succ, World.size_alloc]) | (refine wpList_load_row rfl 87 (.tmp 1) rfl w.heap.size rfl 87 _ (0, 0) _ hA0.out uGF rfl iA.out ?_; simp only [Act.put, List.setIfInBounds_toArray, List.set_cons_zero, List.set_cons_succ]))
  generalize (w.alloc (.cells (cellsI a) 87)).alloc (.cells (cellsW 0) 24) = w1 at hA0 hC0 hb0 ⊢
  refine (h1.out _).mono ?_
  rintro e w2 ⟨rfl, hb2⟩
  have hA2 := hid (hA0.out.below hb2 hA0.out.lt)
  have hC2 := hid (hC0.out.below hb2 hC0.out.lt)
  have hb3 := hb0.trans (hb2.mono hb0.size)
  clear hA0 hC0 hb0 hb2 h1
  go_wp2_with fail
  refine (h2.out _).mono ?_
  rintro e w3 ⟨rfl, hb4⟩
  have hA3 := hid (hA2.out.below hb4 hA2.out.lt)
  have hC3 := hid (hC2.out.below hb4 hC2.out.lt)
  have hb5 := hb3.trans (hb4.mono hb3.size)
  clear hA2 hC2 hb3 hb4 h2
  go_wp2_with fail
  refine (h3.out _).mono ?_
  rintro e w4 ⟨rfl, hb6⟩
  have hA4 := hid (hA3.out.below hb6 hA3.out.lt)
  have hC4 := hid ((hC3.out.below hb6 hC3.out.lt).otherRow (show w.heap.size + 1 ≠ w.heap.size by omega) (cellsI (dgL V)))
  have hb7 := below_setRow' (hb5.trans (hb6.mono hb5.size)) w.heap.size (Nat.le_refl _) (cellsI (dgL V))
  have hA5 := hid (hA4.out.row (dgL V))
  clear hA3 hC3 hb5 hb6 h3
  go_wp2_with (refine wpList_store_row rfl 87 (.tmp 1) (.tmp 12) rfl w.heap.size _ rfl rfl 87 _ hA4.out (iV.out V) z1.out (nV.out V) ?_; simp only [Act.put])
  generalize w4.setRow w.heap.size (cellsI (dgL V)) = w5 at hA5 hC4 hb7 ⊢
  clear hA4 z1
  go_loopw [3] (fun kv wr => ∃ k : Nat, k ≤ 2 ∧ kv = .int .i64 (k : Int) ∧ Hid (ArrI 87 wr w.heap.size (dgL (lessV V k))) ∧ Hid (ArrW 24 wr (w.heap.size + 1) 0) ∧ Below w.heap.size w wr)
    (fun kv _ => 2 - (intOf kv).toNat)
  case atStart => exact ⟨0, by omega, rfl, hA5, hC4, hb7⟩
  case round =>
    clear hA5 hC4 hb7
    obtain ⟨k, hk, rfl, hA, hC, hb⟩ := hrel
    obtain ⟨X, hX⟩ : ∃ X, X = lessV V k := ⟨_, rfl⟩
    have hXb := hLB.out k
    rw [← hX] at hA hXb
    have HX := hid hX
    clear hX
    have hXB := hid hXb
    clear hXb
    by_cases hlt : k < 2
    · have hst := hid (SubI.start X)
      have hM1 := ArrI.new 87 wr (dgL X)
      have c0 := hM1.cell 0 (by rw [dgL_len]; omega)
      rw [dgL_ni _ _ (by omega)] at c0
      have f0 := hM1.free 0
      have l0 := hM1.lt
      have d0 := dgI_bd X 0
      obtain ⟨x0, hx0⟩ : ∃ x0, x0 = dgI X 0 := ⟨_, rfl⟩
      rw [← hx0] at c0 d0 hst
      obtain ⟨l0', hl0⟩ : ∃ l, l = (dgL X).set 0 (x0 - 65517) := ⟨_, rfl⟩
      have eW : wr.alloc (.cells ((cellsI (dgL X)).setIfInBounds 0 (.int .i64 (x0 - 65517))) 87) = wr.alloc (.cells (cellsI l0') 87) := by rw [cellsI_set, hl0]
      rw [← hl0] at hst
      have EW := hid eW
      have hM2 := hid (ArrI.new 87 wr l0')
      have hA2 := hid (hA.out.alloc (.cells (cellsI l0') 87))
      have hC2 := hid (hC.out.alloc (.cells (cellsI l0') 87))
      have hb2 := hb.alloc hb.size (.cells (cellsI l0') 87)
      clear eW hl0
      have hG2 : w.heap.size + 2 ≤ wr.heap.size := by have := hC.out.lt; omega
      obtain ⟨G, hG⟩ : ∃ G, G = wr.heap.size := ⟨_, rfl⟩
      clear hx0 hM1
      go_wp2_with (first | (refine wpList_load_row rfl 87 (.tmp 1) rfl w.heap.size rfl 87 _ (0, 0) _ hA.out uGF rfl (iV.out X) ?_; simp only [Act.put, List.setIfInBounds_toArray, List.set_cons_zero, List.set_cons_succ]) | (refine wpList_allocStore 87 17 4 (cellsI (dgL X)) (cellsI (List.replicate 16 0)) rfl rfl rfl rfl rfl rfl (by decide) (by simp) rfl (by kernel_rfl) (zs.out X) (iV.out X) (nV.out X) ?_; simp only [Act.put, List.setIfInBounds_toArray, List.set_cons_zero, List.set_cons_succ]))
      rw [EW.out]
      rw [← hG] at hM2 hG2 ⊢
      generalize wr.alloc (.cells (cellsI l0') 87) = w6 at hM2 hA2 hC2 hb2 ⊢
      clear c0 f0 l0 d0 hA hC hb hG EW
      go_loopw [5] (fun iv wr => ∃ (i : Nat) (m : List Int), i ≤ 14 ∧ iv = .int .i64 ((i : Int) + 1) ∧ Hid (SubI X (i + 1) m) ∧ Hid (ArrI 87 wr w.heap.size (dgL X)) ∧ Hid (ArrW 24 wr (w.heap.size + 1) 0) ∧ Hid (ArrI 87 wr G m) ∧ Below w.heap.size w wr)
        (fun iv _ => 16 - (intOf iv).toNat)
      case atStart => exact ⟨0, _, by omega, rfl, hst, hA2, hC2, hM2, hb2⟩
      case round =>
        clear hst hA2 hC2 hM2 hb2
        obtain ⟨i, m, hi, rfl, hS, hA, hC, hM, hb⟩ := hrel
        have hml := hS.out.len
        have hraw := hS.out.raw
        rw [Nat.add_sub_cancel] at hraw
        have cr := hM.out.cell i (by omega)
        have fr := hM.out.free i
        have lr := hM.out.lt
        have cn := hM.out.cell (i + 1) (by omega)
        have fn := hM.out.free (i + 1)
        have hrest := hS.out.rest (i + 1) (Nat.le_refl _) (by omega)
        have hdn := dgI_bd X (i + 1)
        rw [← hrest] at hdn
        have hst := hid (hS.out.step (by omega) (by omega))
        rw [Nat.add_sub_cancel] at hst
        obtain ⟨r, hr⟩ : ∃ r, r = ni m i := ⟨_, rfl⟩
        obtain ⟨x, hx⟩ : ∃ x, x = ni m (i + 1) := ⟨_, rfl⟩
        rw [← hr] at hraw cr hst
        rw [← hx] at cn hdn hst
        have HRr := hid hr
        clear hrest hS hr hx
        obtain ⟨bq, hbq⟩ : ∃ bq, bq = r / 65536 % 2 := ⟨_, rfl⟩
        rw [← hbq] at hst
        have hb01 : 0 ≤ bq ∧ bq ≤ 1 := by omega
        have hand : bits .and .i64 (r / 65536) 1 = bq := by rw [i64_and1, hbq]
        have hand2 : bits .and .i64 r 65535 = r % 65536 := i64_and65535 r
        obtain ⟨rm, hrm⟩ : ∃ rm, rm = r % 65536 := ⟨_, rfl⟩
        rw [← hrm] at hst hand2
        have hrm2 : 0 ≤ rm ∧ rm ≤ 65535 := by omega
        by_cases hlt14 : i < 14
        · have hpd : pD (i + 1) = 65535 := by unfold pD; rw [if_neg (by omega), if_pos (by omega)]
          rw [hpd] at hst
          have hw1 : IntKind.i64.wrap (x - 65535) = x - 65535 := by rw [IntKind.wrap_i64]; omega
          have hw2 : IntKind.i64.wrap (x - 65535 - bq) = x - 65535 - bq := by rw [IntKind.wrap_i64]; omega
          have hw4 : IntKind.i64.wrap ((i : Int) + 1 - 1) = (i : Int) := by rw [IntKind.wrap_i64]; omega
          have h14i : (i : Int) + 1 < 15 := by omega
          clear hbq hrm hpd
          go_wp2_with fail
          (refine wp_region_ext_tail 13 (by kernel_rfl) (by kernel_rfl) ?_; simp only [List.take_succ_cons, List.take_zero, List.drop_succ_cons, List.drop_zero]; (repeat (go_big_quiet_step (first | fail))); refine wpQuiet_nil ?_; rintro _ ⟨xw, rfl⟩)
          have hA3 := hid ((hA.out.ext xw).other (show w.heap.size ≠ (⟨G, i + 1, none⟩ : Addr).block by show w.heap.size ≠ G; omega) (.int .i64 (x - 65535 - bq)))
          have hC3 := hid ((hC.out.ext xw).other (show w.heap.size + 1 ≠ (⟨G, i + 1, none⟩ : Addr).block by show w.heap.size + 1 ≠ G; omega) (.int .i64 (x - 65535 - bq)))
          have hM3 := hid ((hM.out.ext xw).set (i + 1) (x - 65535 - bq))
          have hb3 : Below w.heap.size w ((wr.ext xw).setCell ⟨G, i + 1, none⟩ (.int .i64 (x - 65535 - bq))) := (World.ext_below_of hb hb.size xw).setCell (p := ⟨G, i + 1, none⟩) (by show w.heap.size ≤ G; omega) _
          have cr3 := hM3.out.cell i (by simp [hml]; omega)
          rw [ni_set _ _ _ _ (by omega), if_neg (by omega)] at cr3
          have fr3 := hM3.out.free i
          have lr3 := hM3.out.lt
          rw [← HRr.out] at cr3
          generalize hw7 : (wr.ext xw).setCell ⟨G, i + 1, none⟩ (.int .i64 (x - 65535 - bq)) = w7 at hA3 hC3 hM3 hb3 cr3 fr3 lr3
          clear hA hC hM hb cr fr
          have hA4 := hid (hA3.out.other (show w.heap.size ≠ (⟨G, i, none⟩ : Addr).block by show w.heap.size ≠ G; omega) (.int .i64 rm))
          have hC4 := hid (hC3.out.other (show w.heap.size + 1 ≠ (⟨G, i, none⟩ : Addr).block by show w.heap.size + 1 ≠ G; omega) (.int .i64 rm))
          have hM4 := hid (hM3.out.set i rm)
          have hb4 : Below w.heap.size w (w7.setCell ⟨G, i, none⟩ (.int .i64 rm)) := hb3.setCell (p := ⟨G, i, none⟩) (by show w.heap.size ≤ G; omega) _
          go_wp2_with fail
          go_roundw
          case rel => exact ⟨i + 1, _, by omega, by go_num, hst, hA4, hC4, hM4, hb4⟩
          case measure => simp [intOf]; omega
        · obtain rfl : i = 14 := by omega
          have hpd : pD (14 + 1) = 32767 := by decide
          rw [hpd] at hst
          have cn' : wr.cell? ⟨G, 15, none⟩ = some (.int .i64 x) := cn
          have fn' : wr.frozen? ⟨G, 15, none⟩ = false := fn
          obtain ⟨y, hy⟩ : ∃ y, y = x - 32767 - bq := ⟨_, rfl⟩
          have hst' : Hid (SubI X 16 ((m.set 15 y).set 14 rm)) := hid (by rw [hy]; exact hst.out)
          have hyb : -32768 ≤ y ∧ y ≤ 32768 := by omega
          have hyw : x - 32767 - bq = y := hy.symm
          have hn15 : ni ((m.set 15 y).set 14 rm) 15 = y := by rw [ni_set _ _ _ _ (by simp; omega), if_neg (by omega), ni_set _ _ _ _ (by omega), if_pos rfl]
          have hXb := hXB.out
          have hstop := hst'.out.stop hXb.1 hXb.2
          rw [hn15] at hstop
          have hM3 := hid (hM.out.set 15 y)
          have cr3 := hM3.out.cell 14 (by simp [hml])
          rw [ni_set _ _ _ _ (by omega), if_neg (by omega), ← HRr.out] at cr3
          have cy3 := hM3.out.cell 15 (by simp [hml])
          rw [ni_set _ _ _ _ (by omega), if_pos rfl] at cy3
          have fr3 := hM3.out.free 14
          have lr3 := hM3.out.lt
          have hA3 := hid (hA.out.other (show w.heap.size ≠ (⟨G, 15, none⟩ : Addr).block by show w.heap.size ≠ G; omega) (.int .i64 y))
          have hC3 := hid (hC.out.other (show w.heap.size + 1 ≠ (⟨G, 15, none⟩ : Addr).block by show w.heap.size + 1 ≠ G; omega) (.int .i64 y))
          have hb3 : Below w.heap.size w (wr.setCell ⟨G, 15, none⟩ (.int .i64 y)) := hb.setCell (p := ⟨G, 15, none⟩) (by show w.heap.size ≤ G; omega) _
          have hA4 := hid (hA3.out.other (show w.heap.size ≠ (⟨G, 14, none⟩ : Addr).block by show w.heap.size ≠ G; omega) (.int .i64 rm))
          have hC4 := hid (hC3.out.other (show w.heap.size + 1 ≠ (⟨G, 14, none⟩ : Addr).block by show w.heap.size + 1 ≠ G; omega) (.int .i64 rm))
          have hM4 := hid (hM3.out.set 14 rm)
          have hb4 : Below w.heap.size w ((wr.setCell ⟨G, 15, none⟩ (.int .i64 y)).setCell ⟨G, 14, none⟩ (.int .i64 rm)) := hb3.setCell (p := ⟨G, 14, none⟩) (by show w.heap.size ≤ G; omega) _
          obtain ⟨mm, hmm⟩ : ∃ mm, mm = (m.set 15 y).set 14 rm := ⟨_, rfl⟩
          rw [← hmm] at hM4 hstop hst'
          clear cn fn hst hst' hpd hy hbq hrm hn15 hmm hXb
          by_cases hy0 : 0 ≤ y
          · have hand3 : bits .and .i64 (y / 65536) 1 = 0 := by rw [i64_and1]; omega
            obtain ⟨g1, g2⟩ := hstop.2.1 hy0
            have HS := hid (show X - pI = lessV V (k + 1) by rw [lessV, ← HX.out, if_pos g1])
            have hM5 := hid (show ArrI 87 ((wr.setCell ⟨G, 15, none⟩ (.int .i64 y)).setCell ⟨G, 14, none⟩ (.int .i64 rm)) G (dgL (X - pI)) by rw [← g2]; exact hM4.out)
            obtain ⟨Y, hY⟩ : ∃ Y, Y = X - pI := ⟨_, rfl⟩
            rw [← hY] at HS hM5
            have hA5 := hid (hA4.out.row (dgL Y))
            have hC5 := hid (hC4.out.otherRow (show w.heap.size + 1 ≠ w.heap.size by omega) (cellsI (dgL Y)))
            have hb5 := below_setRow' hb4 w.heap.size (Nat.le_refl _) (cellsI (dgL Y))
            clear hstop g1 g2 hY hM4
            go_wp2_with (first | (refine wpList_load_row rfl 87 (.tmp 4) rfl G rfl 87 _ (0, 0) _ hM5.out uGF rfl (iV.out Y) ?_; simp only [Act.put, List.setIfInBounds_toArray, List.set_cons_zero, List.set_cons_succ]) | (refine wpList_store_row rfl 87 (.tmp 1) (.tmp 66) rfl w.heap.size _ rfl rfl 87 _ hA4.out (iV.out Y) (sV.out X Y) (nV.out Y) ?_; simp only [Act.put]))
            go_roundw
            case rel => exact ⟨k + 1, by omega, by go_num, by rw [← HS.out]; exact hA5, hC5, hb5⟩
            case measure => simp [intOf]; omega
          · have hand3 : bits .and .i64 (y / 65536) 1 = 1 := by rw [i64_and1]; omega
            have HS := hid (show X = lessV V (k + 1) by rw [lessV, ← HX.out, if_neg (by have := hstop.2.2 (by omega); omega)])
            clear hstop hy0 hM4
            go_wp2
            go_roundw
            case rel => exact ⟨k + 1, by omega, by go_num, by rw [← HS.out]; exact hA4, hC4, hb4⟩
            case measure => simp [intOf]; omega
    · obtain rfl : k = 2 := by omega
      have hXR := HX.out.trans HL.out
      have hXb := hXB.out
      subst hXR
      obtain ⟨v, hv⟩ : ∃ v : Nat, X = (v : Int) := ⟨X.toNat, by omega⟩
      subst hv
      have hvl : v < 65536 ^ 16 := by have h := hXb.2; rw [T16n] at h; exact Int.ofNat_lt.1 h
      have HV := hid hvl
      clear hlt hk hXb hXB HX HL hvl
      go_wp2_with (refine wpList_alloc_new rfl 24 rfl (cellsW 0) zWd ?_; simp only [Act.put, List.setIfInBounds_toArray, List.set_cons_zero, List.set_cons_succ, World.size_alloc])
      have hA2 := hid (hA.out.alloc (.cells (cellsW 0) 24))
      have hC2 := hid (hC.out.alloc (.cells (cellsW 0) 24))
      have hW2 := hid (ArrW.new 24 wr 0)
      have hb2 := hb.alloc hb.size (.cells (cellsW 0) 24)
      have hG2 : w.heap.size + 2 ≤ wr.heap.size := by have := hC.out.lt; omega
      obtain ⟨G, hG⟩ : ∃ G, G = wr.heap.size := ⟨_, rfl⟩
      rw [← hG] at hW2 hG2 ⊢
      generalize wr.alloc (.cells (cellsW 0) 24) = w6 at hA2 hC2 hW2 hb2 ⊢
      clear hA hC hb hG
      go_loopw [8] (fun iv wr => ∃ i : Nat, i ≤ 16 ∧ iv = .int .i64 (i : Int) ∧ Hid (ArrI 87 wr w.heap.size (dgL (v : Int))) ∧ Hid (ArrW 24 wr (w.heap.size + 1) 0) ∧ Hid (ArrW 24 wr G (v % 65536 ^ i)) ∧ Below w.heap.size w wr)
        (fun iv _ => 16 - (intOf iv).toNat)
      case atStart => exact ⟨0, by omega, rfl, hA2, hC2, by rw [Nat.pow_zero, Nat.mod_one]; exact hW2, hb2⟩
      case round =>
        clear hA2 hC2 hW2 hb2
        obtain ⟨i, hi, rfl, hA, hC, hW, hb⟩ := hrel
        by_cases hlt : i < 16
        · have c1 := hA.out.cell i (by rw [dgL_len]; exact hlt)
          rw [dgL_ni _ _ hlt, dgI_nat] at c1
          have l1 := hA.out.lt
          obtain ⟨X, hX⟩ : ∃ X, X = v % 65536 ^ i := ⟨_, rfl⟩
          have hXl : X < 65536 ^ i := by rw [hX]; exact Nat.mod_lt _ (Nat.pow_pos (by omega))
          rw [← hX] at hW
          have c2 := hW.out.cell (i / 4) (by omega)
          have f2 := hW.out.free (i / 4)
          have l2 := hW.out.lt
          have hdl : v / 65536 ^ i % 65536 < 65536 := Nat.mod_lt _ (by omega)
          have hnx := hid (show v % 65536 ^ (i + 1) = X + 65536 ^ i * (v / 65536 ^ i % 65536) by rw [hX, Nat.pow_succ, Nat.mod_mul])
          obtain ⟨d, hd⟩ : ∃ d, d = v / 65536 ^ i % 65536 := ⟨_, rfl⟩
          rw [← hd] at c1 hdl hnx
          have hq := cellsW_add16 X d i hXl hdl hlt
          have hsh : (16 * ((i : Int) % 4)).toNat = 16 * (i % 4) := by omega
          have hle : d * 2 ^ (16 * (i % 4)) < 18446744073709551616 := by
            have h1 : 2 ^ (16 * (i % 4)) ≤ 2 ^ 48 := Nat.pow_le_pow_right (by omega) (by omega)
            have h2 : d * 2 ^ (16 * (i % 4)) ≤ 65535 * 2 ^ 48 := Nat.mul_le_mul (by omega) h1
            omega
          have hand : bits .and .i64 (d : Int) 65535 = (d : Int) := by rw [i64_and65535]; omega
          have hv2 : bits .or .u64 (lm X (i / 4)) (IntKind.u64.wrap ((d : Int) * 2 ^ (16 * (i % 4)))) = ((lmN X (i / 4) ||| d * 2 ^ (16 * (i % 4)) : Nat) : Int) := by
            rw [show (d : Int) * 2 ^ (16 * (i % 4)) = ((d * 2 ^ (16 * (i % 4)) : Nat) : Int) by rw [Int.natCast_mul, Int.natCast_pow]; rfl]
            rw [show IntKind.u64.wrap ((d * 2 ^ (16 * (i % 4)) : Nat) : Int) = ((d * 2 ^ (16 * (i % 4)) : Nat) : Int) by rw [IntKind.wrap_u64]; omega]
            exact u64_or_nat _ _ (lmN_lt _ _) hle
          have HV2 := hid hv2
          have HQ := hid hq
          clear hq hv2 hle hXl hX hd
          go_wp2_with fail
          (refine wp_region_ext_tail 18 (by kernel_rfl) (by kernel_rfl) ?_; simp only [List.take_succ_cons, List.take_zero, List.drop_succ_cons, List.drop_zero]; (repeat (go_big_quiet_step (first | fail))); refine wpQuiet_nil ?_; rintro _ ⟨xw, rfl⟩)
          go_wp2
          go_roundw
          case rel =>
            rw [HV2.out]
            refine ⟨i + 1, by omega, by go_num, hid ((hA.out.ext xw).other (by show w.heap.size ≠ G; omega) _), hid ((hC.out.ext xw).other (by show w.heap.size + 1 ≠ G; omega) _), hid ?_, (World.ext_below_of hb hb.size xw).setCell (p := ⟨G, i / 4, none⟩) (by show w.heap.size ≤ G; omega) _⟩
            rw [hnx.out]
            exact (hW.out.ext xw).set _ _ HQ.out
          case measure => simp [intOf]; omega
        · obtain rfl : i = 16 := by omega
          rw [Nat.mod_eq_of_lt HV.out] at hW
          have i2 := hid (iW v)
          have n2 := hid (one_cellsW v)
          clear hA hlt hi
          go_wp2_with (first | (refine wpList_load_row rfl 24 (.tmp 7) rfl G rfl 24 _ (0, 0) _ hW.out uWd rfl i2.out ?_; simp only [Act.put, List.setIfInBounds_toArray, List.set_cons_zero, List.set_cons_succ]) | (refine wpList_store_row rfl 24 (.tmp 2) (.tmp 89) rfl (w.heap.size + 1) _ rfl rfl 24 _ hC.out i2.out rfl n2.out ?_; simp only [Act.put]))
          refine bodyPost_ret (results_cell_row rfl _ _ (w.heap.size + 1) 24 (cellsW v) (0, 0) _ rfl (heap_setRow' _ _ _ _ _ hC.out) uWd rfl i2.out) rfl ⟨by rw [Int.toNat_natCast], below_setRow' hb _ (by omega) _⟩
end Go.Proofs.Ytfidbiabgmioaaa
