import Derived.Test.YtejnnghfelpioaaBEdHolds3
set_option maxRecDepth 4000
set_option linter.unusedVariables false
set_option linter.unusedSimpArgs false
namespace Go.Proofs.Ytejnnghfelpioaa
open Go.RowKit
def ni (xs : List Int) (j : Nat) : Int := xs.getD j 0
def val : List Int → Int
  | [] => 0
  | x :: l => x + 65536 * val l
theorem ni_cons_succ (x : Int) (l : List Int) (j : Nat) : ni (x :: l) (j + 1) = ni l j := by simp [ni]
theorem ni_set (l : List Int) (i j : Nat) (x : Int) (hi : i < l.length) : ni (l.set i x) j = if i = j then x else ni l j := by
  unfold ni
  rw [List.getD_eq_getElem?_getD, List.getElem?_set, List.getD_eq_getElem?_getD]
  split <;> simp_all
theorem ni_take (l : List Int) (i j : Nat) : ni (l.take i) j = if j < i then ni l j else 0 := by
  unfold ni
  rw [List.getD_eq_getElem?_getD, List.getD_eq_getElem?_getD, List.getElem?_take]
  split <;> rfl
theorem ni_drop (l : List Int) (i j : Nat) : ni (l.drop i) j = ni l (i + j) := by
  unfold ni
  rw [List.getD_eq_getElem?_getD, List.getD_eq_getElem?_getD, List.getElem?_drop]
theorem ni_ext {s t : List Int} (hl : s.length = t.length) (h : ∀ i, i < s.length → ni s i = ni t i) : s = t := by
  apply List.ext_getElem hl
  intro i h1 h2
  have := h i h1
  unfold ni at this
  simpa [List.getD_eq_getElem?_getD, h1, h2] using this
theorem val_app (a b : List Int) : val (a ++ b) = val a + 65536 ^ a.length * val b := by
  induction a with
  | nil => simp [val]
  | cons x a ih =>
    show x + 65536 * val (a ++ b) = x + 65536 * val a + 65536 ^ (a.length + 1) * val b
    rw [ih, Int.mul_add, Int.pow_succ, ← Int.mul_assoc, Int.mul_comm 65536 (65536 ^ a.length), Int.add_assoc]
theorem val_split (l : List Int) (i : Nat) (h : i ≤ l.length) : val l = val (l.take i) + 65536 ^ i * val (l.drop i) := by
  have := val_app (l.take i) (l.drop i)
  rw [List.take_append_drop, List.length_take, Nat.min_eq_left h] at this
  exact this
theorem val_drop (l : List Int) (i : Nat) : val (l.drop i) = ni l i + 65536 * val (l.drop (i + 1)) := by
  induction l generalizing i with
  | nil => simp [val, ni]
  | cons x l ih =>
    cases i with
    | zero => simp [val, ni]
    | succ i => rw [List.drop_succ_cons, List.drop_succ_cons, ni_cons_succ]; exact ih i
theorem val_take_succ (l : List Int) (i : Nat) (h : i < l.length) : val (l.take (i + 1)) = val (l.take i) + 65536 ^ i * ni l i := by
  have h1 : l.take (i + 1) = l.take i ++ [ni l i] := by
    rw [List.take_succ_eq_append_getElem h]; simp [ni, h]
  rw [h1, val_app, List.length_take, Nat.min_eq_left (by omega)]
  simp [val]
theorem val_set (l : List Int) (j : Nat) (x : Int) (h : j < l.length) : val (l.set j x) = val l + 65536 ^ j * (x - ni l j) := by
  induction l generalizing j with
  | nil => simp at h
  | cons y l ih =>
    cases j with
    | zero => simp [val, ni]; omega
    | succ j =>
      rw [List.set_cons_succ, ni_cons_succ]
      show y + 65536 * val (l.set j x) = y + 65536 * val l + 65536 ^ (j + 1) * (x - ni l j)
      rw [ih j (by simpa using h), Int.mul_add, Int.pow_succ, ← Int.mul_assoc, Int.mul_comm 65536 (65536 ^ j), Int.add_assoc]
theorem drop_set_le (l : List Int) (i j : Nat) (x : Int) (h : i < j) : (l.set i x).drop j = l.drop j := by
  rw [List.drop_set, if_pos h]
theorem drop_set_eq (l : List Int) (i j : Nat) (x : Int) (h : j ≤ i) : (l.set i x).drop j = (l.drop j).set (i - j) x := by
  rw [List.drop_set, if_neg (by omega)]
def dgI (V : Int) (i : Nat) : Int := V / 65536 ^ i % 65536
theorem dgI_bd (V : Int) (i : Nat) : 0 ≤ dgI V i ∧ dgI V i ≤ 65535 := by unfold dgI; omega
def dgL (V : Int) : List Int := (List.range 16).map (dgI V)
theorem dgL_len (V : Int) : (dgL V).length = 16 := by simp [dgL]
theorem dgL_ni (V : Int) (i : Nat) (h : i < 16) : ni (dgL V) i = dgI V i := by simp [ni, dgL, h]
theorem pow_div_succ (V : Int) (i : Nat) : V / 65536 ^ (i + 1) = V / 65536 ^ i / 65536 := by
  have hp : (0 : Int) ≤ 65536 ^ i := Int.pow_nonneg (by omega)
  rw [Int.pow_succ, ← Int.ediv_ediv_of_nonneg hp]
theorem mod_succ (V : Int) (i : Nat) : V % 65536 ^ (i + 1) = V % 65536 ^ i + 65536 ^ i * dgI V i := by
  have h1 := Int.emod_add_mul_ediv V (65536 ^ (i + 1))
  have h2 := Int.emod_add_mul_ediv V (65536 ^ i)
  have h3 := Int.emod_add_mul_ediv (V / 65536 ^ i) 65536
  rw [← pow_div_succ] at h3
  unfold dgI
  rw [← h3] at h2
  have h4 : (65536 : Int) ^ (i + 1) * (V / 65536 ^ (i + 1)) = 65536 ^ i * (65536 * (V / 65536 ^ (i + 1))) := by rw [Int.pow_succ, Int.mul_assoc]
  rw [Int.mul_add] at h2
  omega
theorem val_digits (s : List Int) (V : Int) (i : Nat) (hi : i ≤ s.length) (h : ∀ j, j < i → ni s j = dgI V j) : val (s.take i) = V % 65536 ^ i := by
  induction i with
  | zero => simp [val, Int.emod_one]
  | succ i ih => rw [val_take_succ _ _ (by omega), ih (by omega) (fun j hj => h j (by omega)), h i (by omega), mod_succ]
theorem val_dgL (V : Int) : val (dgL V) = V % 65536 ^ 16 := by
  have := val_digits (dgL V) V 16 (by rw [dgL_len]; omega) (fun j hj => dgL_ni V j hj)
  rwa [List.take_of_length_le (by rw [dgL_len]; omega)] at this
def carL (V : Int) : List Int := (dgL V).set 0 (dgI V 0 + 38 * (V / 65536 ^ 16))
theorem carL_len (V : Int) : (carL V).length = 16 := by simp [carL, dgL_len]
theorem carL_ni (V : Int) (i : Nat) (h : i < 16) : ni (carL V) i = if 0 = i then dgI V 0 + 38 * (V / 65536 ^ 16) else dgI V i := by
  unfold carL
  rw [ni_set _ _ _ _ (by rw [dgL_len]; omega), dgL_ni _ _ h]
structure CarI (V : Int) (s : List Int) (i : Nat) : Prop where
  len : s.length = 16
  low : ∀ j, j < i → ni s j = dgI V j
  high : val (s.drop i) = V / 65536 ^ i
  big : ∀ j, i < j → -1152921504606846976 ≤ ni s j ∧ ni s j ≤ 1152921504606846976
  here : -1153062242095202304 ≤ ni s i ∧ ni s i ≤ 1153062242095202304
theorem CarI.start (o : List Int) (hl : o.length = 16) (hb : ∀ j, -1152921504606846976 ≤ ni o j ∧ ni o j ≤ 1152921504606846976) : CarI (val o) o 0 :=
  ⟨hl, fun j hj => absurd hj (by omega), by simp, fun j _ => hb j, by have := hb 0; omega⟩
theorem CarI.digit {V : Int} {s : List Int} {i : Nat} (h : CarI V s i) : ni s i % 65536 = dgI V i := by
  have h1 := h.high
  rw [val_drop] at h1
  unfold dgI
  rw [← h1, Int.add_mul_emod_self_left]
theorem CarI.step {V : Int} {s : List Int} {i : Nat} (h : CarI V s i) (hi : i < 15) :
    CarI V ((s.set i (ni s i - ni s i / 65536 * 65536)).set (i + 1) (ni s (i + 1) + ni s i / 65536)) (i + 1) := by
  have hd := h.digit
  have hl := h.len
  have e : ni s i - ni s i / 65536 * 65536 = ni s i % 65536 := by omega
  rw [e]
  have hn : ∀ j, ni ((s.set i (ni s i % 65536)).set (i + 1) (ni s (i + 1) + ni s i / 65536)) j = if i + 1 = j then ni s (i + 1) + ni s i / 65536 else if i = j then ni s i % 65536 else ni s j := fun j => by
    rw [ni_set _ _ _ _ (by simp; omega), ni_set _ _ _ _ (by omega)]
  refine ⟨by simp [hl], fun j hj => ?_, ?_, fun j hj => ?_, ?_⟩
  · rw [hn, if_neg (by omega)]
    by_cases hij : i = j
    · rw [if_pos hij, ← hij, hd]
    · rw [if_neg hij]; exact h.low j (by omega)
  · rw [drop_set_eq _ _ _ _ (Nat.le_refl _), drop_set_le _ _ _ _ (by omega), val_set _ _ _ (by simp; omega), ni_drop, Nat.sub_self, Nat.add_zero]
    have h1 := h.high
    rw [val_drop] at h1
    rw [pow_div_succ, ← h1]
    simp
    omega
  · rw [hn, if_neg (by omega), if_neg (by omega)]; exact h.big j (by omega)
  · rw [hn, if_pos rfl]
    have h1 := h.big (i + 1) (by omega)
    have h2 := h.here
    omega
theorem CarI.stop {V : Int} {s : List Int} (h : CarI V s 15) :
    ((s.set 15 (ni s 15 - ni s 15 / 65536 * 65536)).set 0 (ni s 0 + 38 * (ni s 15 / 65536))) = carL V ∧ ni s 0 = dgI V 0 ∧ ni s 15 / 65536 = V / 65536 ^ 16 := by
  have hd := h.digit
  have hl := h.len
  have e : ni s 15 - ni s 15 / 65536 * 65536 = ni s 15 % 65536 := by omega
  have h1 := h.high
  rw [val_drop, show s.drop (15 + 1) = [] from List.drop_eq_nil_of_le (by omega)] at h1
  have h2 : ni s 15 / 65536 = V / 65536 ^ 16 := by
    rw [show (16 : Nat) = 15 + 1 from rfl, pow_div_succ, ← h1]; simp [val]
  refine ⟨ni_ext (by simp [hl, carL_len]) fun j hj => ?_, h.low 0 (by omega), h2⟩
  simp [hl] at hj
  rw [ni_set _ _ _ _ (by simp; omega), ni_set _ _ _ _ (by omega), carL_ni _ _ hj, e, hd, h2, h.low 0 (by omega)]
  by_cases h0 : 0 = j
  · rw [if_pos h0, if_pos h0]
  · rw [if_neg h0, if_neg h0]
    by_cases h15 : 15 = j
    · rw [if_pos h15, h15]
    · rw [if_neg h15]; exact h.low j (by omega)
def Gd (B : Int) (o : List Int) : Prop := o.length = 16 ∧ ∀ j, -B ≤ ni o j ∧ ni o j ≤ B
theorem Gd.mono {B C : Int} {o : List Int} (h : Gd B o) (hc : B ≤ C) : Gd C o := ⟨h.1, fun j => by have := h.2 j; omega⟩
def pI : Int := 57896044618658097711785492504343953926634992332820282019728792003956564819949
theorem pI_two : (65536 : Int) ^ 16 = 2 * pI + 38 := by decide +kernel
def timT (a b : List Int) : Nat → List Int
  | 0 => List.replicate 31 0
  | n + 1 => (timT a b n).set (n / 16 + n % 16) (ni (timT a b n) (n / 16 + n % 16) + ni a (n / 16) * ni b (n % 16))
structure TimI (a b : List Int) (i k : Nat) (t : List Int) : Prop where
  len : t.length = 31
  ex : t = timT a b (16 * i + k)
  eq : val t = val (a.take i) * val b + 65536 ^ i * (ni a i * val (b.take k))
  bd : ∀ j, -((16 * i + k) * 1099511627776) ≤ ni t j ∧ ni t j ≤ (16 * i + k) * 1099511627776
theorem val_zeros (n : Nat) : val (List.replicate n 0) = 0 := by
  induction n with
  | zero => rfl
  | succ n ih => rw [List.replicate_succ]; show 0 + 65536 * val _ = 0; rw [ih]; rfl
theorem ni_zeros (n j : Nat) : ni (List.replicate n 0) j = 0 := by
  unfold ni
  rw [List.getD_eq_getElem?_getD, List.getElem?_replicate]
  split <;> rfl
theorem TimI.start (a b : List Int) : TimI a b 0 0 (List.replicate 31 0) :=
  ⟨by simp, rfl, by rw [val_zeros]; simp [val], fun j => by rw [ni_zeros]; simp⟩
theorem mul_bd (x y : Int) (h1 : -1048576 ≤ x ∧ x ≤ 1048576) (h2 : -1048576 ≤ y ∧ y ≤ 1048576) : -1099511627776 ≤ x * y ∧ x * y ≤ 1099511627776 := by
  have h3 : x.natAbs ≤ 1048576 := by omega
  have h4 : y.natAbs ≤ 1048576 := by omega
  have h5 : (x * y).natAbs ≤ 1048576 * 1048576 := by rw [Int.natAbs_mul]; exact Nat.mul_le_mul h3 h4
  omega
theorem TimI.step {a b : List Int} {i k : Nat} {t : List Int} (h : TimI a b i k t) (ha : Gd 1048576 a) (hb : Gd 1048576 b) (hi : i < 16) (hk : k < 16) : TimI a b i (k + 1) (t.set (i + k) (ni t (i + k) + ni a i * ni b k)) := by
  have hm := mul_bd _ _ (ha.2 i) (hb.2 k)
  refine ⟨by simp [h.len], ?_, ?_, fun j => ?_⟩
  · rw [show 16 * i + (k + 1) = (16 * i + k) + 1 by omega, timT, ← h.ex, show (16 * i + k) / 16 = i by omega, show (16 * i + k) % 16 = k by omega]
  · rw [val_set _ _ _ (by rw [h.len]; omega), h.eq, val_take_succ _ _ (by rw [hb.1]; omega)]
    have e : (65536 : Int) ^ (i + k) = 65536 ^ i * 65536 ^ k := Int.pow_add ..
    rw [e, Int.mul_add, Int.mul_add]
    rw [show ni t (i + k) + ni a i * ni b k - ni t (i + k) = ni a i * ni b k by omega]
    rw [show ni a i * (65536 ^ k * ni b k) = 65536 ^ k * (ni a i * ni b k) by rw [← Int.mul_assoc, ← Int.mul_assoc, Int.mul_comm (ni a i)]]
    rw [Int.mul_assoc (65536 ^ i)]
    omega
  · rw [ni_set _ _ _ _ (by rw [h.len]; omega)]
    have h1 := h.bd j
    have h2 := h.bd (i + k)
    push_cast
    split <;> omega
theorem TimI.next {a b : List Int} {i : Nat} {t : List Int} (h : TimI a b i 16 t) (ha : a.length = 16) (hb : b.length = 16) (hi : i < 16) : TimI a b (i + 1) 0 t := by
  refine ⟨h.len, by rw [h.ex]; congr 1, ?_, fun j => by have := h.bd j; push_cast at *; omega⟩
  rw [h.eq, val_take_succ a i (by omega), List.take_of_length_le (show b.length ≤ 16 by omega), Int.add_mul, Int.mul_assoc]
  simp [val]
theorem TimI.stop {a b : List Int} {t : List Int} (h : TimI a b 16 0 t) (ha : a.length = 16) : val t = val a * val b := by
  rw [h.eq, List.take_of_length_le (by omega)]; simp [val]
def folT (t : List Int) : Nat → List Int
  | 0 => List.replicate 16 0
  | i + 1 => if i < 15 then (folT t i).set i (ni t i + 38 * ni t (i + 16)) else (folT t i).set 15 (ni t 15)
structure FolI (t : List Int) (i : Nat) (o : List Int) : Prop where
  len : o.length = 16
  ex : o = folT t i
  eq : val (o.take i) = val (t.take i) + 38 * val ((t.drop 16).take (if i < 16 then i else 15))
  bd : ∀ j, -10995116277760000 ≤ ni o j ∧ ni o j ≤ 10995116277760000
theorem FolI.start (t : List Int) : FolI t 0 (List.replicate 16 0) := ⟨by simp, rfl, by simp [val], fun j => by rw [ni_zeros]; omega⟩
theorem FolI.step {t o : List Int} {i : Nat} (h : FolI t i o) (ht : t.length = 31) (hi : i < 15) (hb : ∀ j, -281474976710656 ≤ ni t j ∧ ni t j ≤ 281474976710656) : FolI t (i + 1) (o.set i (ni t i + 38 * ni t (i + 16))) := by
  refine ⟨by simp [h.len], by rw [folT, if_pos hi, ← h.ex], ?_, fun j => ?_⟩
  · rw [val_take_succ _ _ (by simp [h.len]; omega), val_take_succ _ _ (by omega), ni_set _ _ _ _ (by rw [h.len]; omega), if_pos rfl, List.take_set_of_le (Nat.le_refl _), h.eq, if_pos (by omega), if_pos (by omega)]
    rw [val_take_succ _ _ (by simp [ht]; omega), ni_drop, Nat.add_comm 16 i, Int.mul_add]
    generalize ni t (i + 16) = x
    generalize (65536 : Int) ^ i = P
    rw [Int.mul_add, Int.mul_left_comm P 38 x]
    omega
  · rw [ni_set _ _ _ _ (by rw [h.len]; omega)]
    have := h.bd j
    have := hb i
    have := hb (i + 16)
    split <;> omega
theorem FolI.last {t o : List Int} (h : FolI t 15 o) (ht : t.length = 31) (hb : ∀ j, -281474976710656 ≤ ni t j ∧ ni t j ≤ 281474976710656) : FolI t 16 (o.set 15 (ni t 15)) := by
  refine ⟨by simp [h.len], by rw [folT, if_neg (by omega), ← h.ex], ?_, fun j => ?_⟩
  · rw [val_take_succ (o.set 15 (ni t 15)) 15 (by simp [h.len]), val_take_succ t 15 (by omega), ni_set _ _ _ _ (by rw [h.len]; omega), if_pos rfl, List.take_set_of_le (Nat.le_refl _), h.eq, if_pos (by omega), if_neg (by omega)]
    omega
  · rw [ni_set _ _ _ _ (by rw [h.len]; omega)]
    have := h.bd j
    have := hb 15
    split <;> omega
theorem FolI.stop {t o : List Int} (h : FolI t 16 o) (ht : t.length = 31) : val o % pI = val t % pI ∧ Gd 10995116277760000 o := by
  refine ⟨?_, h.len, fun j => h.bd j⟩
  have h1 := h.eq
  rw [show o.take 16 = o from List.take_of_length_le (by rw [h.len]; omega), if_neg (by omega), show (t.drop 16).take 15 = t.drop 16 from List.take_of_length_le (by simp [ht])] at h1
  have h2 := val_split t 16 (by omega)
  have h3 := pI_two
  rw [h1, h2]
  generalize val (t.drop 16) = y
  generalize val (t.take 16) = x
  generalize (65536 : Int) ^ 16 = T at *
  subst h3
  rw [show x + (2 * pI + 38) * y = x + 38 * y + pI * (2 * y) by rw [Int.add_mul, Int.mul_comm 2 pI, Int.mul_assoc]; omega, Int.add_mul_emod_self_left]
theorem dig_unique (s : List Int) (hl : s.length = 16) (h : ∀ j, j < 16 → 0 ≤ ni s j ∧ ni s j ≤ 65535) : s = dgL (val s) := by
  have key : ∀ i, i ≤ 16 → val (s.drop i) = val s / 65536 ^ i := by
    intro i hi
    induction i with
    | zero => simp
    | succ i ih =>
      have h1 := ih (by omega)
      have h2 := h i (by omega)
      rw [val_drop] at h1
      rw [pow_div_succ, ← h1]
      omega
  refine ni_ext (by rw [hl, dgL_len]) fun j hj => ?_
  rw [hl] at hj
  have h1 := key j (by omega)
  have h2 := h j hj
  rw [val_drop] at h1
  rw [dgL_ni _ _ hj]
  unfold dgI
  rw [← h1]
  omega
def pD (i : Nat) : Int := if i = 0 then 65517 else if i < 15 then 65535 else 32767
structure SubI (V : Int) (i : Nat) (m : List Int) : Prop where
  len : m.length = 16
  low : ∀ j, j + 1 < i → 0 ≤ ni m j ∧ ni m j ≤ 65535
  raw : -65536 ≤ ni m (i - 1) ∧ ni m (i - 1) ≤ 65535
  rest : ∀ j, i ≤ j → j < 16 → ni m j = dgI V j
  eq : val (m.take i) = val ((dgL V).take i) - val ((dgL pI).take i)
theorem pI_dg : ∀ i, i < 16 → ni (dgL pI) i = pD i := by decide +kernel
theorem SubI.start (V : Int) : SubI V 1 ((dgL V).set 0 (dgI V 0 - 65517)) := by
  have h0 := dgI_bd V 0
  refine ⟨by simp [dgL_len], fun j hj => by omega, ?_, fun j h1 h2 => ?_, ?_⟩
  · rw [ni_set _ _ _ _ (by rw [dgL_len]; omega), if_pos rfl]; omega
  · rw [ni_set _ _ _ _ (by rw [dgL_len]; omega), if_neg (by omega), dgL_ni _ _ h2]
  · rw [val_take_succ _ 0 (by simp [dgL_len]), val_take_succ _ 0 (by simp [dgL_len]), val_take_succ _ 0 (by simp [dgL_len]), pI_dg 0 (by omega), ni_set _ _ _ _ (by rw [dgL_len]; omega), if_pos rfl, dgL_ni _ _ (by omega)]
    simp [val, pD]
theorem SubI.step {V : Int} {i : Nat} {m : List Int} (h : SubI V i m) (h1 : 1 ≤ i) (hi : i < 16) : SubI V (i + 1) ((m.set i (ni m i - pD i - ni m (i - 1) / 65536 % 2)).set (i - 1) (ni m (i - 1) % 65536)) := by
  have hl := h.len
  have hr := h.raw
  have hd := dgI_bd V i
  have hm := h.rest i (Nat.le_refl _) hi
  have hp : 0 ≤ pD i ∧ pD i ≤ 65535 := by unfold pD; split <;> (try split) <;> omega
  have hn : ∀ j, ni ((m.set i (ni m i - pD i - ni m (i - 1) / 65536 % 2)).set (i - 1) (ni m (i - 1) % 65536)) j = if i - 1 = j then ni m (i - 1) % 65536 else if i = j then ni m i - pD i - ni m (i - 1) / 65536 % 2 else ni m j := fun j => by
    rw [ni_set _ _ _ _ (by simp; omega), ni_set _ _ _ _ (by omega)]
  refine ⟨by simp [hl], fun j hj => ?_, ?_, fun j g1 g2 => ?_, ?_⟩
  · rw [hn]
    by_cases e : i - 1 = j
    · rw [if_pos e]; omega
    · rw [if_neg e, if_neg (by omega)]; exact h.low j (by omega)
  · rw [Nat.add_sub_cancel, hn, if_neg (by omega), if_pos rfl]; omega
  · rw [hn, if_neg (by omega), if_neg (by omega)]; exact h.rest j (by omega) g2
  · rw [val_take_succ _ i (by simp [hl]; omega), hn, if_neg (by omega), if_pos rfl, val_take_succ _ i (by rw [dgL_len]; omega), val_take_succ _ i (by rw [dgL_len]; omega), pI_dg _ hi, dgL_ni _ _ hi]
    have e1 : ((m.set i (ni m i - pD i - ni m (i - 1) / 65536 % 2)).set (i - 1) (ni m (i - 1) % 65536)).take i = (m.take i).set (i - 1) (ni m (i - 1) % 65536) := by
      rw [List.take_set, List.take_set_of_le (Nat.le_refl _)]
    rw [e1, val_set _ _ _ (by simp [hl]; omega), h.eq, ni_take, if_pos (by omega), hm]
    have e2 : (65536 : Int) ^ i = 65536 ^ (i - 1) * 65536 := by
      have := Int.pow_succ (65536 : Int) (i - 1)
      rwa [show (i - 1).succ = i by omega] at this
    rw [e2]
    generalize (65536 : Int) ^ (i - 1) = P
    generalize ni m (i - 1) = r at *
    have hb : r % 65536 - r = 65536 * (r / 65536 % 2) := by omega
    rw [hb, Int.mul_sub, Int.mul_sub, Int.mul_assoc P 65536, Int.mul_assoc P 65536, Int.mul_assoc P 65536]
    omega
theorem SubI.stop {V : Int} {m : List Int} (h : SubI V 16 m) (h0 : 0 ≤ V) (hT : V < 65536 ^ 16) : val m = V - pI ∧ (0 ≤ ni m 15 → pI ≤ V ∧ m = dgL (V - pI)) ∧ (ni m 15 < 0 → V < pI) := by
  have e := h.eq
  rw [List.take_of_length_le (by rw [h.len]; omega), List.take_of_length_le (by rw [dgL_len]; omega), List.take_of_length_le (by rw [dgL_len]; omega), val_dgL, val_dgL, Int.emod_eq_of_lt h0 hT, show pI % 65536 ^ 16 = pI by decide +kernel] at e
  have hs := val_split m 15 (by rw [h.len]; omega)
  have hd : val (m.drop 15) = ni m 15 := by rw [val_drop, show m.drop (15 + 1) = [] from List.drop_eq_nil_of_le (by rw [h.len]; omega)]; simp [val]
  rw [hd] at hs
  have hlow : ∀ j, j < 15 → 0 ≤ ni m j ∧ ni m j ≤ 65535 := fun j hj => h.low j (by omega)
  have ht : 0 ≤ val (m.take 15) ∧ val (m.take 15) < 65536 ^ 15 := by
    have key : ∀ i, i ≤ 15 → 0 ≤ val (m.take i) ∧ val (m.take i) < 65536 ^ i := by
      intro i hi
      induction i with
      | zero => simp [val]
      | succ i ih =>
        have h1 := ih (by omega)
        have h2 := hlow i (by omega)
        rw [val_take_succ _ _ (by rw [h.len]; omega), Int.pow_succ]
        have hp : (0 : Int) < 65536 ^ i := Int.pow_pos (by omega)
        generalize (65536 : Int) ^ i = P at *
        have h3 : 0 ≤ P * ni m i := Int.mul_nonneg (by omega) h2.1
        have h4 : P * ni m i ≤ P * 65535 := Int.mul_le_mul_of_nonneg_left h2.2 (by omega)
        omega
    exact key 15 (by omega)
  refine ⟨e, fun h15 => ?_, fun h15 => ?_⟩
  · have h1 : 0 ≤ (65536 : Int) ^ 15 * ni m 15 := Int.mul_nonneg (Int.pow_nonneg (by omega)) h15
    refine ⟨by omega, ?_⟩
    rw [← e]
    refine dig_unique m h.len fun j hj => ?_
    by_cases hj2 : j < 15
    · exact hlow j hj2
    · obtain rfl : j = 15 := by omega
      exact ⟨h15, by have hr : -65536 ≤ ni m 15 ∧ ni m 15 ≤ 65535 := h.raw; omega⟩
  · have h1 : (65536 : Int) ^ 15 * ni m 15 ≤ 65536 ^ 15 * (-1) := Int.mul_le_mul_of_nonneg_left (by omega) (Int.pow_nonneg (by omega))
    omega
def cellsI (xs : List Int) : Array Value := (xs.map (Value.int .i64)).toArray
def ArrI (t : TypeId) (w : World) (b : Nat) (xs : List Int) : Prop := w.heap[b]? = some (.cells (cellsI xs) t (0, 0))
theorem ArrI.cell {t : TypeId} {w : World} {b : Nat} {xs : List Int} (h : ArrI t w b xs) (j : Nat) (hj : j < xs.length) : w.cell? ⟨b, j, none⟩ = some (.int .i64 (ni xs j)) := by
  unfold ArrI at h
  simp [World.cell?, h, cellsI, ni, hj]
theorem ArrI.free {t : TypeId} {w : World} {b : Nat} {xs : List Int} (h : ArrI t w b xs) (j : Nat) : w.frozen? ⟨b, j, none⟩ = false := by
  unfold ArrI at h
  simp [World.frozen?, h]
theorem ArrI.lt {t : TypeId} {w : World} {b : Nat} {xs : List Int} (h : ArrI t w b xs) : b < w.heap.size := by
  unfold ArrI at h
  exact (Array.getElem?_eq_some_iff.1 h).1
theorem ArrI.set {t : TypeId} {w : World} {b : Nat} {xs : List Int} (h : ArrI t w b xs) (j : Nat) (x : Int) : ArrI t (w.setCell ⟨b, j, none⟩ (.int .i64 x)) b (xs.set j x) := by
  unfold ArrI at *
  simp [World.setCell, Array.getElem?_modify, h, cellsI, List.map_set]
theorem ArrI.other {t : TypeId} {w : World} {b : Nat} {xs : List Int} (h : ArrI t w b xs) {a : Addr} (ha : b ≠ a.block) (v : Value) : ArrI t (w.setCell a v) b xs := by
  unfold ArrI at *
  rw [Below.heap_setCell _ _ _ _ ha]; exact h
theorem ArrI.below {t : TypeId} {w w' : World} {b B : Nat} {xs : List Int} (h : ArrI t w b xs) (hb : Below B w w') (hB : b < B) : ArrI t w' b xs := by
  unfold ArrI at *
  rw [hb.block b hB]; exact h
theorem ArrI.alloc {t : TypeId} {w : World} {b : Nat} {xs : List Int} (h : ArrI t w b xs) (o : Obj) : ArrI t (w.alloc o) b xs := by
  unfold ArrI at *
  rw [Below.heap_alloc _ _ _ (ArrI.lt h)]; exact h
theorem ArrI.drew {t : TypeId} {w : World} {b : Nat} {xs : List Int} (h : ArrI t w b xs) : ArrI t w.drew b xs := h
theorem ArrI.ext {t : TypeId} {w : World} {b : Nat} {xs : List Int} (h : ArrI t w b xs) (x : World) : ArrI t (w.ext x) b xs := h.below (w.ext_below x) h.lt
theorem ArrI.new (t : TypeId) (w : World) (xs : List Int) : ArrI t (w.alloc (.cells (cellsI xs) t)) w.heap.size xs := by
  unfold ArrI
  show (w.heap.push _)[w.heap.size]? = _
  simp
theorem ArrI.row {t : TypeId} {w : World} {b : Nat} {xs : List Int} (h : ArrI t w b xs) (ys : List Int) : ArrI t (w.setRow b (cellsI ys)) b ys := heap_setRow' _ _ _ _ _ h
theorem ArrI.otherRow {t : TypeId} {w : World} {b g : Nat} {xs : List Int} (h : ArrI t w b xs) (hg : b ≠ g) (cs : Array Value) : ArrI t (w.setRow g cs) b xs := by
  unfold ArrI at *
  simp only [World.setRow, Array.getElem?_modify]
  rw [if_neg (by omega)]; exact h
end Go.Proofs.Ytejnnghfelpioaa
namespace Go.Proofs.Ytejnnghfelpioaa
open Go.RowKit
end Go.Proofs.Ytejnnghfelpioaa
namespace Go.Proofs.Ytejnnghfelpioaa
open Go.RowKit
end Go.Proofs.Ytejnnghfelpioaa
namespace Go.Proofs.Ytejnnghfelpioaa
open Go.RowKit
end Go.Proofs.Ytejnnghfelpioaa
namespace Go.Proofs.Ytejnnghfelpioaa
open Go.RowKit
end Go.Proofs.Ytejnnghfelpioaa
namespace Go
open Go.RowKit
theorem wp_alloc_fresh {P : Program} {o : Oper} {a : Act} {w : World} {K : Act → World → Prop} {Q : Exit → Act → World → Prop} {T : TypeId} (ho : o.op = .alloc T) (zs : Array Value) (hz : (P.info? T).bind (·.zero) = some (.agg zs))
    (h : o.wp P a w K Q) : K (a.put o.dst (.pointer (some ⟨w.heap.size, 0, none⟩))) (w.alloc (.cells zs T)) := by
  cases hq : P.info? T with
  | none => simp [hq] at hz
  | some i =>
    have hz' : i.zero = some (.agg zs) := by simpa [hq] using hz
    unfold Oper.wp execOp at h
    simp only [ho, Instr.alloc, zeroValue, typeInfo, hq, hz', newVar, newRow, Sem.run_bind, Result.andThen_ok, Value.cells] at h
    simp [hq, hz', Sem.run, Oper.upon] at h
    exact h
def newB (P : Program) (o : Oper) : Bool := match o.op with
  | .alloc T => match (P.info? T).bind (·.zero) with
    | some (.agg _) => o.dst.isSome
    | _ => false
  | _ => false
theorem newB_spec {P : Program} {o : Oper} (h : newB P o = true) : ∃ T zs, o.op = .alloc T ∧ (P.info? T).bind (·.zero) = some (.agg zs) := by
  unfold newB at h
  split at h
  · rename_i T hT
    split at h
    · rename_i zs hz; exact ⟨T, zs, hT, hz⟩
    · cases h
  · cases h
section
variable {P : Program} {l : List Oper} {Φ : Nat → Value → World → Prop} {w0 : World} {a0 : Act}
structure Apart (P : Program) (l : List Oper) (n : Nat) (listed : Array Bool) (a : Act) (w : World) : Prop where
  old : ∀ (i : Nat) (o : Oper) (d : Nat), i < n → l[i]? = some o → newB P o = true → listed.getD i false = true → o.dst = some d → d < a.tmps.size → ∃ g, a.tmps.getD d undef = .pointer (some ⟨g, 0, none⟩) ∧ g < w.heap.size
  two : ∀ (i j : Nat) (oi oj : Oper) (di dj : Nat), i < n → j < n → i ≠ j → l[i]? = some oi → l[j]? = some oj → newB P oi = true → newB P oj = true → listed.getD i false = true → listed.getD j false = true →
    oi.dst = some di → oj.dst = some dj → di < a.tmps.size → dj < a.tmps.size → a.tmps.getD di undef ≠ a.tmps.getD dj undef
theorem putd_at {a : Act} {v : Value} {d : Nat} (h : d < a.tmps.size) : (a.put (some d) v).tmps.getD d undef = v := by
  rw [Array.getD_eq_getD_getElem?, Act.putd_get_eq, if_pos h]; rfl
theorem putd_ne {a : Act} {o : Option Tmp} {v : Value} {d : Nat} (h : o ≠ some d) : (a.put o v).tmps.getD d undef = a.tmps.getD d undef := by
  rw [Array.getD_eq_getD_getElem?, Array.getD_eq_getD_getElem?, Act.putd_get_ne _ _ _ _ h]
theorem Apart.step {n i : Nat} {o : Oper} {listed : Array Bool} {a : Act} {w w' : World} {v : Value} (h : Apart P l n listed a w) (hnd : (l.filterMap (·.dst)).Nodup) (ho : l[i]? = some o) (hb : Below w.heap.size w w')
    (hv : newB P o = true → v = .pointer (some ⟨w.heap.size, 0, none⟩) ∧ w.heap.size < w'.heap.size) : Apart P l n (listed.setIfInBounds i true) (a.put o.dst v) w' := by
  have key : ∀ (j : Nat) (oj : Oper) (d : Nat), l[j]? = some oj → oj.dst = some d → j ≠ i → o.dst ≠ some d := fun j oj d hj hd hne e => hne (filterMap_nodup_inj l hnd j i oj o d hj ho hd e)
  refine ⟨fun j oj d hjn hj hnew hl hd hs => ?_, fun j k oj ok dj dk hjn hkn hjk hj hk hnj hnk hlj hlk hdj hdk hsj hsk => ?_⟩
  · rw [Act.putd_size] at hs
    by_cases hji : j = i
    · subst hji
      rw [ho] at hj; cases hj
      obtain ⟨h1, h2⟩ := hv hnew
      exact ⟨w.heap.size, by rw [hd, putd_at hs, h1], h2⟩
    · rw [getD_set_ne false (Ne.symm hji)] at hl
      obtain ⟨g, h1, h2⟩ := h.old j oj d hjn hj hnew hl hd hs
      exact ⟨g, by rw [putd_ne (key j oj d hj hd hji), h1], Nat.lt_of_lt_of_le h2 hb.size⟩
  · rw [Act.putd_size] at hsj hsk
    by_cases hji : j = i
    · subst hji
      rw [ho] at hj; cases hj
      have hki : k ≠ j := Ne.symm hjk
      rw [getD_set_ne false (Ne.symm hki)] at hlk
      obtain ⟨g, h1, h2⟩ := h.old k ok dk hkn hk hnk hlk hdk hsk
      rw [putd_ne (key k ok dk hk hdk hki), h1, hdj, putd_at hsj, (hv hnj).1]
      intro e
      injection e with e; injection e with e; injection e with e
      omega
    · by_cases hki : k = i
      · subst hki
        rw [ho] at hk; cases hk
        rw [getD_set_ne false (Ne.symm hji)] at hlj
        obtain ⟨g, h1, h2⟩ := h.old j oj dj hjn hj hnj hlj hdj hsj
        rw [putd_ne (key j oj dj hj hdj hji), h1, hdk, putd_at hsk, (hv hnk).1]
        intro e
        injection e with e; injection e with e; injection e with e
        omega
      · rw [getD_set_ne false (Ne.symm hji)] at hlj
        rw [getD_set_ne false (Ne.symm hki)] at hlk
        rw [putd_ne (key j oj dj hj hdj hji), putd_ne (key k ok dk hk hdk hki)]
        exact h.two j k oj ok dj dk hjn hkn hjk hj hk hnj hnk hlj hlk hdj hdk hsj hsk
theorem Oper.wp_and {o : Oper} {a : Act} {w : World} {K : Act → World → Prop} {Q : Exit → Act → World → Prop} (h : o.wp P a w K Q) : o.wp P a w (fun a' w' => K a' w' ∧ (newB P o = true → a' = a.put o.dst (.pointer (some ⟨w.heap.size, 0, none⟩)) ∧ w.heap.size < w'.heap.size)) Q := by
  by_cases hn : newB P o = true
  · obtain ⟨T, zs, ho, hz⟩ := newB_spec hn
    refine wp_alloc_new T ho zs hz ⟨wp_alloc_fresh ho zs hz h, fun _ => ⟨rfl, by rw [World.size_alloc]; omega⟩⟩
  · exact Oper.wp_mono (fun a' w' h => ⟨h, fun e => absurd e hn⟩) h
theorem wpAny_of_specP {n : Nat} {Q : Exit → Act → World → Prop} (hB : specTailB l n = true)
    (stable : ∀ i v w w', Φ i v w → Below w.heap.size w w' → Φ i v w')
    (each : ∀ (i : Nat) (o : Oper), i < n → l[i]? = some o → ∀ a w, Leans l Φ w0 a0 o a w → (newB P o = true → o.guard = none) ∧
      if Region.wanted o (yielded l.toArray a.tmps) then o.wp P a w (fun a' w' => ∃ v, a' = a.put o.dst v ∧ Below w.heap.size w w' ∧ Φ i v w') Q else Φ i undef w)
    (fin : ∀ (f : Nat → Value) (w : World), Below w0.heap.size w0 w → (∀ (i : Nat) (o : Oper) (d : Nat), i < n → l[i]? = some o → o.dst = some d → d < a0.tmps.size → Φ i (f i) w) →
      Apart P l n (Array.replicate n true) (putAll (l.take n) f 0 a0) w → wpList P l.toArray Q (l.drop n) (putAll (l.take n) f 0 a0) w) :
    ∀ (fuel : Nat) (listed : Array Bool) (a : Act) (w : World), unheaded n listed = fuel → HeadInv .any l.toArray n listed → RInv l Φ w0 a0 listed a w → Apart P l n listed a w → wpAny P .any l.toArray Q (fuel + (l.length - n)) listed a w := by
  simp only [specTailB, Bool.and_eq_true, decide_eq_true_eq] at hB
  obtain ⟨⟨⟨⟨hB, hnl⟩, hsink⟩, hchain⟩, hseq⟩ := hB
  have hnd : (l.filterMap (·.dst)).Nodup := by
    simp only [specB, Bool.and_eq_true] at hB
    exact of_decide_eq_true hB.2
  have close : ∀ (listed : Array Bool) (a : Act) (w : World), HeadInv .any l.toArray n listed → RInv l Φ w0 a0 listed a w → Apart P l n listed a w → (∀ i, i < n → listed.getD i true = true) → wpAny P .any l.toArray Q (l.length - n) listed a w := by
    intro listed a w inv h hA hall
    have hform : listed = Array.replicate n true ++ Array.replicate (l.length - n) false := listed_form h.size (by omega) hall (fun i h1 h2 => inv.tail i h1 (by simpa using h2))
    have e : putAll (l.take n) (fun i => match (l[i]?).bind (·.dst) with | some d => a.tmps.getD d undef | none => undef) 0 a0 = a := by
      refine putAll_eq a (l.take n) _ 0 a0 h.defers.symm h.tsize.symm (fun d hn => ?_) (fun i o d hi ho => ?_)
      · refine (h.same d (fun i o hi ho => ?_)).symm
        by_cases hin : i < n
        · exact absurd ho (hn o (List.mem_of_getElem? (i := i) (by rw [List.getElem?_take, if_pos hin]; exact hi)))
        · exact inv.tail i (by omega) (by
            rcases Nat.lt_or_ge i l.length with h' | h'
            · simpa using h'
            · rw [List.getElem?_eq_none h'] at hi; cases hi)
      · rw [List.getElem?_take] at hi
        split at hi
        · rw [Nat.zero_add, hi]; simp [ho]
        · cases hi
    have hdl : (l.drop n).length = l.length - n := by simp
    have hlt : ∀ i, i < n → listed.getD i false = true := fun i hi => by
      have hl := hall i hi
      have hs := h.size
      simp [Array.getD, show i < listed.size by omega] at hl ⊢; exact hl
    have := wpAny_of_seq (md := .any) (ops := l.toArray) (Q' := Q) (P := P) (l.drop n) n listed a w (fun j => by simp [List.getElem?_drop]) (by rw [hdl, hform]; exact hseq) (by
      rw [← e]
      refine fin _ w h.below (fun i o d hin hi ho hds => ?_) ?_
      · have := h.made i o d hi (hlt i hin) ho hds
        simp only [hi, Option.bind_some, ho]
        exact this
      · rw [e]
        exact ⟨fun i o d hin hi hnew _ hd hs => hA.old i o d hin hi hnew (hlt i hin) hd hs,
          fun i j oi oj di dj hin hjn hij hi hj hni hnj _ _ hdi hdj hsi hsj => hA.two i j oi oj di dj hin hjn hij hi hj hni hnj (hlt i hin) (hlt j hjn) hdi hdj hsi hsj⟩)
    rwa [hdl] at this
  intro fuel
  induction fuel with
  | zero =>
    intro listed a w hu inv h hA
    rw [Nat.zero_add]
    refine close listed a w inv h hA (fun i hi => ?_)
    have hs := h.size
    have hlt : i < listed.size := by omega
    by_cases hb : listed[i] = true
    · simp [Array.getD, hlt, hb]
    · exfalso
      have : 0 < (listed.toList.take n).count false := List.count_pos_iff.2 (by
        have hf : listed[i] = false := by simpa using hb
        have hlt' : i < (listed.toList.take n).length := by simp; omega
        have : (listed.toList.take n)[i] = false := by simpa using hf
        rw [← this]; exact List.getElem_mem _)
      unfold unheaded at hu
      omega
  | succ fuel ih =>
    intro listed a w hu inv h hA
    rw [show fuel + 1 + (l.length - n) = (fuel + (l.length - n)) + 1 by omega]
    have hsome : ∃ i, i < n ∧ listed.getD i true = false := by
      have : 0 < (listed.toList.take n).count false := by unfold unheaded at hu; omega
      obtain ⟨i, hi, he⟩ := List.getElem_of_mem (List.count_pos_iff.1 this)
      have hi' := hi
      simp at hi'
      exact ⟨i, by omega, by simp at he; simp [Array.getD, show i < listed.size by omega, he]⟩
    obtain ⟨i0, hi0, hun0⟩ := hsome
    refine ⟨fun hn => ?_, fun i hi => ?_⟩
    · have := all_listed_of_ready_nil hB h.size hn i0 (by omega)
      rw [this] at hun0; cases hun0
    have hin : i < n := by
      rcases Nat.lt_or_ge i n with h' | h'
      · exact h'
      · exact absurd hi (tail_waits hsink hchain (by simpa using hnl) inv _ i0 rfl hi0 hun0 i h')
    have hi' := hi
    rw [mem_ready] at hi
    obtain ⟨hun, o, ho, hafter⟩ := hi
    have ho' : l[i]? = some o := by simpa using ho
    have hl : i < l.length := by omega
    have lean : Leans l Φ w0 a0 o a w := ⟨h.below, fun d hn => h.same d (fun i o hi ho => absurd ho (hn o (List.mem_of_getElem? hi))),
      fun e he hb o' d hi' hd hds => h.made e.on o' d hi' (hafter e he hb) hd hds, h.tsize⟩
    have step : ∀ v w', Below w.heap.size w w' → Φ i v w' → RInv l Φ w0 a0 (listed.setIfInBounds i true) (a.put o.dst v) w' := fun v w' hb hv => by
      refine ⟨by rw [Array.size_setIfInBounds]; exact h.size, h.below.trans (hb.mono h.below.size), by rw [Act.putd_defers]; exact h.defers, by rw [Act.putd_size]; exact h.tsize, fun d hd => ?_, fun j oj d hj hlj hdj hds => ?_⟩
      · by_cases hod : o.dst = some d
        · have := hd i o ho' hod
          simp [Array.getD, show i < listed.size by have := h.size; omega] at this
        · rw [Act.putd_get_ne _ _ _ _ hod]
          refine h.same d (fun j oj hj hdj => ?_)
          have h1 := hd j oj hj hdj
          have hne : j ≠ i := fun e => by subst e; rw [ho'] at hj; cases hj; exact hod hdj
          rw [getD_set_ne true (Ne.symm hne)] at h1
          exact h1
      · by_cases hji : j = i
        · subst hji
          rw [ho'] at hj; cases hj
          have hlt : d < a.tmps.size := by have := h.tsize; omega
          have : (a.put o.dst v).tmps.getD d undef = v := by rw [hdj]; exact putd_at hlt
          rw [this]; exact hv
        · have hne : o.dst ≠ some d := fun e => hji (filterMap_nodup_inj l hnd j i oj o d hj ho' hdj e)
          have h1 := h.made j oj d hj (by rw [getD_set_ne false (Ne.symm hji)] at hlj; exact hlj) hdj hds
          rw [putd_ne hne]
          exact stable _ _ _ _ h1 hb
    have hu' : unheaded n (listed.setIfInBounds i true) = fuel := by have := unheaded_set hun hin; omega
    have inv' := inv.set hi' hin
    obtain ⟨hg, he⟩ := each i o hin ho' a w lean
    unfold wpOp
    simp only [ho]
    split
    · rename_i hw
      rw [if_pos hw] at he
      refine .inl (Oper.wp_mono (fun a' w' hx => ?_) (Oper.wp_and he))
      obtain ⟨⟨v, ha', hb, hv⟩, hnew⟩ := hx
      subst ha'
      by_cases hn : newB P o = true
      · obtain ⟨h1, h2⟩ := hnew hn
        have hs := step v w' hb hv
        rw [h1] at hs ⊢
        exact ih _ _ _ hu' inv' hs (hA.step hnd ho' hb fun _ => ⟨rfl, h2⟩)
      · exact ih _ _ _ hu' inv' (step v w' hb hv) (hA.step hnd ho' hb fun e => absurd e hn)
    · rename_i hw
      rw [if_neg hw] at he
      refine ih _ _ _ hu' inv' (step undef w (Below.refl _ _) he) (hA.step hnd ho' (Below.refl _ _) fun e => ?_)
      exact absurd (by simp [Region.wanted, hg e]) hw
theorem wp_region_spec_apart {id : Nat} {Q : Exit → Act → World → Prop} (n : Nat) (hm : P.follows .mixedOrders = true) (Φ : Nat → Value → World → Prop) (hB : specTailB l n = true)
    (stable : ∀ i v w w', Φ i v w → Below w.heap.size w w' → Φ i v w')
    (each : ∀ (i : Nat) (o : Oper), i < n → l[i]? = some o → ∀ a w, Leans l Φ w0 a0 o a w → (newB P o = true → o.guard = none) ∧
      if Region.wanted o (yielded l.toArray a.tmps) then o.wp P a w (fun a' w' => ∃ v, a' = a.put o.dst v ∧ Below w.heap.size w w' ∧ Φ i v w') Q else Φ i undef w)
    (fin : ∀ (f : Nat → Value) (w : World), Below w0.heap.size w0 w → (∀ (i : Nat) (o : Oper) (d : Nat), i < n → l[i]? = some o → o.dst = some d → d < a0.tmps.size → Φ i (f i) w) →
      Apart P l n (Array.replicate n true) (putAll (l.take n) f 0 a0) w → wpList P l.toArray Q (l.drop n) (putAll (l.take n) f 0 a0) w) :
    (Code.region id l.toArray true).wp P Q a0 w0 := by
  have hnl : n < l.length := by
    simp only [specTailB, Bool.and_eq_true, decide_eq_true_eq] at hB
    exact hB.1.1.1.2
  refine wp_region_any hm ?_
  have := wpAny_of_specP (w0 := w0) (a0 := a0) (P := P) (Q := Q) hB stable each fin _ (Array.replicate l.toArray.size false) a0 w0.drew rfl
    ⟨by simp, fun j oj _ hl => (by rw [getD_replicate_false] at hl; cases hl), fun t _ ht => getD_in (by simpa using ht) (getD_replicate_false _ _)⟩
    ⟨by simp, (Below.refl _ _).drew, rfl, rfl, fun d _ => rfl, fun i o d hi hl _ _ => (by rw [getD_replicate_false] at hl; cases hl)⟩
    ⟨fun i o d _ _ _ hl _ _ => (by rw [getD_replicate_false] at hl; cases hl), fun i j oi oj di dj _ _ _ _ _ _ _ hl _ _ _ _ _ => (by rw [getD_replicate_false] at hl; cases hl)⟩
  have hu : unheaded n (Array.replicate l.toArray.size false) = n := by
    unfold unheaded
    simp
    omega
  rw [hu, show n + (l.length - n) = l.toArray.size by simp; omega] at this
  exact this
def ApartEnd (P : Program) (l : List Oper) (n : Nat) (a : Act) : Prop :=
  ∀ (i j : Nat) (oi oj : Oper) (di dj : Nat), i < n → j < n → i ≠ j → l[i]? = some oi → l[j]? = some oj → newB P oi = true → newB P oj = true → oi.dst = some di → oj.dst = some dj → di < a.tmps.size → dj < a.tmps.size → a.tmps.getD di undef ≠ a.tmps.getD dj undef
theorem wp_region_loose_apart {es : List Ent} {id : Nat} {Q : Exit → Act → World → Prop} (n : Nat) (hm : P.follows .mixedOrders = true) (hB : looseB l n = true) (hS : specTailB l n = true) (hk : keepsAll es)
    (hnew : ((l.take n).all fun o => !newB P o || o.guard.isNone) = true)
    (h : looseL P l es w0 n (fun a w => ApartEnd P l n a → wpList P l.toArray Q (l.drop n) a w) 0 (l.take n) a0) : (Code.region id l.toArray true).wp P Q a0 w0 := by
  have hS2 := hS
  simp only [specTailB, Bool.and_eq_true, decide_eq_true_eq] at hS2
  have hn : n ≤ l.length := Nat.le_of_lt hS2.1.1.1.2
  refine wp_region_spec_apart n hm (phiOf es) hS (phiOf_keeps es hk) (fun i o hi ho a w hl => ⟨fun hb => ?_, loose_each hB hS2.1.1.1.1 hn h i o hi ho a w hl⟩) (fun f w hb hf hA => loose_fin hS2.1.1.1.1 hn h f w hb hf ?_)
  · have hm2 : o ∈ l.take n := List.mem_of_getElem? (i := i) (by rw [List.getElem?_take, if_pos hi]; exact ho)
    have := List.all_eq_true.1 hnew o hm2
    rw [hb] at this
    simpa using this
  · intro i j oi oj di dj hi hj hij h1 h2 h3 h4 h5 h6 h7 h8
    exact hA.two i j oi oj di dj hi hj hij h1 h2 h3 h4 (by simp [hi]) (by simp [hj]) h5 h6 h7 h8
end
end Go
namespace Go
open Go.RowKit
def Blk (t : TypeId) (w : World) (g : Nat) (cs : Array Value) : Prop := w.heap[g]? = some (.cells cs t (0, 0))
theorem Blk.lt {t : TypeId} {w : World} {g : Nat} {cs : Array Value} (h : Blk t w g cs) : g < w.heap.size := (Array.getElem?_eq_some_iff.1 h).1
theorem Blk.step {t : TypeId} {w w' : World} {g : Nat} {cs : Array Value} (h : Blk t w g cs) (hb : Below w.heap.size w w') : Blk t w' g cs := by
  unfold Blk at *; rw [hb.block g (Array.getElem?_eq_some_iff.1 h).1]; exact h
theorem Blk.alloc {t : TypeId} {w : World} {g : Nat} {cs : Array Value} (h : Blk t w g cs) (o : Obj) : Blk t (w.alloc o) g cs := by
  have hl := h.lt
  unfold Blk at *; rw [Below.heap_alloc _ _ _ hl]; exact h
theorem Blk.new (t : TypeId) (w : World) (cs : Array Value) : Blk t (w.alloc (.cells cs t)) w.heap.size cs := by
  unfold Blk; show (w.heap.push _)[w.heap.size]? = _; simp
theorem Blk.cell {t : TypeId} {w : World} {g : Nat} {cs : Array Value} (h : Blk t w g cs) (j : Nat) (v : Value) (hj : cs[j]? = some v) : w.cell? ⟨g, j, none⟩ = some v := by
  rw [cell_of_row w g j cs t (0, 0) h]; exact hj
theorem Blk.free {t : TypeId} {w : World} {g : Nat} {cs : Array Value} (h : Blk t w g cs) (j : Nat) : w.frozen? ⟨g, j, none⟩ = false := by
  unfold Blk at h; simp [World.frozen?, h]
theorem Blk.other {t : TypeId} {w : World} {g b : Nat} {cs : Array Value} (h : Blk t w g cs) (hne : g ≠ b) (ds : Array Value) : Blk t (w.setRow b ds) g cs := by
  unfold Blk at *
  simp only [World.setRow, Array.getElem?_modify]
  rw [if_neg (by omega)]; exact h
theorem Blk.set {t : TypeId} {w : World} {g : Nat} {cs : Array Value} (h : Blk t w g cs) (ds : Array Value) : Blk t (w.setRow g ds) g ds := by
  unfold Blk at *
  simp only [World.setRow, Array.getElem?_modify, if_true, h]
  rfl
theorem below_set {B : Nat} {a w : World} (h : Below B a w) (g : Nat) (hg : B ≤ g) (cs : Array Value) : Below B a (w.setRow g cs) :=
  h.trans ⟨rfl, rfl, rfl, by simp [World.setRow], fun k hk => by
    simp only [World.setRow, Array.getElem?_modify]
    rw [if_neg (by omega)]⟩
section
variable {P : Program}
def aggT (P : Program) (ty : TypeId) : Bool := match P.underlying ty with
  | some (.struct _) => true
  | some (.array _ _) => true
  | _ => false
def oneT (P : Program) (ty : TypeId) : Bool := match P.underlying ty with
  | some (.struct _) => false
  | some (.array _ _) => false
  | some _ => true
  | none => false
theorem aggT_spec {ty : TypeId} (h : aggT P ty = true) : ∃ d, P.underlying ty = some d ∧ (match d with | .struct _ | .array _ _ => true | _ => false) = true := by
  unfold aggT at h
  split at h
  · rename_i f hf; exact ⟨_, hf, rfl⟩
  · rename_i n e hf; exact ⟨_, hf, rfl⟩
  · cases h
theorem oneT_spec {ty : TypeId} (h : oneT P ty = true) : ∃ d, P.underlying ty = some d ∧ (match d with | .struct _ | .array _ _ => true | _ => false) = false := by
  unfold oneT at h
  cases hu : P.underlying ty with
  | none => rw [hu] at h; cases h
  | some d => rw [hu] at h; cases d <;> first | (cases h; done) | exact ⟨_, rfl, rfl⟩
def Oper.calmAt (P : Program) (o : Oper) (a : Act) (w0 : World) (v : Value) : Prop :=
  ∀ w, Below w0.heap.size w0 w → o.wp P a w (fun a' w' => a' = a.put o.dst v ∧ Below w.heap.size w w') (fun _ _ _ => False)
def wpCalm (P : Program) (ops : Array Oper) (w0 : World) (Q : Act → Prop) : List Oper → Act → Prop
  | [], a => Q a
  | o :: rest, a => (Region.wanted o (yielded ops a.tmps) = true ∧ ∃ v, o.calmAt P a w0 v ∧ wpCalm P ops w0 Q rest (a.put o.dst v)) ∨ (Region.wanted o (yielded ops a.tmps) = false ∧ wpCalm P ops w0 Q rest (a.put o.dst undef))
variable {ops : Array Oper} {w0 : World} {Q : Act → Prop} {o : Oper} {rest : List Oper} {a : Act}
theorem calm_nil (h : Q a) : wpCalm P ops w0 Q [] a := h
theorem calm_on (hw : Region.wanted o (yielded ops a.tmps) = true) {v : Value} (h : o.calmAt P a w0 v) (k : wpCalm P ops w0 Q rest (a.put o.dst v)) : wpCalm P ops w0 Q (o :: rest) a := .inl ⟨hw, v, h, k⟩
theorem calm_off (hw : Region.wanted o (yielded ops a.tmps) = false) (k : wpCalm P ops w0 Q rest (a.put o.dst undef)) : wpCalm P ops w0 Q (o :: rest) a := .inr ⟨hw, k⟩
theorem calm_run (hw : Region.wanted o (yielded ops a.tmps) = true) (v : Value) (h : ∀ w, Below w0.heap.size w0 w → (execOp a.eval o).run P w = .ok (.value v) w) (k : wpCalm P ops w0 Q rest (a.put o.dst v)) : wpCalm P ops w0 Q (o :: rest) a :=
  calm_on hw (fun w hb => by unfold Oper.wp; rw [h w hb]; exact ⟨rfl, Below.refl _ _⟩) k
theorem calm_part (hw : Region.wanted o (yielded ops a.tmps) = true) (ty : TypeId) (x : Operand) (ho : o.op = .load ty x) (g off : Nat) (hx : a.eval x = .pointer (some ⟨g, off, none⟩))
    (t : TypeId) (cur cs : Array Value) (hg : Blk t w0 g cur) (hcs : ∀ j v, cs[j]? = some v → cur[off + j]? = some v)
    (hu : aggT P ty = true) (hi : (P.info? ty).map (·.size) = some cs.size)
    (k : wpCalm P ops w0 Q rest (a.put o.dst (.agg cs))) : wpCalm P ops w0 Q (o :: rest) a :=
  let ⟨d, h1, h2⟩ := aggT_spec hu
  calm_run hw _ (fun w hb => run_load_part ty x ho g off hx t cur cs (0, 0) d (hg.step hb) hcs h1 (by cases d <;> first | rfl | cases h2) hi) k
theorem calm_whole (hw : Region.wanted o (yielded ops a.tmps) = true) (ty : TypeId) (x : Operand) (ho : o.op = .load ty x) (g : Nat) (hx : a.eval x = .pointer (some ⟨g, 0, none⟩))
    (t : TypeId) (cs : Array Value) (hg : Blk t w0 g cs)
    (hu : aggT P ty = true) (hi : (P.info? ty).map (·.size) = some cs.size)
    (k : wpCalm P ops w0 Q rest (a.put o.dst (.agg cs))) : wpCalm P ops w0 Q (o :: rest) a :=
  calm_part hw ty x ho g 0 hx t cs cs hg (fun j v h => by rw [Nat.zero_add]; exact h) hu hi k
theorem run_load_cell {w : World} (ty : TypeId) (x : Operand) (ho : o.op = .load ty x) (g off : Nat) (hx : a.eval x = .pointer (some ⟨g, off, none⟩)) (v : Value) (hc : w.cell? ⟨g, off, none⟩ = some v)
    (d : TypeDesc) (hu : P.underlying ty = some d) (hd : (match d with | .struct _ | .array _ _ => true | _ => false) = false) : (execOp a.eval o).run P w = .ok (.value v) w := by
  have hagg : (isAgg ty).run P w = .ok false w := by
    unfold isAgg
    rw [Sem.run_bind, run_underlying hu w]
    cases d <;> simp_all
  unfold execOp
  simp only [ho, hx, Instr.loadAt, Instr.sureAddr, Sem.run_bind, Sem.run_pure, Result.andThen_ok]
  simp [loadVar, Sem.run_bind, hagg, hc]
theorem calm_cell (hw : Region.wanted o (yielded ops a.tmps) = true) (ty : TypeId) (x : Operand) (ho : o.op = .load ty x) (g off : Nat) (hx : a.eval x = .pointer (some ⟨g, off, none⟩))
    (t : TypeId) (cs : Array Value) (hg : Blk t w0 g cs) (v : Value) (hv : cs[off]? = some v) (hu : oneT P ty = true)
    (k : wpCalm P ops w0 Q rest (a.put o.dst v)) : wpCalm P ops w0 Q (o :: rest) a :=
  let ⟨d, h1, h2⟩ := oneT_spec hu
  calm_run hw v (fun w hb => run_load_cell ty x ho g off hx v ((hg.step hb).cell off v hv) d h1 (by cases d <;> first | rfl | cases h2)) k
theorem calm_build (hw : Region.wanted o (yielded ops a.tmps) = true) (T : TypeId) (parts : Array (Nat × Operand)) (ho : o.op = .build T parts) (cells : Array Value)
    (hb : P.built T (parts.map fun (i, x) => (i, a.eval x)).toList = some cells) (k : wpCalm P ops w0 Q rest (a.put o.dst (.agg cells))) : wpCalm P ops w0 Q (o :: rest) a :=
  calm_run hw _ (fun w _ => by
    unfold execOp
    simp only [ho, Sem.run_bind, run_build w T _ cells hb, Result.andThen_ok, Sem.run_pure]) k
theorem Oper.wp_false {o : Oper} {a : Act} {w : World} {K : Act → World → Prop} {Q' : Exit → Act → World → Prop} (h : o.wp P a w K (fun _ _ _ => False)) : o.wp P a w K Q' := by
  unfold Oper.wp at *
  generalize (execOp a.eval o).run P w = r at *
  cases r with
  | ok n w' =>
    cases n <;> simp only [Oper.upon] at h ⊢ <;> first
      | exact h
      | (refine Calls.mono h fun e w'' he => ?_; cases e <;> first | exact he | exact he.elim | (obtain ⟨_, _, h⟩ := he; exact h.elim))
  | halt x w' => cases x <;> simp only [Oper.upon] at h ⊢
theorem wpList_calm {Q' : Exit → Act → World → Prop} {tail : List Oper} : ∀ (l1 : List Oper) (a : Act) (w : World), Below w0.heap.size w0 w →
    wpCalm P ops w0 (fun a' => ∀ w, Below w0.heap.size w0 w → wpList P ops Q' tail a' w) l1 a → wpList P ops Q' (l1 ++ tail) a w
  | [], a, w, hb, h => h w hb
  | o :: l1, a, w, hb, h => by
    rw [List.cons_append]
    refine wpList_step fun K hK => ?_
    rcases h with ⟨hw, v, hc, hk⟩ | ⟨hw, hk⟩
    · rw [if_pos hw]
      exact Oper.wp_mono (fun a' w' hx => by obtain ⟨e, hb'⟩ := hx; subst e; exact hK _ _ (wpList_calm l1 _ _ (hb.trans (hb'.mono hb.size)) hk)) (Oper.wp_false (hc w hb))
    · rw [if_neg (by rw [hw]; decide)]
      exact hK _ _ (wpList_calm l1 _ _ hb hk)
theorem at_region {id : Nat} {b : Bool} {Q' : Exit → Act → World → Prop} {w : World} (h : (Code.region id ops b).wp P Q' a w) : (Code.region id ops b).wp P Q' a w := h
theorem calm_ents {l0 : List Oper} : ∀ (l1 : List Oper) (a : Act) (i : Nat), wpCalm P l0.toArray w0 Q l1 a → ∃ es1 : List Ent, es1.length = l1.length ∧ keepsAll es1 ∧ ∃ a', Q a' ∧ a'.tmps.size = a.tmps.size ∧
    ∀ (es : List Ent) (n : Nat) (Fin : Act → World → Prop) (rest : List Oper), (∀ j e, es1[j]? = some e → es[i + j]? = some e) → looseL P l0 es w0 n Fin (i + l1.length) rest a' → looseL P l0 es w0 n Fin i (l1 ++ rest) a
  | [], a, i, h => ⟨[], rfl, trivial, a, h, rfl, fun _ _ _ _ _ h => h⟩
  | o :: l1, a, i, h => by
    rcases h with ⟨hw, v, hc, hk⟩ | ⟨hw, hk⟩
    · obtain ⟨es1, h1, h2, a', h3, h4, h5⟩ := calm_ents l1 _ (i + 1) hk
      refine ⟨.kn v :: es1, by simp [h1], keepsAll_kn h2, a', h3, by rw [h4, Act.putd_size], fun es n Fin rest he hL => ?_⟩
      have he0 : es[i]? = some (.kn v) := he 0 _ rfl
      refine ⟨.inl ⟨hw, fun w hb _ K hK => Oper.wp_mono (fun a' w' hx => by obtain ⟨e, hb'⟩ := hx; subst e; exact hK v w' hb' (by unfold phiOf; rw [he0]; rfl)) (hc w hb)⟩, fun v' hv => ?_⟩
      have : v' = v := by unfold mayOf at hv; rw [he0] at hv; exact hv
      subst this
      exact h5 es n Fin rest (fun j e hj => by have := he (j + 1) e (by simpa using hj); rwa [show i + (j + 1) = i + 1 + j by omega] at this) (by rw [List.length_cons] at hL; rwa [show i + (l1.length + 1) = i + 1 + l1.length by omega] at hL)
    · obtain ⟨es1, h1, h2, a', h3, h4, h5⟩ := calm_ents l1 _ (i + 1) hk
      refine ⟨.kn undef :: es1, by simp [h1], keepsAll_kn h2, a', h3, by rw [h4, Act.putd_size], fun es n Fin rest he hL => ?_⟩
      have he0 : es[i]? = some (.kn undef) := he 0 _ rfl
      refine ⟨.inr ⟨hw, fun w => by unfold phiOf; rw [he0]; rfl⟩, fun v' hv => ?_⟩
      have : v' = undef := by unfold mayOf at hv; rw [he0] at hv; exact hv
      subst this
      exact h5 es n Fin rest (fun j e hj => by have := he (j + 1) e (by simpa using hj); rwa [show i + (j + 1) = i + 1 + j by omega] at this) (by rw [List.length_cons] at hL; rwa [show i + (l1.length + 1) = i + 1 + l1.length by omega] at hL)
variable {l : List Oper} {id : Nat} {Q' : Exit → Act → World → Prop}
theorem draw_tail (n : Nat) (hm : P.follows .mixedOrders = true) (hB : looseB l n = true) (hS : specTailB l n = true)
    (h : wpCalm P l.toArray w0 (fun a' => ∀ w, Below w0.heap.size w0 w → wpList P l.toArray Q' (l.drop n) a' w) (l.take n) a) : (Code.region id l.toArray true).wp P Q' a w0 := by
  obtain ⟨es1, h1, h2, a', h3, h4, h5⟩ := calm_ents (l.take n) a 0 h
  have hL := h5 es1 n (wpList P l.toArray Q' (l.drop n)) [] (fun j e hj => by rw [Nat.zero_add]; exact hj) (fun w hb _ => h3 w hb)
  rw [List.append_nil] at hL
  exact wp_region_loose_tail n es1 hm hB hS h2 hL
theorem draw_all (hm : P.follows .mixedOrders = true) (hB : looseB l l.length = true) (hS : specB l = true)
    (h : wpCalm P l.toArray w0 (fun a' => ∀ w, Below w0.heap.size w0 w → Q' .normal a' w) l a) : (Code.region id l.toArray true).wp P Q' a w0 := by
  obtain ⟨es1, h1, h2, a', h3, h4, h5⟩ := calm_ents l a 0 h
  have hL := h5 es1 l.length (fun a w => Q' .normal a w) [] (fun j e hj => by rw [Nat.zero_add]; exact hj) (fun w hb _ => h3 w hb)
  rw [List.append_nil] at hL
  exact wp_region_loose es1 hm hB hS h2 hL
def newR (w0 : World) (T : TypeId) (zs : Array Value) : Value → World → Prop := fun v w => ∃ b, v = .pointer (some ⟨b, 0, none⟩) ∧ Blk T w b zs ∧ w0.heap.size ≤ b
theorem newR_keeps {T : TypeId} {zs : Array Value} : ∀ v w w', newR w0 T zs v w → Below w.heap.size w w' → newR w0 T zs v w' := fun v w w' ⟨b, h1, h2, h3⟩ hb => ⟨b, h1, h2.step hb, h3⟩
theorem keepsAll_append : ∀ {es fs : List Ent}, keepsAll es → keepsAll fs → keepsAll (es ++ fs)
  | [], _, _, h => h
  | _ :: _, _, h, k => ⟨h.1, keepsAll_append h.2 k⟩
theorem loose_new {l0 : List Oper} {es : List Ent} {n i : Nat} {Fin : Act → World → Prop} {o : Oper} {rest : List Oper} {T : TypeId} {zs : Array Value} (he : es[i]? = some (.lo (newR w0 T zs))) (ho : o.op = .alloc T) (hg : o.guard = none) (hz : (P.info? T).bind (·.zero) = some (.agg zs))
    (h : ∀ v, looseL P l0 es w0 n Fin (i + 1) rest (a.put o.dst v)) : looseL P l0 es w0 n Fin i (o :: rest) a :=
  ⟨.inl ⟨by simp [Region.wanted, hg], fun w hb _ K hK => wp_alloc_new T ho zs hz (hK _ _ ((Below.refl _ _).alloc (Nat.le_refl _) _) (by
    unfold phiOf; rw [he]; exact ⟨_, rfl, Blk.new _ _ _, hb.size⟩))⟩, fun v _ => h v⟩
theorem draw_new1 (n : Nat) (oA : Oper) (hA : (l.drop n).take 1 = [oA]) (T : TypeId) (zs : Array Value) (d : Nat) (ho : oA.op = .alloc T) (hg : oA.guard = none) (hd : oA.dst = some d) (hds : d < a.tmps.size) (hz : (P.info? T).bind (·.zero) = some (.agg zs))
    (hm : P.follows .mixedOrders = true) (hB : looseB l (n + 1) = true) (hS : specTailB l (n + 1) = true)
    (h : wpCalm P l.toArray w0 (fun a' => ∀ b w, w0.heap.size ≤ b → Below w0.heap.size w0 w → Blk T w b zs → wpList P l.toArray Q' (l.drop (n + 1)) (a'.put (some d) (.pointer (some ⟨b, 0, none⟩))) w) (l.take n) a) : (Code.region id l.toArray true).wp P Q' a w0 := by
  have hn : n < l.length := by
    rcases Nat.lt_or_ge n l.length with h1 | h1
    · exact h1
    · rw [List.drop_eq_nil_of_le h1] at hA; cases hA
  have hlA : l[n]? = some oA := by
    have : ((l.drop n).take 1)[0]? = some oA := by rw [hA]; rfl
    rw [List.getElem?_take, if_pos (by decide), List.getElem?_drop, Nat.add_zero] at this; exact this
  obtain ⟨es1, h1, h2, a', h3, h4, h5⟩ := calm_ents (l.take n) a 0 h
  have hl1 : es1.length = n := by rw [h1, List.length_take]; omega
  have hL := h5 (es1 ++ [.lo (newR w0 T zs)]) (n + 1) (wpList P l.toArray Q' (l.drop (n + 1))) [oA]
    (fun j e hj => by
      rw [Nat.zero_add]
      have hj2 : j < es1.length := (List.getElem?_eq_some_iff.1 hj).1
      rw [List.getElem?_append_left hj2]; exact hj)
    (loose_new (by rw [Nat.zero_add, List.length_take, Nat.min_eq_left (by omega), ← hl1]; simp) ho hg hz fun v w hb hphi => by
      have := hphi n oA d (by omega) hlA hd (by rw [Act.putd_size, h4]; exact hds)
      rw [hd, putd_at (by rw [h4]; exact hds)] at this
      unfold phiOf at this
      rw [show (es1 ++ [Ent.lo (newR w0 T zs)])[n]? = some (.lo (newR w0 T zs)) by rw [← hl1]; simp] at this
      obtain ⟨b, rfl, hblk, hle⟩ := this
      rw [hd]
      exact h3 b w hle hb hblk)
  rw [← hA, show l.take n ++ (l.drop n).take 1 = l.take (n + 1) by rw [List.take_add]] at hL
  exact wp_region_loose_tail (n + 1) _ hm hB hS (keepsAll_append h2 (keepsAll_lo newR_keeps (show keepsAll [] from trivial))) hL
theorem draw_new2 (n : Nat) (oA oB : Oper) (hA : (l.drop n).take 2 = [oA, oB]) (T T' : TypeId) (zs zs' : Array Value) (d d' : Nat) (ho : oA.op = .alloc T) (hg : oA.guard = none) (hd : oA.dst = some d) (hds : d < a.tmps.size) (hz : (P.info? T).bind (·.zero) = some (.agg zs))
    (ho' : oB.op = .alloc T') (hg' : oB.guard = none) (hd' : oB.dst = some d') (hds' : d' < a.tmps.size) (hz' : (P.info? T').bind (·.zero) = some (.agg zs')) (hne : d ≠ d')
    (hm : P.follows .mixedOrders = true) (hB : looseB l (n + 2) = true) (hS : specTailB l (n + 2) = true) (hnew : ((l.take (n + 2)).all fun o => !newB P o || o.guard.isNone) = true)
    (h : wpCalm P l.toArray w0 (fun a' => ∀ b b' w, w0.heap.size ≤ b → w0.heap.size ≤ b' → b ≠ b' → Below w0.heap.size w0 w → Blk T w b zs → Blk T' w b' zs' →
      wpList P l.toArray Q' (l.drop (n + 2)) ((a'.put (some d) (.pointer (some ⟨b, 0, none⟩))).put (some d') (.pointer (some ⟨b', 0, none⟩))) w) (l.take n) a) : (Code.region id l.toArray true).wp P Q' a w0 := by
  have hn : n + 1 < l.length := by
    rcases Nat.lt_or_ge (n + 1) l.length with h1 | h1
    · exact h1
    · have : ((l.drop n).take 2).length = 2 := by rw [hA]; rfl
      rw [List.length_take, List.length_drop] at this; omega
  have hlA : l[n]? = some oA := by
    have : ((l.drop n).take 2)[0]? = some oA := by rw [hA]; rfl
    rw [List.getElem?_take, if_pos (by decide), List.getElem?_drop, Nat.add_zero] at this; exact this
  have hlB : l[n + 1]? = some oB := by
    have : ((l.drop n).take 2)[1]? = some oB := by rw [hA]; rfl
    rw [List.getElem?_take, if_pos (by decide), List.getElem?_drop] at this; exact this
  obtain ⟨es1, h1, h2, a', h3, h4, h5⟩ := calm_ents (l.take n) a 0 h
  have hl1 : es1.length = n := by rw [h1, List.length_take]; omega
  have e1 : (es1 ++ [Ent.lo (newR w0 T zs), Ent.lo (newR w0 T' zs')])[n]? = some (.lo (newR w0 T zs)) := by rw [← hl1]; simp
  have e2 : (es1 ++ [Ent.lo (newR w0 T zs), Ent.lo (newR w0 T' zs')])[n + 1]? = some (.lo (newR w0 T' zs')) := by rw [← hl1]; simp
  have hL := h5 (es1 ++ [.lo (newR w0 T zs), .lo (newR w0 T' zs')]) (n + 2) (fun a w => ApartEnd P l (n + 2) a → wpList P l.toArray Q' (l.drop (n + 2)) a w) [oA, oB]
    (fun j e hj => by
      rw [Nat.zero_add]
      have hj2 : j < es1.length := (List.getElem?_eq_some_iff.1 hj).1
      rw [List.getElem?_append_left hj2]; exact hj)
    (loose_new (by rw [Nat.zero_add, List.length_take, Nat.min_eq_left (by omega)]; exact e1) ho hg hz fun v => loose_new (by rw [Nat.zero_add, List.length_take, Nat.min_eq_left (by omega)]; exact e2) ho' hg' hz' fun v' w hb hphi hap => by
      have s1 : d < a'.tmps.size := by rw [h4]; exact hds
      have s2 : d' < a'.tmps.size := by rw [h4]; exact hds'
      have g1 : ((a'.put oA.dst v).put oB.dst v').tmps.getD d undef = v := by rw [hd', putd_ne (by simpa using Ne.symm hne), hd, putd_at s1]
      have g2 : ((a'.put oA.dst v).put oB.dst v').tmps.getD d' undef = v' := by rw [hd', putd_at (by rw [Act.putd_size]; exact s2)]
      have p1 := hphi n oA d (by omega) hlA hd (by rw [Act.putd_size, Act.putd_size]; exact s1)
      have p2 := hphi (n + 1) oB d' (by omega) hlB hd' (by rw [Act.putd_size, Act.putd_size]; exact s2)
      rw [g1] at p1
      rw [g2] at p2
      unfold phiOf at p1 p2
      rw [e1] at p1
      rw [e2] at p2
      obtain ⟨b, rfl, hblk, hle⟩ := p1
      obtain ⟨b', rfl, hblk', hle'⟩ := p2
      have hnb : newB P oA = true := by unfold newB; rw [ho]; simp only; rw [hz]; simp [hd]
      have hnb' : newB P oB = true := by unfold newB; rw [ho']; simp only; rw [hz']; simp [hd']
      have hx := hap n (n + 1) oA oB d d' (by omega) (by omega) (by omega) hlA hlB hnb hnb' hd hd' (by rw [Act.putd_size, Act.putd_size]; exact s1) (by rw [Act.putd_size, Act.putd_size]; exact s2)
      rw [g1, g2] at hx
      rw [hd, hd']
      exact h3 b b' w hle hle' (fun e => hx (by rw [e])) hb hblk hblk')
  rw [← hA, show l.take n ++ (l.drop n).take 2 = l.take (n + 2) by rw [List.take_add]] at hL
  exact wp_region_loose_apart (n + 2) hm hB hS (keepsAll_append h2 (keepsAll_lo newR_keeps (keepsAll_lo newR_keeps (show keepsAll [] from trivial)))) hnew hL
theorem list_tail (n : Nat) (h : wpCalm P l.toArray w0 (fun a' => ∀ w, Below w0.heap.size w0 w → wpList P l.toArray Q' (l.drop n) a' w) (l.take n) a) : (Code.region id l.toArray false).wp P Q' a w0 :=
  wp_region_lit (by
    have := wpList_calm (tail := l.drop n) (l.take n) a w0 (Below.refl _ _) h
    rwa [List.take_append_drop] at this)
theorem list_all (h : wpCalm P l.toArray w0 (fun a' => ∀ w, Below w0.heap.size w0 w → Q' .normal a' w) l a) : (Code.region id l.toArray false).wp P Q' a w0 :=
  wp_region_lit (by
    have := wpList_calm (ops := l.toArray) (Q' := Q') (tail := []) l a w0 (Below.refl _ _) h
    rwa [List.append_nil] at this)
theorem wpList_new {ops : Array Oper} {w : World} (T : TypeId) (zs : Array Value) (ho : o.op = .alloc T) (hg : o.guard = none) (hz : (P.info? T).bind (·.zero) = some (.agg zs))
    (h : ∀ b w', w.heap.size ≤ b → Below w.heap.size w w' → Blk T w' b zs → wpList P ops Q' rest (a.put o.dst (.pointer (some ⟨b, 0, none⟩))) w') : wpList P ops Q' (o :: rest) a w :=
  wpList_alloc_new hg T ho zs hz (h _ _ (Nat.le_refl _) ((Below.refl _ _).alloc (Nat.le_refl _) _) (Blk.new _ _ _))
theorem wpList_set {ops : Array Oper} {w : World} (T : TypeId) (x y : Operand) (ho : o.op = .store T x y) (hg : o.guard = none) (hd : o.dst = none) (b : Nat) (cells : Array Value) (hx : a.eval x = .pointer (some ⟨b, 0, none⟩)) (hy : a.eval y = .agg cells)
    (t : TypeId) (old : Array Value) (hb : Blk t w b old) (hi : (P.info? T).map (·.size) = some cells.size) (hs : old.size = cells.size) (h1 : cells.all (·.oneCell') = true)
    (h : wpList P ops Q' rest a (w.setRow b cells)) : wpList P ops Q' (o :: rest) a w :=
  wpList_store_row hg T x y ho b cells hx hy t old hb hi hs h1 (by rw [hd]; exact h)
theorem run_box {w : World} (T : TypeId) (x : Operand) (ho : o.op = .box T x) (cs : Array Value) (hx : a.eval x = .agg cs) : (execOp a.eval o).run P w = .ok (.value (.pointer (some ⟨w.heap.size, 0, none⟩))) (w.alloc (.cells cs T)) := by
  unfold execOp
  simp only [ho, hx, Instr.box, newVar, newRow, Sem.run_bind, Value.cells]
  simp [Sem.run]
theorem wpList_box {ops : Array Oper} {w : World} (T : TypeId) (x : Operand) (ho : o.op = .box T x) (hg : o.guard = none) (cs : Array Value) (hx : a.eval x = .agg cs)
    (h : wpList P ops Q' rest (a.put o.dst (.pointer (some ⟨w.heap.size, 0, none⟩))) (w.alloc (.cells cs T))) : wpList P ops Q' (o :: rest) a w :=
  wpList_plain hg fun K hK => by unfold Oper.wp; rw [run_box T x ho cs hx]; exact hK _ _ h
theorem entry1 (w : World) (T0 : TypeId) (c0 : Array Value) : ∃ w', w' = w.alloc (.cells c0 T0) ∧ Blk T0 w' (w.heap.size) c0 ∧ Below w.heap.size w w' := by
  have h0 := Blk.new T0 (w) c0
  exact ⟨_, rfl, (h0), (by repeat (first | (with_reducible first | exact Below.refl _ _ | assumption | refine World.ext_below_of ?_ ?_ _ | refine Below.setCell ?_ ?_ _ | refine Below.alloc ?_ ?_ _ | refine Below.drew ?_ | refine World.size_le_ext _ _ _ ?_) | (solve | simp [go_sem] | (simp [go_sem]; omega) | omega)))⟩
theorem entry2 (w : World) (T0 : TypeId) (c0 : Array Value) (T1 : TypeId) (c1 : Array Value) : ∃ w', w' = (w.alloc (.cells c0 T0)).alloc (.cells c1 T1) ∧ Blk T0 w' (w.heap.size) c0 ∧ Blk T1 w' (w.heap.size + 1) c1 ∧ Below w.heap.size w w' := by
  have h0 := Blk.new T0 (w) c0
  have h1 := Blk.new T1 (w.alloc (.cells c0 T0)) c1
  simp only [World.size_alloc] at h1
  exact ⟨_, rfl, ((h0.alloc _)), (h1), (by repeat (first | (with_reducible first | exact Below.refl _ _ | assumption | refine World.ext_below_of ?_ ?_ _ | refine Below.setCell ?_ ?_ _ | refine Below.alloc ?_ ?_ _ | refine Below.drew ?_ | refine World.size_le_ext _ _ _ ?_) | (solve | simp [go_sem] | (simp [go_sem]; omega) | omega)))⟩
theorem entry3 (w : World) (T0 : TypeId) (c0 : Array Value) (T1 : TypeId) (c1 : Array Value) (T2 : TypeId) (c2 : Array Value) : ∃ w', w' = ((w.alloc (.cells c0 T0)).alloc (.cells c1 T1)).alloc (.cells c2 T2) ∧ Blk T0 w' (w.heap.size) c0 ∧ Blk T1 w' (w.heap.size + 1) c1 ∧ Blk T2 w' (w.heap.size + 1 + 1) c2 ∧ Below w.heap.size w w' := by
  have h0 := Blk.new T0 (w) c0
  have h1 := Blk.new T1 (w.alloc (.cells c0 T0)) c1
  simp only [World.size_alloc] at h1
  have h2 := Blk.new T2 ((w.alloc (.cells c0 T0)).alloc (.cells c1 T1)) c2
  simp only [World.size_alloc] at h2
  exact ⟨_, rfl, (((h0.alloc _).alloc _)), ((h1.alloc _)), (h2), (by repeat (first | (with_reducible first | exact Below.refl _ _ | assumption | refine World.ext_below_of ?_ ?_ _ | refine Below.setCell ?_ ?_ _ | refine Below.alloc ?_ ?_ _ | refine Below.drew ?_ | refine World.size_le_ext _ _ _ ?_) | (solve | simp [go_sem] | (simp [go_sem]; omega) | omega)))⟩
theorem entry5 (w : World) (T0 : TypeId) (c0 : Array Value) (T1 : TypeId) (c1 : Array Value) (T2 : TypeId) (c2 : Array Value) (T3 : TypeId) (c3 : Array Value) (T4 : TypeId) (c4 : Array Value) : ∃ w', w' = ((((w.alloc (.cells c0 T0)).alloc (.cells c1 T1)).alloc (.cells c2 T2)).alloc (.cells c3 T3)).alloc (.cells c4 T4) ∧ Blk T0 w' (w.heap.size) c0 ∧ Blk T1 w' (w.heap.size + 1) c1 ∧ Blk T2 w' (w.heap.size + 1 + 1) c2 ∧ Blk T3 w' (w.heap.size + 1 + 1 + 1) c3 ∧ Blk T4 w' (w.heap.size + 1 + 1 + 1 + 1) c4 ∧ Below w.heap.size w w' := by
  have h0 := Blk.new T0 (w) c0
  have h1 := Blk.new T1 (w.alloc (.cells c0 T0)) c1
  simp only [World.size_alloc] at h1
  have h2 := Blk.new T2 ((w.alloc (.cells c0 T0)).alloc (.cells c1 T1)) c2
  simp only [World.size_alloc] at h2
  have h3 := Blk.new T3 (((w.alloc (.cells c0 T0)).alloc (.cells c1 T1)).alloc (.cells c2 T2)) c3
  simp only [World.size_alloc] at h3
  have h4 := Blk.new T4 ((((w.alloc (.cells c0 T0)).alloc (.cells c1 T1)).alloc (.cells c2 T2)).alloc (.cells c3 T3)) c4
  simp only [World.size_alloc] at h4
  exact ⟨_, rfl, (((((h0.alloc _).alloc _).alloc _).alloc _)), ((((h1.alloc _).alloc _).alloc _)), (((h2.alloc _).alloc _)), ((h3.alloc _)), (h4), (by repeat (first | (with_reducible first | exact Below.refl _ _ | assumption | refine World.ext_below_of ?_ ?_ _ | refine Below.setCell ?_ ?_ _ | refine Below.alloc ?_ ?_ _ | refine Below.drew ?_ | refine World.size_le_ext _ _ _ ?_) | (solve | simp [go_sem] | (simp [go_sem]; omega) | omega)))⟩
theorem wpList_get {ops : Array Oper} {w : World} (T : TypeId) (x : Operand) (ho : o.op = .load T x) (hg : o.guard = none) (g : Nat) (hx : a.eval x = .pointer (some ⟨g, 0, none⟩)) (t : TypeId) (cs : Array Value) (hb : Blk t w g cs)
    (hu : aggT P T = true) (hi : (P.info? T).map (·.size) = some cs.size) (h : wpList P ops Q' rest (a.put o.dst (.agg cs)) w) : wpList P ops Q' (o :: rest) a w :=
  wpList_plain hg fun K hK => by
    obtain ⟨d, h1, h2⟩ := aggT_spec hu
    unfold Oper.wp
    rw [run_load_part T x ho g 0 hx t cs cs (0, 0) d hb (fun j v h => by rw [Nat.zero_add]; exact h) h1 (by cases d <;> first | rfl | cases h2) hi]
    exact hK _ _ h
theorem ret_blk {fn : Func} {R : Ending → World → Prop} {w : World} {p : Tmp} {ty : TypeId} (g : Nat) (t : TypeId) (cs : Array Value) (h : fn.results = #[.cell p ty]) (hp : a.tmps.getD p undef = .pointer (some ⟨g, 0, none⟩)) (hg : Blk t w g cs)
    (hu : aggT P ty = true) (hi : (P.info? ty).map (·.size) = some cs.size) (hd : a.defers = []) (hR : R (.returned (.agg cs)) w) : bodyPost P fn R .ret a w := by
  obtain ⟨d, h1, h2⟩ := aggT_spec hu
  exact bodyPost_ret (results_cell_row h a.tmps w g t cs (0, 0) d hp hg h1 (by cases d <;> first | rfl | cases h2) hi) hd hR
end
end Go
namespace Go.Proofs.Ytejnnghfelpioaa
open Go.RowKit
structure F5 where
  a0 : Nat
  a1 : Nat
  a2 : Nat
  a3 : Nat
  a4 : Nat
def cells5 (f : F5) : Array Value := #[.int .u64 (f.a0 : Int), .int .u64 (f.a1 : Int), .int .u64 (f.a2 : Int), .int .u64 (f.a3 : Int), .int .u64 (f.a4 : Int)]
def fe (f : F5) : Value := .agg (cells5 f)
def val5 (f : F5) : Nat := f.a0 + 2251799813685248 * (f.a1 + 2251799813685248 * (f.a2 + 2251799813685248 * (f.a3 + 2251799813685248 * f.a4)))
structure Ok5 (B : Nat) (f : F5) : Prop where
  b0 : f.a0 < B
  b1 : f.a1 < B
  b2 : f.a2 < B
  b3 : f.a3 < B
  b4 : f.a4 < B
theorem Ok5.mono {B C : Nat} {f : F5} (h : Ok5 B f) (hc : B ≤ C) : Ok5 C f :=
  ⟨Nat.lt_of_lt_of_le h.b0 hc, Nat.lt_of_lt_of_le h.b1 hc, Nat.lt_of_lt_of_le h.b2 hc, Nat.lt_of_lt_of_le h.b3 hc, Nat.lt_of_lt_of_le h.b4 hc⟩
def T5 (f : F5) : Prop := Ok5 4503599627370496 f
def one5 : F5 := ⟨1, 0, 0, 0, 0⟩
def zero5 : F5 := ⟨0, 0, 0, 0, 0⟩
theorem t5_one : T5 one5 := ⟨by decide, by decide, by decide, by decide, by decide⟩
theorem t5_zero : T5 zero5 := ⟨by decide, by decide, by decide, by decide, by decide⟩
def car5 (f : F5) : F5 := ⟨f.a0 % 2251799813685248 + 19 * (f.a4 / 2251799813685248), f.a1 % 2251799813685248 + f.a0 / 2251799813685248, f.a2 % 2251799813685248 + f.a1 / 2251799813685248, f.a3 % 2251799813685248 + f.a2 / 2251799813685248, f.a4 % 2251799813685248 + f.a3 / 2251799813685248⟩
theorem car5_val (f : F5) : val5 (car5 f) + pN * (f.a4 / 2251799813685248) = val5 f := by
  unfold val5 car5 pN
  simp only
  omega
theorem car5_mod (f : F5) : val5 (car5 f) % pN = val5 f % pN := by
  rw [← car5_val f, Nat.add_mul_mod_self_left]
theorem car5_t (f : F5) (h : Ok5 18446744073709551616 f) : T5 (car5 f) := by
  obtain ⟨h0, h1, h2, h3, h4⟩ := h
  unfold car5
  refine ⟨?_, ?_, ?_, ?_, ?_⟩ <;> (simp only; omega)
def add5 (f g : F5) : F5 := car5 ⟨f.a0 + g.a0, f.a1 + g.a1, f.a2 + g.a2, f.a3 + g.a3, f.a4 + g.a4⟩
theorem add5_mod (f g : F5) : val5 (add5 f g) % pN = (val5 f + val5 g) % pN := by
  unfold add5
  rw [car5_mod]
  congr 1
  unfold val5
  simp only
  omega
theorem add5_t (f g : F5) (hf : T5 f) (hg : T5 g) : T5 (add5 f g) := by
  obtain ⟨h0, h1, h2, h3, h4⟩ := hf
  obtain ⟨g0, g1, g2, g3, g4⟩ := hg
  exact car5_t _ ⟨by simp only; omega, by simp only; omega, by simp only; omega, by simp only; omega, by simp only; omega⟩
def sub5 (f g : F5) : F5 := car5 ⟨f.a0 + 9007199254740916 - g.a0, f.a1 + 9007199254740988 - g.a1, f.a2 + 9007199254740988 - g.a2, f.a3 + 9007199254740988 - g.a3, f.a4 + 9007199254740988 - g.a4⟩
theorem sub5_mod (f g : F5) (hg : T5 g) : (val5 (sub5 f g) + val5 g) % pN = val5 f % pN := by
  unfold sub5
  rw [Nat.add_mod, car5_mod, ← Nat.add_mod]
  obtain ⟨g0, g1, g2, g3, g4⟩ := hg
  have e : val5 ⟨f.a0 + 9007199254740916 - g.a0, f.a1 + 9007199254740988 - g.a1, f.a2 + 9007199254740988 - g.a2, f.a3 + 9007199254740988 - g.a3, f.a4 + 9007199254740988 - g.a4⟩ + val5 g = val5 f + pN * 4 := by
    unfold val5 pN
    simp only
    omega
  rw [e, Nat.add_mul_mod_self_left]
theorem sub5_t (f g : F5) (hf : T5 f) (hg : T5 g) : T5 (sub5 f g) := by
  obtain ⟨h0, h1, h2, h3, h4⟩ := hf
  exact car5_t _ ⟨by simp only; omega, by simp only; omega, by simp only; omega, by simp only; omega, by simp only; omega⟩
def prd5 (f g : F5) : F5 :=
  ⟨f.a0 * g.a0 + f.a1 * (19 * g.a4) + f.a2 * (19 * g.a3) + f.a3 * (19 * g.a2) + f.a4 * (19 * g.a1),
   f.a0 * g.a1 + f.a1 * g.a0 + f.a2 * (19 * g.a4) + f.a3 * (19 * g.a3) + f.a4 * (19 * g.a2),
   f.a0 * g.a2 + f.a1 * g.a1 + f.a2 * g.a0 + f.a3 * (19 * g.a4) + f.a4 * (19 * g.a3),
   f.a0 * g.a3 + f.a1 * g.a2 + f.a2 * g.a1 + f.a3 * g.a0 + f.a4 * (19 * g.a4),
   f.a0 * g.a4 + f.a1 * g.a3 + f.a2 * g.a2 + f.a3 * g.a1 + f.a4 * g.a0⟩
theorem prd5_I (a0 a1 a2 a3 a4 b0 b1 b2 b3 b4 M q : Int) (hq : q = M * M * M * M * M - 19) :
  (a0 + M*(a1 + M*(a2 + M*(a3 + M*a4)))) * (b0 + M*(b1 + M*(b2 + M*(b3 + M*b4)))) =
  (a0*b0 + a1*(19*b4)+a2*(19*b3)+a3*(19*b2)+a4*(19*b1)) + M*((a0*b1+a1*b0+a2*(19*b4)+a3*(19*b3)+a4*(19*b2)) + M*((a0*b2+a1*b1+a2*b0+a3*(19*b4)+a4*(19*b3)) + M*((a0*b3+a1*b2+a2*b1+a3*b0+a4*(19*b4)) + M*(a0*b4+a1*b3+a2*b2+a3*b1+a4*b0))))
  + q * ((a1*b4+a2*b3+a3*b2+a4*b1) + M*((a2*b4+a3*b3+a4*b2) + M*((a3*b4+a4*b3) + M*(a4*b4)))) := by
  subst hq; grind
theorem prd5_mod (f g : F5) : val5 (prd5 f g) % pN = val5 f * val5 g % pN := by
  have h := prd5_I f.a0 f.a1 f.a2 f.a3 f.a4 g.a0 g.a1 g.a2 g.a3 g.a4 2251799813685248 (pN : Nat) (by decide +kernel)
  have e : val5 f * val5 g = val5 (prd5 f g) + pN * ((f.a1*g.a4+f.a2*g.a3+f.a3*g.a2+f.a4*g.a1) + 2251799813685248*((f.a2*g.a4+f.a3*g.a3+f.a4*g.a2) + 2251799813685248*((f.a3*g.a4+f.a4*g.a3) + 2251799813685248*(f.a4*g.a4)))) := by
    apply Int.ofNat.inj
    show ((val5 f * val5 g : Nat) : Int) = ((val5 (prd5 f g) + pN * _ : Nat) : Int)
    rw [Int.natCast_mul, Int.natCast_add, Int.natCast_mul]
    unfold val5 prd5
    simp only [Int.natCast_mul, Int.natCast_add, Int.cast_ofNat_Int]
    exact h
  rw [e, Nat.add_mul_mod_self_left]
theorem m104 {x y : Nat} (hx : x < 4503599627370496) (hy : y < 4503599627370496) : x * y < 20282409603651670423947251286016 := by
  have : x * y ≤ 4503599627370495 * 4503599627370495 := Nat.mul_le_mul (by omega) (by omega)
  omega
theorem m109 {x y : Nat} (hx : x < 4503599627370496) (hy : y < 4503599627370496) : x * (19 * y) < 385365782469381738054997774434304 := by
  have h := m104 hx hy
  have e : x * (19 * y) = 19 * (x * y) := by rw [Nat.mul_left_comm]
  omega
theorem prd5_ok (f g : F5) (hf : T5 f) (hg : T5 g) : Ok5 1926828912346908690274988872171520 (prd5 f g) := by
  obtain ⟨h0, h1, h2, h3, h4⟩ := hf
  obtain ⟨g0, g1, g2, g3, g4⟩ := hg
  unfold prd5
  refine ⟨?_, ?_, ?_, ?_, ?_⟩
  · simp only
    have := m104 h0 g0; have := m109 h1 g4; have := m109 h2 g3; have := m109 h3 g2; have := m109 h4 g1; omega
  · simp only
    have := m104 h0 g1; have := m104 h1 g0; have := m109 h2 g4; have := m109 h3 g3; have := m109 h4 g2; omega
  · simp only
    have := m104 h0 g2; have := m104 h1 g1; have := m104 h2 g0; have := m109 h3 g4; have := m109 h4 g3; omega
  · simp only
    have := m104 h0 g3; have := m104 h1 g2; have := m104 h2 g1; have := m104 h3 g0; have := m109 h4 g4; omega
  · simp only
    have := m104 h0 g4; have := m104 h1 g3; have := m104 h2 g2; have := m104 h3 g1; have := m104 h4 g0; omega
theorem prd5_top (f g : F5) (hf : T5 f) (hg : T5 g) : (prd5 f g).a4 < 101412048018258352119736256430080 := by
  obtain ⟨h0, h1, h2, h3, h4⟩ := hf
  obtain ⟨g0, g1, g2, g3, g4⟩ := hg
  unfold prd5
  simp only
  have := m104 h0 g4; have := m104 h1 g3; have := m104 h2 g2; have := m104 h3 g1; have := m104 h4 g0; omega
def mul5 (f g : F5) : F5 := car5 (car5 (prd5 f g))
theorem car5_prd (f g : F5) (hf : T5 f) (hg : T5 g) : Ok5 1152921504606846976 (car5 (prd5 f g)) := by
  have h := prd5_ok f g hf hg
  have ht := prd5_top f g hf hg
  obtain ⟨p, hp⟩ : ∃ p, p = prd5 f g := ⟨_, rfl⟩
  rw [← hp] at h ht ⊢
  obtain ⟨h0, h1, h2, h3, h4⟩ := h
  unfold car5
  refine ⟨?_, ?_, ?_, ?_, ?_⟩ <;> (simp only; omega)
theorem mul5_t (f g : F5) (hf : T5 f) (hg : T5 g) : T5 (mul5 f g) := car5_t _ ((car5_prd f g hf hg).mono (by decide))
theorem mul5_mod (f g : F5) : val5 (mul5 f g) % pN = val5 f * val5 g % pN := by
  unfold mul5; rw [car5_mod, car5_mod, prd5_mod]
def car6 (f : F5) : F5 := car5 (car5 (car5 (car5 (car5 (car5 f)))))
theorem car6_mod (f : F5) : val5 (car6 f) % pN = val5 f % pN := by
  unfold car6; rw [car5_mod, car5_mod, car5_mod, car5_mod, car5_mod, car5_mod]
theorem carry_back {x z y c : Nat} (hy : y = x % 2251799813685248 + c * (z / 2251799813685248)) (h : 2251799813685248 ≤ y) : 2251799813685248 ≤ z := by
  rcases Nat.lt_or_ge z 2251799813685248 with h1 | h1
  · rw [Nat.div_eq_of_lt h1, Nat.mul_zero] at hy
    have := Nat.mod_lt x (show 0 < 2251799813685248 by decide)
    omega
  · exact h1
structure Near (B : Nat) (f : F5) : Prop where
  b0 : f.a0 ≤ B
  b1 : f.a1 ≤ B
  b2 : f.a2 ≤ B
  b3 : f.a3 ≤ B
  b4 : f.a4 ≤ B
theorem car5_near {f : F5} (h : T5 f) : Near 2251799813685266 (car5 f) := by
  obtain ⟨h0, h1, h2, h3, h4⟩ := h
  unfold car5
  refine ⟨?_, ?_, ?_, ?_, ?_⟩ <;> (simp only; omega)
theorem digit_sinks {x1 x2 x3 x4 x5 x6 z1 z2 z3 z4 z5 c : Nat} (hc : c ≤ 19) (h : 2251799813685248 ≤ x1) (hn : x1 ≤ 2251799813685266)
    (n1 : z1 ≤ 2251799813685266) (n2 : z2 ≤ 2251799813685266) (n3 : z3 ≤ 2251799813685266) (n4 : z4 ≤ 2251799813685266) (n5 : z5 ≤ 2251799813685266)
    (e2 : x2 = x1 % 2251799813685248 + c * (z1 / 2251799813685248)) (e3 : x3 = x2 % 2251799813685248 + c * (z2 / 2251799813685248)) (e4 : x4 = x3 % 2251799813685248 + c * (z3 / 2251799813685248))
    (e5 : x5 = x4 % 2251799813685248 + c * (z4 / 2251799813685248)) (e6 : x6 = x5 % 2251799813685248 + c * (z5 / 2251799813685248)) : x6 < 2251799813685248 := by
  have k : ∀ z, z ≤ 2251799813685266 → c * (z / 2251799813685248) ≤ 19 := fun z hz => by
    have : z / 2251799813685248 ≤ 1 := by omega
    have := Nat.mul_le_mul hc this
    omega
  have := k z1 n1; have := k z2 n2; have := k z3 n3; have := k z4 n4; have := k z5 n5
  omega
theorem near_t {f : F5} (h : Near 2251799813685266 f) : T5 f :=
  ⟨Nat.lt_of_le_of_lt h.b0 (by decide), Nat.lt_of_le_of_lt h.b1 (by decide), Nat.lt_of_le_of_lt h.b2 (by decide), Nat.lt_of_le_of_lt h.b3 (by decide), Nat.lt_of_le_of_lt h.b4 (by decide)⟩
theorem car6_ok (f : F5) (h : T5 f) : Ok5 2251799813685248 (car6 f) := by
  unfold car6
  have k1 := car5_near h
  obtain ⟨s1, e1⟩ : ∃ s, s = car5 f := ⟨_, rfl⟩
  rw [← e1] at k1 ⊢
  have k2 := car5_near (near_t k1)
  obtain ⟨s2, e2⟩ : ∃ s, s = car5 s1 := ⟨_, rfl⟩
  rw [← e2] at k2 ⊢
  have k3 := car5_near (near_t k2)
  obtain ⟨s3, e3⟩ : ∃ s, s = car5 s2 := ⟨_, rfl⟩
  rw [← e3] at k3 ⊢
  have k4 := car5_near (near_t k3)
  obtain ⟨s4, e4⟩ : ∃ s, s = car5 s3 := ⟨_, rfl⟩
  rw [← e4] at k4 ⊢
  have k5 := car5_near (near_t k4)
  obtain ⟨s5, e5⟩ : ∃ s, s = car5 s4 := ⟨_, rfl⟩
  rw [← e5] at k5 ⊢
  obtain ⟨s6, e6⟩ : ∃ s, s = car5 s5 := ⟨_, rfl⟩
  rw [← e6]
  have d0 : ∀ s t : F5, t = car5 s → t.a0 = s.a0 % 2251799813685248 + 19 * (s.a4 / 2251799813685248) := fun s t e => by rw [e]; rfl
  have d1 : ∀ s t : F5, t = car5 s → t.a1 = s.a1 % 2251799813685248 + 1 * (s.a0 / 2251799813685248) := fun s t e => by rw [e, Nat.one_mul]; rfl
  have d2 : ∀ s t : F5, t = car5 s → t.a2 = s.a2 % 2251799813685248 + 1 * (s.a1 / 2251799813685248) := fun s t e => by rw [e, Nat.one_mul]; rfl
  have d3 : ∀ s t : F5, t = car5 s → t.a3 = s.a3 % 2251799813685248 + 1 * (s.a2 / 2251799813685248) := fun s t e => by rw [e, Nat.one_mul]; rfl
  have d4 : ∀ s t : F5, t = car5 s → t.a4 = s.a4 % 2251799813685248 + 1 * (s.a3 / 2251799813685248) := fun s t e => by rw [e, Nat.one_mul]; rfl
  refine ⟨?_, ?_, ?_, ?_, ?_⟩
  · rcases Nat.lt_or_ge s6.a0 2251799813685248 with g | g
    · exact g
    · have g5 := carry_back (d0 _ _ e6) g
      have g4 := carry_back (d4 _ _ e5) g5
      have g3 := carry_back (d3 _ _ e4) g4
      have g2 := carry_back (d2 _ _ e3) g3
      have g1 := carry_back (d1 _ _ e2) g2
      exact digit_sinks (by decide) g1 k1.b0 k1.b4 k2.b4 k3.b4 k4.b4 k5.b4 (d0 _ _ e2) (d0 _ _ e3) (d0 _ _ e4) (d0 _ _ e5) (d0 _ _ e6)
  · rcases Nat.lt_or_ge s6.a1 2251799813685248 with g | g
    · exact g
    · have g5 := carry_back (d1 _ _ e6) g
      have g4 := carry_back (d0 _ _ e5) g5
      have g3 := carry_back (d4 _ _ e4) g4
      have g2 := carry_back (d3 _ _ e3) g3
      have g1 := carry_back (d2 _ _ e2) g2
      exact digit_sinks (by decide) g1 k1.b1 k1.b0 k2.b0 k3.b0 k4.b0 k5.b0 (d1 _ _ e2) (d1 _ _ e3) (d1 _ _ e4) (d1 _ _ e5) (d1 _ _ e6)
  · rcases Nat.lt_or_ge s6.a2 2251799813685248 with g | g
    · exact g
    · have g5 := carry_back (d2 _ _ e6) g
      have g4 := carry_back (d1 _ _ e5) g5
      have g3 := carry_back (d0 _ _ e4) g4
      have g2 := carry_back (d4 _ _ e3) g3
      have g1 := carry_back (d3 _ _ e2) g2
      exact digit_sinks (by decide) g1 k1.b2 k1.b1 k2.b1 k3.b1 k4.b1 k5.b1 (d2 _ _ e2) (d2 _ _ e3) (d2 _ _ e4) (d2 _ _ e5) (d2 _ _ e6)
  · rcases Nat.lt_or_ge s6.a3 2251799813685248 with g | g
    · exact g
    · have g5 := carry_back (d3 _ _ e6) g
      have g4 := carry_back (d2 _ _ e5) g5
      have g3 := carry_back (d1 _ _ e4) g4
      have g2 := carry_back (d0 _ _ e3) g3
      have g1 := carry_back (d4 _ _ e2) g2
      exact digit_sinks (by decide) g1 k1.b3 k1.b2 k2.b2 k3.b2 k4.b2 k5.b2 (d3 _ _ e2) (d3 _ _ e3) (d3 _ _ e4) (d3 _ _ e5) (d3 _ _ e6)
  · rcases Nat.lt_or_ge s6.a4 2251799813685248 with g | g
    · exact g
    · have g5 := carry_back (d4 _ _ e6) g
      have g4 := carry_back (d3 _ _ e5) g5
      have g3 := carry_back (d2 _ _ e4) g4
      have g2 := carry_back (d1 _ _ e3) g3
      have g1 := carry_back (d0 _ _ e2) g2
      exact digit_sinks (by decide) g1 k1.b4 k1.b3 k2.b3 k3.b3 k4.b3 k5.b3 (d4 _ _ e2) (d4 _ _ e3) (d4 _ _ e4) (d4 _ _ e5) (d4 _ _ e6)
end Go.Proofs.Ytejnnghfelpioaa
namespace Go.Proofs.Ytejnnghfelpioaa
open Go.RowKit
theorem u5 : Try.prog.underlying 64 = some (.array 5 23) := by kernel_rfl
theorem i5 (f : F5) : (Try.prog.info? 64).map (·.size) = some (cells5 f).size := by kernel_rfl
theorem z5 : (Try.prog.info? 64).bind (·.zero) = some (.agg (cells5 zero5)) := by kernel_rfl
theorem one_cells5 (f : F5) : (cells5 f).all (·.oneCell') = true := by simp [cells5, Value.oneCell']
theorem o64 : oneT Try.prog 23 = true := by kernel_rfl
theorem g5 : aggT Try.prog 64 = true := by kernel_rfl
theorem gWd : aggT Try.prog 25 = true := by kernel_rfl
theorem lowA (x : Nat) (hx : x < 2 ^ 64) : bits .and .u64 (x : Int) 2251799813685247 = ((x % 2251799813685248 : Nat) : Int) := by
  rw [show (2251799813685247 : Int) = ((2 ^ 51 - 1 : Nat) : Int) from rfl, u64_and_nat _ _ hx (by decide), Nat.and_two_pow_sub_one_eq_mod]
set_option maxHeartbeats 1000000 in
theorem car5_any (f : F5) (w : World) (hf : Ok5 18446744073709551616 f) : Calls Try.prog 58 #[fe f] w fun e w' => e = .returned (fe (car5 f)) ∧ Below w.heap.size w w' := by
  obtain ⟨h0, h1, h2, h3, h4⟩ := hf
  obtain ⟨a0, a1, a2, a3, a4⟩ := f
  simp only at h0 h1 h2 h3 h4
  have e0 := lowA a0 h0
  have e1 := lowA a1 h1
  have e2 := lowA a2 h2
  have e3 := lowA a3 h3
  have e4 := lowA a4 h4
  unfold fe cells5
  go_enter Try.func58, Try.ntmps58
  go_wp2
  refine bodyPost_ret (results_cell_row rfl _ _ (w.heap.size + 1) 64 (cells5 (car5 ⟨a0, a1, a2, a3, a4⟩)) (0, 0) _ rfl (heap_new_at _ _ _ (by simp only [World.size_alloc])) u5 rfl (i5 _)) rfl ⟨rfl, (by repeat (first | (with_reducible first | exact Below.refl _ _ | assumption | refine World.ext_below_of ?_ ?_ _ | refine Below.setCell ?_ ?_ _ | refine Below.alloc ?_ ?_ _ | refine Below.drew ?_ | refine World.size_le_ext _ _ _ ?_) | (solve | simp [go_sem] | (simp [go_sem]; omega) | omega)))⟩
set_option maxHeartbeats 1000000 in
theorem add5_any (f g : F5) (w : World) (hf : T5 f) (hg : T5 g) : Calls Try.prog 71 #[fe f, fe g] w fun e w' => e = .returned (fe (add5 f g)) ∧ Below w.heap.size w w' := by
  obtain ⟨h0, h1, h2, h3, h4⟩ := hf
  obtain ⟨g0, g1, g2, g3, g4⟩ := hg
  obtain ⟨a0, a1, a2, a3, a4⟩ := f
  obtain ⟨b0, b1, b2, b3, b4⟩ := g
  simp only at h0 h1 h2 h3 h4 g0 g1 g2 g3 g4
  have hC := hid fun w => car5_any ⟨a0 + b0, a1 + b1, a2 + b2, a3 + b3, a4 + b4⟩ w ⟨by simp only; omega, by simp only; omega, by simp only; omega, by simp only; omega, by simp only; omega⟩
  have hr := hid (show add5 ⟨a0, a1, a2, a3, a4⟩ ⟨b0, b1, b2, b3, b4⟩ = car5 ⟨a0 + b0, a1 + b1, a2 + b2, a3 + b3, a4 + b4⟩ from rfl)
  rw [hr.out]
  obtain ⟨r, hrr⟩ : ∃ r, r = car5 ⟨a0 + b0, a1 + b1, a2 + b2, a3 + b3, a4 + b4⟩ := ⟨_, rfl⟩
  rw [← hrr] at hC ⊢
  clear hrr hr
  have hR := hid (Blk.new 64 ((w.alloc (.cells (cells5 ⟨a0, a1, a2, a3, a4⟩) 64)).alloc (.cells (cells5 ⟨b0, b1, b2, b3, b4⟩) 64)) (cells5 zero5))
  rw [World.size_alloc, World.size_alloc] at hR
  have hb0 : Below w.heap.size w (((w.alloc (.cells (cells5 ⟨a0, a1, a2, a3, a4⟩) 64)).alloc (.cells (cells5 ⟨b0, b1, b2, b3, b4⟩) 64)).alloc (.cells (cells5 zero5) 64)) := (((Below.refl _ _).alloc (Nat.le_refl _) _).alloc (by simp) _).alloc (by simp; omega) _
  unfold fe cells5 at *
  go_enter Try.func71, Try.ntmps71
  go_wp2_with fail
  refine (hC.out _).mono ?_
  rintro e w' ⟨rfl, hb⟩
  have hR2 := hid (hR.out.step hb)
  have hb2 := hb0.trans (hb.mono hb0.size)
  clear hR hb hb0
  go_wp2_with (refine wpList_store_row rfl 64 (.tmp 4) (.tmp 31) rfl (w.heap.size + 1 + 1) _ rfl rfl 64 _ hR2.out (i5 _) rfl (one_cells5 _) ?_; simp only [Act.put])
  refine bodyPost_ret (results_cell_row rfl _ _ (w.heap.size + 1 + 1) 64 (cells5 r) (0, 0) _ rfl (heap_setRow' _ _ _ _ _ hR2.out) u5 rfl (i5 _)) rfl ⟨rfl, below_setRow' hb2 _ (by omega) _⟩
set_option maxHeartbeats 1000000 in
theorem sub5_any (f g : F5) (w : World) (hf : T5 f) (hg : T5 g) : Calls Try.prog 72 #[fe f, fe g] w fun e w' => e = .returned (fe (sub5 f g)) ∧ Below w.heap.size w w' := by
  obtain ⟨h0, h1, h2, h3, h4⟩ := hf
  obtain ⟨g0, g1, g2, g3, g4⟩ := hg
  obtain ⟨a0, a1, a2, a3, a4⟩ := f
  obtain ⟨b0, b1, b2, b3, b4⟩ := g
  simp only at h0 h1 h2 h3 h4 g0 g1 g2 g3 g4
  have hC := hid fun w => car5_any ⟨a0 + 9007199254740916 - b0, a1 + 9007199254740988 - b1, a2 + 9007199254740988 - b2, a3 + 9007199254740988 - b3, a4 + 9007199254740988 - b4⟩ w ⟨by simp only; omega, by simp only; omega, by simp only; omega, by simp only; omega, by simp only; omega⟩
  have hr := hid (show sub5 ⟨a0, a1, a2, a3, a4⟩ ⟨b0, b1, b2, b3, b4⟩ = car5 ⟨a0 + 9007199254740916 - b0, a1 + 9007199254740988 - b1, a2 + 9007199254740988 - b2, a3 + 9007199254740988 - b3, a4 + 9007199254740988 - b4⟩ from rfl)
  rw [hr.out]
  obtain ⟨r, hrr⟩ : ∃ r, r = car5 ⟨a0 + 9007199254740916 - b0, a1 + 9007199254740988 - b1, a2 + 9007199254740988 - b2, a3 + 9007199254740988 - b3, a4 + 9007199254740988 - b4⟩ := ⟨_, rfl⟩
  rw [← hrr] at hC ⊢
  clear hrr hr
  have e0 : (a0 : Int) + 9007199254740916 - (b0 : Int) = ((a0 + 9007199254740916 - b0 : Nat) : Int) := by omega
  have e1 : (a1 : Int) + 9007199254740988 - (b1 : Int) = ((a1 + 9007199254740988 - b1 : Nat) : Int) := by omega
  have e2 : (a2 : Int) + 9007199254740988 - (b2 : Int) = ((a2 + 9007199254740988 - b2 : Nat) : Int) := by omega
  have e3 : (a3 : Int) + 9007199254740988 - (b3 : Int) = ((a3 + 9007199254740988 - b3 : Nat) : Int) := by omega
  have e4 : (a4 : Int) + 9007199254740988 - (b4 : Int) = ((a4 + 9007199254740988 - b4 : Nat) : Int) := by omega
  have hR := hid (Blk.new 64 ((w.alloc (.cells (cells5 ⟨a0, a1, a2, a3, a4⟩) 64)).alloc (.cells (cells5 ⟨b0, b1, b2, b3, b4⟩) 64)) (cells5 zero5))
  rw [World.size_alloc, World.size_alloc] at hR
  have hb0 : Below w.heap.size w (((w.alloc (.cells (cells5 ⟨a0, a1, a2, a3, a4⟩) 64)).alloc (.cells (cells5 ⟨b0, b1, b2, b3, b4⟩) 64)).alloc (.cells (cells5 zero5) 64)) := (((Below.refl _ _).alloc (Nat.le_refl _) _).alloc (by simp) _).alloc (by simp; omega) _
  unfold fe cells5 at *
  go_enter Try.func72, Try.ntmps72
  go_wp2_with fail
  refine (hC.out _).mono ?_
  rintro e w' ⟨rfl, hb⟩
  have hR2 := hid (hR.out.step hb)
  have hb2 := hb0.trans (hb.mono hb0.size)
  clear hR hb hb0
  go_wp2_with (refine wpList_store_row rfl 64 (.tmp 4) (.tmp 36) rfl (w.heap.size + 1 + 1) _ rfl rfl 64 _ hR2.out (i5 _) rfl (one_cells5 _) ?_; simp only [Act.put])
  refine bodyPost_ret (results_cell_row rfl _ _ (w.heap.size + 1 + 1) 64 (cells5 r) (0, 0) _ rfl (heap_setRow' _ _ _ _ _ hR2.out) u5 rfl (i5 _)) rfl ⟨rfl, below_setRow' hb2 _ (by omega) _⟩
theorem shr_or (x y A B r : Nat) (hB : B = 2 ^ r) (hr : r ≤ 64) (hA : 0 < A) (hx : x / A < B) (hx64 : x < 2 ^ 64) : bits .or .u64 ((x : Int) / (A : Int)) (IntKind.u64.wrap ((y : Int) * (B : Int))) = ((x / A + y * B % 2 ^ 64 : Nat) : Int) := by
  have e1 : IntKind.u64.wrap ((y : Int) * (B : Int)) = ((y * B % 2 ^ 64 : Nat) : Int) := by
    rw [← Int.natCast_mul, IntKind.wrap_u64]; omega
  have e2 : y * B % 2 ^ 64 = y % 2 ^ (64 - r) * 2 ^ r := by
    rw [hB, show (2 : Nat) ^ 64 = 2 ^ (64 - r) * 2 ^ r by rw [← Nat.pow_add]; congr 1; omega, Nat.mul_mod_mul_right]
  have h3 : y * B % 2 ^ 64 < 2 ^ 64 := Nat.mod_lt _ (by decide)
  rw [e1, ← Int.natCast_ediv, u64_or_nat _ _ (Nat.lt_of_le_of_lt (Nat.div_le_self _ _) hx64) h3, e2, or_add _ _ _ (by rw [← hB]; exact hx)]
def fOf (x : Nat) : F5 := ⟨x % 2251799813685248, x / 2251799813685248 % 2251799813685248, x / 5070602400912917605986812821504 % 2251799813685248, x / 11417981541647679048466287755595961091061972992 % 2251799813685248, x / 25711008708143844408671393477458601640355247900524685364822016⟩
theorem fOf_val (x : Nat) : val5 (fOf x) = x := by unfold val5 fOf; simp only; omega
theorem fOf_t (x : Nat) (hx : x < 2 ^ 256) : T5 (fOf x) := ⟨by unfold fOf; simp only; omega, by unfold fOf; simp only; omega, by unfold fOf; simp only; omega, by unfold fOf; simp only; omega, by unfold fOf; simp only; omega⟩
set_option maxHeartbeats 1000000 in
theorem feOf_any (x : Nat) (w : World) (hx : x < 2 ^ 256) : Calls Try.prog 28 #[wd x] w fun e w' => e = .returned (fe (fOf x)) ∧ Below w.heap.size w w' := by
  have g0 := lmN_lt x 0
  have g1 := lmN_lt x 1
  have g2 := lmN_lt x 2
  have g3 := lmN_lt x 3
  have hs := limbs_sum x hx
  unfold wd cellsW lm
  generalize lmN x 0 = x0 at *
  generalize lmN x 1 = x1 at *
  generalize lmN x 2 = x2 at *
  generalize lmN x 3 = x3 at *
  have e0 := lowA x0 g0
  have o1 : bits .or .u64 ((x0 : Int) / 2251799813685248) (IntKind.u64.wrap ((x1 : Int) * 8192)) = _ := shr_or x0 x1 2251799813685248 8192 13 rfl (by decide) (by decide) (by omega) g0
  have o2 : bits .or .u64 ((x1 : Int) / 274877906944) (IntKind.u64.wrap ((x2 : Int) * 67108864)) = _ := shr_or x1 x2 274877906944 67108864 26 rfl (by decide) (by decide) (by omega) g1
  have o3 : bits .or .u64 ((x2 : Int) / 33554432) (IntKind.u64.wrap ((x3 : Int) * 549755813888)) = _ := shr_or x2 x3 33554432 549755813888 39 rfl (by decide) (by decide) (by omega) g2
  have l1 := lowA (x0 / 2251799813685248 + x1 * 8192 % 2 ^ 64) (by omega)
  have l2 := lowA (x1 / 274877906944 + x2 * 67108864 % 2 ^ 64) (by omega)
  have l3 := lowA (x2 / 33554432 + x3 * 549755813888 % 2 ^ 64) (by omega)
  rw [← o1] at l1
  rw [← o2] at l2
  rw [← o3] at l3
  rw [show x0 % 2251799813685248 = (fOf x).a0 by unfold fOf; simp only; omega] at e0
  rw [show (x0 / 2251799813685248 + x1 * 8192 % 2 ^ 64) % 2251799813685248 = (fOf x).a1 by unfold fOf; simp only; omega] at l1
  rw [show (x1 / 274877906944 + x2 * 67108864 % 2 ^ 64) % 2251799813685248 = (fOf x).a2 by unfold fOf; simp only; omega] at l2
  rw [show (x2 / 33554432 + x3 * 549755813888 % 2 ^ 64) % 2251799813685248 = (fOf x).a3 by unfold fOf; simp only; omega] at l3
  have l4 : (x3 : Int) / 4096 = ((fOf x).a4 : Int) := by
    have : x3 / 4096 = (fOf x).a4 := by unfold fOf; simp only; omega
    rw [← this]; rfl
  clear o1 o2 o3 hs hx
  generalize fOf x = f at *
  go_enter Try.func28, Try.ntmps28
  go_wp2
  refine bodyPost_ret (results_cell_row rfl _ _ (w.heap.size + 1) 64 (cells5 f) (0, 0) _ rfl (heap_new_at _ _ _ (by simp only [World.size_alloc])) u5 rfl (i5 _)) rfl ⟨rfl, (by repeat (first | (with_reducible first | exact Below.refl _ _ | assumption | refine World.ext_below_of ?_ ?_ _ | refine Below.setCell ?_ ?_ _ | refine Below.alloc ?_ ?_ _ | refine Below.drew ?_ | refine World.size_le_ext _ _ _ ?_) | (solve | simp [go_sem] | (simp [go_sem]; omega) | omega)))⟩
end Go.Proofs.Ytejnnghfelpioaa
namespace Go.Proofs.Ytejnnghfelpioaa
open Go.RowKit
def cells2 (s : Nat) : Array Value := #[.int .u64 ((s / 2 ^ 64 : Nat) : Int), .int .u64 ((s % 2 ^ 64 : Nat) : Int)]
def w128 (s : Nat) : Value := .agg (cells2 s)
theorem g2 : aggT Try.prog 91 = true := by kernel_rfl
theorem i2 (s : Nat) : (Try.prog.info? 91).map (·.size) = some (cells2 s).size := by kernel_rfl
theorem z2 : (Try.prog.info? 91).bind (·.zero) = some (.agg (cells2 0)) := by kernel_rfl
theorem one_cells2 (s : Nat) : (cells2 s).all (·.oneCell') = true := by simp [cells2, Value.oneCell']
theorem one_two (a b : Int) : (#[.int .u64 a, .int .u64 b] : Array Value).all (·.oneCell') = true := by simp [Value.oneCell']
theorem b2_zero : Try.prog.built 91 [] = some (cells2 0) := by kernel_rfl
set_option maxHeartbeats 1000000 in
theorem w128add_any (s a b : Nat) (w : World) (ha : a < 2 ^ 64) (hb : b < 2 ^ 64) (hs : s + a * b < 2 ^ 128) : Calls Try.prog 56 #[w128 s, .int .u64 (a : Int), .int .u64 (b : Int)] w fun e w' => e = .returned (w128 (s + a * b)) ∧ Below w.heap.size w w' := by
  obtain ⟨mh, ml, m1, m2, m3, m4⟩ := mul64_nat a b ha hb
  obtain ⟨u1, v1, p1, p2, p3, p4⟩ := add64_nat0 ml (s % 2 ^ 64) m2 (Nat.mod_lt _ (by decide))
  obtain ⟨u2, v2, r1, r2, r3, r4⟩ := add64_nat mh (s / 2 ^ 64) v1 m1 (by omega) p2
  have hr := hid (show cells2 (s + a * b) = #[.int .u64 (u2 : Int), .int .u64 (u1 : Int)] by
    have h1 : (s + a * b) / 2 ^ 64 = u2 := by omega
    have h2 : (s + a * b) % 2 ^ 64 = u1 := by omega
    unfold cells2; rw [h1, h2])
  have M4 := hid m4
  unfold w128
  rw [hr.out]
  have hA := hid (show Blk 91 ((w.alloc (.cells (cells2 s) 91)).alloc (.cells (cells2 0) 91)) w.heap.size (cells2 s) from (Blk.new _ w _).alloc _)
  have hR := hid (Blk.new 91 (w.alloc (.cells (cells2 s) 91)) (cells2 0))
  rw [World.size_alloc] at hR
  have hb0 : Below w.heap.size w ((w.alloc (.cells (cells2 s) 91)).alloc (.cells (cells2 0) 91)) := ((Below.refl _ _).alloc (Nat.le_refl _) _).alloc (by simp) _
  clear m3 p3 r3 hs hr m4
  go_enter Try.func56, Try.ntmps56
  go_wp2_with fail
  refine (M4.out _).mono ?_
  rintro e w2 ⟨rfl, hb2⟩
  have hA2 := hid (hA.out.step hb2)
  have hR2 := hid (hR.out.step hb2)
  have hb3 := hb0.trans (hb2.mono hb0.size)
  have c0 := hA2.out.cell 0 (.int .u64 ((s / 2 ^ 64 : Nat) : Int)) rfl
  have c1 := hA2.out.cell 1 (.int .u64 ((s % 2 ^ 64 : Nat) : Int)) rfl
  have lA := hA2.out.lt
  have lR := hR2.out.lt
  clear hA hR hb0 hb2 M4
  obtain ⟨sh, hsh⟩ : ∃ sh, sh = s / 2 ^ 64 := ⟨_, rfl⟩
  obtain ⟨sl, hsl⟩ : ∃ sl, sl = s % 2 ^ 64 := ⟨_, rfl⟩
  rw [← hsh] at c0 r4
  rw [← hsl] at c1 p4
  clear hsh hsl
  go_wp2_with (refine wpList_set 91 (.tmp 6) (.tmp 33) rfl rfl rfl (w.heap.size + 1) #[.int .u64 (u2 : Int), .int .u64 (u1 : Int)] rfl rfl 91 (cells2 0) hR2.out (i2 0) rfl (one_two _ _) ?_)
  refine ret_blk (w.heap.size + 1) 91 #[.int .u64 (u2 : Int), .int .u64 (u1 : Int)] rfl rfl (hR2.out.set _) g2 (i2 0) rfl ?_
  exact ⟨rfl, below_set hb3 _ (by omega) _⟩
set_option maxHeartbeats 1000000 in
theorem above_any (s : Nat) (w : World) (hs : s < 2 ^ 112) : Calls Try.prog 57 #[w128 s] w fun e w' => e = .returned (.int .u64 ((s / 2251799813685248 : Nat) : Int)) ∧ Below w.heap.size w w' := by
  have e1 : IntKind.u64.wrap (((s / 2 ^ 64 : Nat) : Int) * 8192) = ((s / 2 ^ 64 * 8192 : Nat) : Int) := by
    rw [IntKind.wrap_u64]; omega
  have e2 : bits .or .u64 ((s / 2 ^ 64 * 8192 : Nat) : Int) (((s % 2 ^ 64 : Nat) : Int) / 2251799813685248) = ((s / 2251799813685248 : Nat) : Int) := by
    rw [show (((s % 2 ^ 64 : Nat) : Int) / 2251799813685248) = ((s % 2 ^ 64 / 2251799813685248 : Nat) : Int) from rfl, u64_or_nat _ _ (by omega) (by omega), Nat.or_comm,
      show s / 2 ^ 64 * 8192 = s / 2 ^ 64 * 2 ^ 13 from rfl, or_add _ _ _ (by omega)]
    congr 1; omega
  unfold w128 cells2
  rw [← e1] at e2
  obtain ⟨r, hr⟩ : ∃ r, r = s / 2251799813685248 := ⟨_, rfl⟩
  rw [← hr] at e2 ⊢
  obtain ⟨sh, hsh⟩ : ∃ sh, sh = s / 2 ^ 64 := ⟨_, rfl⟩
  obtain ⟨sl, hsl⟩ : ∃ sl, sl = s % 2 ^ 64 := ⟨_, rfl⟩
  have b1 : sh < 2 ^ 64 := by omega
  have b2 : sl < 2 ^ 64 := by omega
  rw [← hsh, ← hsl] at e2 ⊢
  clear hsh hsl e1 hr hs
  go_enter Try.func57, Try.ntmps57
  go_wp2
  go_ret
  exact ⟨rfl, (by repeat (first | (with_reducible first | exact Below.refl _ _ | assumption | refine World.ext_below_of ?_ ?_ _ | refine Below.setCell ?_ ?_ _ | refine Below.alloc ?_ ?_ _ | refine Below.drew ?_ | refine World.size_le_ext _ _ _ ?_) | (solve | simp [go_sem] | (simp [go_sem]; omega) | omega)))⟩
end Go.Proofs.Ytejnnghfelpioaa
namespace Go.Proofs.Ytejnnghfelpioaa
open Go.RowKit
theorem lowS (s : Nat) : bits .and .u64 ((s % 2 ^ 64 : Nat) : Int) 2251799813685247 = ((s % 2251799813685248 : Nat) : Int) := by
  rw [lowA _ (Nat.mod_lt _ (by decide))]; congr 1; omega
set_option maxRecDepth 100000 in
set_option maxHeartbeats 20000000 in
theorem mul5_any (f g : F5) (w : World) (hf : T5 f) (hg : T5 g) : Calls Try.prog 29 #[fe f, fe g] w fun e w' => e = .returned (fe (mul5 f g)) ∧ Below w.heap.size w w' := by
  have hprd := prd5_ok f g hf hg
  have hcok := car5_prd f g hf hg
  obtain ⟨h0, h1, h2, h3, h4⟩ := hf
  obtain ⟨y0, y1, y2, y3, y4⟩ := hg
  obtain ⟨a0, a1, a2, a3, a4⟩ := f
  obtain ⟨b0, b1, b2, b3, b4⟩ := g
  simp only at h0 h1 h2 h3 h4 y0 y1 y2 y3 y4
  have m00 := m104 h0 y0
  have m01 := m109 h1 y4
  have m02 := m109 h2 y3
  have m03 := m109 h3 y2
  have m04 := m109 h4 y1
  obtain ⟨s00, es00⟩ : ∃ s, s = 0 + a0 * b0 := ⟨_, rfl⟩
  have c00 := hid (show ∀ w, Calls Try.prog 56 #[w128 0, .int .u64 (a0 : Int), .int .u64 (b0 : Int)] w fun e w' => e = .returned (w128 s00) ∧ Below w.heap.size w w' from fun w => by rw [es00]; exact w128add_any 0 a0 b0 w (by omega) (by omega) (by omega))
  obtain ⟨s01, es01⟩ : ∃ s, s = s00 + a1 * (19 * b4) := ⟨_, rfl⟩
  have c01 := hid (show ∀ w, Calls Try.prog 56 #[w128 s00, .int .u64 (a1 : Int), .int .u64 (19 * (b4 : Int))] w fun e w' => e = .returned (w128 s01) ∧ Below w.heap.size w w' from fun w => by rw [es01]; exact w128add_any s00 a1 (19 * b4) w (by omega) (by omega) (by omega))
  obtain ⟨s02, es02⟩ : ∃ s, s = s01 + a2 * (19 * b3) := ⟨_, rfl⟩
  have c02 := hid (show ∀ w, Calls Try.prog 56 #[w128 s01, .int .u64 (a2 : Int), .int .u64 (19 * (b3 : Int))] w fun e w' => e = .returned (w128 s02) ∧ Below w.heap.size w w' from fun w => by rw [es02]; exact w128add_any s01 a2 (19 * b3) w (by omega) (by omega) (by omega))
  obtain ⟨s03, es03⟩ : ∃ s, s = s02 + a3 * (19 * b2) := ⟨_, rfl⟩
  have c03 := hid (show ∀ w, Calls Try.prog 56 #[w128 s02, .int .u64 (a3 : Int), .int .u64 (19 * (b2 : Int))] w fun e w' => e = .returned (w128 s03) ∧ Below w.heap.size w w' from fun w => by rw [es03]; exact w128add_any s02 a3 (19 * b2) w (by omega) (by omega) (by omega))
  obtain ⟨s04, es04⟩ : ∃ s, s = s03 + a4 * (19 * b1) := ⟨_, rfl⟩
  have c04 := hid (show ∀ w, Calls Try.prog 56 #[w128 s03, .int .u64 (a4 : Int), .int .u64 (19 * (b1 : Int))] w fun e w' => e = .returned (w128 s04) ∧ Below w.heap.size w w' from fun w => by rw [es04]; exact w128add_any s03 a4 (19 * b1) w (by omega) (by omega) (by omega))
  have m10 := m104 h0 y1
  have m11 := m104 h1 y0
  have m12 := m109 h2 y4
  have m13 := m109 h3 y3
  have m14 := m109 h4 y2
  obtain ⟨s10, es10⟩ : ∃ s, s = 0 + a0 * b1 := ⟨_, rfl⟩
  have c10 := hid (show ∀ w, Calls Try.prog 56 #[w128 0, .int .u64 (a0 : Int), .int .u64 (b1 : Int)] w fun e w' => e = .returned (w128 s10) ∧ Below w.heap.size w w' from fun w => by rw [es10]; exact w128add_any 0 a0 b1 w (by omega) (by omega) (by omega))
  obtain ⟨s11, es11⟩ : ∃ s, s = s10 + a1 * b0 := ⟨_, rfl⟩
  have c11 := hid (show ∀ w, Calls Try.prog 56 #[w128 s10, .int .u64 (a1 : Int), .int .u64 (b0 : Int)] w fun e w' => e = .returned (w128 s11) ∧ Below w.heap.size w w' from fun w => by rw [es11]; exact w128add_any s10 a1 b0 w (by omega) (by omega) (by omega))
  obtain ⟨s12, es12⟩ : ∃ s, s = s11 + a2 * (19 * b4) := ⟨_, rfl⟩
  have c12 := hid (show ∀ w, Calls Try.prog 56 #[w128 s11, .int .u64 (a2 : Int), .int .u64 (19 * (b4 : Int))] w fun e w' => e = .returned (w128 s12) ∧ Below w.heap.size w w' from fun w => by rw [es12]; exact w128add_any s11 a2 (19 * b4) w (by omega) (by omega) (by omega))
  obtain ⟨s13, es13⟩ : ∃ s, s = s12 + a3 * (19 * b3) := ⟨_, rfl⟩
  have c13 := hid (show ∀ w, Calls Try.prog 56 #[w128 s12, .int .u64 (a3 : Int), .int .u64 (19 * (b3 : Int))] w fun e w' => e = .returned (w128 s13) ∧ Below w.heap.size w w' from fun w => by rw [es13]; exact w128add_any s12 a3 (19 * b3) w (by omega) (by omega) (by omega))
  obtain ⟨s14, es14⟩ : ∃ s, s = s13 + a4 * (19 * b2) := ⟨_, rfl⟩
  have c14 := hid (show ∀ w, Calls Try.prog 56 #[w128 s13, .int .u64 (a4 : Int), .int .u64 (19 * (b2 : Int))] w fun e w' => e = .returned (w128 s14) ∧ Below w.heap.size w w' from fun w => by rw [es14]; exact w128add_any s13 a4 (19 * b2) w (by omega) (by omega) (by omega))
  have m20 := m104 h0 y2
  have m21 := m104 h1 y1
  have m22 := m104 h2 y0
  have m23 := m109 h3 y4
  have m24 := m109 h4 y3
  obtain ⟨s20, es20⟩ : ∃ s, s = 0 + a0 * b2 := ⟨_, rfl⟩
  have c20 := hid (show ∀ w, Calls Try.prog 56 #[w128 0, .int .u64 (a0 : Int), .int .u64 (b2 : Int)] w fun e w' => e = .returned (w128 s20) ∧ Below w.heap.size w w' from fun w => by rw [es20]; exact w128add_any 0 a0 b2 w (by omega) (by omega) (by omega))
  obtain ⟨s21, es21⟩ : ∃ s, s = s20 + a1 * b1 := ⟨_, rfl⟩
  have c21 := hid (show ∀ w, Calls Try.prog 56 #[w128 s20, .int .u64 (a1 : Int), .int .u64 (b1 : Int)] w fun e w' => e = .returned (w128 s21) ∧ Below w.heap.size w w' from fun w => by rw [es21]; exact w128add_any s20 a1 b1 w (by omega) (by omega) (by omega))
  obtain ⟨s22, es22⟩ : ∃ s, s = s21 + a2 * b0 := ⟨_, rfl⟩
  have c22 := hid (show ∀ w, Calls Try.prog 56 #[w128 s21, .int .u64 (a2 : Int), .int .u64 (b0 : Int)] w fun e w' => e = .returned (w128 s22) ∧ Below w.heap.size w w' from fun w => by rw [es22]; exact w128add_any s21 a2 b0 w (by omega) (by omega) (by omega))
  obtain ⟨s23, es23⟩ : ∃ s, s = s22 + a3 * (19 * b4) := ⟨_, rfl⟩
  have c23 := hid (show ∀ w, Calls Try.prog 56 #[w128 s22, .int .u64 (a3 : Int), .int .u64 (19 * (b4 : Int))] w fun e w' => e = .returned (w128 s23) ∧ Below w.heap.size w w' from fun w => by rw [es23]; exact w128add_any s22 a3 (19 * b4) w (by omega) (by omega) (by omega))
  obtain ⟨s24, es24⟩ : ∃ s, s = s23 + a4 * (19 * b3) := ⟨_, rfl⟩
  have c24 := hid (show ∀ w, Calls Try.prog 56 #[w128 s23, .int .u64 (a4 : Int), .int .u64 (19 * (b3 : Int))] w fun e w' => e = .returned (w128 s24) ∧ Below w.heap.size w w' from fun w => by rw [es24]; exact w128add_any s23 a4 (19 * b3) w (by omega) (by omega) (by omega))
  have m30 := m104 h0 y3
  have m31 := m104 h1 y2
  have m32 := m104 h2 y1
  have m33 := m104 h3 y0
  have m34 := m109 h4 y4
  obtain ⟨s30, es30⟩ : ∃ s, s = 0 + a0 * b3 := ⟨_, rfl⟩
  have c30 := hid (show ∀ w, Calls Try.prog 56 #[w128 0, .int .u64 (a0 : Int), .int .u64 (b3 : Int)] w fun e w' => e = .returned (w128 s30) ∧ Below w.heap.size w w' from fun w => by rw [es30]; exact w128add_any 0 a0 b3 w (by omega) (by omega) (by omega))
  obtain ⟨s31, es31⟩ : ∃ s, s = s30 + a1 * b2 := ⟨_, rfl⟩
  have c31 := hid (show ∀ w, Calls Try.prog 56 #[w128 s30, .int .u64 (a1 : Int), .int .u64 (b2 : Int)] w fun e w' => e = .returned (w128 s31) ∧ Below w.heap.size w w' from fun w => by rw [es31]; exact w128add_any s30 a1 b2 w (by omega) (by omega) (by omega))
  obtain ⟨s32, es32⟩ : ∃ s, s = s31 + a2 * b1 := ⟨_, rfl⟩
  have c32 := hid (show ∀ w, Calls Try.prog 56 #[w128 s31, .int .u64 (a2 : Int), .int .u64 (b1 : Int)] w fun e w' => e = .returned (w128 s32) ∧ Below w.heap.size w w' from fun w => by rw [es32]; exact w128add_any s31 a2 b1 w (by omega) (by omega) (by omega))
  obtain ⟨s33, es33⟩ : ∃ s, s = s32 + a3 * b0 := ⟨_, rfl⟩
  have c33 := hid (show ∀ w, Calls Try.prog 56 #[w128 s32, .int .u64 (a3 : Int), .int .u64 (b0 : Int)] w fun e w' => e = .returned (w128 s33) ∧ Below w.heap.size w w' from fun w => by rw [es33]; exact w128add_any s32 a3 b0 w (by omega) (by omega) (by omega))
  obtain ⟨s34, es34⟩ : ∃ s, s = s33 + a4 * (19 * b4) := ⟨_, rfl⟩
  have c34 := hid (show ∀ w, Calls Try.prog 56 #[w128 s33, .int .u64 (a4 : Int), .int .u64 (19 * (b4 : Int))] w fun e w' => e = .returned (w128 s34) ∧ Below w.heap.size w w' from fun w => by rw [es34]; exact w128add_any s33 a4 (19 * b4) w (by omega) (by omega) (by omega))
  have m40 := m104 h0 y4
  have m41 := m104 h1 y3
  have m42 := m104 h2 y2
  have m43 := m104 h3 y1
  have m44 := m104 h4 y0
  obtain ⟨s40, es40⟩ : ∃ s, s = 0 + a0 * b4 := ⟨_, rfl⟩
  have c40 := hid (show ∀ w, Calls Try.prog 56 #[w128 0, .int .u64 (a0 : Int), .int .u64 (b4 : Int)] w fun e w' => e = .returned (w128 s40) ∧ Below w.heap.size w w' from fun w => by rw [es40]; exact w128add_any 0 a0 b4 w (by omega) (by omega) (by omega))
  obtain ⟨s41, es41⟩ : ∃ s, s = s40 + a1 * b3 := ⟨_, rfl⟩
  have c41 := hid (show ∀ w, Calls Try.prog 56 #[w128 s40, .int .u64 (a1 : Int), .int .u64 (b3 : Int)] w fun e w' => e = .returned (w128 s41) ∧ Below w.heap.size w w' from fun w => by rw [es41]; exact w128add_any s40 a1 b3 w (by omega) (by omega) (by omega))
  obtain ⟨s42, es42⟩ : ∃ s, s = s41 + a2 * b2 := ⟨_, rfl⟩
  have c42 := hid (show ∀ w, Calls Try.prog 56 #[w128 s41, .int .u64 (a2 : Int), .int .u64 (b2 : Int)] w fun e w' => e = .returned (w128 s42) ∧ Below w.heap.size w w' from fun w => by rw [es42]; exact w128add_any s41 a2 b2 w (by omega) (by omega) (by omega))
  obtain ⟨s43, es43⟩ : ∃ s, s = s42 + a3 * b1 := ⟨_, rfl⟩
  have c43 := hid (show ∀ w, Calls Try.prog 56 #[w128 s42, .int .u64 (a3 : Int), .int .u64 (b1 : Int)] w fun e w' => e = .returned (w128 s43) ∧ Below w.heap.size w w' from fun w => by rw [es43]; exact w128add_any s42 a3 b1 w (by omega) (by omega) (by omega))
  obtain ⟨s44, es44⟩ : ∃ s, s = s43 + a4 * b0 := ⟨_, rfl⟩
  have c44 := hid (show ∀ w, Calls Try.prog 56 #[w128 s43, .int .u64 (a4 : Int), .int .u64 (b0 : Int)] w fun e w' => e = .returned (w128 s44) ∧ Below w.heap.size w w' from fun w => by rw [es44]; exact w128add_any s43 a4 b0 w (by omega) (by omega) (by omega))
  have l0 : s04 < 2 ^ 112 := by omega
  have v0 := hid fun w => above_any s04 w l0
  obtain ⟨lo0, hlo00⟩ : ∃ s, s = s04 % 2 ^ 64 := ⟨_, rfl⟩
  have hlo0 := hid hlo00
  obtain ⟨lw0, hlw0⟩ : ∃ s, s = s04 % 2251799813685248 := ⟨_, rfl⟩
  obtain ⟨up0, hup0⟩ : ∃ s, s = s04 / 2251799813685248 := ⟨_, rfl⟩
  have zz0 := lowS s04
  rw [← hlo00, ← hlw0] at zz0
  rw [← hup0] at v0
  have l1 : s14 < 2 ^ 112 := by omega
  have v1 := hid fun w => above_any s14 w l1
  obtain ⟨lo1, hlo10⟩ : ∃ s, s = s14 % 2 ^ 64 := ⟨_, rfl⟩
  have hlo1 := hid hlo10
  obtain ⟨lw1, hlw1⟩ : ∃ s, s = s14 % 2251799813685248 := ⟨_, rfl⟩
  obtain ⟨up1, hup1⟩ : ∃ s, s = s14 / 2251799813685248 := ⟨_, rfl⟩
  have zz1 := lowS s14
  rw [← hlo10, ← hlw1] at zz1
  rw [← hup1] at v1
  have l2 : s24 < 2 ^ 112 := by omega
  have v2 := hid fun w => above_any s24 w l2
  obtain ⟨lo2, hlo20⟩ : ∃ s, s = s24 % 2 ^ 64 := ⟨_, rfl⟩
  have hlo2 := hid hlo20
  obtain ⟨lw2, hlw2⟩ : ∃ s, s = s24 % 2251799813685248 := ⟨_, rfl⟩
  obtain ⟨up2, hup2⟩ : ∃ s, s = s24 / 2251799813685248 := ⟨_, rfl⟩
  have zz2 := lowS s24
  rw [← hlo20, ← hlw2] at zz2
  rw [← hup2] at v2
  have l3 : s34 < 2 ^ 112 := by omega
  have v3 := hid fun w => above_any s34 w l3
  obtain ⟨lo3, hlo30⟩ : ∃ s, s = s34 % 2 ^ 64 := ⟨_, rfl⟩
  have hlo3 := hid hlo30
  obtain ⟨lw3, hlw3⟩ : ∃ s, s = s34 % 2251799813685248 := ⟨_, rfl⟩
  obtain ⟨up3, hup3⟩ : ∃ s, s = s34 / 2251799813685248 := ⟨_, rfl⟩
  have zz3 := lowS s34
  rw [← hlo30, ← hlw3] at zz3
  rw [← hup3] at v3
  have l4 : s44 < 2 ^ 112 := by omega
  have v4 := hid fun w => above_any s44 w l4
  obtain ⟨lo4, hlo40⟩ : ∃ s, s = s44 % 2 ^ 64 := ⟨_, rfl⟩
  have hlo4 := hid hlo40
  obtain ⟨lw4, hlw4⟩ : ∃ s, s = s44 % 2251799813685248 := ⟨_, rfl⟩
  obtain ⟨up4, hup4⟩ : ∃ s, s = s44 / 2251799813685248 := ⟨_, rfl⟩
  have zz4 := lowS s44
  rw [← hlo40, ← hlw4] at zz4
  rw [← hup4] at v4
  have hres : mul5 ⟨a0, a1, a2, a3, a4⟩ ⟨b0, b1, b2, b3, b4⟩ = car5 (car5 ⟨s04, s14, s24, s34, s44⟩) := by
    unfold mul5 prd5
    simp only
    rw [es04, es03, es02, es01, es00, Nat.zero_add]
    rw [es14, es13, es12, es11, es10, Nat.zero_add]
    rw [es24, es23, es22, es21, es20, Nat.zero_add]
    rw [es34, es33, es32, es31, es30, Nat.zero_add]
    rw [es44, es43, es42, es41, es40, Nat.zero_add]
  have hpr : prd5 ⟨a0, a1, a2, a3, a4⟩ ⟨b0, b1, b2, b3, b4⟩ = ⟨s04, s14, s24, s34, s44⟩ := by
    unfold prd5
    simp only
    rw [es04, es03, es02, es01, es00, Nat.zero_add]
    rw [es14, es13, es12, es11, es10, Nat.zero_add]
    rw [es24, es23, es22, es21, es20, Nat.zero_add]
    rw [es34, es33, es32, es31, es30, Nat.zero_add]
    rw [es44, es43, es42, es41, es40, Nat.zero_add]
  rw [hpr] at hcok
  rw [hres]
  have hC := hid fun w => car5_any _ w (hcok.mono (by decide))
  obtain ⟨q0, eq0⟩ : ∃ q, q = lw0 + 19 * up4 := ⟨_, rfl⟩
  obtain ⟨q1, eq1⟩ : ∃ q, q = lw1 + up0 := ⟨_, rfl⟩
  obtain ⟨q2, eq2⟩ : ∃ q, q = lw2 + up1 := ⟨_, rfl⟩
  obtain ⟨q3, eq3⟩ : ∃ q, q = lw3 + up2 := ⟨_, rfl⟩
  obtain ⟨q4, eq4⟩ : ∃ q, q = lw4 + up3 := ⟨_, rfl⟩
  have hq : car5 ⟨s04, s14, s24, s34, s44⟩ = ⟨q0, q1, q2, q3, q4⟩ := by unfold car5; simp only; rw [← hlw0, ← hlw1, ← hlw2, ← hlw3, ← hlw4, ← hup0, ← hup1, ← hup2, ← hup3, ← hup4, ← eq0, ← eq1, ← eq2, ← eq3, ← eq4]
  rw [hq] at hC hcok ⊢
  obtain ⟨r, hr⟩ : ∃ r, r = car5 ⟨q0, q1, q2, q3, q4⟩ := ⟨_, rfl⟩
  rw [← hr] at hC ⊢
  obtain ⟨k0, k1, k2, k3, k4⟩ := hcok
  simp only at k0 k1 k2 k3 k4
  have n0 : up0 < 2 ^ 61 := by omega
  have n1 : up1 < 2 ^ 61 := by omega
  have n2 : up2 < 2 ^ 61 := by omega
  have n3 : up3 < 2 ^ 61 := by omega
  have n4 : up4 < 2 ^ 61 := by omega
  clear hr hq hres hpr hprd es00 m00 es01 m01 es02 m02 es03 m03 es04 m04 es10 m10 es11 m11 es12 m12 es13 m13 es14 m14 es20 m20 es21 m21 es22 m22 es23 m23 es24 m24 es30 m30 es31 m31 es32 m32 es33 m33 es34 m34 es40 m40 es41 m41 es42 m42 es43 m43 es44 m44
  have E0 : (lw0 : Int) + 19 * (up4 : Int) = (q0 : Int) := by rw [eq0]; rfl
  have E1 : (lw1 : Int) + (up0 : Int) = (q1 : Int) := by rw [eq1]; rfl
  have E2 : (lw2 : Int) + (up1 : Int) = (q2 : Int) := by rw [eq2]; rfl
  have E3 : (lw3 : Int) + (up2 : Int) = (q3 : Int) := by rw [eq3]; rfl
  have E4 : (lw4 : Int) + (up3 : Int) = (q4 : Int) := by rw [eq4]; rfl
  have wr1 : IntKind.u64.wrap (19 * (b1 : Int)) = 19 * (b1 : Int) := by rw [IntKind.wrap_u64]; omega
  have wr2 : IntKind.u64.wrap (19 * (b2 : Int)) = 19 * (b2 : Int) := by rw [IntKind.wrap_u64]; omega
  have wr3 : IntKind.u64.wrap (19 * (b3 : Int)) = 19 * (b3 : Int) := by rw [IntKind.wrap_u64]; omega
  have wr4 : IntKind.u64.wrap (19 * (b4 : Int)) = 19 * (b4 : Int) := by rw [IntKind.wrap_u64]; omega
  have wq0 : IntKind.u64.wrap (19 * (up4 : Int)) = 19 * (up4 : Int) := by rw [IntKind.wrap_u64]; omega
  have hbu := hid (show Try.prog.built 64 [(0, .int .u64 (q0 : Int)), (1, .int .u64 (q1 : Int)), (2, .int .u64 (q2 : Int)), (3, .int .u64 (q3 : Int)), (4, .int .u64 (q4 : Int))] = some (cells5 ⟨q0, q1, q2, q3, q4⟩) by kernel_rfl)
  have we0 : IntKind.u64.wrap (q0 : Int) = (q0 : Int) := by rw [IntKind.wrap_u64]; omega
  have we1 : IntKind.u64.wrap (q1 : Int) = (q1 : Int) := by rw [IntKind.wrap_u64]; omega
  have we2 : IntKind.u64.wrap (q2 : Int) = (q2 : Int) := by rw [IntKind.wrap_u64]; omega
  have we3 : IntKind.u64.wrap (q3 : Int) = (q3 : Int) := by rw [IntKind.wrap_u64]; omega
  have we4 : IntKind.u64.wrap (q4 : Int) = (q4 : Int) := by rw [IntKind.wrap_u64]; omega
  clear l0 hlo00 hlw0 hup0 eq0 n0 k0 h0 y0 l1 hlo10 hlw1 hup1 eq1 n1 k1 h1 y1 l2 hlo20 hlw2 hup2 eq2 n2 k2 h2 y2 l3 hlo30 hlw3 hup3 eq3 n3 k3 h3 y3 l4 hlo40 hlw4 hup4 eq4 n4 k4 h4 y4
  unfold fe w128 at *
  obtain ⟨w0, hw0, k2, k3, k4, hbl0⟩ := entry3 w 64 (cells5 ⟨a0, a1, a2, a3, a4⟩) 64 (cells5 ⟨b0, b1, b2, b3, b4⟩) 64 (cells5 zero5)
  have hb2_0 := hid k2
  have hb3_0 := hid k3
  have hb4_0 := hid k4
  clear k2 k3 k4
  go_enter Try.func29, Try.ntmps29
  (repeat ((fail_if_success (with_reducible refine Go.at_region ?_)); go_step))
  refine wp_region_lit ?_
  (refine wpList_box 64 (.tmp 0) rfl rfl (cells5 ⟨a0, a1, a2, a3, a4⟩) rfl ?_; simp only [Act.put, pvA, pv0, pv1]; (try simp only [World.size_alloc]))
  (refine wpList_box 64 (.tmp 1) rfl rfl (cells5 ⟨b0, b1, b2, b3, b4⟩) rfl ?_; simp only [Act.put, pvA, pv0, pv1]; (try simp only [World.size_alloc]))
  (refine wpList_alloc_new rfl 64 rfl (cells5 zero5) z5 ?_; simp only [Act.put, pvA, pv0, pv1]; (try simp only [World.size_alloc]))
  refine wpList_nil ?_
  rw [← hw0]
  clear hw0
  (repeat ((fail_if_success (with_reducible refine Go.at_region ?_)); go_step))
  refine draw_all (by kernel_rfl) (by kernel_rfl) (by kernel_rfl) ?_
  (apply calm_on rfl; (focus (intro W hB; go_simp; exact ⟨rfl, Below.refl _ _⟩)); simp only [Act.put, pvA, pv0, pv1])
  (refine calm_cell rfl _ _ rfl _ _ rfl _ _ hb3_0.out (.int .u64 (b1 : Int)) rfl o64 ?_; simp only [Act.put, pvA, pv0, pv1])
  iterate 2 (apply calm_on rfl; (focus (intro W hB; go_simp; exact ⟨rfl, Below.refl _ _⟩)); simp only [Act.put, pvA, pv0, pv1])
  (refine calm_cell rfl _ _ rfl _ _ rfl _ _ hb3_0.out (.int .u64 (b2 : Int)) rfl o64 ?_; simp only [Act.put, pvA, pv0, pv1])
  iterate 2 (apply calm_on rfl; (focus (intro W hB; go_simp; exact ⟨rfl, Below.refl _ _⟩)); simp only [Act.put, pvA, pv0, pv1])
  (refine calm_cell rfl _ _ rfl _ _ rfl _ _ hb3_0.out (.int .u64 (b3 : Int)) rfl o64 ?_; simp only [Act.put, pvA, pv0, pv1])
  iterate 2 (apply calm_on rfl; (focus (intro W hB; go_simp; exact ⟨rfl, Below.refl _ _⟩)); simp only [Act.put, pvA, pv0, pv1])
  (refine calm_cell rfl _ _ rfl _ _ rfl _ _ hb3_0.out (.int .u64 (b4 : Int)) rfl o64 ?_; simp only [Act.put, pvA, pv0, pv1])
  iterate 5 (apply calm_on rfl; (focus (intro W hB; go_simp; exact ⟨rfl, Below.refl _ _⟩)); simp only [Act.put, pvA, pv0, pv1])
  refine calm_nil ?_
  intro w1 hs1
  have hb2_1 := hid (hb2_0.out.step hs1)
  have hb3_1 := hid (hb3_0.out.step hs1)
  have hb4_1 := hid (hb4_0.out.step hs1)
  have hbl1 := hbl0.trans (hs1.mono hbl0.size)
  clear hs1 hbl0 hb2_0 hb3_0 hb4_0
  (repeat ((fail_if_success (with_reducible refine Go.at_region ?_)); go_step))
  refine draw_new1 22 _ rfl 91 (cells2 0) 9 rfl rfl rfl (by simp) z2 (by kernel_rfl) (by kernel_rfl) (by kernel_rfl) ?_
  simp only [List.take_succ_cons, List.take_zero]
  (refine calm_build rfl 91 _ rfl (cells2 0) (by first | (simp only [List.map_toArray, List.map_cons, List.map_nil]; exact b2_zero) | exact b2_zero) ?_; simp only [Act.put, pvA, pv0, pv1])
  (apply calm_on rfl; (focus (intro W hB; go_simp; exact ⟨rfl, Below.refl _ _⟩)); simp only [Act.put, pvA, pv0, pv1])
  (refine calm_cell rfl _ _ rfl _ _ rfl _ _ hb2_1.out (.int .u64 (a0 : Int)) rfl o64 ?_; simp only [Act.put, pvA, pv0, pv1])
  (apply calm_on rfl; (focus (intro W hB; go_simp; exact ⟨rfl, Below.refl _ _⟩)); simp only [Act.put, pvA, pv0, pv1])
  (refine calm_cell rfl _ _ rfl _ _ rfl _ _ hb3_1.out (.int .u64 (b0 : Int)) rfl o64 ?_; simp only [Act.put, pvA, pv0, pv1])
  (apply calm_on rfl; (focus (intro W hB; go_simp; refine (c00.out W).mono ?_; rintro _ _ ⟨rfl, hb'⟩; exact ⟨rfl, hb'⟩)); simp only [Act.put, pvA, pv0, pv1])
  (apply calm_on rfl; (focus (intro W hB; go_simp; exact ⟨rfl, Below.refl _ _⟩)); simp only [Act.put, pvA, pv0, pv1])
  (refine calm_cell rfl _ _ rfl _ _ rfl _ _ hb2_1.out (.int .u64 (a1 : Int)) rfl o64 ?_; simp only [Act.put, pvA, pv0, pv1])
  (apply calm_on rfl; (focus (intro W hB; go_simp; exact ⟨rfl, Below.refl _ _⟩)); simp only [Act.put, pvA, pv0, pv1])
  (apply calm_on rfl; (focus (intro W hB; go_simp; refine (c01.out W).mono ?_; rintro _ _ ⟨rfl, hb'⟩; exact ⟨rfl, hb'⟩)); simp only [Act.put, pvA, pv0, pv1])
  (apply calm_on rfl; (focus (intro W hB; go_simp; exact ⟨rfl, Below.refl _ _⟩)); simp only [Act.put, pvA, pv0, pv1])
  (refine calm_cell rfl _ _ rfl _ _ rfl _ _ hb2_1.out (.int .u64 (a2 : Int)) rfl o64 ?_; simp only [Act.put, pvA, pv0, pv1])
  (apply calm_on rfl; (focus (intro W hB; go_simp; exact ⟨rfl, Below.refl _ _⟩)); simp only [Act.put, pvA, pv0, pv1])
  (apply calm_on rfl; (focus (intro W hB; go_simp; refine (c02.out W).mono ?_; rintro _ _ ⟨rfl, hb'⟩; exact ⟨rfl, hb'⟩)); simp only [Act.put, pvA, pv0, pv1])
  (apply calm_on rfl; (focus (intro W hB; go_simp; exact ⟨rfl, Below.refl _ _⟩)); simp only [Act.put, pvA, pv0, pv1])
  (refine calm_cell rfl _ _ rfl _ _ rfl _ _ hb2_1.out (.int .u64 (a3 : Int)) rfl o64 ?_; simp only [Act.put, pvA, pv0, pv1])
  (apply calm_on rfl; (focus (intro W hB; go_simp; exact ⟨rfl, Below.refl _ _⟩)); simp only [Act.put, pvA, pv0, pv1])
  (apply calm_on rfl; (focus (intro W hB; go_simp; refine (c03.out W).mono ?_; rintro _ _ ⟨rfl, hb'⟩; exact ⟨rfl, hb'⟩)); simp only [Act.put, pvA, pv0, pv1])
  (apply calm_on rfl; (focus (intro W hB; go_simp; exact ⟨rfl, Below.refl _ _⟩)); simp only [Act.put, pvA, pv0, pv1])
  (refine calm_cell rfl _ _ rfl _ _ rfl _ _ hb2_1.out (.int .u64 (a4 : Int)) rfl o64 ?_; simp only [Act.put, pvA, pv0, pv1])
  (apply calm_on rfl; (focus (intro W hB; go_simp; exact ⟨rfl, Below.refl _ _⟩)); simp only [Act.put, pvA, pv0, pv1])
  (apply calm_on rfl; (focus (intro W hB; go_simp; refine (c04.out W).mono ?_; rintro _ _ ⟨rfl, hb'⟩; exact ⟨rfl, hb'⟩)); simp only [Act.put, pvA, pv0, pv1])
  refine calm_nil ?_
  intro b9 wx2 hle9 hx2 hn9
  simp only [List.drop_succ_cons, List.drop_zero]
  (try simp only [Act.put, pvA, pv0, pv1])
  have fb2 := hb2_1.out.step hx2
  have fb3 := hb3_1.out.step hx2
  have fb4 := hb4_1.out.step hx2
  have hbb := hbl1.trans (hx2.mono hbl1.size)
  have fb9 := hn9
  have ne2_9 : w.heap.size ≠ b9 := by have := hb2_1.out.lt; omega
  have ne3_9 : (w.heap.size + 1) ≠ b9 := by have := hb3_1.out.lt; omega
  have ne4_9 : (w.heap.size + 1 + 1) ≠ b9 := by have := hb4_1.out.lt; omega
  have ge9 : w.heap.size ≤ b9 := Nat.le_trans hbl1.size hle9
  refine wpList_set _ _ _ rfl rfl rfl _ _ rfl rfl _ _ fb9 (i2 s04) rfl (one_cells2 s04) ?_
  replace fb2 := fb2.other ne2_9 (cells2 s04)
  replace fb3 := fb3.other ne3_9 (cells2 s04)
  replace fb4 := fb4.other ne4_9 (cells2 s04)
  replace fb9 := fb9.set (cells2 s04)
  replace hbb := below_set hbb b9 (ge9) (cells2 s04)
  refine wpList_nil ?_
  obtain ⟨w2, hw⟩ : ∃ z, z = (wx2.setRow b9 (cells2 s04)) := ⟨_, rfl⟩
  rw [← hw] at hbb fb2 fb3 fb4 fb9 ⊢
  have hb2_2 := hid fb2
  have hb3_2 := hid fb3
  have hb4_2 := hid fb4
  have hb9_2 := hid fb9
  have hbl2 := hbb
  clear hw hbb fb2 fb3 fb4 fb9 hx2 hbl1 hb2_1 hb3_1 hb4_1 hle9 hn9
  (repeat ((fail_if_success (with_reducible refine Go.at_region ?_)); go_step))
  refine draw_new1 23 _ rfl 91 (cells2 0) 10 rfl rfl rfl (by simp) z2 (by kernel_rfl) (by kernel_rfl) (by kernel_rfl) ?_
  simp only [List.take_succ_cons, List.take_zero]
  (refine calm_build rfl 91 _ rfl (cells2 0) (by first | (simp only [List.map_toArray, List.map_cons, List.map_nil]; exact b2_zero) | exact b2_zero) ?_; simp only [Act.put, pvA, pv0, pv1])
  (apply calm_on rfl; (focus (intro W hB; go_simp; exact ⟨rfl, Below.refl _ _⟩)); simp only [Act.put, pvA, pv0, pv1])
  (refine calm_cell rfl _ _ rfl _ _ rfl _ _ hb2_2.out (.int .u64 (a0 : Int)) rfl o64 ?_; simp only [Act.put, pvA, pv0, pv1])
  (apply calm_on rfl; (focus (intro W hB; go_simp; exact ⟨rfl, Below.refl _ _⟩)); simp only [Act.put, pvA, pv0, pv1])
  (refine calm_cell rfl _ _ rfl _ _ rfl _ _ hb3_2.out (.int .u64 (b1 : Int)) rfl o64 ?_; simp only [Act.put, pvA, pv0, pv1])
  (apply calm_on rfl; (focus (intro W hB; go_simp; refine (c10.out W).mono ?_; rintro _ _ ⟨rfl, hb'⟩; exact ⟨rfl, hb'⟩)); simp only [Act.put, pvA, pv0, pv1])
  (apply calm_on rfl; (focus (intro W hB; go_simp; exact ⟨rfl, Below.refl _ _⟩)); simp only [Act.put, pvA, pv0, pv1])
  (refine calm_cell rfl _ _ rfl _ _ rfl _ _ hb2_2.out (.int .u64 (a1 : Int)) rfl o64 ?_; simp only [Act.put, pvA, pv0, pv1])
  (apply calm_on rfl; (focus (intro W hB; go_simp; exact ⟨rfl, Below.refl _ _⟩)); simp only [Act.put, pvA, pv0, pv1])
  (refine calm_cell rfl _ _ rfl _ _ rfl _ _ hb3_2.out (.int .u64 (b0 : Int)) rfl o64 ?_; simp only [Act.put, pvA, pv0, pv1])
  (apply calm_on rfl; (focus (intro W hB; go_simp; refine (c11.out W).mono ?_; rintro _ _ ⟨rfl, hb'⟩; exact ⟨rfl, hb'⟩)); simp only [Act.put, pvA, pv0, pv1])
  (apply calm_on rfl; (focus (intro W hB; go_simp; exact ⟨rfl, Below.refl _ _⟩)); simp only [Act.put, pvA, pv0, pv1])
  (refine calm_cell rfl _ _ rfl _ _ rfl _ _ hb2_2.out (.int .u64 (a2 : Int)) rfl o64 ?_; simp only [Act.put, pvA, pv0, pv1])
  (apply calm_on rfl; (focus (intro W hB; go_simp; exact ⟨rfl, Below.refl _ _⟩)); simp only [Act.put, pvA, pv0, pv1])
  (apply calm_on rfl; (focus (intro W hB; go_simp; refine (c12.out W).mono ?_; rintro _ _ ⟨rfl, hb'⟩; exact ⟨rfl, hb'⟩)); simp only [Act.put, pvA, pv0, pv1])
  (apply calm_on rfl; (focus (intro W hB; go_simp; exact ⟨rfl, Below.refl _ _⟩)); simp only [Act.put, pvA, pv0, pv1])
  (refine calm_cell rfl _ _ rfl _ _ rfl _ _ hb2_2.out (.int .u64 (a3 : Int)) rfl o64 ?_; simp only [Act.put, pvA, pv0, pv1])
  (apply calm_on rfl; (focus (intro W hB; go_simp; exact ⟨rfl, Below.refl _ _⟩)); simp only [Act.put, pvA, pv0, pv1])
  (apply calm_on rfl; (focus (intro W hB; go_simp; refine (c13.out W).mono ?_; rintro _ _ ⟨rfl, hb'⟩; exact ⟨rfl, hb'⟩)); simp only [Act.put, pvA, pv0, pv1])
  (apply calm_on rfl; (focus (intro W hB; go_simp; exact ⟨rfl, Below.refl _ _⟩)); simp only [Act.put, pvA, pv0, pv1])
  (refine calm_cell rfl _ _ rfl _ _ rfl _ _ hb2_2.out (.int .u64 (a4 : Int)) rfl o64 ?_; simp only [Act.put, pvA, pv0, pv1])
  (apply calm_on rfl; (focus (intro W hB; go_simp; exact ⟨rfl, Below.refl _ _⟩)); simp only [Act.put, pvA, pv0, pv1])
  (apply calm_on rfl; (focus (intro W hB; go_simp; refine (c14.out W).mono ?_; rintro _ _ ⟨rfl, hb'⟩; exact ⟨rfl, hb'⟩)); simp only [Act.put, pvA, pv0, pv1])
  refine calm_nil ?_
  intro b10 wx3 hle10 hx3 hn10
  simp only [List.drop_succ_cons, List.drop_zero]
  (try simp only [Act.put, pvA, pv0, pv1])
  have fb2 := hb2_2.out.step hx3
  have fb3 := hb3_2.out.step hx3
  have fb4 := hb4_2.out.step hx3
  have fb9 := hb9_2.out.step hx3
  have hbb := hbl2.trans (hx3.mono hbl2.size)
  have fb10 := hn10
  have ne2_10 : w.heap.size ≠ b10 := by have := hb2_2.out.lt; omega
  have ne3_10 : (w.heap.size + 1) ≠ b10 := by have := hb3_2.out.lt; omega
  have ne4_10 : (w.heap.size + 1 + 1) ≠ b10 := by have := hb4_2.out.lt; omega
  have ne9_10 : b9 ≠ b10 := by have := hb9_2.out.lt; omega
  have ge10 : w.heap.size ≤ b10 := Nat.le_trans hbl2.size hle10
  refine wpList_set _ _ _ rfl rfl rfl _ _ rfl rfl _ _ fb10 (i2 s14) rfl (one_cells2 s14) ?_
  replace fb2 := fb2.other ne2_10 (cells2 s14)
  replace fb3 := fb3.other ne3_10 (cells2 s14)
  replace fb4 := fb4.other ne4_10 (cells2 s14)
  replace fb9 := fb9.other ne9_10 (cells2 s14)
  replace fb10 := fb10.set (cells2 s14)
  replace hbb := below_set hbb b10 (ge10) (cells2 s14)
  refine wpList_nil ?_
  obtain ⟨w3, hw⟩ : ∃ z, z = (wx3.setRow b10 (cells2 s14)) := ⟨_, rfl⟩
  rw [← hw] at hbb fb2 fb3 fb4 fb9 fb10 ⊢
  have hb2_3 := hid fb2
  have hb3_3 := hid fb3
  have hb4_3 := hid fb4
  have hb9_3 := hid fb9
  have hb10_3 := hid fb10
  have hbl3 := hbb
  clear hw hbb fb2 fb3 fb4 fb9 fb10 hx3 hbl2 hb2_2 hb3_2 hb4_2 hb9_2 hle10 hn10
  (repeat ((fail_if_success (with_reducible refine Go.at_region ?_)); go_step))
  refine draw_new1 24 _ rfl 91 (cells2 0) 11 rfl rfl rfl (by simp) z2 (by kernel_rfl) (by kernel_rfl) (by kernel_rfl) ?_
  simp only [List.take_succ_cons, List.take_zero]
  (refine calm_build rfl 91 _ rfl (cells2 0) (by first | (simp only [List.map_toArray, List.map_cons, List.map_nil]; exact b2_zero) | exact b2_zero) ?_; simp only [Act.put, pvA, pv0, pv1])
  (apply calm_on rfl; (focus (intro W hB; go_simp; exact ⟨rfl, Below.refl _ _⟩)); simp only [Act.put, pvA, pv0, pv1])
  (refine calm_cell rfl _ _ rfl _ _ rfl _ _ hb2_3.out (.int .u64 (a0 : Int)) rfl o64 ?_; simp only [Act.put, pvA, pv0, pv1])
  (apply calm_on rfl; (focus (intro W hB; go_simp; exact ⟨rfl, Below.refl _ _⟩)); simp only [Act.put, pvA, pv0, pv1])
  (refine calm_cell rfl _ _ rfl _ _ rfl _ _ hb3_3.out (.int .u64 (b2 : Int)) rfl o64 ?_; simp only [Act.put, pvA, pv0, pv1])
  (apply calm_on rfl; (focus (intro W hB; go_simp; refine (c20.out W).mono ?_; rintro _ _ ⟨rfl, hb'⟩; exact ⟨rfl, hb'⟩)); simp only [Act.put, pvA, pv0, pv1])
  (apply calm_on rfl; (focus (intro W hB; go_simp; exact ⟨rfl, Below.refl _ _⟩)); simp only [Act.put, pvA, pv0, pv1])
  (refine calm_cell rfl _ _ rfl _ _ rfl _ _ hb2_3.out (.int .u64 (a1 : Int)) rfl o64 ?_; simp only [Act.put, pvA, pv0, pv1])
  (apply calm_on rfl; (focus (intro W hB; go_simp; exact ⟨rfl, Below.refl _ _⟩)); simp only [Act.put, pvA, pv0, pv1])
  (refine calm_cell rfl _ _ rfl _ _ rfl _ _ hb3_3.out (.int .u64 (b1 : Int)) rfl o64 ?_; simp only [Act.put, pvA, pv0, pv1])
  (apply calm_on rfl; (focus (intro W hB; go_simp; refine (c21.out W).mono ?_; rintro _ _ ⟨rfl, hb'⟩; exact ⟨rfl, hb'⟩)); simp only [Act.put, pvA, pv0, pv1])
  (apply calm_on rfl; (focus (intro W hB; go_simp; exact ⟨rfl, Below.refl _ _⟩)); simp only [Act.put, pvA, pv0, pv1])
  (refine calm_cell rfl _ _ rfl _ _ rfl _ _ hb2_3.out (.int .u64 (a2 : Int)) rfl o64 ?_; simp only [Act.put, pvA, pv0, pv1])
  (apply calm_on rfl; (focus (intro W hB; go_simp; exact ⟨rfl, Below.refl _ _⟩)); simp only [Act.put, pvA, pv0, pv1])
  (refine calm_cell rfl _ _ rfl _ _ rfl _ _ hb3_3.out (.int .u64 (b0 : Int)) rfl o64 ?_; simp only [Act.put, pvA, pv0, pv1])
  (apply calm_on rfl; (focus (intro W hB; go_simp; refine (c22.out W).mono ?_; rintro _ _ ⟨rfl, hb'⟩; exact ⟨rfl, hb'⟩)); simp only [Act.put, pvA, pv0, pv1])
  (apply calm_on rfl; (focus (intro W hB; go_simp; exact ⟨rfl, Below.refl _ _⟩)); simp only [Act.put, pvA, pv0, pv1])
  (refine calm_cell rfl _ _ rfl _ _ rfl _ _ hb2_3.out (.int .u64 (a3 : Int)) rfl o64 ?_; simp only [Act.put, pvA, pv0, pv1])
  (apply calm_on rfl; (focus (intro W hB; go_simp; exact ⟨rfl, Below.refl _ _⟩)); simp only [Act.put, pvA, pv0, pv1])
  (apply calm_on rfl; (focus (intro W hB; go_simp; refine (c23.out W).mono ?_; rintro _ _ ⟨rfl, hb'⟩; exact ⟨rfl, hb'⟩)); simp only [Act.put, pvA, pv0, pv1])
  (apply calm_on rfl; (focus (intro W hB; go_simp; exact ⟨rfl, Below.refl _ _⟩)); simp only [Act.put, pvA, pv0, pv1])
  (refine calm_cell rfl _ _ rfl _ _ rfl _ _ hb2_3.out (.int .u64 (a4 : Int)) rfl o64 ?_; simp only [Act.put, pvA, pv0, pv1])
  (apply calm_on rfl; (focus (intro W hB; go_simp; exact ⟨rfl, Below.refl _ _⟩)); simp only [Act.put, pvA, pv0, pv1])
  (apply calm_on rfl; (focus (intro W hB; go_simp; refine (c24.out W).mono ?_; rintro _ _ ⟨rfl, hb'⟩; exact ⟨rfl, hb'⟩)); simp only [Act.put, pvA, pv0, pv1])
  refine calm_nil ?_
  intro b11 wx4 hle11 hx4 hn11
  simp only [List.drop_succ_cons, List.drop_zero]
  (try simp only [Act.put, pvA, pv0, pv1])
  have fb2 := hb2_3.out.step hx4
  have fb3 := hb3_3.out.step hx4
  have fb4 := hb4_3.out.step hx4
  have fb9 := hb9_3.out.step hx4
  have fb10 := hb10_3.out.step hx4
  have hbb := hbl3.trans (hx4.mono hbl3.size)
  have fb11 := hn11
  have ne2_11 : w.heap.size ≠ b11 := by have := hb2_3.out.lt; omega
  have ne3_11 : (w.heap.size + 1) ≠ b11 := by have := hb3_3.out.lt; omega
  have ne4_11 : (w.heap.size + 1 + 1) ≠ b11 := by have := hb4_3.out.lt; omega
  have ne9_11 : b9 ≠ b11 := by have := hb9_3.out.lt; omega
  have ne10_11 : b10 ≠ b11 := by have := hb10_3.out.lt; omega
  have ge11 : w.heap.size ≤ b11 := Nat.le_trans hbl3.size hle11
  refine wpList_set _ _ _ rfl rfl rfl _ _ rfl rfl _ _ fb11 (i2 s24) rfl (one_cells2 s24) ?_
  replace fb2 := fb2.other ne2_11 (cells2 s24)
  replace fb3 := fb3.other ne3_11 (cells2 s24)
  replace fb4 := fb4.other ne4_11 (cells2 s24)
  replace fb9 := fb9.other ne9_11 (cells2 s24)
  replace fb10 := fb10.other ne10_11 (cells2 s24)
  replace fb11 := fb11.set (cells2 s24)
  replace hbb := below_set hbb b11 (ge11) (cells2 s24)
  refine wpList_nil ?_
  obtain ⟨w4, hw⟩ : ∃ z, z = (wx4.setRow b11 (cells2 s24)) := ⟨_, rfl⟩
  rw [← hw] at hbb fb2 fb3 fb4 fb9 fb10 fb11 ⊢
  have hb2_4 := hid fb2
  have hb3_4 := hid fb3
  have hb4_4 := hid fb4
  have hb9_4 := hid fb9
  have hb10_4 := hid fb10
  have hb11_4 := hid fb11
  have hbl4 := hbb
  clear hw hbb fb2 fb3 fb4 fb9 fb10 fb11 hx4 hbl3 hb2_3 hb3_3 hb4_3 hb9_3 hb10_3 hle11 hn11
  (repeat ((fail_if_success (with_reducible refine Go.at_region ?_)); go_step))
  refine draw_new1 25 _ rfl 91 (cells2 0) 12 rfl rfl rfl (by simp) z2 (by kernel_rfl) (by kernel_rfl) (by kernel_rfl) ?_
  simp only [List.take_succ_cons, List.take_zero]
  (refine calm_build rfl 91 _ rfl (cells2 0) (by first | (simp only [List.map_toArray, List.map_cons, List.map_nil]; exact b2_zero) | exact b2_zero) ?_; simp only [Act.put, pvA, pv0, pv1])
  (apply calm_on rfl; (focus (intro W hB; go_simp; exact ⟨rfl, Below.refl _ _⟩)); simp only [Act.put, pvA, pv0, pv1])
  (refine calm_cell rfl _ _ rfl _ _ rfl _ _ hb2_4.out (.int .u64 (a0 : Int)) rfl o64 ?_; simp only [Act.put, pvA, pv0, pv1])
  (apply calm_on rfl; (focus (intro W hB; go_simp; exact ⟨rfl, Below.refl _ _⟩)); simp only [Act.put, pvA, pv0, pv1])
  (refine calm_cell rfl _ _ rfl _ _ rfl _ _ hb3_4.out (.int .u64 (b3 : Int)) rfl o64 ?_; simp only [Act.put, pvA, pv0, pv1])
  (apply calm_on rfl; (focus (intro W hB; go_simp; refine (c30.out W).mono ?_; rintro _ _ ⟨rfl, hb'⟩; exact ⟨rfl, hb'⟩)); simp only [Act.put, pvA, pv0, pv1])
  (apply calm_on rfl; (focus (intro W hB; go_simp; exact ⟨rfl, Below.refl _ _⟩)); simp only [Act.put, pvA, pv0, pv1])
  (refine calm_cell rfl _ _ rfl _ _ rfl _ _ hb2_4.out (.int .u64 (a1 : Int)) rfl o64 ?_; simp only [Act.put, pvA, pv0, pv1])
  (apply calm_on rfl; (focus (intro W hB; go_simp; exact ⟨rfl, Below.refl _ _⟩)); simp only [Act.put, pvA, pv0, pv1])
  (refine calm_cell rfl _ _ rfl _ _ rfl _ _ hb3_4.out (.int .u64 (b2 : Int)) rfl o64 ?_; simp only [Act.put, pvA, pv0, pv1])
  (apply calm_on rfl; (focus (intro W hB; go_simp; refine (c31.out W).mono ?_; rintro _ _ ⟨rfl, hb'⟩; exact ⟨rfl, hb'⟩)); simp only [Act.put, pvA, pv0, pv1])
  (apply calm_on rfl; (focus (intro W hB; go_simp; exact ⟨rfl, Below.refl _ _⟩)); simp only [Act.put, pvA, pv0, pv1])
  (refine calm_cell rfl _ _ rfl _ _ rfl _ _ hb2_4.out (.int .u64 (a2 : Int)) rfl o64 ?_; simp only [Act.put, pvA, pv0, pv1])
  (apply calm_on rfl; (focus (intro W hB; go_simp; exact ⟨rfl, Below.refl _ _⟩)); simp only [Act.put, pvA, pv0, pv1])
  (refine calm_cell rfl _ _ rfl _ _ rfl _ _ hb3_4.out (.int .u64 (b1 : Int)) rfl o64 ?_; simp only [Act.put, pvA, pv0, pv1])
  (apply calm_on rfl; (focus (intro W hB; go_simp; refine (c32.out W).mono ?_; rintro _ _ ⟨rfl, hb'⟩; exact ⟨rfl, hb'⟩)); simp only [Act.put, pvA, pv0, pv1])
  (apply calm_on rfl; (focus (intro W hB; go_simp; exact ⟨rfl, Below.refl _ _⟩)); simp only [Act.put, pvA, pv0, pv1])
  (refine calm_cell rfl _ _ rfl _ _ rfl _ _ hb2_4.out (.int .u64 (a3 : Int)) rfl o64 ?_; simp only [Act.put, pvA, pv0, pv1])
  (apply calm_on rfl; (focus (intro W hB; go_simp; exact ⟨rfl, Below.refl _ _⟩)); simp only [Act.put, pvA, pv0, pv1])
  (refine calm_cell rfl _ _ rfl _ _ rfl _ _ hb3_4.out (.int .u64 (b0 : Int)) rfl o64 ?_; simp only [Act.put, pvA, pv0, pv1])
  (apply calm_on rfl; (focus (intro W hB; go_simp; refine (c33.out W).mono ?_; rintro _ _ ⟨rfl, hb'⟩; exact ⟨rfl, hb'⟩)); simp only [Act.put, pvA, pv0, pv1])
  (apply calm_on rfl; (focus (intro W hB; go_simp; exact ⟨rfl, Below.refl _ _⟩)); simp only [Act.put, pvA, pv0, pv1])
  (refine calm_cell rfl _ _ rfl _ _ rfl _ _ hb2_4.out (.int .u64 (a4 : Int)) rfl o64 ?_; simp only [Act.put, pvA, pv0, pv1])
  (apply calm_on rfl; (focus (intro W hB; go_simp; exact ⟨rfl, Below.refl _ _⟩)); simp only [Act.put, pvA, pv0, pv1])
  (apply calm_on rfl; (focus (intro W hB; go_simp; refine (c34.out W).mono ?_; rintro _ _ ⟨rfl, hb'⟩; exact ⟨rfl, hb'⟩)); simp only [Act.put, pvA, pv0, pv1])
  refine calm_nil ?_
  intro b12 wx5 hle12 hx5 hn12
  simp only [List.drop_succ_cons, List.drop_zero]
  (try simp only [Act.put, pvA, pv0, pv1])
  have fb2 := hb2_4.out.step hx5
  have fb3 := hb3_4.out.step hx5
  have fb4 := hb4_4.out.step hx5
  have fb9 := hb9_4.out.step hx5
  have fb10 := hb10_4.out.step hx5
  have fb11 := hb11_4.out.step hx5
  have hbb := hbl4.trans (hx5.mono hbl4.size)
  have fb12 := hn12
  have ne2_12 : w.heap.size ≠ b12 := by have := hb2_4.out.lt; omega
  have ne3_12 : (w.heap.size + 1) ≠ b12 := by have := hb3_4.out.lt; omega
  have ne4_12 : (w.heap.size + 1 + 1) ≠ b12 := by have := hb4_4.out.lt; omega
  have ne9_12 : b9 ≠ b12 := by have := hb9_4.out.lt; omega
  have ne10_12 : b10 ≠ b12 := by have := hb10_4.out.lt; omega
  have ne11_12 : b11 ≠ b12 := by have := hb11_4.out.lt; omega
  have ge12 : w.heap.size ≤ b12 := Nat.le_trans hbl4.size hle12
  refine wpList_set _ _ _ rfl rfl rfl _ _ rfl rfl _ _ fb12 (i2 s34) rfl (one_cells2 s34) ?_
  replace fb2 := fb2.other ne2_12 (cells2 s34)
  replace fb3 := fb3.other ne3_12 (cells2 s34)
  replace fb4 := fb4.other ne4_12 (cells2 s34)
  replace fb9 := fb9.other ne9_12 (cells2 s34)
  replace fb10 := fb10.other ne10_12 (cells2 s34)
  replace fb11 := fb11.other ne11_12 (cells2 s34)
  replace fb12 := fb12.set (cells2 s34)
  replace hbb := below_set hbb b12 (ge12) (cells2 s34)
  refine wpList_nil ?_
  obtain ⟨w5, hw⟩ : ∃ z, z = (wx5.setRow b12 (cells2 s34)) := ⟨_, rfl⟩
  rw [← hw] at hbb fb2 fb3 fb4 fb9 fb10 fb11 fb12 ⊢
  have hb2_5 := hid fb2
  have hb3_5 := hid fb3
  have hb4_5 := hid fb4
  have hb9_5 := hid fb9
  have hb10_5 := hid fb10
  have hb11_5 := hid fb11
  have hb12_5 := hid fb12
  have hbl5 := hbb
  clear hw hbb fb2 fb3 fb4 fb9 fb10 fb11 fb12 hx5 hbl4 hb2_4 hb3_4 hb4_4 hb9_4 hb10_4 hb11_4 hle12 hn12
  (repeat ((fail_if_success (with_reducible refine Go.at_region ?_)); go_step))
  refine draw_new1 26 _ rfl 91 (cells2 0) 13 rfl rfl rfl (by simp) z2 (by kernel_rfl) (by kernel_rfl) (by kernel_rfl) ?_
  simp only [List.take_succ_cons, List.take_zero]
  (refine calm_build rfl 91 _ rfl (cells2 0) (by first | (simp only [List.map_toArray, List.map_cons, List.map_nil]; exact b2_zero) | exact b2_zero) ?_; simp only [Act.put, pvA, pv0, pv1])
  (apply calm_on rfl; (focus (intro W hB; go_simp; exact ⟨rfl, Below.refl _ _⟩)); simp only [Act.put, pvA, pv0, pv1])
  (refine calm_cell rfl _ _ rfl _ _ rfl _ _ hb2_5.out (.int .u64 (a0 : Int)) rfl o64 ?_; simp only [Act.put, pvA, pv0, pv1])
  (apply calm_on rfl; (focus (intro W hB; go_simp; exact ⟨rfl, Below.refl _ _⟩)); simp only [Act.put, pvA, pv0, pv1])
  (refine calm_cell rfl _ _ rfl _ _ rfl _ _ hb3_5.out (.int .u64 (b4 : Int)) rfl o64 ?_; simp only [Act.put, pvA, pv0, pv1])
  (apply calm_on rfl; (focus (intro W hB; go_simp; refine (c40.out W).mono ?_; rintro _ _ ⟨rfl, hb'⟩; exact ⟨rfl, hb'⟩)); simp only [Act.put, pvA, pv0, pv1])
  (apply calm_on rfl; (focus (intro W hB; go_simp; exact ⟨rfl, Below.refl _ _⟩)); simp only [Act.put, pvA, pv0, pv1])
  (refine calm_cell rfl _ _ rfl _ _ rfl _ _ hb2_5.out (.int .u64 (a1 : Int)) rfl o64 ?_; simp only [Act.put, pvA, pv0, pv1])
  (apply calm_on rfl; (focus (intro W hB; go_simp; exact ⟨rfl, Below.refl _ _⟩)); simp only [Act.put, pvA, pv0, pv1])
  (refine calm_cell rfl _ _ rfl _ _ rfl _ _ hb3_5.out (.int .u64 (b3 : Int)) rfl o64 ?_; simp only [Act.put, pvA, pv0, pv1])
  (apply calm_on rfl; (focus (intro W hB; go_simp; refine (c41.out W).mono ?_; rintro _ _ ⟨rfl, hb'⟩; exact ⟨rfl, hb'⟩)); simp only [Act.put, pvA, pv0, pv1])
  (apply calm_on rfl; (focus (intro W hB; go_simp; exact ⟨rfl, Below.refl _ _⟩)); simp only [Act.put, pvA, pv0, pv1])
  (refine calm_cell rfl _ _ rfl _ _ rfl _ _ hb2_5.out (.int .u64 (a2 : Int)) rfl o64 ?_; simp only [Act.put, pvA, pv0, pv1])
  (apply calm_on rfl; (focus (intro W hB; go_simp; exact ⟨rfl, Below.refl _ _⟩)); simp only [Act.put, pvA, pv0, pv1])
  (refine calm_cell rfl _ _ rfl _ _ rfl _ _ hb3_5.out (.int .u64 (b2 : Int)) rfl o64 ?_; simp only [Act.put, pvA, pv0, pv1])
  (apply calm_on rfl; (focus (intro W hB; go_simp; refine (c42.out W).mono ?_; rintro _ _ ⟨rfl, hb'⟩; exact ⟨rfl, hb'⟩)); simp only [Act.put, pvA, pv0, pv1])
  (apply calm_on rfl; (focus (intro W hB; go_simp; exact ⟨rfl, Below.refl _ _⟩)); simp only [Act.put, pvA, pv0, pv1])
  (refine calm_cell rfl _ _ rfl _ _ rfl _ _ hb2_5.out (.int .u64 (a3 : Int)) rfl o64 ?_; simp only [Act.put, pvA, pv0, pv1])
  (apply calm_on rfl; (focus (intro W hB; go_simp; exact ⟨rfl, Below.refl _ _⟩)); simp only [Act.put, pvA, pv0, pv1])
  (refine calm_cell rfl _ _ rfl _ _ rfl _ _ hb3_5.out (.int .u64 (b1 : Int)) rfl o64 ?_; simp only [Act.put, pvA, pv0, pv1])
  (apply calm_on rfl; (focus (intro W hB; go_simp; refine (c43.out W).mono ?_; rintro _ _ ⟨rfl, hb'⟩; exact ⟨rfl, hb'⟩)); simp only [Act.put, pvA, pv0, pv1])
  (apply calm_on rfl; (focus (intro W hB; go_simp; exact ⟨rfl, Below.refl _ _⟩)); simp only [Act.put, pvA, pv0, pv1])
  (refine calm_cell rfl _ _ rfl _ _ rfl _ _ hb2_5.out (.int .u64 (a4 : Int)) rfl o64 ?_; simp only [Act.put, pvA, pv0, pv1])
  (apply calm_on rfl; (focus (intro W hB; go_simp; exact ⟨rfl, Below.refl _ _⟩)); simp only [Act.put, pvA, pv0, pv1])
  (refine calm_cell rfl _ _ rfl _ _ rfl _ _ hb3_5.out (.int .u64 (b0 : Int)) rfl o64 ?_; simp only [Act.put, pvA, pv0, pv1])
  (apply calm_on rfl; (focus (intro W hB; go_simp; refine (c44.out W).mono ?_; rintro _ _ ⟨rfl, hb'⟩; exact ⟨rfl, hb'⟩)); simp only [Act.put, pvA, pv0, pv1])
  refine calm_nil ?_
  intro b13 wx6 hle13 hx6 hn13
  simp only [List.drop_succ_cons, List.drop_zero]
  (try simp only [Act.put, pvA, pv0, pv1])
  have fb2 := hb2_5.out.step hx6
  have fb3 := hb3_5.out.step hx6
  have fb4 := hb4_5.out.step hx6
  have fb9 := hb9_5.out.step hx6
  have fb10 := hb10_5.out.step hx6
  have fb11 := hb11_5.out.step hx6
  have fb12 := hb12_5.out.step hx6
  have hbb := hbl5.trans (hx6.mono hbl5.size)
  have fb13 := hn13
  have ne2_13 : w.heap.size ≠ b13 := by have := hb2_5.out.lt; omega
  have ne3_13 : (w.heap.size + 1) ≠ b13 := by have := hb3_5.out.lt; omega
  have ne4_13 : (w.heap.size + 1 + 1) ≠ b13 := by have := hb4_5.out.lt; omega
  have ne9_13 : b9 ≠ b13 := by have := hb9_5.out.lt; omega
  have ne10_13 : b10 ≠ b13 := by have := hb10_5.out.lt; omega
  have ne11_13 : b11 ≠ b13 := by have := hb11_5.out.lt; omega
  have ne12_13 : b12 ≠ b13 := by have := hb12_5.out.lt; omega
  have ge13 : w.heap.size ≤ b13 := Nat.le_trans hbl5.size hle13
  refine wpList_set _ _ _ rfl rfl rfl _ _ rfl rfl _ _ fb13 (i2 s44) rfl (one_cells2 s44) ?_
  replace fb2 := fb2.other ne2_13 (cells2 s44)
  replace fb3 := fb3.other ne3_13 (cells2 s44)
  replace fb4 := fb4.other ne4_13 (cells2 s44)
  replace fb9 := fb9.other ne9_13 (cells2 s44)
  replace fb10 := fb10.other ne10_13 (cells2 s44)
  replace fb11 := fb11.other ne11_13 (cells2 s44)
  replace fb12 := fb12.other ne12_13 (cells2 s44)
  replace fb13 := fb13.set (cells2 s44)
  replace hbb := below_set hbb b13 (ge13) (cells2 s44)
  refine wpList_nil ?_
  obtain ⟨w6, hw⟩ : ∃ z, z = (wx6.setRow b13 (cells2 s44)) := ⟨_, rfl⟩
  rw [← hw] at hbb fb2 fb3 fb4 fb9 fb10 fb11 fb12 fb13 ⊢
  have hb2_6 := hid fb2
  have hb3_6 := hid fb3
  have hb4_6 := hid fb4
  have hb9_6 := hid fb9
  have hb10_6 := hid fb10
  have hb11_6 := hid fb11
  have hb12_6 := hid fb12
  have hb13_6 := hid fb13
  have hbl6 := hbb
  clear hw hbb fb2 fb3 fb4 fb9 fb10 fb11 fb12 fb13 hx6 hbl5 hb2_5 hb3_5 hb4_5 hb9_5 hb10_5 hb11_5 hb12_5 hle13 hn13
  (repeat ((fail_if_success (with_reducible refine Go.at_region ?_)); go_step))
  refine draw_tail 33 (by kernel_rfl) (by kernel_rfl) (by kernel_rfl) ?_
  simp only [List.take_succ_cons, List.take_zero]
  (apply calm_on rfl; (focus (intro W hB; go_simp; exact ⟨rfl, Below.refl _ _⟩)); simp only [Act.put, pvA, pv0, pv1])
  (refine calm_cell rfl _ _ rfl _ _ rfl _ _ hb9_6.out (.int .u64 (lo0 : Int)) (by rw [hlo0.out]; rfl) o64 ?_; simp only [Act.put, pvA, pv0, pv1])
  (apply calm_on rfl; (focus (intro W hB; go_simp; exact ⟨rfl, Below.refl _ _⟩)); simp only [Act.put, pvA, pv0, pv1])
  (refine calm_whole rfl _ _ rfl _ rfl _ _ hb13_6.out g2 (i2 s44) ?_; simp only [Act.put, pvA, pv0, pv1])
  (apply calm_on rfl; (focus (intro W hB; go_simp; refine (v4.out W).mono ?_; rintro _ _ ⟨rfl, hb'⟩; exact ⟨rfl, hb'⟩)); simp only [Act.put, pvA, pv0, pv1])
  iterate 3 (apply calm_on rfl; (focus (intro W hB; go_simp; exact ⟨rfl, Below.refl _ _⟩)); simp only [Act.put, pvA, pv0, pv1])
  (refine calm_cell rfl _ _ rfl _ _ rfl _ _ hb10_6.out (.int .u64 (lo1 : Int)) (by rw [hlo1.out]; rfl) o64 ?_; simp only [Act.put, pvA, pv0, pv1])
  (apply calm_on rfl; (focus (intro W hB; go_simp; exact ⟨rfl, Below.refl _ _⟩)); simp only [Act.put, pvA, pv0, pv1])
  (refine calm_whole rfl _ _ rfl _ rfl _ _ hb9_6.out g2 (i2 s04) ?_; simp only [Act.put, pvA, pv0, pv1])
  (apply calm_on rfl; (focus (intro W hB; go_simp; refine (v0.out W).mono ?_; rintro _ _ ⟨rfl, hb'⟩; exact ⟨rfl, hb'⟩)); simp only [Act.put, pvA, pv0, pv1])
  iterate 2 (apply calm_on rfl; (focus (intro W hB; go_simp; exact ⟨rfl, Below.refl _ _⟩)); simp only [Act.put, pvA, pv0, pv1])
  (refine calm_cell rfl _ _ rfl _ _ rfl _ _ hb11_6.out (.int .u64 (lo2 : Int)) (by rw [hlo2.out]; rfl) o64 ?_; simp only [Act.put, pvA, pv0, pv1])
  (apply calm_on rfl; (focus (intro W hB; go_simp; exact ⟨rfl, Below.refl _ _⟩)); simp only [Act.put, pvA, pv0, pv1])
  (refine calm_whole rfl _ _ rfl _ rfl _ _ hb10_6.out g2 (i2 s14) ?_; simp only [Act.put, pvA, pv0, pv1])
  (apply calm_on rfl; (focus (intro W hB; go_simp; refine (v1.out W).mono ?_; rintro _ _ ⟨rfl, hb'⟩; exact ⟨rfl, hb'⟩)); simp only [Act.put, pvA, pv0, pv1])
  iterate 2 (apply calm_on rfl; (focus (intro W hB; go_simp; exact ⟨rfl, Below.refl _ _⟩)); simp only [Act.put, pvA, pv0, pv1])
  (refine calm_cell rfl _ _ rfl _ _ rfl _ _ hb12_6.out (.int .u64 (lo3 : Int)) (by rw [hlo3.out]; rfl) o64 ?_; simp only [Act.put, pvA, pv0, pv1])
  (apply calm_on rfl; (focus (intro W hB; go_simp; exact ⟨rfl, Below.refl _ _⟩)); simp only [Act.put, pvA, pv0, pv1])
  (refine calm_whole rfl _ _ rfl _ rfl _ _ hb11_6.out g2 (i2 s24) ?_; simp only [Act.put, pvA, pv0, pv1])
  (apply calm_on rfl; (focus (intro W hB; go_simp; refine (v2.out W).mono ?_; rintro _ _ ⟨rfl, hb'⟩; exact ⟨rfl, hb'⟩)); simp only [Act.put, pvA, pv0, pv1])
  iterate 2 (apply calm_on rfl; (focus (intro W hB; go_simp; exact ⟨rfl, Below.refl _ _⟩)); simp only [Act.put, pvA, pv0, pv1])
  (refine calm_cell rfl _ _ rfl _ _ rfl _ _ hb13_6.out (.int .u64 (lo4 : Int)) (by rw [hlo4.out]; rfl) o64 ?_; simp only [Act.put, pvA, pv0, pv1])
  (apply calm_on rfl; (focus (intro W hB; go_simp; exact ⟨rfl, Below.refl _ _⟩)); simp only [Act.put, pvA, pv0, pv1])
  (refine calm_whole rfl _ _ rfl _ rfl _ _ hb12_6.out g2 (i2 s34) ?_; simp only [Act.put, pvA, pv0, pv1])
  (apply calm_on rfl; (focus (intro W hB; go_simp; refine (v3.out W).mono ?_; rintro _ _ ⟨rfl, hb'⟩; exact ⟨rfl, hb'⟩)); simp only [Act.put, pvA, pv0, pv1])
  (apply calm_on rfl; (focus (intro W hB; go_simp; exact ⟨rfl, Below.refl _ _⟩)); simp only [Act.put, pvA, pv0, pv1])
  (refine calm_build rfl 64 _ rfl (cells5 ⟨q0, q1, q2, q3, q4⟩) (by first | (simp only [List.map_toArray, List.map_cons, List.map_nil]; exact hbu.out) | exact hbu.out) ?_; simp only [Act.put, pvA, pv0, pv1])
  (apply calm_on rfl; (focus (intro W hB; go_simp; refine (hC.out W).mono ?_; rintro _ _ ⟨rfl, hb'⟩; exact ⟨rfl, hb'⟩)); simp only [Act.put, pvA, pv0, pv1])
  refine calm_nil ?_
  intro wx7 hx7
  simp only [List.drop_succ_cons, List.drop_zero]
  (try simp only [Act.put, pvA, pv0, pv1])
  have fb2 := hb2_6.out.step hx7
  have fb3 := hb3_6.out.step hx7
  have fb4 := hb4_6.out.step hx7
  have fb9 := hb9_6.out.step hx7
  have fb10 := hb10_6.out.step hx7
  have fb11 := hb11_6.out.step hx7
  have fb12 := hb12_6.out.step hx7
  have fb13 := hb13_6.out.step hx7
  have hbb := hbl6.trans (hx7.mono hbl6.size)
  refine wpList_set _ _ _ rfl rfl rfl _ _ rfl rfl _ _ fb4 (i5 r) rfl (one_cells5 r) ?_
  replace fb2 := fb2.other (show w.heap.size ≠ (w.heap.size + 1 + 1) by omega) (cells5 r)
  replace fb3 := fb3.other (show (w.heap.size + 1) ≠ (w.heap.size + 1 + 1) by omega) (cells5 r)
  replace fb4 := fb4.set (cells5 r)
  replace fb9 := fb9.other (Ne.symm ne4_9) (cells5 r)
  replace fb10 := fb10.other (Ne.symm ne4_10) (cells5 r)
  replace fb11 := fb11.other (Ne.symm ne4_11) (cells5 r)
  replace fb12 := fb12.other (Ne.symm ne4_12) (cells5 r)
  replace fb13 := fb13.other (Ne.symm ne4_13) (cells5 r)
  replace hbb := below_set hbb (w.heap.size + 1 + 1) (by omega) (cells5 r)
  refine wpList_nil ?_
  obtain ⟨w7, hw⟩ : ∃ z, z = (wx7.setRow (w.heap.size + 1 + 1) (cells5 r)) := ⟨_, rfl⟩
  rw [← hw] at hbb fb2 fb3 fb4 fb9 fb10 fb11 fb12 fb13 ⊢
  have hb2_7 := hid fb2
  have hb3_7 := hid fb3
  have hb4_7 := hid fb4
  have hb9_7 := hid fb9
  have hb10_7 := hid fb10
  have hb11_7 := hid fb11
  have hb12_7 := hid fb12
  have hb13_7 := hid fb13
  have hbl7 := hbb
  clear hw hbb fb2 fb3 fb4 fb9 fb10 fb11 fb12 fb13 hx7 hbl6 hb2_6 hb3_6 hb4_6 hb9_6 hb10_6 hb11_6 hb12_6 hb13_6 
  (repeat ((fail_if_success (with_reducible refine Go.at_region ?_)); go_step))
  refine ret_blk (w.heap.size + 1 + 1) 64 (cells5 r) rfl rfl hb4_7.out g5 (i5 r) rfl ?_
  exact ⟨rfl, hbl7⟩
end Go.Proofs.Ytejnnghfelpioaa
namespace Go.Proofs.Ytejnnghfelpioaa
open Go.RowKit
theorem ny_take (ys : List (BitVec 8)) (n j : Nat) (h : j < n) : ny (ys.take n) j = ny ys j := by
  unfold ny; rw [List.getD_eq_getElem?_getD, List.getD_eq_getElem?_getD, List.getElem?_take, if_pos h]
theorem ny_drop (ys : List (BitVec 8)) (n j : Nat) : ny (ys.drop n) j = ny ys (n + j) := by
  unfold ny; rw [List.getD_eq_getElem?_getD, List.getD_eq_getElem?_getD, List.getElem?_drop]
theorem RdY.part {w : World} {a : Option Addr} {L cap : Nat} {ys : List (BitVec 8)} (h : RdY w (.slice a L cap) ys) (l k : Nat) (hl : l ≤ k) (hk : k ≤ ys.length) :
    RdY w (sliced a l k cap 1) ((ys.drop l).take (k - l)) := by
  obtain ⟨a', cap', e, hc, h2⟩ := h
  injection e with e1 e2 e3
  subst e1 e2 e3
  have hlen : ((ys.drop l).take (k - l)).length = k - l := by simp; omega
  unfold sliced
  refine ⟨_, cap - l, by rw [hlen], by rw [hlen]; omega, fun hne => ?_⟩
  have hpos : l < k := by
    rcases Nat.lt_or_ge l k with h0 | h0
    · exact h0
    · exfalso; apply hne; rw [show k - l = 0 by omega, List.take_zero]
  obtain ⟨b, off, rfl, hb, h3⟩ := h2 (by intro e; rw [e] at hk; simp at hk; omega)
  refine ⟨b, off + l, ?_, hb, fun j hj => ?_⟩
  · rw [if_neg (by omega)]
    simp [Addr.add]
  · rw [hlen] at hj
    rw [ny_take _ _ _ hj, ny_drop, Nat.add_assoc]
    exact h3 (l + j) (by omega)
theorem RdY.front {w : World} {a : Option Addr} {L cap : Nat} {ys : List (BitVec 8)} (h : RdY w (.slice a L cap) ys) (k : Nat) (hk : k ≤ ys.length) : RdY w (.slice a k cap) (ys.take k) := by
  obtain ⟨a', cap', e, hc, h2⟩ := h
  injection e with e1 e2 e3
  subst e1 e2 e3
  refine ⟨a, cap, by rw [List.length_take, Nat.min_eq_left hk], by rw [List.length_take]; omega, fun hne => ?_⟩
  obtain ⟨b, off, rfl, hb, h3⟩ := h2 (by rintro rfl; simp at hne)
  refine ⟨b, off, rfl, hb, fun j hj => ?_⟩
  rw [List.length_take] at hj
  rw [ny_take _ _ _ (by omega)]
  exact h3 j (by omega)
theorem RdY.back {w : World} {a : Option Addr} {cap : Nat} {ys : List (BitVec 8)} (h : RdY w (.slice a ys.length cap) ys) (l : Nat) (hl : l ≤ ys.length) : RdY w (sliced a l ys.length cap 1) (ys.drop l) := by
  have := h.part l ys.length hl (Nat.le_refl _)
  rwa [List.take_of_length_le (by simp)] at this
end Go.Proofs.Ytejnnghfelpioaa
namespace Go.Proofs.Ytejnnghfelpioaa
open Go.RowKit
theorem leN_split (ys : List (BitVec 8)) (n : Nat) (hn : n ≤ ys.length) : leN ys = leN (ys.take n) + 256 ^ n * leN (ys.drop n) := by
  have h := num_split ((ys.map fun y => y.toNat)) n (by simpa using hn)
  unfold leN
  rw [h, List.map_take, List.map_drop]
theorem lfold_law (lo hi : Nat) : (lo + hi * ((2 ^ 256 - 1 + 1) % lN) % lN) % lN = (lo + 2 ^ 256 * hi) % lN := by
  rw [Nat.add_mod, Nat.mod_mod, ← Nat.add_mod, Nat.sub_add_cancel (by decide +kernel), Nat.add_mod, Nat.mul_mod, Nat.mod_mod, ← Nat.mul_mod, ← Nat.add_mod, Nat.mul_comm]
set_option maxHeartbeats 2000000 in
theorem fLfold_any (ys : List (BitVec 8)) (v : Value) (w : World) (hr : RdY w v ys) : Calls Try.prog 52 #[v] w fun e w' => e = .returned (.tuple #[wd (flN ys), .int .i64 (flE ys)]) ∧ Below w.heap.size w w' := by
  have iZ := hid (iW 0)
  have nZ := hid (one_cellsW 0)
  have hBn := hid nil_built
  have hC0 := hid (ArrW.new 25 w 0)
  have hb0 : Below w.heap.size w (w.alloc (.cells (cellsW 0) 25)) := (Below.refl _ _).alloc (Nat.le_refl _) _
  have hv0 := hid (hr.below hb0)
  clear hr
  obtain ⟨a, cap, rfl, hc, hx⟩ := hv0.out
  clear hx
  unfold wd
  by_cases h64 : 64 < ys.length
  · have h64i : (64 : Int) < (ys.length : Int) := by omega
    have HN := hid (show flN ys = 0 by unfold flN; rw [if_pos h64])
    have HE := hid (show flE ys = 1 by unfold flE; rw [if_pos h64])
    rw [HN.out, HE.out]
    clear h64
    go_enter Try.func52, Try.ntmps52
    go_wp2_with (first | (refine wpList_alloc_new rfl 25 rfl (cellsW 0) zWd ?_; simp only [Act.put, pvA, pv0, pv1, World.size_alloc]) | (refine wpList_buildStore 25 _ (.tmp 2) 11 (cellsW 0) _ rfl rfl rfl rfl rfl rfl (by simp) (by first | exact hBn.out | (simp only [List.map_toArray, List.map_cons, List.map_nil]; exact hBn.out)) rfl 25 _ hC0.out iZ.out rfl nZ.out ?_; simp only [Act.put, pvA, pv0, pv1]))
    refine bodyPost_ret (results_row_tmp rfl _ _ w.heap.size 25 (cellsW 0) (0, 0) _ rfl (heap_setRow' _ _ _ _ _ hC0.out) uWd rfl iZ.out) rfl ⟨rfl, below_setRow' hb0 _ (Nat.le_refl _) _⟩
  · have h64i : ¬ (64 : Int) < (ys.length : Int) := by omega
    have HN := hid (show flN ys = leN ys % lN by unfold flN; rw [if_neg h64])
    have HE := hid (show flE ys = 0 by unfold flE; rw [if_neg h64])
    rw [HN.out, HE.out]
    obtain ⟨n, hnl, hn32, hd32, hsum, hcase⟩ : ∃ n, n ≤ ys.length ∧ n ≤ 32 ∧ ys.length - n ≤ 32 ∧ leN ys = leN (ys.take n) + 2 ^ 256 * leN (ys.drop n) ∧ ((ys.length < 32 ∧ n = ys.length) ∨ (32 ≤ ys.length ∧ n = 32)) := by
      by_cases h : ys.length < 32
      · refine ⟨ys.length, Nat.le_refl _, by omega, by omega, ?_, .inl ⟨h, rfl⟩⟩
        rw [List.take_length, List.drop_length, show leN [] = 0 from rfl]; omega
      · exact ⟨32, by omega, by omega, by omega, leN_split ys 32 (by omega), .inr ⟨by omega, rfl⟩⟩
    have hF := hid (hv0.out.front n hnl)
    have hBk := hid (hv0.out.back n hnl)
    have hL1 := hid (fun v w h => little_any (ys.take n) v w h (by simp; omega))
    have hL2 := hid (fun v w h => little_any (ys.drop n) v w h (by simp; omega))
    have b1 := leN_lt (ys.take n) (by simp; omega)
    have b2 := leN_lt (ys.drop n) (by simp; omega)
    have hres := lfold_law (leN (ys.take n)) (leN (ys.drop n))
    rw [← hsum] at hres
    have hNot := hid (fun w => wnot_any 0 w (by decide))
    rw [show notW 0 = 2 ^ 256 - 1 by kernel_rfl] at hNot
    have hAm := hid (fun w => waddmod_any (2 ^ 256 - 1) 1 lN w (by decide +kernel) (by decide) lN_lt)
    rw [modW_lN] at hAm
    obtain ⟨ov, hov⟩ : ∃ ov, ov = (2 ^ 256 - 1 + 1) % lN := ⟨_, rfl⟩
    rw [← hov] at hAm hres
    have b3 : ov < 2 ^ 256 := by rw [hov]; exact Nat.lt_trans (Nat.mod_lt _ lN_pos) lN_lt
    have hMu := hid (fun w => lmul_any (leN (ys.drop n)) ov w b2 b3)
    have hAd := hid (fun w => ladd_any (leN (ys.take n)) (leN (ys.drop n) * ov % lN) w b1 (Nat.lt_trans (Nat.mod_lt _ lN_pos) lN_lt))
    rw [hres] at hAd
    obtain ⟨r, hrr⟩ : ∃ r, r = leN ys % lN := ⟨_, rfl⟩
    rw [← hrr] at hAd ⊢
    obtain ⟨lo, hlo⟩ : ∃ lo, lo = leN (ys.take n) := ⟨_, rfl⟩
    obtain ⟨hi, hhi⟩ : ∃ hi, hi = leN (ys.drop n) := ⟨_, rfl⟩
    rw [← hlo] at hL1 hAd
    rw [← hhi] at hL2 hAd hMu
    obtain ⟨m, hm⟩ : ∃ m, m = hi * ov % lN := ⟨_, rfl⟩
    rw [← hm] at hMu hAd
    have hLl := hid (fun w => fL_any w)
    obtain ⟨l, hl⟩ : ∃ l, l = lN := ⟨_, rfl⟩
    rw [← hl] at hLl hAm
    obtain ⟨on, hon⟩ : ∃ on, on = 2 ^ 256 - 1 := ⟨_, rfl⟩
    rw [← hon] at hNot hAm
    clear hov b1 b2 b3 hres hsum hrr hlo hhi hm hl hon h64 HN HE
    unfold wd at *
    have iR := hid (iW r)
    have nR := hid (one_cellsW r)
    have iLo := hid (iW lo)
    have nLo := hid (one_cellsW lo)
    have iHi := hid (iW hi)
    have nHi := hid (one_cellsW hi)
    have iOv := hid (iW ov)
    have nOv := hid (one_cellsW ov)
    have hB1 := hid one_built
    have hnI : (n : Int) ≤ (ys.length : Int) := by omega
    have hnc : (n : Int) ≤ (cap : Int) := by omega
    have HL := hid hn32
    have Hd := hid hd32
    clear hn32 hd32
    rcases hcase with ⟨hc1, hc2⟩ | ⟨hc1, hc2⟩
    · subst hc2
      go_enter Try.func52, Try.ntmps52
      have hq1 : (ys.length : Int) ≤ (cap : Int) := by omega
      have hq2 : (ys.length : Int) ≤ (ys.length : Int) := by omega
      go_wp2_with (refine wpList_alloc_new rfl 25 rfl (cellsW 0) zWd ?_; simp only [Act.put, pvA, pv0, pv1, World.size_alloc])
      rw [show min (ys.length : Int) 32 = (ys.length : Int) by omega]
      generalize w.alloc (.cells (cellsW 0) 25) = w1 at hC0 hb0 hv0 hF hBk ⊢
      ((try simp only [World.size_alloc]); refine wp_region_loose_apart (es := [.kn (.slice a ys.length cap), .kn (.int .i64 (ys.length : Int)), .lo (fun v w => RdY w v (ys.take ys.length)), .kn (.agg (cellsW lo)), .kn (.slice a ys.length cap), .kn (.int .i64 (ys.length : Int)), .lo (fun v w => RdY w v (ys.drop ys.length)), .kn (.agg (cellsW hi)), .lo (fun v w' => ∃ b, v = .pointer (some ⟨b, 0, none⟩) ∧ ArrW 25 w' b 0 ∧ w1.heap.size ≤ b), .lo (fun v w' => ∃ b, v = .pointer (some ⟨b, 0, none⟩) ∧ ArrW 25 w' b 0 ∧ w1.heap.size ≤ b)]) 10 (by kernel_rfl) (by kernel_rfl) (by kernel_rfl) (by first | exact trivial | ((repeat (first | refine keepsAll_kn ?_ | (refine keepsAll_lo (fun v w w' h hb => ?_) ?_; first | exact RdN.below h hb | exact RdL.below h hb | exact RdY.below h hb | (obtain ⟨b, e, h1, h2⟩ := h; exact ⟨b, e, ArrW.below h1 hb (ArrW.lt h1), h2⟩)))); exact trivial)) (by kernel_rfl) ?_; simp only [List.take_succ_cons, List.take_zero, List.drop_succ_cons, List.drop_zero])
      iterate 2 (refine loose_step_on rfl (fun W' hB' hd K hK => ?_) ?_; (focus (clear hd; go_simp; exact hK _ _ (Below.refl _ _) rfl)); rintro _ rfl; simp only [Act.put, pvA, pv0, pv1])
      (refine loose_step_on rfl (fun W' hB' hd K hK => ?_) ?_; (focus (clear hd; go_simp; exact hK _ _ (Below.refl _ _) (RdY.below hF.out hB'))); intro v17 _; simp only [Act.put, pvA, pv0, pv1])
      (refine loose_step_on rfl (fun W' hB' hd K hK => ?_) ?_; (focus (have g17 : RdY W' v17 (ys.take ys.length) := hd ⟨2, Ground.data⟩ (by simp) rfl _ 17 rfl rfl (by simp); clear hd; go_simp; refine (hL1.out v17 _ g17).mono ?_; rintro _ _ ⟨rfl, hb'⟩; exact hK _ _ hb' rfl)); rintro _ rfl; simp only [Act.put, pvA, pv0, pv1])
      iterate 2 (refine loose_step_on rfl (fun W' hB' hd K hK => ?_) ?_; (focus (clear hd; go_simp; exact hK _ _ (Below.refl _ _) rfl)); rintro _ rfl; simp only [Act.put, pvA, pv0, pv1])
      (refine loose_step_on rfl (fun W' hB' hd K hK => ?_) ?_; (focus (clear hd; go_simp; exact hK _ _ (Below.refl _ _) (show RdY W' _ (ys.drop ys.length) by have := RdY.below hBk.out hB'; simpa [sliced, Addr.add] using this))); intro v21 _; simp only [Act.put, pvA, pv0, pv1])
      (refine loose_step_on rfl (fun W' hB' hd K hK => ?_) ?_; (focus (have g21 : RdY W' v21 (ys.drop ys.length) := hd ⟨6, Ground.data⟩ (by simp) rfl _ 21 rfl rfl (by simp); clear hd; go_simp; refine (hL2.out v21 _ g21).mono ?_; rintro _ _ ⟨rfl, hb'⟩; exact hK _ _ hb' rfl)); rintro _ rfl; simp only [Act.put, pvA, pv0, pv1])
      (refine loose_step_on rfl (fun W' hB' hd K hK => ?_) ?_; (focus (exact wp_alloc_new 25 rfl (cellsW 0) zWd (hK _ _ ((Below.refl _ _).alloc (Nat.le_refl _) _) ⟨_, rfl, ArrW.new _ _ 0, Nat.le_trans (Nat.le_refl _) hB'.size⟩))); intro v5 _; simp only [Act.put, pvA, pv0, pv1])
      (refine loose_step_on rfl (fun W' hB' hd K hK => ?_) ?_; (focus (exact wp_alloc_new 25 rfl (cellsW 0) zWd (hK _ _ ((Below.refl _ _).alloc (Nat.le_refl _) _) ⟨_, rfl, ArrW.new _ _ 0, Nat.le_trans (Nat.le_refl _) hB'.size⟩))); intro v6 _; simp only [Act.put, pvA, pv0, pv1])
      intro w6 hb6 hf hap
      have g5 : ∃ b, v5 = .pointer (some ⟨b, 0, none⟩) ∧ ArrW 25 w6 b 0 ∧ w1.heap.size ≤ b := hf 8 _ 5 (by first | omega | simp) rfl rfl (by simp)
      have g6 : ∃ b, v6 = .pointer (some ⟨b, 0, none⟩) ∧ ArrW 25 w6 b 0 ∧ w1.heap.size ≤ b := hf 9 _ 6 (by first | omega | simp) rfl rfl (by simp)
      obtain ⟨b5, rfl, h5, l5⟩ := g5
      obtain ⟨b6, rfl, h6, l6⟩ := g6
      have hne : b5 ≠ b6 := by
        rintro rfl
        exact hap 8 9 _ _ 5 6 (by omega) (by omega) (by omega) rfl rfl (by kernel_rfl) (by kernel_rfl) rfl rfl (by simp) (by simp) rfl
      clear hf hap
      have hbw := hb0.trans (hb6.mono hb0.size)
      have hX5 := hid h5
      have hX6 := hid h6
      have hY5 := hid (hX5.out.row lo)
      have hY6 := hid (hX6.out.otherRow (Ne.symm hne) (cellsW lo))
      have hZ6 := hid (hY6.out.row hi)
      have hZ5 := hid (hY5.out.otherRow hne (cellsW hi))
      have hs1 : w.heap.size + 1 ≤ w1.heap.size := by have := hC0.out.lt; omega
      have hCw := hid (((hC0.out.below hb6 hC0.out.lt).otherRow (show w.heap.size ≠ b5 by omega) (cellsW lo)).otherRow (show w.heap.size ≠ b6 by omega) (cellsW hi))
      have hbz := below_setRow' (below_setRow' hbw b5 (by omega) (cellsW lo)) b6 (by omega) (cellsW hi)
      clear h5 h6 hv0 hF hBk hb6 hC0 hb0
      go_wp2_with (first | (refine wpList_store_row rfl 25 (.tmp 5) (.tmp 18) rfl b5 _ rfl rfl 25 _ hX5.out iLo.out (by rw [size_cellsW, size_cellsW]) nLo.out ?_; simp only [Act.put]) | (refine wpList_store_row rfl 25 (.tmp 6) (.tmp 22) rfl b6 _ rfl rfl 25 _ hY6.out iHi.out (by rw [size_cellsW, size_cellsW]) nHi.out ?_; simp only [Act.put]) | (refine wpList_build_cells rfl 25 _ rfl (cellsW 0) (by first | exact hBn.out | (simp only [List.map_toArray, List.map_cons, List.map_nil]; exact hBn.out)) ?_; simp only [Act.put, pvA, pv0, pv1]))
      generalize (w6.setRow b5 (cellsW lo)).setRow b6 (cellsW hi) = w7 at hZ5 hZ6 hCw hbz ⊢
      clear hX5 hX6 hY5 hY6 hbw
      refine (hNot.out _).mono ?_
      rintro e w8 ⟨rfl, hs8⟩
      go_wp2_with (refine wpList_build_cells rfl 25 _ rfl (cellsW 1) (by first | exact hB1.out | (simp only [List.map_toArray, List.map_cons, List.map_nil]; exact hB1.out)) ?_; simp only [Act.put, pvA, pv0, pv1])
      refine (hLl.out _).mono ?_
      rintro e w9 ⟨rfl, hs9⟩
      go_wp2_with fail
      refine (hAm.out _).mono ?_
      rintro e w10 ⟨rfl, hs10⟩
      have hL10 := hid ((((hZ5.out.step hs8).step hs9).step hs10).alloc (.cells (cellsW ov) 25))
      have hH10 := hid ((((hZ6.out.step hs8).step hs9).step hs10).alloc (.cells (cellsW ov) 25))
      have hC10 := hid ((((hCw.out.step hs8).step hs9).step hs10).alloc (.cells (cellsW ov) 25))
      have hO10 := hid (ArrW.new 25 w10 ov)
      have hb10 := hbz.trans ((below_next (below_next hs8 (Nat.le_refl _) hs9) (Nat.le_refl _) hs10).mono hbz.size)
      have hb11 := hb10.alloc hb10.size (.cells (cellsW ov) 25)
      clear hs8 hs9 hs10 hbz hZ5 hZ6 hCw hb10
      go_wp2_with (refine wpList_allocStore 25 27 7 (cellsW ov) (cellsW 0) rfl rfl rfl rfl rfl rfl (by decide) (by simp) rfl (by kernel_rfl) (by rw [size_cellsW, size_cellsW]) iOv.out nOv.out ?_; simp only [Act.put, pvA, pv0, pv1])
      obtain ⟨G, hG⟩ : ∃ G, G = w10.heap.size := ⟨_, rfl⟩
      rw [← hG] at hO10 ⊢
      generalize w10.alloc (.cells (cellsW ov) 25) = w11 at hL10 hH10 hC10 hO10 hb11 ⊢
      clear hG
      ((try simp only [World.size_alloc]); refine wp_region_ext_tail 5 (by kernel_rfl) (by kernel_rfl) ?_; simp only [List.take_succ_cons, List.take_zero, List.drop_succ_cons, List.drop_zero]; (repeat (first | (refine wpQuiet_load_want 25 (.tmp 5) rfl b5 rfl 25 (cellsW _) _ hL10.out uWd rfl iLo.out rfl ?_; simp only [Act.put, pvA, pv0, pv1]) | (refine wpQuiet_load_want 25 (.tmp 6) rfl b6 rfl 25 (cellsW _) _ hH10.out uWd rfl iHi.out rfl ?_; simp only [Act.put, pvA, pv0, pv1]) | (refine wpQuiet_load_want 25 (.tmp 7) rfl G rfl 25 (cellsW _) _ hO10.out uWd rfl iOv.out rfl ?_; simp only [Act.put, pvA, pv0, pv1]) | go_big_quiet_step (first | (go_at_call 24; with_reducible refine Calls.ext_of (hMu.out _)) | (go_at_call 11; with_reducible refine Calls.ext_of (hAd.out _))))); refine wpQuiet_nil ?_; rintro _ ⟨xw, rfl⟩)
      have hC12 := hid (hC10.out.ext xw)
      have hb12 := World.ext_below_of hb11 hb11.size xw
      clear hL10 hH10 hC10 hO10 hb11
      go_wp2_with (refine wpList_store_row rfl 25 (.tmp 2) (.tmp 32) rfl w.heap.size _ rfl rfl 25 _ hC12.out iR.out (by rw [size_cellsW, size_cellsW]) nR.out ?_; simp only [Act.put])
      refine bodyPost_ret (results_row_tmp rfl _ _ w.heap.size 25 (cellsW r) (0, 0) _ rfl (heap_setRow' _ _ _ _ _ hC12.out) uWd rfl iR.out) rfl ⟨rfl, below_setRow' hb12 _ (Nat.le_refl _) _⟩
    · subst hc2
      go_enter Try.func52, Try.ntmps52
      have hq1 : 32 ≤ (cap : Int) := by omega
      have hq2 : 32 ≤ (ys.length : Int) := by omega
      go_wp2_with (refine wpList_alloc_new rfl 25 rfl (cellsW 0) zWd ?_; simp only [Act.put, pvA, pv0, pv1, World.size_alloc])
      rw [show min (ys.length : Int) 32 = 32 by omega]
      generalize w.alloc (.cells (cellsW 0) 25) = w1 at hC0 hb0 hv0 hF hBk ⊢
      ((try simp only [World.size_alloc]); refine wp_region_loose_apart (es := [.kn (.slice a ys.length cap), .kn (.int .i64 32), .lo (fun v w => RdY w v (ys.take 32)), .kn (.agg (cellsW lo)), .kn (.slice a ys.length cap), .kn (.int .i64 32), .lo (fun v w => RdY w v (ys.drop 32)), .kn (.agg (cellsW hi)), .lo (fun v w' => ∃ b, v = .pointer (some ⟨b, 0, none⟩) ∧ ArrW 25 w' b 0 ∧ w1.heap.size ≤ b), .lo (fun v w' => ∃ b, v = .pointer (some ⟨b, 0, none⟩) ∧ ArrW 25 w' b 0 ∧ w1.heap.size ≤ b)]) 10 (by kernel_rfl) (by kernel_rfl) (by kernel_rfl) (by first | exact trivial | ((repeat (first | refine keepsAll_kn ?_ | (refine keepsAll_lo (fun v w w' h hb => ?_) ?_; first | exact RdN.below h hb | exact RdL.below h hb | exact RdY.below h hb | (obtain ⟨b, e, h1, h2⟩ := h; exact ⟨b, e, ArrW.below h1 hb (ArrW.lt h1), h2⟩)))); exact trivial)) (by kernel_rfl) ?_; simp only [List.take_succ_cons, List.take_zero, List.drop_succ_cons, List.drop_zero])
      iterate 2 (refine loose_step_on rfl (fun W' hB' hd K hK => ?_) ?_; (focus (clear hd; go_simp; exact hK _ _ (Below.refl _ _) rfl)); rintro _ rfl; simp only [Act.put, pvA, pv0, pv1])
      (refine loose_step_on rfl (fun W' hB' hd K hK => ?_) ?_; (focus (clear hd; go_simp; exact hK _ _ (Below.refl _ _) (RdY.below hF.out hB'))); intro v17 _; simp only [Act.put, pvA, pv0, pv1])
      (refine loose_step_on rfl (fun W' hB' hd K hK => ?_) ?_; (focus (have g17 : RdY W' v17 (ys.take 32) := hd ⟨2, Ground.data⟩ (by simp) rfl _ 17 rfl rfl (by simp); clear hd; go_simp; refine (hL1.out v17 _ g17).mono ?_; rintro _ _ ⟨rfl, hb'⟩; exact hK _ _ hb' rfl)); rintro _ rfl; simp only [Act.put, pvA, pv0, pv1])
      iterate 2 (refine loose_step_on rfl (fun W' hB' hd K hK => ?_) ?_; (focus (clear hd; go_simp; exact hK _ _ (Below.refl _ _) rfl)); rintro _ rfl; simp only [Act.put, pvA, pv0, pv1])
      (refine loose_step_on rfl (fun W' hB' hd K hK => ?_) ?_; (focus (clear hd; go_simp; exact hK _ _ (Below.refl _ _) (show RdY W' _ (ys.drop 32) by have := RdY.below hBk.out hB'; simpa [sliced, Addr.add] using this))); intro v21 _; simp only [Act.put, pvA, pv0, pv1])
      (refine loose_step_on rfl (fun W' hB' hd K hK => ?_) ?_; (focus (have g21 : RdY W' v21 (ys.drop 32) := hd ⟨6, Ground.data⟩ (by simp) rfl _ 21 rfl rfl (by simp); clear hd; go_simp; refine (hL2.out v21 _ g21).mono ?_; rintro _ _ ⟨rfl, hb'⟩; exact hK _ _ hb' rfl)); rintro _ rfl; simp only [Act.put, pvA, pv0, pv1])
      (refine loose_step_on rfl (fun W' hB' hd K hK => ?_) ?_; (focus (exact wp_alloc_new 25 rfl (cellsW 0) zWd (hK _ _ ((Below.refl _ _).alloc (Nat.le_refl _) _) ⟨_, rfl, ArrW.new _ _ 0, Nat.le_trans (Nat.le_refl _) hB'.size⟩))); intro v5 _; simp only [Act.put, pvA, pv0, pv1])
      (refine loose_step_on rfl (fun W' hB' hd K hK => ?_) ?_; (focus (exact wp_alloc_new 25 rfl (cellsW 0) zWd (hK _ _ ((Below.refl _ _).alloc (Nat.le_refl _) _) ⟨_, rfl, ArrW.new _ _ 0, Nat.le_trans (Nat.le_refl _) hB'.size⟩))); intro v6 _; simp only [Act.put, pvA, pv0, pv1])
      intro w6 hb6 hf hap
      have g5 : ∃ b, v5 = .pointer (some ⟨b, 0, none⟩) ∧ ArrW 25 w6 b 0 ∧ w1.heap.size ≤ b := hf 8 _ 5 (by first | omega | simp) rfl rfl (by simp)
      have g6 : ∃ b, v6 = .pointer (some ⟨b, 0, none⟩) ∧ ArrW 25 w6 b 0 ∧ w1.heap.size ≤ b := hf 9 _ 6 (by first | omega | simp) rfl rfl (by simp)
      obtain ⟨b5, rfl, h5, l5⟩ := g5
      obtain ⟨b6, rfl, h6, l6⟩ := g6
      have hne : b5 ≠ b6 := by
        rintro rfl
        exact hap 8 9 _ _ 5 6 (by omega) (by omega) (by omega) rfl rfl (by kernel_rfl) (by kernel_rfl) rfl rfl (by simp) (by simp) rfl
      clear hf hap
      have hbw := hb0.trans (hb6.mono hb0.size)
      have hX5 := hid h5
      have hX6 := hid h6
      have hY5 := hid (hX5.out.row lo)
      have hY6 := hid (hX6.out.otherRow (Ne.symm hne) (cellsW lo))
      have hZ6 := hid (hY6.out.row hi)
      have hZ5 := hid (hY5.out.otherRow hne (cellsW hi))
      have hs1 : w.heap.size + 1 ≤ w1.heap.size := by have := hC0.out.lt; omega
      have hCw := hid (((hC0.out.below hb6 hC0.out.lt).otherRow (show w.heap.size ≠ b5 by omega) (cellsW lo)).otherRow (show w.heap.size ≠ b6 by omega) (cellsW hi))
      have hbz := below_setRow' (below_setRow' hbw b5 (by omega) (cellsW lo)) b6 (by omega) (cellsW hi)
      clear h5 h6 hv0 hF hBk hb6 hC0 hb0
      go_wp2_with (first | (refine wpList_store_row rfl 25 (.tmp 5) (.tmp 18) rfl b5 _ rfl rfl 25 _ hX5.out iLo.out (by rw [size_cellsW, size_cellsW]) nLo.out ?_; simp only [Act.put]) | (refine wpList_store_row rfl 25 (.tmp 6) (.tmp 22) rfl b6 _ rfl rfl 25 _ hY6.out iHi.out (by rw [size_cellsW, size_cellsW]) nHi.out ?_; simp only [Act.put]) | (refine wpList_build_cells rfl 25 _ rfl (cellsW 0) (by first | exact hBn.out | (simp only [List.map_toArray, List.map_cons, List.map_nil]; exact hBn.out)) ?_; simp only [Act.put, pvA, pv0, pv1]))
      generalize (w6.setRow b5 (cellsW lo)).setRow b6 (cellsW hi) = w7 at hZ5 hZ6 hCw hbz ⊢
      clear hX5 hX6 hY5 hY6 hbw
      refine (hNot.out _).mono ?_
      rintro e w8 ⟨rfl, hs8⟩
      go_wp2_with (refine wpList_build_cells rfl 25 _ rfl (cellsW 1) (by first | exact hB1.out | (simp only [List.map_toArray, List.map_cons, List.map_nil]; exact hB1.out)) ?_; simp only [Act.put, pvA, pv0, pv1])
      refine (hLl.out _).mono ?_
      rintro e w9 ⟨rfl, hs9⟩
      go_wp2_with fail
      refine (hAm.out _).mono ?_
      rintro e w10 ⟨rfl, hs10⟩
      have hL10 := hid ((((hZ5.out.step hs8).step hs9).step hs10).alloc (.cells (cellsW ov) 25))
      have hH10 := hid ((((hZ6.out.step hs8).step hs9).step hs10).alloc (.cells (cellsW ov) 25))
      have hC10 := hid ((((hCw.out.step hs8).step hs9).step hs10).alloc (.cells (cellsW ov) 25))
      have hO10 := hid (ArrW.new 25 w10 ov)
      have hb10 := hbz.trans ((below_next (below_next hs8 (Nat.le_refl _) hs9) (Nat.le_refl _) hs10).mono hbz.size)
      have hb11 := hb10.alloc hb10.size (.cells (cellsW ov) 25)
      clear hs8 hs9 hs10 hbz hZ5 hZ6 hCw hb10
      go_wp2_with (refine wpList_allocStore 25 27 7 (cellsW ov) (cellsW 0) rfl rfl rfl rfl rfl rfl (by decide) (by simp) rfl (by kernel_rfl) (by rw [size_cellsW, size_cellsW]) iOv.out nOv.out ?_; simp only [Act.put, pvA, pv0, pv1])
      obtain ⟨G, hG⟩ : ∃ G, G = w10.heap.size := ⟨_, rfl⟩
      rw [← hG] at hO10 ⊢
      generalize w10.alloc (.cells (cellsW ov) 25) = w11 at hL10 hH10 hC10 hO10 hb11 ⊢
      clear hG
      ((try simp only [World.size_alloc]); refine wp_region_ext_tail 5 (by kernel_rfl) (by kernel_rfl) ?_; simp only [List.take_succ_cons, List.take_zero, List.drop_succ_cons, List.drop_zero]; (repeat (first | (refine wpQuiet_load_want 25 (.tmp 5) rfl b5 rfl 25 (cellsW _) _ hL10.out uWd rfl iLo.out rfl ?_; simp only [Act.put, pvA, pv0, pv1]) | (refine wpQuiet_load_want 25 (.tmp 6) rfl b6 rfl 25 (cellsW _) _ hH10.out uWd rfl iHi.out rfl ?_; simp only [Act.put, pvA, pv0, pv1]) | (refine wpQuiet_load_want 25 (.tmp 7) rfl G rfl 25 (cellsW _) _ hO10.out uWd rfl iOv.out rfl ?_; simp only [Act.put, pvA, pv0, pv1]) | go_big_quiet_step (first | (go_at_call 24; with_reducible refine Calls.ext_of (hMu.out _)) | (go_at_call 11; with_reducible refine Calls.ext_of (hAd.out _))))); refine wpQuiet_nil ?_; rintro _ ⟨xw, rfl⟩)
      have hC12 := hid (hC10.out.ext xw)
      have hb12 := World.ext_below_of hb11 hb11.size xw
      clear hL10 hH10 hC10 hO10 hb11
      go_wp2_with (refine wpList_store_row rfl 25 (.tmp 2) (.tmp 32) rfl w.heap.size _ rfl rfl 25 _ hC12.out iR.out (by rw [size_cellsW, size_cellsW]) nR.out ?_; simp only [Act.put])
      refine bodyPost_ret (results_row_tmp rfl _ _ w.heap.size 25 (cellsW r) (0, 0) _ rfl (heap_setRow' _ _ _ _ _ hC12.out) uWd rfl iR.out) rfl ⟨rfl, below_setRow' hb12 _ (Nat.le_refl _) _⟩
end Go.Proofs.Ytejnnghfelpioaa
namespace Go.Proofs.Ytejnnghfelpioaa
open Go.RowKit
def carN (f : F5) : Nat → F5
  | 0 => f
  | i + 1 => car5 (carN f i)
theorem carN_t (f : F5) (h : T5 f) : ∀ i, T5 (carN f i)
  | 0 => h
  | i + 1 => car5_t _ ((carN_t f h i).mono (by decide))
theorem carN_six (f : F5) : carN f 6 = car6 f := rfl
theorem or_hi (x y B r : Nat) (hB : B = 2 ^ r) (hr : r ≤ 64) (hx : x < B) (hx64 : x < 2 ^ 64) : bits .or .u64 (x : Int) (IntKind.u64.wrap ((y : Int) * (B : Int))) = ((x + y * B % 2 ^ 64 : Nat) : Int) := by
  have := shr_or x y 1 B r hB hr (by decide) (by rw [Nat.div_one]; exact hx) hx64
  rw [Nat.div_one] at this
  simpa using this
theorem pack_words (f : F5) (h : Ok5 2251799813685248 f) : val5 f < 2 ^ 256 ∧ lmN (val5 f) 0 = f.a0 + f.a1 * 2251799813685248 % 2 ^ 64 ∧ lmN (val5 f) 1 = f.a1 / 8192 + f.a2 * 274877906944 % 2 ^ 64 ∧ lmN (val5 f) 2 = f.a2 / 67108864 + f.a3 * 33554432 % 2 ^ 64 ∧ lmN (val5 f) 3 = f.a3 / 549755813888 + f.a4 * 4096 % 2 ^ 64 := by
  obtain ⟨h0, h1, h2, h3, h4⟩ := h
  obtain ⟨a0, a1, a2, a3, a4⟩ := f
  unfold val5 lmN
  simp only at *
  refine ⟨by omega, ?_, ?_, ?_, ?_⟩
  · rw [show 2 ^ (64 * 0) = 1 from rfl]; omega
  · rw [show 2 ^ (64 * 1) = 18446744073709551616 from rfl]; omega
  · rw [show 2 ^ (64 * 2) = 340282366920938463463374607431768211456 from rfl]; omega
  · rw [show 2 ^ (64 * 3) = 6277101735386680763835789423207666416102355444464034512896 from rfl]; omega
set_option maxRecDepth 20000 in
set_option maxHeartbeats 2000000 in
theorem word5_any (f : F5) (w : World) (hf : T5 f) : Calls Try.prog 30 #[fe f] w fun e w' => e = .returned (wd (val5 f % pN)) ∧ Below w.heap.size w w' := by
  have hT := hid (carN_t f hf)
  have hC := hid fun i w => car5_any (carN f i) w ((carN_t f hf i).mono (by decide))
  have h6 := car6_ok f hf
  have hP := pack_words (car6 f) h6
  have hAd := hid fun w => fadd_any (val5 (car6 f)) 0 w hP.1 (by decide)
  rw [Nat.add_zero, car6_mod f] at hAd
  obtain ⟨V, hV⟩ : ∃ V, V = val5 (car6 f) := ⟨_, rfl⟩
  rw [← hV] at hAd hP
  obtain ⟨r, hr⟩ : ∃ r, r = val5 f % pN := ⟨_, rfl⟩
  rw [← hr] at hAd ⊢
  have H6 := hid h6
  have HP := hid hP
  clear hV hr hP h6 hf
  obtain ⟨w0, hw0, k1, k2, hb0⟩ := entry2 w 64 (cells5 f) 25 (cellsW 0)
  have hA0 := hid k1
  have hR0 := hid k2
  clear k1 k2
  unfold fe wd at *
  go_enter Try.func30, Try.ntmps30
  go_wp2_with (refine wpList_alloc_new rfl 25 rfl (cellsW 0) zWd ?_; simp only [Act.put, pvA, pv0, pv1, World.size_alloc])
  rw [← hw0]
  clear hw0
  go_loopw [4] (fun iv wr => ∃ i : Nat, i ≤ 6 ∧ iv = .int .i64 (i : Int) ∧ Hid (Blk 64 wr w.heap.size (cells5 (carN f i))) ∧ Hid (Blk 25 wr (w.heap.size + 1) (cellsW 0)) ∧ Below w.heap.size w wr)
    (fun iv _ => 6 - (intOf iv).toNat)
  case atStart => exact ⟨0, by omega, rfl, hA0, hR0, hb0⟩
  case round =>
    clear hA0 hR0 hb0
    obtain ⟨i, hi, rfl, hA, hR, hb⟩ := hrel
    by_cases hlt : i < 6
    · have hC1 := hid (hC.out i)
      obtain ⟨x, hx⟩ : ∃ x, x = carN f i := ⟨_, rfl⟩
      have hy : car5 x = carN f (i + 1) := by rw [hx]; rfl
      rw [← hx] at hC1 hA
      rw [hy] at hC1
      obtain ⟨y, hy2⟩ : ∃ y, y = carN f (i + 1) := ⟨_, rfl⟩
      rw [← hy2] at hC1
      have HY := hid hy2
      clear hx hy hy2
      go_wp2_with (refine wpList_get _ _ rfl rfl _ rfl _ _ hA.out g5 (i5 x) ?_; simp only [Act.put, pvA, pv0, pv1])
      refine (hC1.out _).mono ?_
      rintro en w2 ⟨rfl, hb2⟩
      have hA2 := hid (hA.out.step hb2)
      have hR2 := hid ((hR.out.step hb2).other (show w.heap.size + 1 ≠ w.heap.size by omega) (cells5 y))
      have hA3 := hid (hA2.out.set (cells5 y))
      have hb3 := below_set (hb.trans (hb2.mono hb.size)) w.heap.size (Nat.le_refl _) (cells5 y)
      clear hA hR hb hb2 hC1
      go_wp2_with (refine wpList_store_row rfl 64 (.tmp 1) (.tmp 7) rfl w.heap.size _ rfl rfl 64 _ hA2.out (i5 _) rfl (one_cells5 _) ?_; simp only [Act.put])
      go_roundw
      case rel => exact ⟨i + 1, by omega, by go_num, by rw [← HY.out]; exact hA3, hR2, hb3⟩
      case measure => simp [intOf]; omega
    · obtain rfl : i = 6 := by omega
      rw [carN_six] at hA
      clear hlt hi hC hT
      obtain ⟨g, hg⟩ : ∃ g, g = car6 f := ⟨_, rfl⟩
      rw [← hg] at hA H6 HP
      obtain ⟨l0, l1, l2, l3, l4⟩ := H6.out
      obtain ⟨p0, p1, p2, p3, p4⟩ := HP.out
      clear hg H6 HP
      obtain ⟨a0, a1, a2, a3, a4⟩ := g
      simp only at l0 l1 l2 l3 l4 p1 p2 p3 p4
      have o0 : bits .or .u64 (a0 : Int) (IntKind.u64.wrap ((a1 : Int) * 2251799813685248)) = _ := or_hi a0 a1 2251799813685248 51 rfl (by decide) l0 (by omega)
      have o1 : bits .or .u64 ((a1 : Int) / 8192) (IntKind.u64.wrap ((a2 : Int) * 274877906944)) = _ := shr_or a1 a2 8192 274877906944 38 rfl (by decide) (by decide) (by omega) (by omega)
      have o2 : bits .or .u64 ((a2 : Int) / 67108864) (IntKind.u64.wrap ((a3 : Int) * 33554432)) = _ := shr_or a2 a3 67108864 33554432 25 rfl (by decide) (by decide) (by omega) (by omega)
      have o3 : bits .or .u64 ((a3 : Int) / 549755813888) (IntKind.u64.wrap ((a4 : Int) * 4096)) = _ := shr_or a3 a4 549755813888 4096 12 rfl (by decide) (by decide) (by omega) (by omega)
      rw [← p1] at o0
      rw [← p2] at o1
      rw [← p3] at o2
      rw [← p4, show IntKind.u64.wrap ((a4 : Int) * 4096) = (a4 : Int) * 4096 by rw [IntKind.wrap_u64]; omega] at o3
      clear p1 p2 p3 p4
      have c0 := hA.out.cell 0 (.int .u64 (a0 : Int)) rfl
      have c1 := hA.out.cell 1 (.int .u64 (a1 : Int)) rfl
      have c2 := hA.out.cell 2 (.int .u64 (a2 : Int)) rfl
      have c3 := hA.out.cell 3 (.int .u64 (a3 : Int)) rfl
      have c4 := hA.out.cell 4 (.int .u64 (a4 : Int)) rfl
      have lA := hA.out.lt
      have hR2 := hid (hR.out.alloc (.cells (cellsW V) 25))
      have hb2 := hb.alloc hb.size (.cells (cellsW V) 25)
      unfold cellsW lm at hAd hR2 hb2
      generalize lmN V 0 = q0 at *
      generalize lmN V 1 = q1 at *
      generalize lmN V 2 = q2 at *
      generalize lmN V 3 = q3 at *
      go_wp2_with fail
      refine (hAd.out _).mono ?_
      rintro en w3 ⟨rfl, hs3⟩
      have hR3 := hid (hR2.out.step hs3)
      have hb3 := hb2.trans (hs3.mono hb2.size)
      clear hR2 hb2 hs3 hR hb
      go_wp2_with (refine wpList_set 25 (.tmp 2) (.tmp 39) rfl rfl rfl (w.heap.size + 1) (cellsW r) rfl rfl 25 (cellsW 0) hR3.out (iW r) rfl (one_cellsW r) ?_)
      refine ret_blk (w.heap.size + 1) 25 (cellsW r) rfl rfl (hR3.out.set _) gWd (iW r) rfl ?_
      exact ⟨rfl, below_set hb3 _ (by omega) _⟩
def pwR (f : F5) (e : Nat) : Nat → F5
  | 0 => one5
  | m + 1 => if e / 2 ^ (254 - m) % 2 = 1 then mul5 (mul5 (pwR f e m) (pwR f e m)) f else mul5 (pwR f e m) (pwR f e m)
theorem pwR_t (f : F5) (e : Nat) (h : T5 f) : ∀ m, T5 (pwR f e m)
  | 0 => t5_one
  | m + 1 => by
    have ih := pwR_t f e h m
    rw [pwR]; split
    · exact mul5_t _ _ (mul5_t _ _ ih ih) h
    · exact mul5_t _ _ ih ih
theorem pwR_val (f : F5) (e : Nat) (he : e < 2 ^ 255) : ∀ m, m ≤ 255 → val5 (pwR f e m) % pN = powP (val5 f) (e / 2 ^ (255 - m))
  | 0, _ => by
    rw [Nat.sub_zero, Nat.div_eq_of_lt he, powP_zero]; exact (show val5 one5 % pN = 1 by decide +kernel)
  | m + 1, hm => by
    have ih := pwR_val f e he m (by omega)
    have hd := bit_down e (254 - m)
    rw [show 254 - m + 1 = 255 - m by omega] at hd
    rw [show 255 - (m + 1) = 254 - m by omega]
    have hsq : val5 (mul5 (pwR f e m) (pwR f e m)) % pN = powP (val5 f) (2 * (e / 2 ^ (255 - m))) := by
      rw [mul5_mod, Nat.mul_mod, ih, powP_double]
    rw [pwR]
    split
    · rename_i h1
      rw [mul5_mod, Nat.mul_mod, hsq, show powP (val5 f) (2 * (e / 2 ^ (255 - m))) * (val5 f % pN) % pN = powP (val5 f) (2 * (e / 2 ^ (255 - m))) * val5 f % pN by rw [Nat.mul_mod, Nat.mod_mod, ← Nat.mul_mod], powP_succ, ← h1, ← hd]
    · rename_i h1
      rw [hsq]
      congr 1; omega
def inv5 (f : F5) : F5 := pwR f (pN - 2) 255
theorem inv5_t (f : F5) (h : T5 f) : T5 (inv5 f) := pwR_t f _ h _
theorem inv5_val (f : F5) : val5 (inv5 f) % pN = powP (val5 f) (pN - 2) := by
  unfold inv5
  rw [pwR_val f _ (by decide +kernel) 255 (Nat.le_refl _)]
  congr 1
theorem p2_cells : (cellsW pN).setIfInBounds 0 (.int .u64 18446744073709551595) = cellsW (pN - 2) := by
  rw [p_cells, show cellsW (pN - 2) = #[.int .u64 18446744073709551595, .int .u64 18446744073709551615, .int .u64 18446744073709551615, .int .u64 9223372036854775807] by
    have e : ∀ i, i < 4 → lm (pN - 2) i = if i = 0 then 18446744073709551595 else if i = 3 then 9223372036854775807 else 18446744073709551615 := by decide +kernel
    unfold cellsW; rw [e 0 (by decide), e 1 (by decide), e 2 (by decide), e 3 (by decide)]; rfl]
  rfl
theorem b5_one : Try.prog.built 64 [(0, .int .u64 1)] = some (cells5 one5) := by kernel_rfl
set_option maxRecDepth 20000 in
set_option maxHeartbeats 4000000 in
theorem inv5_any (f : F5) (w : World) (hf : T5 f) : Calls Try.prog 74 #[fe f, .int .u64 2, .int .i64 0] w fun e w' => e = .returned (fe (inv5 f)) ∧ Below w.heap.size w w' := by
  have hM := hid fun a b w (ha : T5 a) (hb : T5 b) => mul5_any a b w ha hb
  have hT := hid fun m => pwR_t f (pN - 2) hf m
  have hP := hid fun w => fP_any w
  have hB1 := hid b5_one
  have HF := hid hf
  have hi : inv5 f = pwR f (pN - 2) 255 := rfl
  rw [hi]
  have p2 := hid p2_cells
  have c0 : (cellsW pN)[0]? = some (.int .u64 18446744073709551597) := by rw [p_cells]; rfl
  have HC := hid c0
  obtain ⟨E, hE⟩ : ∃ E, E = pN - 2 := ⟨_, rfl⟩
  rw [← hE] at hT p2 ⊢
  obtain ⟨p, hp⟩ : ∃ p, p = pN := ⟨_, rfl⟩
  rw [← hp] at hP p2 HC
  clear hE hp c0 hi hf
  have iP := hid (iW p)
  have nP := hid (one_cellsW p)
  obtain ⟨w0, hw0, k1, k2, hb0⟩ := entry2 w 64 (cells5 f) 64 (cells5 zero5)
  have hF0 := hid k1
  have hR0 := hid k2
  clear k1 k2
  unfold fe wd at *
  go_enter Try.func74, Try.ntmps74
  go_wp2_with (refine wpList_alloc_new rfl 64 rfl (cells5 zero5) z5 ?_; simp only [Act.put, pvA, pv0, pv1, World.size_alloc])
  rw [← hw0]
  clear hw0
  refine (hP.out _).mono ?_
  rintro en w1 ⟨rfl, hs1⟩
  have hF1 := hid (((hF0.out.step hs1).alloc (.cells (cellsW E) 25)).alloc (.cells (cells5 one5) 64))
  have hR1 := hid (((hR0.out.step hs1).alloc (.cells (cellsW E) 25)).alloc (.cells (cells5 one5) 64))
  have hP1 := hid ((Blk.new 25 w1 (cellsW E)).alloc (.cells (cells5 one5) 64))
  have hO1 := Blk.new 64 (w1.alloc (.cells (cellsW E) 25)) (cells5 one5)
  simp only [World.size_alloc] at hO1
  replace hO1 := hid hO1
  have hc1 := hb0.trans (hs1.mono hb0.size)
  have hb1 := (hc1.alloc hc1.size (.cells (cellsW E) 25)).alloc (by rw [World.size_alloc]; have := hc1.size; omega) (.cells (cells5 one5) 64)
  have kq := HC.out
  have kp := p2.out
  have hlt1 := (hR0.out.step hs1).lt
  clear hF0 hR0 hb0
  go_wp2_with (first | (refine wpList_allocStore 25 10 7 (cellsW p) (cellsW 0) rfl rfl rfl rfl rfl rfl (by decide) (by simp) rfl (by kernel_rfl) (by rw [size_cellsW, size_cellsW]) iP.out nP.out ?_; simp only [Act.put, pvA, pv0, pv1]) | (refine wpList_build_cells rfl 64 _ rfl (cells5 one5) (by first | exact hB1.out | (simp only [List.map_toArray, List.map_cons, List.map_nil]; exact hB1.out)) ?_; simp only [Act.put, pvA, pv0, pv1]) | (refine wpList_allocStore 64 16 8 (cells5 one5) (cells5 zero5) rfl rfl rfl rfl rfl rfl (by decide) (by simp) rfl (by kernel_rfl) rfl (i5 _) (one_cells5 _) ?_; simp only [Act.put, pvA, pv0, pv1]))
  (try simp only [World.size_alloc])
  have hGl : w.heap.size + 2 ≤ w1.heap.size := by omega
  obtain ⟨G, hG⟩ : ∃ G, G = w1.heap.size := ⟨_, rfl⟩
  rw [← hG] at hP1 hO1 hGl ⊢
  clear hG hc1 hs1 kq kp HC p2 iP nP hlt1
  generalize (w1.alloc (.cells (cellsW E) 25)).alloc (.cells (cells5 one5) 64) = w2 at hF1 hR1 hP1 hO1 hb1 ⊢
  go_loopw [9] (fun iv wr => ∃ (n : Nat) (x : Int), n ≤ 255 ∧ x + 1 = (n : Int) ∧ iv = .int .i64 x ∧ Hid (Blk 64 wr w.heap.size (cells5 f)) ∧ Hid (Blk 64 wr (w.heap.size + 1) (cells5 zero5)) ∧ Hid (Blk 25 wr G (cellsW E)) ∧ Hid (Blk 64 wr (G + 1) (cells5 (pwR f E (255 - n)))) ∧ Below w.heap.size w wr)
    (fun iv _ => (intOf iv + 1).toNat)
  case atStart => exact ⟨255, 254, by omega, by omega, rfl, hF1, hR1, hP1, hO1, hb1⟩
  case round =>
    clear hF1 hR1 hP1 hO1 hb1
    obtain ⟨n, x, hn, hx, rfl, hF, hR, hP, hO, hb⟩ := hrel
    cases n with
    | zero =>
      obtain rfl : x = -1 := by omega
      rw [Nat.sub_zero] at hO
      obtain ⟨r, hr⟩ : ∃ r, r = pwR f E 255 := ⟨_, rfl⟩
      rw [← hr] at hO
      have HR := hid hr
      clear hr hx hn hT
      go_wp2_with (first | (refine wpList_get _ _ rfl rfl _ rfl _ _ hO.out g5 (i5 r) ?_; simp only [Act.put, pvA, pv0, pv1]) | (refine wpList_set _ _ _ rfl rfl rfl _ _ rfl rfl _ _ hR.out (i5 r) rfl (one_cells5 r) ?_))
      refine ret_blk (w.heap.size + 1) 64 (cells5 r) rfl rfl (hR.out.set _) g5 (i5 r) rfl ?_
      exact ⟨by rw [HR.out], below_set hb _ (by omega) _⟩
    | succ k =>
      obtain rfl : x = (k : Int) := by omega
      have hk : k ≤ 254 := by omega
      have hki : (k : Int) ≤ 254 := by omega
      clear hn hx
      have hbit := lm_bit E k
      obtain ⟨m, hm⟩ : ∃ m, m = 255 - (k + 1) := ⟨_, rfl⟩
      rw [← hm] at hO
      have hTm := hT.out m
      have hpw : pwR f E (255 - k) = if E / 2 ^ k % 2 = 1 then mul5 (mul5 (pwR f E m) (pwR f E m)) f else mul5 (pwR f E m) (pwR f E m) := by
        rw [show 255 - k = m + 1 by omega, pwR, show 254 - m = k by omega]
      obtain ⟨y, hy⟩ : ∃ y, y = pwR f E m := ⟨_, rfl⟩
      rw [← hy] at hO hTm hpw
      have hM1 := hid fun w => hM.out y y w hTm hTm
      have hTz := mul5_t y y hTm hTm
      obtain ⟨z, hz⟩ : ∃ z, z = mul5 y y := ⟨_, rfl⟩
      rw [← hz] at hM1 hTz hpw
      have HTZ := hid hTz
      clear hm hy hz hTm hTz
      go_wp2_with (refine wpList_get _ _ rfl rfl _ rfl _ _ hO.out g5 (i5 y) ?_; simp only [Act.put, pvA, pv0, pv1])
      refine (hM1.out _).mono ?_
      rintro en w3 ⟨rfl, hs3⟩
      have hF3 := hid ((hF.out.step hs3).other (show w.heap.size ≠ G + 1 by omega) (cells5 z))
      have hR3 := hid ((hR.out.step hs3).other (show w.heap.size + 1 ≠ G + 1 by omega) (cells5 z))
      have hP3 := hid ((hP.out.step hs3).other (show G ≠ G + 1 by omega) (cells5 z))
      have hO2 := hid (hO.out.step hs3)
      have hO3 := hid (hO2.out.set (cells5 z))
      have hb3 := below_set (hb.trans (hs3.mono hb.size)) (G + 1) (by omega) (cells5 z)
      clear hF hR hP hO hb hs3 hM1
      have cP := hP3.out.cell (k / 64) _ (cellsW_at E (k / 64) (by omega))
      have lP := hP3.out.lt
      rcases (show E / 2 ^ k % 2 = 0 ∨ E / 2 ^ k % 2 = 1 by omega) with h0 | h1
      · rw [if_neg (by omega)] at hpw
        rw [h0] at hbit
        have HPW := hid hpw
        clear h0 hpw
        go_wp2_with (refine wpList_set _ _ _ rfl rfl rfl _ _ rfl rfl _ _ hO2.out (i5 z) rfl (one_cells5 z) ?_)
        go_roundw
        case rel => exact ⟨k, (k : Int) - 1, by omega, by omega, by go_num, hF3, hR3, hP3, by rw [HPW.out]; exact hO3, hb3⟩
        case measure => simp [intOf]
      · rw [if_pos h1] at hpw
        rw [h1] at hbit
        have hM2 := hid fun w => hM.out z f w HTZ.out HF.out
        obtain ⟨u, hu⟩ : ∃ u, u = mul5 z f := ⟨_, rfl⟩
        rw [← hu] at hM2 hpw
        have HPW := hid hpw
        clear h1 hpw hu
        go_wp2_with (first | (refine wpList_set _ _ _ rfl rfl rfl _ _ rfl rfl _ _ hO2.out (i5 z) rfl (one_cells5 z) ?_) | (refine wpList_get _ _ rfl rfl _ rfl _ _ hO3.out g5 (i5 z) ?_; simp only [Act.put, pvA, pv0, pv1]) | (refine wpList_get _ _ rfl rfl _ rfl _ _ hF3.out g5 (i5 f) ?_; simp only [Act.put, pvA, pv0, pv1]))
        refine (hM2.out _).mono ?_
        rintro en w5 ⟨rfl, hs5⟩
        have hF5 := hid ((hF3.out.step hs5).other (show w.heap.size ≠ G + 1 by omega) (cells5 u))
        have hR5 := hid ((hR3.out.step hs5).other (show w.heap.size + 1 ≠ G + 1 by omega) (cells5 u))
        have hP5 := hid ((hP3.out.step hs5).other (show G ≠ G + 1 by omega) (cells5 u))
        have hO4 := hid (hO3.out.step hs5)
        have hO5 := hid (hO4.out.set (cells5 u))
        have hb5 := below_set (hb3.trans (hs5.mono hb3.size)) (G + 1) (by omega) (cells5 u)
        clear hF3 hR3 hP3 hO2 hO3 hb3 hs5 hM2 cP lP
        go_wp2_with (refine wpList_set _ _ _ rfl rfl rfl _ _ rfl rfl _ _ hO4.out (i5 u) rfl (one_cells5 u) ?_)
        go_roundw
        case rel => exact ⟨k, (k : Int) - 1, by omega, by omega, by go_num, hF5, hR5, hP5, by rw [HPW.out]; exact hO5, hb5⟩
        case measure => simp [intOf]
end Go.Proofs.Ytejnnghfelpioaa
namespace Go.Proofs.Ytejnnghfelpioaa
open Go.RowKit
structure W4 where
  x : F5
  y : F5
  z : F5
  t : F5
def cells4 (p : W4) : Array Value := #[.int .u64 (p.x.a0 : Int), .int .u64 (p.x.a1 : Int), .int .u64 (p.x.a2 : Int), .int .u64 (p.x.a3 : Int), .int .u64 (p.x.a4 : Int),
  .int .u64 (p.y.a0 : Int), .int .u64 (p.y.a1 : Int), .int .u64 (p.y.a2 : Int), .int .u64 (p.y.a3 : Int), .int .u64 (p.y.a4 : Int),
  .int .u64 (p.z.a0 : Int), .int .u64 (p.z.a1 : Int), .int .u64 (p.z.a2 : Int), .int .u64 (p.z.a3 : Int), .int .u64 (p.z.a4 : Int),
  .int .u64 (p.t.a0 : Int), .int .u64 (p.t.a1 : Int), .int .u64 (p.t.a2 : Int), .int .u64 (p.t.a3 : Int), .int .u64 (p.t.a4 : Int)]
def w4 (p : W4) : Value := .agg (cells4 p)
structure TW (p : W4) : Prop where
  x : T5 p.x
  y : T5 p.y
  z : T5 p.z
  t : T5 p.t
def zero4 : W4 := ⟨zero5, zero5, zero5, zero5⟩
theorem in4 (f : F5) (cs : Array Value) (o : Nat) (h : ∀ j, j < 5 → cs[o + j]? = (cells5 f)[j]?) : ∀ j v, (cells5 f)[j]? = some v → cs[o + j]? = some v := fun j v hv => by
  have hj : j < 5 := (Array.getElem?_eq_some_iff.1 hv).1
  rw [h j hj]; exact hv
theorem at5 {P : Nat → Prop} (h0 : P 0) (h1 : P 1) (h2 : P 2) (h3 : P 3) (h4 : P 4) : ∀ j, j < 5 → P j := fun j hj => by
  match j, hj with
  | 0, _ => exact h0
  | 1, _ => exact h1
  | 2, _ => exact h2
  | 3, _ => exact h3
  | 4, _ => exact h4
theorem in4_x (p : W4) : ∀ j v, (cells5 p.x)[j]? = some v → (cells4 p)[0 + j]? = some v := in4 _ _ _ (at5 (P := fun j => (cells4 p)[0 + j]? = (cells5 p.x)[j]?) rfl rfl rfl rfl rfl)
theorem in4_y (p : W4) : ∀ j v, (cells5 p.y)[j]? = some v → (cells4 p)[5 + j]? = some v := in4 _ _ _ (at5 (P := fun j => (cells4 p)[5 + j]? = (cells5 p.y)[j]?) rfl rfl rfl rfl rfl)
theorem in4_z (p : W4) : ∀ j v, (cells5 p.z)[j]? = some v → (cells4 p)[10 + j]? = some v := in4 _ _ _ (at5 (P := fun j => (cells4 p)[10 + j]? = (cells5 p.z)[j]?) rfl rfl rfl rfl rfl)
theorem in4_t (p : W4) : ∀ j v, (cells5 p.t)[j]? = some v → (cells4 p)[15 + j]? = some v := in4 _ _ _ (at5 (P := fun j => (cells4 p)[15 + j]? = (cells5 p.t)[j]?) rfl rfl rfl rfl rfl)
theorem g4 : aggT Try.prog 66 = true := by kernel_rfl
theorem i4 (p : W4) : (Try.prog.info? 66).map (·.size) = some (cells4 p).size := by kernel_rfl
theorem z4 : (Try.prog.info? 66).bind (·.zero) = some (.agg (cells4 zero4)) := by kernel_rfl
theorem one_cells4 (p : W4) : (cells4 p).all (·.oneCell') = true := by simp [cells4, Value.oneCell']
theorem b4 (x y z t : F5) : Try.prog.built 66 [(0, .agg (cells5 x)), (1, .agg (cells5 y)), (2, .agg (cells5 z)), (3, .agg (cells5 t))] = some (cells4 ⟨x, y, z, t⟩) := by kernel_rfl
structure P2 where
  x : Nat
  y : Nat
def cellsP (p : P2) : Array Value := #[.int .u64 (lm p.x 0), .int .u64 (lm p.x 1), .int .u64 (lm p.x 2), .int .u64 (lm p.x 3), .int .u64 (lm p.y 0), .int .u64 (lm p.y 1), .int .u64 (lm p.y 2), .int .u64 (lm p.y 3)]
def pt (p : P2) : Value := .agg (cellsP p)
def zeroP : P2 := ⟨0, 0⟩
structure LtP (p : P2) : Prop where
  x : p.x < 2 ^ 256
  y : p.y < 2 ^ 256
theorem inP (f : Nat) (cs : Array Value) (o : Nat) (h : ∀ j, j < 4 → cs[o + j]? = (cellsW f)[j]?) : ∀ j v, (cellsW f)[j]? = some v → cs[o + j]? = some v := fun j v hv => by
  have hj : j < 4 := (Array.getElem?_eq_some_iff.1 hv).1
  rw [h j hj]; exact hv
theorem at4 {P : Nat → Prop} (h0 : P 0) (h1 : P 1) (h2 : P 2) (h3 : P 3) : ∀ j, j < 4 → P j := fun j hj => by
  match j, hj with
  | 0, _ => exact h0
  | 1, _ => exact h1
  | 2, _ => exact h2
  | 3, _ => exact h3
theorem inP_x (p : P2) : ∀ j v, (cellsW p.x)[j]? = some v → (cellsP p)[0 + j]? = some v := inP _ _ _ (at4 (P := fun j => (cellsP p)[0 + j]? = (cellsW p.x)[j]?) rfl rfl rfl rfl)
theorem inP_y (p : P2) : ∀ j v, (cellsW p.y)[j]? = some v → (cellsP p)[4 + j]? = some v := inP _ _ _ (at4 (P := fun j => (cellsP p)[4 + j]? = (cellsW p.y)[j]?) rfl rfl rfl rfl)
theorem gPe : aggT Try.prog 44 = true := by kernel_rfl
theorem iPe (p : P2) : (Try.prog.info? 44).map (·.size) = some (cellsP p).size := by kernel_rfl
theorem zPe : (Try.prog.info? 44).bind (·.zero) = some (.agg (cellsP zeroP)) := by kernel_rfl
theorem one_cellsP (p : P2) : (cellsP p).all (·.oneCell') = true := by simp [cellsP, Value.oneCell']
theorem bPe (x y : Nat) : Try.prog.built 44 [(0, .agg (cellsW x)), (1, .agg (cellsW y))] = some (cellsP ⟨x, y⟩) := by kernel_rfl
def qv (p : W4) : Nat × Nat × Nat × Nat := (val5 p.x % pN, val5 p.y % pN, val5 p.z % pN, val5 p.t % pN)
end Go.Proofs.Ytejnnghfelpioaa
namespace Go.Proofs.Ytejnnghfelpioaa
open Go.RowKit
structure G16 where
  a0 : Int
  a1 : Int
  a2 : Int
  a3 : Int
  a4 : Int
  a5 : Int
  a6 : Int
  a7 : Int
  a8 : Int
  a9 : Int
  a10 : Int
  a11 : Int
  a12 : Int
  a13 : Int
  a14 : Int
  a15 : Int
def cellsG (g : G16) : Array Value := #[.int .i64 g.a0, .int .i64 g.a1, .int .i64 g.a2, .int .i64 g.a3, .int .i64 g.a4, .int .i64 g.a5, .int .i64 g.a6, .int .i64 g.a7, .int .i64 g.a8, .int .i64 g.a9, .int .i64 g.a10, .int .i64 g.a11, .int .i64 g.a12, .int .i64 g.a13, .int .i64 g.a14, .int .i64 g.a15]
def G16.l (g : G16) : List Int := [g.a0, g.a1, g.a2, g.a3, g.a4, g.a5, g.a6, g.a7, g.a8, g.a9, g.a10, g.a11, g.a12, g.a13, g.a14, g.a15]
def gf (g : G16) : Value := .agg (cellsG g)
structure F4 where
  x : G16
  y : G16
  z : G16
  t : G16
end Go.Proofs.Ytejnnghfelpioaa
