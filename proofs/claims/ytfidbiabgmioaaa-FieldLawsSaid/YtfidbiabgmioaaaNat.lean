import Derived.Test.YtfidbiabgmioaaaBase
/-! Numbers as digits to the base 256: the plain law. -/
set_option maxRecDepth 4000
set_option linter.unusedVariables false
set_option linter.unusedSimpArgs false
namespace Go.Proofs.Ytfidbiabgmioaaa

def num : List Nat → Nat
  | [] => 0
  | d :: l => d + 256 * num l
def dg (n : Nat) : List Nat := if h : n = 0 then [] else n % 256 :: dg (n / 256)
  termination_by n
  decreasing_by omega
theorem dg_zero : dg 0 = [] := by rw [dg]; simp
theorem dg_pos (n : Nat) (h : n ≠ 0) : dg n = n % 256 :: dg (n / 256) := by rw [dg]; simp [h]
def Dig (l : List Nat) : Prop := ∀ d ∈ l, d < 256
theorem num_dg (n : Nat) : num (dg n) = n := by
  induction n using Nat.strongRecOn with
  | ind n ih =>
    by_cases h : n = 0
    · subst h; rw [dg_zero]; rfl
    · rw [dg_pos n h, num, ih (n / 256) (by omega)]; omega
theorem dg_dig (n : Nat) : Dig (dg n) := by
  induction n using Nat.strongRecOn with
  | ind n ih =>
    by_cases h : n = 0
    · subst h; rw [dg_zero]; intro d hd; cases hd
    · rw [dg_pos n h]
      intro d hd
      rcases List.mem_cons.1 hd with rfl | hd
      · omega
      · exact ih (n / 256) (by omega) d hd
theorem Dig.cons {d : Nat} {l : List Nat} (h : Dig (d :: l)) : d < 256 ∧ Dig l := ⟨h d (by simp), fun e he => h e (by simp [he])⟩
theorem Dig.app {a b : List Nat} (h : Dig a) (k : Dig b) : Dig (a ++ b) := fun d hd => by
  rcases List.mem_append.1 hd with h1 | h1
  · exact h d h1
  · exact k d h1
theorem Dig.getD {l : List Nat} (h : Dig l) (i : Nat) : l.getD i 0 < 256 := by
  rw [List.getD_eq_getElem?_getD]
  cases hq : l[i]? with
  | none => simp
  | some d => exact h d (List.mem_of_getElem? hq)
theorem Dig.take {l : List Nat} (h : Dig l) (k : Nat) : Dig (l.take k) := fun d hd => h d (List.mem_of_mem_take hd)
theorem Dig.drop {l : List Nat} (h : Dig l) (k : Nat) : Dig (l.drop k) := fun d hd => h d (List.mem_of_mem_drop hd)
theorem Dig.set {l : List Nat} (h : Dig l) (i x : Nat) (hx : x < 256) : Dig (l.set i x) := fun d hd => by
  rcases List.mem_or_eq_of_mem_set hd with h1 | h1
  · exact h d h1
  · omega
theorem Dig.rep (n : Nat) : Dig (List.replicate n 0) := fun d hd => by rw [List.mem_replicate] at hd; omega
theorem num_lt (l : List Nat) (h : Dig l) : num l < 256 ^ l.length := by
  induction l with
  | nil => simp [num]
  | cons d l ih =>
    have h1 := h.cons
    have := ih h1.2
    rw [num, List.length_cons, Nat.pow_succ]
    omega
theorem num_app (a b : List Nat) : num (a ++ b) = num a + 256 ^ a.length * num b := by
  induction a with
  | nil => simp [num]
  | cons d a ih => rw [List.cons_append, num, ih, num, List.length_cons, Nat.pow_succ, Nat.mul_add, ← Nat.mul_assoc, Nat.mul_comm (256 ^ a.length) 256]; omega
theorem num_rep (n : Nat) : num (List.replicate n 0) = 0 := by
  induction n with
  | zero => rfl
  | succ n ih => rw [List.replicate_succ, num, ih]
theorem num_zero (l : List Nat) (h : ∀ j, j < l.length → l.getD j 0 = 0) : num l = 0 := by
  induction l with
  | nil => rfl
  | cons d l ih =>
    have h0 : d = 0 := h 0 (by simp)
    rw [num, h0, ih fun j hj => h (j + 1) (by simpa using hj)]
theorem num_split (l : List Nat) (i : Nat) (h : i ≤ l.length) : num l = num (l.take i) + 256 ^ i * num (l.drop i) := by
  conv => lhs; rw [← List.take_append_drop i l]
  rw [num_app, List.length_take, Nat.min_eq_left h]
theorem num_drop (l : List Nat) (i : Nat) : num (l.drop i) = l.getD i 0 + 256 * num (l.drop (i + 1)) := by
  rcases Nat.lt_or_ge i l.length with h | h
  · rw [List.drop_eq_getElem_cons h, num]; simp [List.getD_eq_getElem?_getD, h]
  · rw [List.drop_eq_nil_of_le h, List.drop_eq_nil_of_le (by omega)]
    simp [num, List.getD_eq_getElem?_getD, List.getElem?_eq_none h]
theorem num_take_succ (l : List Nat) (i : Nat) : num (l.take (i + 1)) = num (l.take i) + 256 ^ i * l.getD i 0 := by
  rcases Nat.lt_or_ge i l.length with h | h
  · rw [List.take_succ_eq_append_getElem h, num_app, List.length_take, Nat.min_eq_left (by omega)]
    simp [num, List.getD_eq_getElem?_getD, h]
  · rw [List.take_of_length_le (by omega), List.take_of_length_le h]
    simp [List.getD_eq_getElem?_getD, List.getElem?_eq_none h]
theorem dg_num (l : List Nat) : ∀ (k : Nat), Dig l → k ≤ l.length → (∀ j, k ≤ j → j < l.length → l.getD j 0 = 0) → (k = 0 ∨ l.getD (k - 1) 0 ≠ 0) → l.take k = dg (num l) := by
  induction l with
  | nil => intro k _ _ _ _; rw [List.take_nil, num, dg_zero]
  | cons d l ih =>
    intro k hD hk hz hn
    match k with
    | 0 => rw [num_zero _ fun j hj => hz j (Nat.zero_le _) hj, dg_zero]; rfl
    | k + 1 =>
      have h1 := hD.cons
      have hi := ih k h1.2 (by simpa using hk) (fun j h2 h3 => hz (j + 1) (by omega) (by simpa using h3)) (by
        rcases Nat.eq_zero_or_pos k with h0 | h0
        · exact .inl h0
        · right
          rcases hn with h2 | h2
          · omega
          · obtain ⟨m, rfl⟩ : ∃ m, k = m + 1 := ⟨k - 1, by omega⟩
            exact h2)
      have hpos : d + 256 * num l ≠ 0 := by
        rcases Nat.eq_zero_or_pos k with h0 | h0
        · subst h0
          rcases hn with h2 | h2
          · omega
          · have : d ≠ 0 := h2
            omega
        · have hl : 0 < (l.take k).length := by rw [List.length_take]; have : k ≤ l.length := by simpa using hk
                                                omega
          rw [hi] at hl
          have : num l ≠ 0 := by intro e; rw [e, dg_zero] at hl; simp at hl
          omega
      rw [num, dg_pos _ hpos, List.take_succ_cons, hi]
      congr 1
      · omega
      · congr 1; omega
theorem dg_len (n k : Nat) (h : n < 256 ^ k) : (dg n).length ≤ k := by
  induction k generalizing n with
  | zero => have : n = 0 := by simpa using h
            subst this; rw [dg_zero]; simp
  | succ k ih =>
    by_cases h0 : n = 0
    · subst h0; rw [dg_zero]; simp
    · rw [dg_pos n h0, List.length_cons]
      have := ih (n / 256) (by rw [Nat.pow_succ] at h; omega)
      omega
theorem dg_big (n : Nat) (h : 0 < n) : 256 ^ ((dg n).length - 1) ≤ n := by
  induction n using Nat.strongRecOn with
  | ind n ih =>
    rw [dg_pos n (by omega), List.length_cons, Nat.add_sub_cancel]
    by_cases h0 : n / 256 = 0
    · rw [h0, dg_zero]; simp; omega
    · have := ih (n / 256) (by omega) (by omega)
      have hl : 0 < (dg (n / 256)).length := by rw [dg_pos _ h0]; simp
      obtain ⟨m, hm⟩ : ∃ m, (dg (n / 256)).length = m + 1 := ⟨_, (Nat.succ_pred_eq_of_pos hl).symm⟩
      rw [hm, Nat.add_sub_cancel] at this
      rw [hm, Nat.pow_succ]; omega
theorem dg_len_mono (a b : Nat) (h : a ≤ b) : (dg a).length ≤ (dg b).length := by
  apply dg_len
  have := num_lt (dg b) (dg_dig b)
  rw [num_dg] at this
  omega
/-- Digits from i on less: less. -/
theorem num_less (a b : List Nat) (ha : Dig a) (i : Nat) (h : num (a.drop i) < num (b.drop i)) : num a < num b := by
  have hb : i ≤ b.length := by
    rcases Nat.lt_or_ge b.length i with h1 | h1
    · rw [List.drop_eq_nil_of_le (Nat.le_of_lt h1)] at h; simp [num] at h
    · exact h1
  have h1 := num_split b i hb
  have h2 : num a ≤ num (a.take i) + 256 ^ i * num (a.drop i) := by
    rcases Nat.lt_or_ge a.length i with h3 | h3
    · rw [List.take_of_length_le (Nat.le_of_lt h3)]; omega
    · rw [← num_split a i h3]; omega
  have h3 : num (a.take i) < 256 ^ i := Nat.lt_of_lt_of_le (num_lt _ (ha.take i)) (Nat.pow_le_pow_right (by omega) (List.length_take_le _ _))
  have h4 : 256 ^ i * (num (a.drop i) + 1) ≤ 256 ^ i * num (b.drop i) := Nat.mul_le_mul_left _ h
  rw [Nat.mul_add, Nat.mul_one] at h4
  omega
/-- -1, 0, 1. -/
def cmpI (a b : Nat) : Int := if a < b then -1 else if b < a then 1 else 0
theorem cmpI_lt {a b : Nat} (h : a < b) : cmpI a b = -1 := by rw [cmpI, if_pos h]
theorem cmpI_gt {a b : Nat} (h : b < a) : cmpI a b = 1 := by rw [cmpI, if_neg (by omega), if_pos h]
theorem cmpI_eq {a b : Nat} (h : a = b) : cmpI a b = 0 := by rw [cmpI, if_neg (by omega), if_neg (by omega)]
theorem cmpI_zero {a b : Nat} (h : cmpI a b = 0) : a = b := by
  unfold cmpI at h; split at h
  · cases h
  · split at h
    · cases h
    · omega
theorem cmpI_neg (a b : Nat) : cmpI a b < 0 ↔ a < b := by
  unfold cmpI; split
  · simp [*]
  · split <;> simp <;> omega

/-! ### a sum -/
def plO (a b : List Nat) : Nat → List Nat × Nat
  | 0 => ([], 0)
  | i + 1 => ((plO a b i).1 ++ [((plO a b i).2 + a.getD i 0 + b.getD i 0) % 256], ((plO a b i).2 + a.getD i 0 + b.getD i 0) / 256)
theorem plO_spec (a b : List Nat) (ha : Dig a) (hb : Dig b) (i : Nat) : (plO a b i).1.length = i ∧ Dig (plO a b i).1 ∧ (plO a b i).2 ≤ 1 ∧ num (plO a b i).1 + 256 ^ i * (plO a b i).2 = num (a.take i) + num (b.take i) := by
  induction i with
  | zero => exact ⟨rfl, fun d hd => (by cases hd), by simp [plO], by simp [plO, num]⟩
  | succ i ih =>
    obtain ⟨h1, h2, h3, h4⟩ := ih
    have g1 := ha.getD i
    have g2 := hb.getD i
    refine ⟨by simp [plO, h1], ?_, by simp only [plO]; omega, ?_⟩
    · refine h2.app fun d hd => ?_
      rw [List.mem_singleton] at hd
      omega
    · simp only [plO]
      rw [num_app, h1, num_take_succ, num_take_succ, Nat.pow_succ]
      generalize hs : (plO a b i).2 + a.getD i 0 + b.getD i 0 = s
      have e : 256 ^ i * (s % 256) + 256 ^ i * 256 * (s / 256) = 256 ^ i * s := by
        rw [Nat.mul_assoc, ← Nat.mul_add, Nat.mod_add_div]
      have e2 : 256 ^ i * s = 256 ^ i * (plO a b i).2 + 256 ^ i * a.getD i 0 + 256 ^ i * b.getD i 0 := by rw [← hs, Nat.mul_add, Nat.mul_add]
      simp only [num, Nat.mul_zero, Nat.add_zero]
      omega
theorem plO_num (a b : List Nat) (ha : Dig a) (hb : Dig b) (m : Nat) (h1 : a.length ≤ m) (h2 : b.length ≤ m) : num (plO a b (m + 1)).1 = num a + num b := by
  obtain ⟨g1, g2, g3, g4⟩ := plO_spec a b ha hb (m + 1)
  rw [List.take_of_length_le (by omega), List.take_of_length_le (by omega)] at g4
  have l1 : num a < 256 ^ m := Nat.lt_of_lt_of_le (num_lt a ha) (Nat.pow_le_pow_right (by omega) h1)
  have l2 : num b < 256 ^ m := Nat.lt_of_lt_of_le (num_lt b hb) (Nat.pow_le_pow_right (by omega) h2)
  have : (plO a b (m + 1)).2 = 0 := by
    rcases Nat.eq_zero_or_pos (plO a b (m + 1)).2 with h | h
    · exact h
    · have : 256 ^ (m + 1) * 1 ≤ 256 ^ (m + 1) * (plO a b (m + 1)).2 := Nat.mul_le_mul_left _ h
      rw [Nat.pow_succ] at this g4
      omega
  rw [this] at g4
  omega

/-! ### a difference -/
def lsO (a b : List Nat) : Nat → List Nat × Nat
  | 0 => ([], 0)
  | i + 1 => if a.getD i 0 < b.getD i 0 + (lsO a b i).2 then ((lsO a b i).1 ++ [a.getD i 0 + 256 - b.getD i 0 - (lsO a b i).2], 1) else ((lsO a b i).1 ++ [a.getD i 0 - b.getD i 0 - (lsO a b i).2], 0)
theorem lsO_spec (a b : List Nat) (ha : Dig a) (hb : Dig b) (i : Nat) : (lsO a b i).1.length = i ∧ Dig (lsO a b i).1 ∧ (lsO a b i).2 ≤ 1 ∧ num (lsO a b i).1 + num (b.take i) = num (a.take i) + 256 ^ i * (lsO a b i).2 := by
  induction i with
  | zero => exact ⟨rfl, fun d hd => (by cases hd), by simp [lsO], by simp [lsO, num]⟩
  | succ i ih =>
    obtain ⟨h1, h2, h3, h4⟩ := ih
    have g1 := ha.getD i
    have g2 := hb.getD i
    generalize hA : a.getD i 0 = x at *
    generalize hB : b.getD i 0 = y at *
    generalize hO : (lsO a b i).1 = o at *
    generalize hC : (lsO a b i).2 = c at *
    have e0 : lsO a b (i + 1) = if x < y + c then (o ++ [x + 256 - y - c], 1) else (o ++ [x - y - c], 0) := by
      simp only [lsO, hA, hB, hO, hC]
    rw [e0]
    have hp : 0 < 256 ^ i := Nat.pow_pos (by omega)
    by_cases hlt : x < y + c
    · rw [if_pos hlt]
      refine ⟨by simp [h1], h2.app fun d hd => (by rw [List.mem_singleton] at hd; omega), Nat.le_refl _, ?_⟩
      show num (o ++ [x + 256 - y - c]) + num (b.take (i + 1)) = num (a.take (i + 1)) + 256 ^ (i + 1) * 1
      rw [num_app, h1, num_take_succ, num_take_succ, Nat.pow_succ, hA, hB]
      have e2 : 256 ^ i * (x + 256 - y - c) + 256 ^ i * y + 256 ^ i * c = 256 ^ i * x + 256 ^ i * 256 := by
        rw [← Nat.mul_add, ← Nat.mul_add, ← Nat.mul_add]; congr 1; omega
      simp only [num, Nat.mul_zero, Nat.add_zero]
      omega
    · rw [if_neg hlt]
      refine ⟨by simp [h1], h2.app fun d hd => (by rw [List.mem_singleton] at hd; omega), Nat.zero_le _, ?_⟩
      show num (o ++ [x - y - c]) + num (b.take (i + 1)) = num (a.take (i + 1)) + 256 ^ (i + 1) * 0
      rw [num_app, h1, num_take_succ, num_take_succ, hA, hB]
      have e2 : 256 ^ i * (x - y - c) + 256 ^ i * y + 256 ^ i * c = 256 ^ i * x := by
        rw [← Nat.mul_add, ← Nat.mul_add]; congr 1; omega
      simp only [num, Nat.mul_zero, Nat.add_zero]
      omega
theorem lsO_num (a b : List Nat) (ha : Dig a) (hb : Dig b) (hl : b.length ≤ a.length) (h : num b ≤ num a) : num (lsO a b a.length).1 = num a - num b := by
  obtain ⟨g1, g2, g3, g4⟩ := lsO_spec a b ha hb a.length
  rw [List.take_of_length_le (Nat.le_refl _), List.take_of_length_le hl] at g4
  have l1 := num_lt _ g2
  rw [g1] at l1
  have : (lsO a b a.length).2 = 0 := by
    rcases Nat.eq_zero_or_pos (lsO a b a.length).2 with h0 | h0
    · exact h0
    · have : 256 ^ a.length * 1 ≤ 256 ^ a.length * (lsO a b a.length).2 := Nat.mul_le_mul_left _ h0
      omega
  rw [this] at g4
  omega
end Go.Proofs.Ytfidbiabgmioaaa
