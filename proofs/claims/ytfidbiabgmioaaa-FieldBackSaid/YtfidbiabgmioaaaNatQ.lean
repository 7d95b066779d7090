import Derived.Test.YtfidbiabgmioaaaNatT
import Derived.Test.YtfidbiabgmioaaaNatS
/-! conclaveref01.Quo: the plain law. -/
set_option maxRecDepth 4000
set_option linter.unusedVariables false
set_option linter.unusedSimpArgs false
namespace Go.Proofs.Ytfidbiabgmioaaa
open Go.RowKit

theorem num_take_set (l : List Nat) (k x : Nat) (h : k < l.length) : num ((l.set k x).take (k + 1)) = num (l.take k) + 256 ^ k * x := by
  rw [num_take_succ]
  have e1 : (l.set k x).take k = l.take k := by rw [List.take_set]; exact List.set_eq_of_length_le (by rw [List.length_take]; omega)
  have e5 : (l.set k x).getD k 0 = x := by rw [List.getD_eq_getElem?_getD, List.getElem?_set_self h]; rfl
  rw [e1, e5]
theorem nd_set_ne (l : List Nat) (k j x : Nat) (h : k ≠ j) : nd (l.set k x) j = nd l j := by
  unfold nd; rw [List.getD_eq_getElem?_getD, List.getElem?_set_ne h, ← List.getD_eq_getElem?_getD]
/-- Twice the number, and a bit more. -/
def db (r : List Nat) (bit : Nat) : Nat → List Nat × Nat
  | 0 => (r, bit)
  | k + 1 => ((db r bit k).1.set k (((db r bit k).2 + 2 * nd (db r bit k).1 k) % 256), ((db r bit k).2 + 2 * nd (db r bit k).1 k) / 256)
theorem db_spec (r : List Nat) (bit : Nat) (hr : Dig r) (hb : bit ≤ 1) (k : Nat) (hk : k ≤ r.length) :
    (db r bit k).1.length = r.length ∧ Dig (db r bit k).1 ∧ (db r bit k).2 ≤ 1 ∧ (∀ j, k ≤ j → nd (db r bit k).1 j = nd r j) ∧ num ((db r bit k).1.take k) + 256 ^ k * (db r bit k).2 = 2 * num (r.take k) + bit := by
  induction k with
  | zero => exact ⟨rfl, hr, hb, fun _ _ => rfl, by simp [db, num]⟩
  | succ k ih =>
    obtain ⟨h1, h2, h3, h4, h5⟩ := ih (by omega)
    have g1 := nd_dig hr k
    have e := h4 k (Nat.le_refl _)
    generalize hR : (db r bit k).1 = R at *
    generalize hC : (db r bit k).2 = c at *
    have e0 : db r bit (k + 1) = (R.set k ((c + 2 * nd R k) % 256), (c + 2 * nd R k) / 256) := by simp only [db, hR, hC]
    rw [e0]
    refine ⟨by simp [h1], h2.set _ _ (by omega), by simp only; omega, fun j hj => (by simp only; rw [nd_set_ne _ _ _ _ (by omega)]; exact h4 j (by omega)), ?_⟩
    simp only
    rw [num_take_set _ _ _ (by omega), num_take_succ r k]
    show _ = 2 * (num (r.take k) + 256 ^ k * nd r k) + bit
    rw [e]
    have e1 : 256 ^ k * ((c + 2 * nd r k) % 256) + 256 ^ (k + 1) * ((c + 2 * nd r k) / 256) = 256 ^ k * (c + 2 * nd r k) := by
      rw [Nat.pow_succ, Nat.mul_assoc, ← Nat.mul_add, Nat.mod_add_div]
    rw [Nat.mul_add (256 ^ k) c] at e1
    have e2 : 256 ^ k * (2 * nd r k) = 2 * (256 ^ k * nd r k) := by rw [Nat.mul_left_comm]
    omega
theorem db_num (r : List Nat) (bit : Nat) (hr : Dig r) (hb : bit ≤ 1) (h : 2 * num r + bit < 256 ^ r.length) : num (db r bit r.length).1 = 2 * num r + bit ∧ Dig (db r bit r.length).1 ∧ (db r bit r.length).1.length = r.length := by
  obtain ⟨h1, h2, h3, h4, h5⟩ := db_spec r bit hr hb r.length (Nat.le_refl _)
  rw [List.take_of_length_le (by omega), List.take_of_length_le (Nat.le_refl _)] at h5
  refine ⟨?_, h2, h1⟩
  rcases Nat.eq_zero_or_pos (db r bit r.length).2 with h0 | h0
  · rw [h0] at h5; omega
  · have : 256 ^ r.length * 1 ≤ 256 ^ r.length * (db r bit r.length).2 := Nat.mul_le_mul_left _ h0
    omega
/-- Less another number. -/
def sb (r y : List Nat) : Nat → List Nat × Nat
  | 0 => (r, 0)
  | k + 1 => if nd (sb r y k).1 k < nd y k + (sb r y k).2 then ((sb r y k).1.set k (nd (sb r y k).1 k + 256 - nd y k - (sb r y k).2), 1) else ((sb r y k).1.set k (nd (sb r y k).1 k - nd y k - (sb r y k).2), 0)
theorem sb_spec (r y : List Nat) (hr : Dig r) (hy : Dig y) (k : Nat) (hk : k ≤ r.length) :
    (sb r y k).1.length = r.length ∧ Dig (sb r y k).1 ∧ (sb r y k).2 ≤ 1 ∧ (∀ j, k ≤ j → nd (sb r y k).1 j = nd r j) ∧ num ((sb r y k).1.take k) + num (y.take k) = num (r.take k) + 256 ^ k * (sb r y k).2 := by
  induction k with
  | zero => exact ⟨rfl, hr, Nat.zero_le _, fun _ _ => rfl, by simp [sb, num]⟩
  | succ k ih =>
    obtain ⟨h1, h2, h3, h4, h5⟩ := ih (by omega)
    have g1 := nd_dig hr k
    have g2 := nd_dig hy k
    have e := h4 k (Nat.le_refl _)
    have e8 : num (y.take (k + 1)) = num (y.take k) + 256 ^ k * nd y k := num_take_succ y k
    have e9 : num (r.take (k + 1)) = num (r.take k) + 256 ^ k * nd r k := num_take_succ r k
    generalize hR : (sb r y k).1 = R at *
    generalize hC : (sb r y k).2 = c at *
    have e0 : sb r y (k + 1) = if nd R k < nd y k + c then (R.set k (nd R k + 256 - nd y k - c), 1) else (R.set k (nd R k - nd y k - c), 0) := by simp only [sb, hR, hC]
    rw [e0]
    have hp : 0 < 256 ^ k := Nat.pow_pos (by omega)
    by_cases hlt : nd R k < nd y k + c
    · rw [if_pos hlt]
      refine ⟨by simp [h1], h2.set _ _ (by omega), by simp, fun j hj => (by simp only; rw [nd_set_ne _ _ _ _ (by omega)]; exact h4 j (by omega)), ?_⟩
      simp only
      rw [num_take_set _ _ _ (by omega), e8, e9, Nat.pow_succ, e]
      have e2 : 256 ^ k * (nd r k + 256 - nd y k - c) + 256 ^ k * nd y k + 256 ^ k * c = 256 ^ k * nd r k + 256 ^ k * 256 := by
        rw [← Nat.mul_add, ← Nat.mul_add, ← Nat.mul_add]; congr 1; omega
      omega
    · rw [if_neg hlt]
      refine ⟨by simp [h1], h2.set _ _ (by omega), by simp, fun j hj => (by simp only; rw [nd_set_ne _ _ _ _ (by omega)]; exact h4 j (by omega)), ?_⟩
      simp only
      rw [num_take_set _ _ _ (by omega), e8, e9, e]
      have e2 : 256 ^ k * (nd r k - nd y k - c) + 256 ^ k * nd y k + 256 ^ k * c = 256 ^ k * nd r k := by
        rw [← Nat.mul_add, ← Nat.mul_add]; congr 1; omega
      omega
theorem sb_num (r y : List Nat) (hr : Dig r) (hy : Dig y) (hl : y.length ≤ r.length) (h : num y ≤ num r) : num (sb r y r.length).1 = num r - num y ∧ Dig (sb r y r.length).1 ∧ (sb r y r.length).1.length = r.length := by
  obtain ⟨h1, h2, h3, h4, h5⟩ := sb_spec r y hr hy r.length (Nat.le_refl _)
  rw [List.take_of_length_le (by omega), List.take_of_length_le hl, List.take_of_length_le (Nat.le_refl _)] at h5
  refine ⟨?_, h2, h1⟩
  have l1 := num_lt _ h2
  rw [h1] at l1
  rcases Nat.eq_zero_or_pos (sb r y r.length).2 with h0 | h0
  · rw [h0] at h5; omega
  · have : 256 ^ r.length * 1 ≤ 256 ^ r.length * (sb r y r.length).2 := Nat.mul_le_mul_left _ h0
    omega
/-- A bit of a number. -/
theorem nd_bit (x : List Nat) (hx : Dig x) (p : Nat) : nd x (p / 8) / 2 ^ (p % 8) % 2 = num x / 2 ^ p % 2 := by
  rw [nd_num x hx]
  have e : num x / 2 ^ p = num x / 256 ^ (p / 8) / 2 ^ (p % 8) := by
    rw [Nat.div_div_eq_div_mul, show (256 : Nat) = 2 ^ 8 from rfl, ← Nat.pow_mul, ← Nat.pow_add]
    congr 2
    omega
  rw [e]
  generalize num x / 256 ^ (p / 8) = X
  have hc : p % 8 = 0 ∨ p % 8 = 1 ∨ p % 8 = 2 ∨ p % 8 = 3 ∨ p % 8 = 4 ∨ p % 8 = 5 ∨ p % 8 = 6 ∨ p % 8 = 7 := by omega
  rcases hc with h | h | h | h | h | h | h | h <;> rw [h] <;> omega
/-- A bit set in a quotient. -/
theorem q_set (q : List Nat) (hq : Dig q) (p Q : Nat) (hn : num q = Q * 2 ^ (p + 1)) (hl : p / 8 < q.length) :
    (nd q (p / 8) ||| 2 ^ (p % 8)) < 256 ∧ num (q.set (p / 8) (nd q (p / 8) ||| 2 ^ (p % 8))) = (2 * Q + 1) * 2 ^ p := by
  have h1 : nd q (p / 8) = Q * 2 ^ (p % 8 + 1) % 256 := by
    rw [nd_num q hq, hn]
    have e : Q * 2 ^ (p + 1) = 256 ^ (p / 8) * (Q * 2 ^ (p % 8 + 1)) := by
      rw [Nat.mul_left_comm, show (256 : Nat) = 2 ^ 8 from rfl, ← Nat.pow_mul, ← Nat.pow_add]
      congr 2
      omega
    rw [e, Nat.mul_div_cancel_left _ (Nat.pow_pos (by omega))]
  have h2 : ∃ z, nd q (p / 8) = 2 ^ (p % 8 + 1) * z := by
    rw [h1]
    refine ⟨(Q * 2 ^ (p % 8 + 1) % 256) / 2 ^ (p % 8 + 1), ?_⟩
    have hc : p % 8 = 0 ∨ p % 8 = 1 ∨ p % 8 = 2 ∨ p % 8 = 3 ∨ p % 8 = 4 ∨ p % 8 = 5 ∨ p % 8 = 6 ∨ p % 8 = 7 := by omega
    rcases hc with h | h | h | h | h | h | h | h <;> rw [h] <;> omega
  obtain ⟨z, hz⟩ := h2
  have h3 : nd q (p / 8) ||| 2 ^ (p % 8) = nd q (p / 8) + 2 ^ (p % 8) := by
    rw [hz, ← Nat.two_pow_add_eq_or_of_lt (by rw [Nat.pow_succ]; have : 0 < 2 ^ (p % 8) := Nat.pow_pos (by omega)
                                              omega)]
  have h4 := nd_dig hq (p / 8)
  have h5 : nd q (p / 8) + 2 ^ (p % 8) < 256 := by
    have hc : p % 8 = 0 ∨ p % 8 = 1 ∨ p % 8 = 2 ∨ p % 8 = 3 ∨ p % 8 = 4 ∨ p % 8 = 5 ∨ p % 8 = 6 ∨ p % 8 = 7 := by omega
    rcases hc with h | h | h | h | h | h | h | h <;> rw [h] at hz ⊢ <;> omega
  rw [h3]
  refine ⟨h5, ?_⟩
  have h6 := num_set q (p / 8) (nd q (p / 8) + 2 ^ (p % 8)) hl
  rw [hn, Nat.mul_add] at h6
  have h7 : 256 ^ (p / 8) * 2 ^ (p % 8) = 2 ^ p := by
    rw [show (256 : Nat) = 2 ^ 8 from rfl, ← Nat.pow_mul, ← Nat.pow_add]; congr 1; omega
  rw [h7] at h6
  rw [Nat.add_mul, Nat.one_mul]
  have h8 : Q * 2 ^ (p + 1) = 2 * Q * 2 ^ p := by rw [Nat.pow_succ, Nat.mul_comm (2 ^ p) 2, ← Nat.mul_assoc, Nat.mul_comm Q 2]
  omega
/-- One bit more of a quotient. -/
theorem quo_bit (A B p : Nat) (hB : 0 < B) : let R := A / 2 ^ (p + 1) % B; let Q := A / 2 ^ (p + 1) / B; let bit := A / 2 ^ p % 2
    (2 * R + bit < B → A / 2 ^ p % B = 2 * R + bit ∧ A / 2 ^ p / B = 2 * Q) ∧ (B ≤ 2 * R + bit → A / 2 ^ p % B = 2 * R + bit - B ∧ A / 2 ^ p / B = 2 * Q + 1) := by
  intro R Q bit
  have h1 : A / 2 ^ (p + 1) = A / 2 ^ p / 2 := by rw [Nat.div_div_eq_div_mul, Nat.pow_succ]
  have h2 : A / 2 ^ p = 2 * (A / 2 ^ (p + 1)) + bit := by rw [h1]; show _ = 2 * (A / 2 ^ p / 2) + A / 2 ^ p % 2; omega
  have h3 : A / 2 ^ (p + 1) = B * Q + R := (Nat.div_add_mod _ _).symm
  have hR : R < B := Nat.mod_lt _ hB
  have hbit : bit ≤ 1 := by show A / 2 ^ p % 2 ≤ 1; omega
  have h4 : A / 2 ^ p = B * (2 * Q) + (2 * R + bit) := by rw [h2, h3, Nat.mul_add, ← Nat.mul_assoc 2 B, Nat.mul_comm 2 B, Nat.mul_assoc]; omega
  constructor
  · intro hlt
    rw [h4]
    exact ⟨by rw [Nat.mul_add_mod]; exact Nat.mod_eq_of_lt hlt, by rw [Nat.mul_add_div hB, Nat.div_eq_of_lt hlt] <;> omega⟩
  · intro hge
    have h5 : A / 2 ^ p = B * (2 * Q + 1) + (2 * R + bit - B) := by rw [h4, Nat.mul_add B (2 * Q) 1]; omega
    have hlt : 2 * R + bit - B < B := by omega
    rw [h5]
    exact ⟨by rw [Nat.mul_add_mod]; exact Nat.mod_eq_of_lt hlt, by rw [Nat.mul_add_div hB, Nat.div_eq_of_lt hlt] <;> omega⟩

/-- What stands in memory when i bits are left. -/
def QuoI (a b lx N g : Nat) (wr : World) (i : Nat) : Prop := ∃ q r, ArrL wr g q ∧ q.length = lx ∧ Dig q ∧ num q = a / 2 ^ i / b * 2 ^ i ∧ ArrL wr (g + 1) r ∧ r.length = N ∧ Dig r ∧ num r = a / 2 ^ i % b

set_option maxRecDepth 100000 in
set_option maxHeartbeats 4000000 in
theorem quo_any (a b : Nat) (va vb : Value) (w : World) (ha : RdN w va a) (hb : RdN w vb b) (la : (dg a).length ≤ 65536) (lb : (dg b).length ≤ 65000) (hb0 : 0 < b) :
    Calls Try.prog 89 #[va, vb] w fun e w' => ∃ v1 v2, e = .returned (.tuple #[v1, v2]) ∧ RdN w' v1 (a / b) ∧ RdN w' v2 (a % b) ∧ Below w.heap.size w w' := by
  have HA := hid ha
  have HB := hid hb
  have DA := hid (dg_dig a)
  have DB := hid (dg_dig b)
  obtain ⟨aa, ca, rfl, hca, hxa⟩ := ha
  obtain ⟨ab, cb, rfl, hcb, -⟩ := hb
  obtain ⟨x, hx⟩ : ∃ x, x = dg a := ⟨_, rfl⟩
  obtain ⟨y, hy⟩ : ∃ y, y = dg b := ⟨_, rfl⟩
  have NX := hid (show num x = a by rw [hx, num_dg])
  have NY := hid (show num y = b by rw [hy, num_dg])
  unfold RdN at HA HB
  rw [← hx] at HA DA la hca hxa ⊢
  rw [← hy] at HB DB lb hcb ⊢
  have HXA := hid hxa
  clear hx hy hxa
  obtain ⟨N, hN⟩ : ∃ N, N = y.length + 1 := ⟨_, rfl⟩
  have eN : (y.length : Int) + 1 = (N : Int) := by omega
  have HN := hid hN
  have hN0 : 0 < N := by omega
  have hNb : N ≤ 65001 := by omega
  have hmk1 := mkNat x.length (by omega)
  have hmk2 := mkNat N (by omega)
  clear hN
  go_enter Try.func89, Try.ntmps89
  go_wp2
  clear hmk1 hmk2
  go_loopw [9] (fun iv wr => ∃ i : Nat, i ≤ 8 * x.length ∧ iv = .int .i64 ((i : Int) - 1) ∧ Hid (QuoI a b x.length N w.heap.size wr i) ∧ Below w.heap.size w wr)
    (fun iv _ => (intOf iv + 1).toNat)
  case atStart =>
    have hz : a / 2 ^ (8 * x.length) = 0 := by
      have := num_lt x DA.out
      rw [NX.out, show (256 : Nat) = 2 ^ 8 from rfl, ← Nat.pow_mul] at this
      exact Nat.div_eq_of_lt this
    refine ⟨8 * x.length, Nat.le_refl _, by first | rfl | go_num, hid ⟨List.replicate x.length 0, List.replicate N 0, (ArrL.new _ _).alloc _, by simp, Dig.rep _, by rw [num_rep, hz]; simp, ?_, by simp, Dig.rep _, by rw [num_rep, hz]; simp⟩, ((Below.refl _ _).alloc (Nat.le_refl _) _).alloc (by simp) _⟩
    have := ArrL.new (w.alloc (.cells (digV (List.replicate x.length 0)).toArray 3)) (List.replicate N 0)
    rw [World.size_alloc] at this
    exact this
  case round =>
    obtain ⟨i, hi, rfl, hs, hb⟩ := hrel
    by_cases hlt : 0 < i
    · obtain ⟨p, rfl⟩ : ∃ p, i = p + 1 := ⟨i - 1, by omega⟩
      have e1 : (((p + 1 : Nat) : Int) - 1) = (p : Int) := by omega
      rw [e1]
      clear e1
      have h8 : p / 8 < x.length := by omega
      obtain ⟨ba, offa, rfl, hbl, hcell⟩ := HXA.out (by intro e; subst e; simp at h8)
      have cx := (hb.cell (p := ⟨ba, offa + p / 8, none⟩) hbl).trans (hcell (p / 8) h8)
      have gX := nd_dig DA.out (p / 8)
      have HS := hid hs.out
      have hbit : bits .and .i64 (((nd x (p / 8) : Nat) : Int) / 2 ^ (p % 8)) 1 = ((a / 2 ^ p % 2 : Nat) : Int) := by
        rw [i64_and1, ← NX.out, ← nd_bit x DA.out p]
        rw [show ((nd x (p / 8) : Nat) : Int) / 2 ^ (p % 8) = ((nd x (p / 8) / 2 ^ (p % 8) : Nat) : Int) by rw [Int.natCast_ediv, Int.natCast_pow]; rfl]
        omega
      obtain ⟨bit, hbt⟩ : ∃ bit, bit = a / 2 ^ p % 2 := ⟨_, rfl⟩
      rw [← hbt] at hbit
      have HBT := hid hbt
      clear hs hcell hbt
      go_wp2
      have hbt := HBT.out
      obtain ⟨q, r, q1, q2, q3, q4, r1, r2, r3, r4⟩ := HS.out
      have hb1 : bit ≤ 1 := by omega
      have hqb := hid (quo_bit a b p hb0)
      rw [← hbt] at hqb
      have hrb : num r < b := by rw [r4]; exact Nat.mod_lt _ hb0
      have hyb : b < 256 ^ y.length := by rw [← NY.out]; exact num_lt y DB.out
      have hfit : 2 * num r + bit < 256 ^ r.length := by
        rw [r2, HN.out, Nat.pow_succ]; omega
      have hdn := hid (db_num r bit r3 hb1 hfit)
      have HQ1 := hid q1
      have HR1 := hid r1
      have HQ := hid (show q.length = x.length ∧ Dig q ∧ num q = a / 2 ^ (p + 1) / b * 2 ^ (p + 1) from ⟨q2, q3, q4⟩)
      have HR := hid (show r.length = N ∧ Dig r ∧ num r = a / 2 ^ (p + 1) % b from ⟨r2, r3, r4⟩)
      have HB1 := hid hb1
      clear HS hbit hbt q1 q2 q3 q4 r1 r2 r3 r4 hrb hyb hfit cx gX hb1
      obtain ⟨wo, hwo⟩ : ∃ wo : World, wo = wr := ⟨_, rfl⟩
      subst hwo
      go_loopw [10, 11] (fun cv kv wr => ∃ k : Nat, k ≤ N ∧ kv = .int .i64 k ∧ cv = .int .i64 ((db r bit k).2 : Nat) ∧ Hid (ArrL wr w.heap.size q) ∧ Hid (ArrL wr (w.heap.size + 1) (db r bit k).1) ∧ Below w.heap.size w wr)
        (fun _ kv _ => N - (intOf kv).toNat)
      case atStart => exact ⟨0, by omega, rfl, rfl, HQ1, HR1, hb⟩
      case round =>
        clear HQ1 HR1 hb
        obtain ⟨k, hk, rfl, rfl, hQ, hR, hb⟩ := hrel
        obtain ⟨s1, s2, s3, s4, -⟩ := db_spec r bit HR.out.2.1 HB1.out k (by rw [HR.out.1]; exact hk)
        rw [HR.out.1] at s1
        by_cases hkn : k < N
        · have HE := hid (show db r bit (k + 1) = ((db r bit k).1.set k (((db r bit k).2 + 2 * nd (db r bit k).1 k) % 256), ((db r bit k).2 + 2 * nd (db r bit k).1 k) / 256) from rfl)
          obtain ⟨R, hRR⟩ : ∃ R, R = (db r bit k).1 := ⟨_, rfl⟩
          obtain ⟨c, hcc⟩ : ∃ c, c = (db r bit k).2 := ⟨_, rfl⟩
          rw [← hRR] at hR s1 s2 HE
          rw [← hcc] at s3 HE ⊢
          have c1 := hR.out.cell k (by omega)
          have f1 := hR.out.free k
          have l1 := hR.out.lt
          have g1 := nd_dig s2 k
          clear hRR hcc s1 s2 s4
          have q1 : ((c : Int) + 2 * ((nd R k : Nat) : Int)) % 256 = (((c + 2 * nd R k) % 256 : Nat) : Int) := by omega
          have q2 : ((c : Int) + 2 * ((nd R k : Nat) : Int)) / 256 = (((c + 2 * nd R k) / 256 : Nat) : Int) := by omega
          have Q1 := hid q1
          have Q2 := hid q2
          clear q1 q2
          go_wp2
          go_roundw
          case rel =>
            rw [i64_and255, Q1.out, Q2.out]
            refine ⟨k + 1, by omega, by go_num, by rw [HE.out], hid (hQ.out.other (by show w.heap.size ≠ w.heap.size + 1; omega) _), hid ?_, hb.setCell (p := ⟨w.heap.size + 1, k, none⟩) (by show w.heap.size ≤ w.heap.size + 1; omega) _⟩
            rw [HE.out]
            exact hR.out.set _ _
          case measure => simp [intOf]; omega
        · obtain rfl : k = N := by omega
          obtain ⟨d1, d2, d3⟩ := hdn.out
          rw [HR.out.1] at d1 d2 d3
          obtain ⟨R, hRR⟩ : ∃ R, R = (db r bit k).1 := ⟨_, rfl⟩
          rw [← hRR] at hR d1 d2 d3
          have hrd := hR.out.rd k (by omega)
          rw [d3] at hrd
          have hcm := hid (fun va (h : va = Value.slice (some ⟨w.heap.size + 1, 0, none⟩) k k) => cmp_any R y va _ wr (by rw [h]; exact hrd) (HB.out.below hb) d2 DB.out (by omega) (by omega))
          rw [NY.out, d1] at hcm
          have D := hid (show num R = 2 * num r + bit ∧ Dig R ∧ R.length = k from ⟨d1, d2, d3⟩)
          clear hkn hk hRR d1 d2 d3 s1 s2 s3 s4 hrd hdn
          by_cases hlt2 : 2 * num r + bit < b
          · have hneg := hid (cmpI_lt hlt2)
            have hc2 := hid (hcm.out _ rfl)
            rw [hneg.out] at hc2
            have HLT2 := hid hlt2
            clear hlt2 hcm
            go_wp2_with (go_at_call 43; (with_reducible refine hc2.out.mono ?_); rintro e w' ⟨rfl, rfl⟩)
            go_roundw
            case rel =>
              obtain ⟨h1, h2⟩ := hqb.out.1 (by rw [← HR.out.2.2]; exact HLT2.out)
              refine ⟨p, by omega, by go_num, hid ⟨q, R, hQ.out, HQ.out.1, HQ.out.2.1, ?_, hR.out, D.out.2.2, D.out.2.1, ?_⟩, hb⟩
              · rw [HQ.out.2.2, h2, Nat.pow_succ, Nat.mul_comm (2 ^ p) 2, ← Nat.mul_assoc, Nat.mul_comm _ 2]
              · rw [h1, D.out.1, HR.out.2.2]
            case measure => simp [intOf] <;> omega
          · have hc2 := hid (hcm.out _ rfl)
            have hge : b ≤ 2 * num r + bit := by omega
            obtain ⟨cv, hcv⟩ : ∃ cv, cv = cmpI (2 * num r + bit) b := ⟨_, rfl⟩
            have hcv2 : ¬ cv < 0 := by rw [hcv, cmpI_neg]; omega
            rw [← hcv] at hc2
            have hsn := hid (sb_num R y D.out.2.1 DB.out (by rw [D.out.2.2, HN.out]; omega) (by rw [D.out.1, NY.out]; exact hge))
            clear hcm hcv
            go_wp2_with (go_at_call 43; (with_reducible refine hc2.out.mono ?_); rintro e w' ⟨rfl, rfl⟩)
            obtain ⟨wq, hwq⟩ : ∃ wq : World, wq = wr := ⟨_, rfl⟩
            subst hwq
            have HGE := hid hge
            have HCV := hid hcv2
            clear hlt2 hge hcv2 hc2
            go_loopw [10, 12] (fun cv kv wr => ∃ j : Nat, j ≤ k ∧ kv = .int .i64 j ∧ cv = .int .i64 (-((sb R y j).2 : Int)) ∧ Hid (ArrL wr w.heap.size q) ∧ Hid (ArrL wr (w.heap.size + 1) (sb R y j).1) ∧ Below w.heap.size w wr)
              (fun _ kv _ => k - (intOf kv).toNat)
            case atStart => exact ⟨0, by omega, rfl, rfl, hQ, hR, hb⟩
            case round =>
              clear hQ hR hb
              obtain ⟨j, hj, rfl, rfl, hQ, hR, hb⟩ := hrel
              obtain ⟨s1, s2, s3, s4, -⟩ := sb_spec R y D.out.2.1 DB.out j (by rw [D.out.2.2]; exact hj)
              rw [D.out.2.2] at s1
              by_cases hjn : j < k
              · have HE := hid (show sb R y (j + 1) = if nd (sb R y j).1 j < nd y j + (sb R y j).2 then ((sb R y j).1.set j (nd (sb R y j).1 j + 256 - nd y j - (sb R y j).2), 1) else ((sb R y j).1.set j (nd (sb R y j).1 j - nd y j - (sb R y j).2), 0) from rfl)
                obtain ⟨S, hSS⟩ : ∃ S, S = (sb R y j).1 := ⟨_, rfl⟩
                obtain ⟨c, hcc⟩ : ∃ c, c = (sb R y j).2 := ⟨_, rfl⟩
                rw [← hSS] at hR s1 s2 HE
                rw [← hcc] at s3 HE ⊢
                have c1 := hR.out.cell j (by omega)
                have f1 := hR.out.free j
                have l1 := hR.out.lt
                have g1 := nd_dig s2 j
                have g2 := nd_dig DB.out j
                have HAT := hid (at_ext y j _ wr (HB.out.below hb) (by omega) (by omega))
                have hq : ∃ d c' : Nat, sb R y (j + 1) = (S.set j d, c') ∧ (-(c : Int) + ((nd S j : Nat) : Int) - ((nd y j : Nat) : Int)) % 256 = (d : Int) ∧ (-(c : Int) + ((nd S j : Nat) : Int) - ((nd y j : Nat) : Int)) / 256 = -(c' : Int) := by
                  rw [HE.out]
                  by_cases h : nd S j < nd y j + c
                  · rw [if_pos h]
                    exact ⟨_, _, rfl, by omega, by omega⟩
                  · rw [if_neg h]
                    exact ⟨_, _, rfl, by omega, by omega⟩
                have HQ' := hid hq
                clear hSS hcc s1 s2 s4 hq HE
                go_wp2_with (refine wp_region_ext (by kernel_rfl) (by kernel_rfl) ?_; (repeat (go_big_quiet_step (first | (go_at_call 112; with_reducible refine Calls.ext_of (HAT.out _))))); refine wpQuiet_nil ?_; rintro _ ⟨xw, rfl⟩)
                go_roundw
                case rel =>
                  obtain ⟨d, c', z1, z2, z3⟩ := HQ'.out
                  rw [i64_and255, z2, z3]
                  refine ⟨j + 1, by omega, by go_num, by rw [z1], hid ((hQ.out.ext _).other (by show w.heap.size ≠ w.heap.size + 1; omega) _), hid ?_, (World.ext_below_of hb hb.size _).setCell (p := ⟨w.heap.size + 1, j, none⟩) (by show w.heap.size ≤ w.heap.size + 1; omega) _⟩
                  rw [z1]
                  exact (hR.out.ext _).set _ _
                case measure => simp [intOf]; omega
              · obtain rfl : j = k := by omega
                obtain ⟨d1, d2, d3⟩ := hsn.out
                rw [D.out.2.2] at d1 d2 d3
                obtain ⟨S, hSS⟩ : ∃ S, S = (sb R y j).1 := ⟨_, rfl⟩
                rw [← hSS] at hR d1 d2 d3
                obtain ⟨t1, t2⟩ := q_set q HQ.out.2.1 p (a / 2 ^ (p + 1) / b) HQ.out.2.2 (by rw [HQ.out.1]; exact h8)
                have c1 := hQ.out.cell (p / 8) (by rw [HQ.out.1]; exact h8)
                have f1 := hQ.out.free (p / 8)
                have gQ := nd_dig HQ.out.2.1 (p / 8)
                have hor : bits .or .i64 ((nd q (p / 8) : Nat) : Int) ((2 ^ (p % 8) : Nat) : Int) = ((nd q (p / 8) ||| 2 ^ (p % 8) : Nat) : Int) := by
                  refine i64_or_small _ _ gQ ?_
                  have : 2 ^ (p % 8) ≤ 2 ^ 7 := Nat.pow_le_pow_right (by omega) (by omega)
                  omega
                have hpw : (2 : Int) ^ (p % 8) < 256 := by
                  have h7 : 2 ^ (p % 8) ≤ 2 ^ 7 := Nat.pow_le_pow_right (by omega : 0 < 2) (by omega : p % 8 ≤ 7)
                  have h9 : ((2 ^ (p % 8) : Nat) : Int) ≤ ((2 ^ 7 : Nat) : Int) := by exact_mod_cast h7
                  rw [Int.natCast_pow, Int.natCast_pow] at h9
                  exact Int.lt_of_le_of_lt h9 (by decide)
                have hpw0 : (0 : Int) ≤ (2 : Int) ^ (p % 8) := by
                  have : (0 : Int) ≤ ((2 ^ (p % 8) : Nat) : Int) := Int.natCast_nonneg _
                  rw [Int.natCast_pow] at this; exact this
                rw [Int.natCast_pow, show ((2 : Nat) : Int) = 2 from rfl] at hor
                have HOR := hid hor
                have T := hid (show _ ∧ _ from ⟨t1, t2⟩)
                have DD := hid (show num S = num R - num y ∧ Dig S ∧ S.length = j from ⟨d1, d2, d3⟩)
                clear hjn hj hSS d1 d2 d3 s1 s2 s3 s4 hsn hor t1 t2
                go_wp2
                go_roundw
                case rel =>
                  rw [HOR.out]
                  obtain ⟨h1, h2⟩ := hqb.out.2 (by rw [← HR.out.2.2]; exact HGE.out)
                  refine ⟨p, by omega, by go_num, hid ⟨_, S, hQ.out.set _ _, by rw [List.length_set]; exact HQ.out.1, HQ.out.2.1.set _ _ T.out.1, ?_, hR.out.other (by show w.heap.size + 1 ≠ w.heap.size; omega) _, DD.out.2.2, DD.out.2.1, ?_⟩, hb.setCell (p := ⟨w.heap.size, p / 8, none⟩) (Nat.le_refl _) _⟩
                  · rw [T.out.2, h2]
                  · rw [h1, DD.out.1, D.out.1, NY.out, HR.out.2.2]
                case measure => simp [intOf] <;> omega
    · obtain rfl : i = 0 := by omega
      obtain ⟨q, r, q1, q2, q3, q4, r1, r2, r3, r4⟩ := hs.out
      rw [Nat.pow_zero, Nat.div_one, Nat.mul_one] at q4
      rw [Nat.pow_zero, Nat.div_one] at r4
      have hq := q1.rd x.length (by omega)
      rw [q2] at hq
      have hr := r1.rd N (by omega)
      rw [r2] at hr
      have T1 := hid (trim_any q _ wr hq q3 (by omega))
      have HRR := hid hr
      have T2 := hid (fun w' (h : RdL w' (.slice (some ⟨w.heap.size + 1, 0, none⟩) N N) r) => trim_any r _ w' h r3 (by omega))
      rw [q4] at T1
      rw [r4] at T2
      clear hs q1 q2 q3 q4 r1 r2 r3 r4 hq hr
      go_wp2_with fail
      refine T1.out.mono ?_
      rintro e w1 ⟨v1, rfl, hv1, hb1⟩
      have hr1 := HRR.out.below hb1
      go_wp2_with fail
      refine (T2.out w1 hr1).mono ?_
      rintro e w2 ⟨v2, rfl, hv2, hb2⟩
      go_wp2
      go_ret2
      exact ⟨_, _, rfl, RdL.below hv1 hb2, hv2, hb.trans ((hb1.trans (hb2.mono hb1.size)).mono hb.size)⟩
end Go.Proofs.Ytfidbiabgmioaaa
