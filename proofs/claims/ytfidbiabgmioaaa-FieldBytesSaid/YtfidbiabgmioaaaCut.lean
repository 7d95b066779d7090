import Derived.Test.YtfidbiabgmioaaaByt
/-! A part of a slice of bytes. -/
set_option maxRecDepth 4000
set_option linter.unusedVariables false
set_option linter.unusedSimpArgs false
namespace Go.Proofs.Ytfidbiabgmioaaa
open Go.RowKit

theorem ny_take (ys : List (BitVec 8)) (n j : Nat) (h : j < n) : ny (ys.take n) j = ny ys j := by
  unfold ny; rw [List.getD_eq_getElem?_getD, List.getD_eq_getElem?_getD, List.getElem?_take, if_pos h]
theorem ny_drop (ys : List (BitVec 8)) (n j : Nat) : ny (ys.drop n) j = ny ys (n + j) := by
  unfold ny; rw [List.getD_eq_getElem?_getD, List.getD_eq_getElem?_getD, List.getElem?_drop]
/-- 'b[l:h]'. -/
theorem RdY.part {w : World} {a : Option Addr} {L cap : Nat} {ys : List (BitVec 8)} (h : RdY w (.slice a L cap) ys) (l k : Nat) (hl : l ≤ k) (hk : k ≤ ys.length) :
    RdY w (sliced a l k cap 1) ((ys.drop l).take (k - l)) := by
  obtain ⟨a', cap', e, hc, h2⟩ := h
  injection e with e1 e2 e3
  subst e1 e2 e3
  have hlen : ((ys.drop l).take (k - l)).length = k - l := by simp; omega
  unfold sliced
  refine ⟨_, cap - l, by rw [hlen], by rw [hlen]; omega, fun hne => ?_⟩
  have hpos : l < k := by
    rcases Nat.lt_or_ge l k with h0 | h0
    · exact h0
    · exfalso; apply hne; rw [show k - l = 0 by omega, List.take_zero]
  obtain ⟨b, off, rfl, hb, h3⟩ := h2 (by intro e; rw [e] at hk; simp at hk; omega)
  refine ⟨b, off + l, ?_, hb, fun j hj => ?_⟩
  · rw [if_neg (by omega)]
    simp [Addr.add]
  · rw [hlen] at hj
    rw [ny_take _ _ _ hj, ny_drop, Nat.add_assoc]
    exact h3 (l + j) (by omega)
theorem RdY.front {w : World} {a : Option Addr} {L cap : Nat} {ys : List (BitVec 8)} (h : RdY w (.slice a L cap) ys) (k : Nat) (hk : k ≤ ys.length) : RdY w (.slice a k cap) (ys.take k) := by
  obtain ⟨a', cap', e, hc, h2⟩ := h
  injection e with e1 e2 e3
  subst e1 e2 e3
  refine ⟨a, cap, by rw [List.length_take, Nat.min_eq_left hk], by rw [List.length_take]; omega, fun hne => ?_⟩
  obtain ⟨b, off, rfl, hb, h3⟩ := h2 (by rintro rfl; simp at hne)
  refine ⟨b, off, rfl, hb, fun j hj => ?_⟩
  rw [List.length_take] at hj
  rw [ny_take _ _ _ (by omega)]
  exact h3 j (by omega)
theorem RdY.back {w : World} {a : Option Addr} {cap : Nat} {ys : List (BitVec 8)} (h : RdY w (.slice a ys.length cap) ys) (l : Nat) (hl : l ≤ ys.length) : RdY w (sliced a l ys.length cap 1) (ys.drop l) := by
  have := h.part l ys.length hl (Nat.le_refl _)
  rwa [List.take_of_length_le (by simp)] at this
end Go.Proofs.Ytfidbiabgmioaaa
