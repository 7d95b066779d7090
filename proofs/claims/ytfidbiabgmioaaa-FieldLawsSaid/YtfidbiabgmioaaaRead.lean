import Derived.Test.YtfidbiabgmioaaaBase
/-! Slices of integers that are read. -/
set_option maxRecDepth 4000
set_option linter.unusedVariables false
set_option linter.unusedSimpArgs false
namespace Go.Proofs.Ytfidbiabgmioaaa
open Go.RowKit

/-- The slice v has, in w, the numbers xs. -/
def Rd (k : IntKind) (w : World) (v : Value) (xs : List Int) : Prop :=
  ∃ a cap, v = .slice a xs.length cap ∧ (xs ≠ [] → ∃ b off, a = some ⟨b, off, none⟩ ∧ b < w.heap.size ∧ ∀ j, j < xs.length → w.cell? ⟨b, off + j, none⟩ = some (.int k (xs.getD j 0)))
theorem Rd.below {k : IntKind} {w w' : World} {v : Value} {xs : List Int} (h : Rd k w v xs) (hb : Below w.heap.size w w') : Rd k w' v xs := by
  obtain ⟨a, cap, e, h⟩ := h
  refine ⟨a, cap, e, fun hx => ?_⟩
  obtain ⟨b, off, e2, h2, h3⟩ := h hx
  exact ⟨b, off, e2, Nat.lt_of_lt_of_le h2 hb.size, fun j hj => by rw [hb.cell (p := ⟨b, off + j, none⟩) h2]; exact h3 j hj⟩
theorem Rd.nil (k : IntKind) (w : World) (a : Option Addr) (cap : Nat) : Rd k w (.slice a 0 cap) [] := ⟨a, cap, rfl, fun h => absurd rfl h⟩
/-- The slice v has, in w, the rows xss, each of n numbers. -/
def RdA (k : IntKind) (n : Nat) (w : World) (v : Value) (xss : List (List Int)) : Prop :=
  ∃ a cap, v = .slice a xss.length cap ∧ (xss ≠ [] → ∃ b off, a = some ⟨b, off, none⟩ ∧ b < w.heap.size ∧ ∀ i, i < xss.length → ∀ j, j < n → w.cell? ⟨b, off + i * n + j, none⟩ = some (.int k ((xss.getD i []).getD j 0)))
end Go.Proofs.Ytfidbiabgmioaaa
