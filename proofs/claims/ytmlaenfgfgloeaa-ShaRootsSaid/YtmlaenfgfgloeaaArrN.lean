import Derived.Test.YtmlaenfgfgloeaaBits
/-! Arrays of ints that hold natural numbers; a block's cells all at once. -/
set_option linter.unusedVariables false
set_option linter.unusedSimpArgs false
namespace Go.Proofs.Ytmlaenfgfgloeaa
open Go.RowKit

def nn (xs : List Nat) (j : Nat) : Nat := xs.getD j 0
def cellsN (xs : List Nat) : Array Value := (xs.map fun x : Nat => Value.int .i64 (x : Int)).toArray
def ArrN (t : TypeId) (w : World) (b : Nat) (xs : List Nat) : Prop := w.heap[b]? = some (.cells (cellsN xs) t (0, 0))
theorem ArrN.cell {t : TypeId} {w : World} {b : Nat} {xs : List Nat} (h : ArrN t w b xs) (j : Nat) (hj : j < xs.length) : w.cell? ⟨b, j, none⟩ = some (.int .i64 ((nn xs j : Nat) : Int)) := by
  unfold ArrN at h
  simp [World.cell?, h, cellsN, nn, hj]
theorem ArrN.free {t : TypeId} {w : World} {b : Nat} {xs : List Nat} (h : ArrN t w b xs) (j : Nat) : w.frozen? ⟨b, j, none⟩ = false := by
  unfold ArrN at h
  simp [World.frozen?, h]
theorem ArrN.lt {t : TypeId} {w : World} {b : Nat} {xs : List Nat} (h : ArrN t w b xs) : b < w.heap.size := by
  unfold ArrN at h
  exact (Array.getElem?_eq_some_iff.1 h).1
theorem ArrN.set {t : TypeId} {w : World} {b : Nat} {xs : List Nat} (h : ArrN t w b xs) (j : Nat) (x : Nat) : ArrN t (w.setCell ⟨b, j, none⟩ (.int .i64 (x : Int))) b (xs.set j x) := by
  unfold ArrN at *
  simp [World.setCell, Array.getElem?_modify, h, cellsN, List.map_set]
theorem ArrN.other {t : TypeId} {w : World} {b : Nat} {xs : List Nat} (h : ArrN t w b xs) {a : Addr} (ha : b ≠ a.block) (v : Value) : ArrN t (w.setCell a v) b xs := by
  unfold ArrN at *
  rw [Below.heap_setCell _ _ _ _ ha]; exact h
theorem ArrN.below {t : TypeId} {w w' : World} {b B : Nat} {xs : List Nat} (h : ArrN t w b xs) (hb : Below B w w') (hB : b < B) : ArrN t w' b xs := by
  unfold ArrN at *
  rw [hb.block b hB]; exact h
theorem ArrN.alloc {t : TypeId} {w : World} {b : Nat} {xs : List Nat} (h : ArrN t w b xs) (o : Obj) : ArrN t (w.alloc o) b xs := by
  unfold ArrN at *
  rw [Below.heap_alloc _ _ _ (ArrN.lt h)]; exact h
theorem ArrN.drew {t : TypeId} {w : World} {b : Nat} {xs : List Nat} (h : ArrN t w b xs) : ArrN t w.drew b xs := h
theorem ArrN.drewN {t : TypeId} {w : World} {b : Nat} {xs : List Nat} (h : ArrN t w b xs) (n : Nat) : ArrN t (w.drewN n) b xs := h
theorem ArrN.ext {t : TypeId} {w : World} {b : Nat} {xs : List Nat} (h : ArrN t w b xs) (x : World) : ArrN t (w.ext x) b xs := h.below (w.ext_below x) h.lt
theorem ArrN.new (t : TypeId) (w : World) (xs : List Nat) : ArrN t (w.alloc (.cells (cellsN xs) t)) w.heap.size xs := by
  unfold ArrN
  show (w.heap.push _)[w.heap.size]? = _
  simp

theorem ArrB.all {t : TypeId} {w : World} {b : Nat} {xs : List (BitVec 64)} {n : Nat} (h : ArrB t w b xs) (hn : xs.length = n) : ∀ j, j < n → w.cell? ⟨b, j, none⟩ = some (.int .u64 (iv (nb xs j))) := fun j hj => h.cell j (by omega)
theorem ArrN.all {t : TypeId} {w : World} {b : Nat} {xs : List Nat} {n : Nat} (h : ArrN t w b xs) (hn : xs.length = n) : ∀ j, j < n → w.cell? ⟨b, j, none⟩ = some (.int .i64 ((nn xs j : Nat) : Int)) := fun j hj => h.cell j (by omega)
theorem size_cellsN (s : List Nat) : (cellsN s).size = s.length := by simp [cellsN]
theorem one_cellsN (s : List Nat) : (cellsN s).all (·.oneCell') = true := by
  rw [Array.all_eq_true_iff_forall_mem]
  intro v hv
  simp [cellsN] at hv
  obtain ⟨x, _, rfl⟩ := hv
  rfl
/-- What behind a row's store stands there. -/
theorem heap_setRow (w : World) (g : Nat) (cs old : Array Value) (t : TypeId) (h : w.heap[g]? = some (.cells old t (0, 0))) : (w.setRow g cs).heap[g]? = some (.cells cs t (0, 0)) := by
  simp [World.setRow, Array.getElem?_modify, h]
theorem below_setRow {B : Nat} {a w : World} (h : Below B a w) (g : Nat) (hg : B ≤ g) (cs : Array Value) : Below B a (w.setRow g cs) :=
  h.trans ⟨rfl, rfl, rfl, by simp [World.setRow], fun k hk => by
    simp only [World.setRow, Array.getElem?_modify]
    rw [if_neg (by omega)]⟩
end Go.Proofs.Ytmlaenfgfgloeaa
