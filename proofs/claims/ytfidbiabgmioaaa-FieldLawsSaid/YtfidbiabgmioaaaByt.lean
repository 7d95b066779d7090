import Derived.Test.YtfidbiabgmioaaaBits
import Derived.Test.YtfidbiabgmioaaaApp
/-! Bytes, arrays of them in memory, and slices of them that are read. -/
set_option maxRecDepth 4000
set_option linter.unusedVariables false
set_option linter.unusedSimpArgs false
namespace Go.Proofs.Ytfidbiabgmioaaa
open Go.RowKit

/-- A byte as the number that a cell holds. -/
def yv (x : BitVec 8) : Int := (x.toNat : Int)
theorem yv_nonneg (x : BitVec 8) : 0 ≤ yv x := Int.natCast_nonneg _
theorem yv_lt (x : BitVec 8) : yv x ≤ 255 := by have := x.isLt; unfold yv; omega
theorem yv_inj {x y : BitVec 8} (h : yv x = yv y) : x = y := by unfold yv at h; exact BitVec.eq_of_toNat_eq (by exact_mod_cast h)
theorem yv_of {a : Int} (h0 : 0 ≤ a) (h1 : a ≤ 255) : ∃ x, a = yv x :=
  ⟨BitVec.ofNat 8 a.toNat, by unfold yv; rw [BitVec.toNat_ofNat, Nat.mod_eq_of_lt (by omega)]; omega⟩
theorem yv_wide (x : BitVec 8) : yv x = iv (x.setWidth 64) := by
  have := x.isLt
  unfold yv iv; rw [BitVec.toNat_setWidth, Nat.mod_eq_of_lt (by omega)]
theorem yv_wrap (x : BitVec 8) : IntKind.u64.wrap (yv x) = iv (x.setWidth 64) := by
  have h1 := yv_nonneg x; have h2 := yv_lt x
  rw [wrap_u64', ← yv_wide]; omega
theorem iv_byte (x : BitVec 64) : IntKind.u8.wrap (iv x) = yv (x.setWidth 8) := by
  rw [show IntKind.u8.wrap (iv x) = iv x % 256 by simp [IntKind.wrap, IntKind.bits, IntKind.signed]]
  unfold yv iv; rw [BitVec.toNat_setWidth]; omega

def ny (xs : List (BitVec 8)) (j : Nat) : BitVec 8 := xs.getD j 0
def cellsY (xs : List (BitVec 8)) : Array Value := (xs.map fun x => Value.int .u8 (yv x)).toArray
/-- Block b holds the bytes xs. -/
def ArrY (t : TypeId) (w : World) (b : Nat) (xs : List (BitVec 8)) : Prop := w.heap[b]? = some (.cells (cellsY xs) t (0, 0))

theorem ArrY.cell {t : TypeId} {w : World} {b : Nat} {xs : List (BitVec 8)} (h : ArrY t w b xs) (j : Nat) (hj : j < xs.length) : w.cell? ⟨b, j, none⟩ = some (.int .u8 (yv (ny xs j))) := by
  unfold ArrY at h
  simp [World.cell?, h, cellsY, ny, hj]
theorem ArrY.free {t : TypeId} {w : World} {b : Nat} {xs : List (BitVec 8)} (h : ArrY t w b xs) (j : Nat) : w.frozen? ⟨b, j, none⟩ = false := by
  unfold ArrY at h
  simp [World.frozen?, h]
theorem ArrY.lt {t : TypeId} {w : World} {b : Nat} {xs : List (BitVec 8)} (h : ArrY t w b xs) : b < w.heap.size := by
  unfold ArrY at h
  exact (Array.getElem?_eq_some_iff.1 h).1
theorem ArrY.set {t : TypeId} {w : World} {b : Nat} {xs : List (BitVec 8)} (h : ArrY t w b xs) (j : Nat) (x : BitVec 8) : ArrY t (w.setCell ⟨b, j, none⟩ (.int .u8 (yv x))) b (xs.set j x) := by
  unfold ArrY at *
  simp [World.setCell, Array.getElem?_modify, h, cellsY, List.map_set]
theorem ArrY.other {t : TypeId} {w : World} {b : Nat} {xs : List (BitVec 8)} (h : ArrY t w b xs) {a : Addr} (ha : b ≠ a.block) (v : Value) : ArrY t (w.setCell a v) b xs := by
  unfold ArrY at *
  rw [Below.heap_setCell _ _ _ _ ha]; exact h
theorem ArrY.below {t : TypeId} {w w' : World} {b B : Nat} {xs : List (BitVec 8)} (h : ArrY t w b xs) (hb : Below B w w') (hB : b < B) : ArrY t w' b xs := by
  unfold ArrY at *
  rw [hb.block b hB]; exact h
theorem ArrY.alloc {t : TypeId} {w : World} {b : Nat} {xs : List (BitVec 8)} (h : ArrY t w b xs) (o : Obj) : ArrY t (w.alloc o) b xs := by
  unfold ArrY at *
  rw [Below.heap_alloc _ _ _ (ArrY.lt h)]; exact h
theorem ArrY.ext {t : TypeId} {w : World} {b : Nat} {xs : List (BitVec 8)} (h : ArrY t w b xs) (x : World) : ArrY t (w.ext x) b xs := h.below (w.ext_below x) h.lt
theorem ArrY.new (t : TypeId) (w : World) (xs : List (BitVec 8)) : ArrY t (w.alloc (.cells (cellsY xs) t)) w.heap.size xs := by
  unfold ArrY
  show (w.heap.push _)[w.heap.size]? = _
  simp
theorem size_cellsY (s : List (BitVec 8)) : (cellsY s).size = s.length := by simp [cellsY]
theorem one_cellsY (s : List (BitVec 8)) : (cellsY s).all (·.oneCell') = true := by
  rw [Array.all_eq_true_iff_forall_mem]
  intro v hv
  simp [cellsY] at hv
  obtain ⟨x, _, rfl⟩ := hv
  rfl
theorem bytes_of (xs : List Int) (h : ∀ y ∈ xs, 0 ≤ y ∧ y ≤ 255) : ∃ ys : List (BitVec 8), xs = ys.map yv := by
  induction xs with
  | nil => exact ⟨[], rfl⟩
  | cons x xs ih =>
    obtain ⟨ys, h1⟩ := ih (fun y hy => h y (List.mem_cons_of_mem _ hy))
    obtain ⟨z, hz⟩ := yv_of (h x (by simp)).1 (h x (by simp)).2
    exact ⟨z :: ys, by simp [h1, hz]⟩

/-- The slice v has, in w, the bytes ys. -/
def RdY (w : World) (v : Value) (ys : List (BitVec 8)) : Prop :=
  ∃ a cap, v = .slice a ys.length cap ∧ ys.length ≤ cap ∧ (ys ≠ [] → ∃ b off, a = some ⟨b, off, none⟩ ∧ b < w.heap.size ∧ ∀ j, j < ys.length → w.cell? ⟨b, off + j, none⟩ = some (.int .u8 (yv (ny ys j))))
theorem RdY.below {w w' : World} {v : Value} {ys : List (BitVec 8)} (h : RdY w v ys) (hb : Below w.heap.size w w') : RdY w' v ys := by
  obtain ⟨a, cap, e, hc, h⟩ := h
  refine ⟨a, cap, e, hc, fun hx => ?_⟩
  obtain ⟨b, off, e2, h2, h3⟩ := h hx
  exact ⟨b, off, e2, Nat.lt_of_lt_of_le h2 hb.size, fun j hj => by rw [hb.cell (p := ⟨b, off + j, none⟩) h2]; exact h3 j hj⟩
theorem RdY.nil (w : World) (a : Option Addr) (cap : Nat) : RdY w (.slice a 0 cap) [] := ⟨a, cap, rfl, Nat.zero_le _, fun h => absurd rfl h⟩
/-- What is read is another block than one whose cells are no bytes. -/
theorem RdY.kept {w w' : World} {v : Value} {ys : List (BitVec 8)} {hb : Nat} (h : RdY w v ys) (hg : w.grownBy w' (some hb)) (hn : ∀ j x, w.cell? ⟨hb, j, none⟩ ≠ some (.int .u8 x)) : RdY w' v ys := by
  obtain ⟨a, cap, e, hc, h⟩ := h
  refine ⟨a, cap, e, hc, fun hx => ?_⟩
  obtain ⟨b, off, e2, h2, h3⟩ := h hx
  have hne : b ≠ hb := by
    rintro rfl
    have hpos : 0 < ys.length := by cases ys <;> simp_all
    exact hn _ _ (h3 0 hpos)
  refine ⟨b, off, e2, Nat.lt_of_lt_of_le h2 hg.size, fun j hj => ?_⟩
  rw [← h3 j hj]
  unfold World.cell?
  rw [hg.block b h2 (by simpa using hne)]
/-- As 'append' reads it. -/
theorem RdY.toV {w : World} {v : Value} {ys : List (BitVec 8)} (h : RdY w v ys) : RdV w v ys.length 1 (ys.map fun y => Value.int .u8 (yv y)) := by
  obtain ⟨a, cap, e, hc, h⟩ := h
  refine ⟨by simp, ?_, a, cap, e, fun hpos => ?_⟩
  · intro u hu; simp at hu; obtain ⟨y, _, rfl⟩ := hu; rfl
  · obtain ⟨b, off, rfl, _, h3⟩ := h (by intro e'; rw [e'] at hpos; simp at hpos)
    refine ⟨_, rfl, fun j u hu => ?_⟩
    have ha : (⟨b, off, none⟩ : Addr).add j = ⟨b, off + j, none⟩ := by unfold Addr.add; split <;> simp_all
    have hj : j < ys.length := by
      rcases Nat.lt_or_ge j ys.length with h' | h'
      · exact h'
      · rw [List.getElem?_eq_none (by simpa using h')] at hu; simp at hu
    rw [ha, h3 j hj, ← hu]
    simp [ny, hj]
/-- What a call's own row reads. -/
theorem RdY.owned {w : World} {B : Nat} {e : TypeId} {v : Value} {ys : List (BitVec 8)} (h : w.ownsRow B e 1 v ys.length (ys.map fun y => Value.int .u8 (yv y))) : RdY w v ys := by
  obtain ⟨h1, h2⟩ := h
  rcases h2 with ⟨rfl, h0⟩ | ⟨g, cap, cur, rfl, hb, hg, hnc, hcm, hcs, htake⟩
  · have : ys = [] := by cases ys <;> simp_all
    subst this; exact RdY.nil w none 0
  · refine ⟨_, cap, rfl, hnc, fun _ => ⟨g, 0, rfl, (Array.getElem?_eq_some_iff.1 hg).1, fun j hj => ?_⟩⟩
    have := cell_of_row w g j cur e (0, 0) hg
    have h4 : cur.toList[j]? = (ys.map fun y => Value.int .u8 (yv y))[j]? := by rw [← htake, List.getElem?_take, if_pos (by omega)]
    rw [Nat.zero_add, this, ← Array.getElem?_toList, h4]
    simp [ny, hj]
end Go.Proofs.Ytfidbiabgmioaaa
namespace Go.Proofs.Ytfidbiabgmioaaa
open Go.RowKit
theorem ArrY.rd {t : TypeId} {w : World} {b : Nat} {xs : List (BitVec 8)} (h : ArrY t w b xs) (cap : Nat) (hc : xs.length ≤ cap) : RdY w (.slice (some ⟨b, 0, none⟩) xs.length cap) xs :=
  ⟨_, cap, rfl, hc, fun _ => ⟨b, 0, rfl, h.lt, fun j hj => by rw [Nat.zero_add]; exact h.cell j hj⟩⟩
end Go.Proofs.Ytfidbiabgmioaaa
