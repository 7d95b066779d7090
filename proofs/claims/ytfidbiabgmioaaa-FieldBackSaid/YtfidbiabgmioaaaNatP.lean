import Derived.Test.YtfidbiabgmioaaaNatW
import Derived.Laws.BitsLemmas
import Derived.Laws.Bits128
import Derived.Laws.MakeOwn
/-! Digits: more of the plain law; rows of digits in memory. -/
set_option maxRecDepth 4000
set_option linter.unusedVariables false
set_option linter.unusedSimpArgs false
namespace Go.Proofs.Ytfidbiabgmioaaa
open Go.RowKit

theorem i64_and1 (n : Int) : bits .and .i64 n 1 = n % 2 := by
  have h1 : (BitVec.ofInt 64 1).toNat = 2 ^ 1 - 1 := by decide
  have key : (BitVec.ofInt 64 n &&& BitVec.ofInt 64 1).toNat = (n % ((2 ^ 64 : Nat) : Int)).toNat % 2 ^ 1 := by
    rw [BitVec.toNat_and, BitVec.toNat_ofInt, h1, Nat.and_two_pow_sub_one_eq_mod]
  show IntKind.i64.wrap ((BitVec.ofInt 64 n &&& BitVec.ofInt 64 1).toNat : Nat) = n % 2
  rw [key, IntKind.wrap_i64]
  omega
theorem i64_and255 (n : Int) : bits .and .i64 n 255 = n % 256 := by
  have h1 : (BitVec.ofInt 64 255).toNat = 2 ^ 8 - 1 := by decide
  have key : (BitVec.ofInt 64 n &&& BitVec.ofInt 64 255).toNat = (n % ((2 ^ 64 : Nat) : Int)).toNat % 2 ^ 8 := by
    rw [BitVec.toNat_and, BitVec.toNat_ofInt, h1, Nat.and_two_pow_sub_one_eq_mod]
  show IntKind.i64.wrap ((BitVec.ofInt 64 n &&& BitVec.ofInt 64 255).toNat : Nat) = n % 256
  rw [key, IntKind.wrap_i64]
  omega
theorem ofInt_nat64 (a : Nat) (h : a < 18446744073709551616) : (BitVec.ofInt 64 (a : Int)).toNat = a := by
  rw [BitVec.toNat_ofInt]; omega
theorem i64_or_small (a b : Nat) (ha : a < 256) (hb : b < 256) : bits .or .i64 (a : Int) (b : Int) = ((a ||| b : Nat) : Int) := by
  have hx : a ||| b < 2 ^ 8 := Nat.or_lt_two_pow (by omega) (by omega)
  show IntKind.i64.wrap ((BitVec.ofInt 64 (a : Int) ||| BitVec.ofInt 64 (b : Int)).toNat : Int) = _
  rw [BitVec.toNat_or, ofInt_nat64 a (by omega), ofInt_nat64 b (by omega), IntKind.wrap_i64]
  omega

theorem num_set (l : List Nat) (j x : Nat) (h : j < l.length) : num (l.set j x) + 256 ^ j * nd l j = num l + 256 ^ j * x := by
  have h1 := num_split l j (by omega)
  have h2 := num_split (l.set j x) j (by simp; omega)
  have e1 : (l.set j x).take j = l.take j := by rw [List.take_set]; exact List.set_eq_of_length_le (by rw [List.length_take]; omega)
  have e2 := num_drop l j
  have e3 := num_drop (l.set j x) j
  have e4 : (l.set j x).drop (j + 1) = l.drop (j + 1) := by rw [List.drop_set, if_pos (by omega)]
  have e5 : (l.set j x).getD j 0 = x := by rw [List.getD_eq_getElem?_getD, List.getElem?_set_self h]; rfl
  rw [e1] at h2
  rw [e4, e5] at e3
  unfold nd
  rw [h1, h2, e2, e3, Nat.mul_add, Nat.mul_add]
  omega
/-- One digit of a number. -/
theorem nd_num (l : List Nat) (hD : Dig l) (m : Nat) : nd l m = num l / 256 ^ m % 256 := by
  have hd := nd_dig hD m
  have h2 := num_drop l m
  have hp : 0 < 256 ^ m := Nat.pow_pos (by omega)
  rcases Nat.lt_or_ge m l.length with h | h
  · have h1 := num_split l m (Nat.le_of_lt h)
    have h3 : num (l.take m) < 256 ^ m := by
      have := num_lt _ (hD.take m)
      rw [List.length_take, Nat.min_eq_left (Nat.le_of_lt h)] at this; exact this
    rw [h1, Nat.add_mul_div_left _ _ hp, Nat.div_eq_of_lt h3, Nat.zero_add, h2]
    show nd l m = (nd l m + _) % 256
    omega
  · rw [nd_out h]
    have := num_lt l hD
    have h4 : 256 ^ l.length ≤ 256 ^ m := Nat.pow_le_pow_right (by omega) h
    rw [Nat.div_eq_of_lt (by omega)]
/-- Block g holds the digits l, and nothing else. -/
def ArrL (w : World) (g : Nat) (l : List Nat) : Prop := w.heap[g]? = some (.cells (digV l).toArray 3 (0, 0))
theorem ArrL.lt {w : World} {g : Nat} {l : List Nat} (h : ArrL w g l) : g < w.heap.size := (Array.getElem?_eq_some_iff.1 h).1
theorem ArrL.cell {w : World} {g : Nat} {l : List Nat} (h : ArrL w g l) (j : Nat) (hj : j < l.length) : w.cell? ⟨g, j, none⟩ = some (.int .i64 ((nd l j : Nat) : Int)) := by
  unfold ArrL at h
  simp [World.cell?, h, digV, nd, hj]
theorem ArrL.free {w : World} {g : Nat} {l : List Nat} (h : ArrL w g l) (j : Nat) : w.frozen? ⟨g, j, none⟩ = false := by
  unfold ArrL at h
  simp [World.frozen?, h]
theorem ArrL.set {w : World} {g : Nat} {l : List Nat} (h : ArrL w g l) (j x : Nat) : ArrL (w.setCell ⟨g, j, none⟩ (.int .i64 (x : Int))) g (l.set j x) := by
  unfold ArrL at *
  simp [World.setCell, Array.getElem?_modify, h, digV, List.map_set]
theorem ArrL.other {w : World} {g : Nat} {l : List Nat} (h : ArrL w g l) {a : Addr} (ha : g ≠ a.block) (v : Value) : ArrL (w.setCell a v) g l := by
  unfold ArrL at *
  rw [Below.heap_setCell _ _ _ _ ha]; exact h
theorem ArrL.below {w w' : World} {g B : Nat} {l : List Nat} (h : ArrL w g l) (hb : Below B w w') (hB : g < B) : ArrL w' g l := by
  unfold ArrL at *
  rw [hb.block g hB]; exact h
theorem ArrL.ext {w : World} {g : Nat} {l : List Nat} (h : ArrL w g l) (x : World) : ArrL (w.ext x) g l := h.below (w.ext_below x) h.lt
theorem ArrL.alloc {w : World} {g : Nat} {l : List Nat} (h : ArrL w g l) (o : Obj) : ArrL (w.alloc o) g l := by
  unfold ArrL at *
  rw [Below.heap_alloc _ _ _ (ArrL.lt h)]; exact h
theorem ArrL.new (w : World) (l : List Nat) : ArrL (w.alloc (.cells (digV l).toArray 3)) w.heap.size l := by
  unfold ArrL
  show (w.heap.push _)[w.heap.size]? = _
  simp
theorem ArrL.rd {w : World} {g : Nat} {l : List Nat} (h : ArrL w g l) (cap : Nat) (hc : l.length ≤ cap) : RdL w (.slice (some ⟨g, 0, none⟩) l.length cap) l :=
  ⟨_, cap, rfl, hc, fun _ => ⟨g, 0, rfl, h.lt, fun j hj => by rw [Nat.zero_add]; exact h.cell j hj⟩⟩
theorem digV_rep (n : Nat) : (digV (List.replicate n 0)).toArray = Array.replicate n (.int .i64 0) := by
  simp [digV]
theorem mkNat (N : Nat) (hN : N ≤ 1048576) (w : World) : (Instr.makeSlice 42 (.int .i64 (N : Int)) (.int .i64 (N : Int))).run Try.prog w = .ok (.slice (some ⟨w.heap.size, 0, none⟩) N N) (w.alloc (.cells (digV (List.replicate N 0)).toArray 3)) := by
  obtain ⟨i0, hi0, hz0, hz1, hz2⟩ := info_parts infoI
  have h := run_make (P := Try.prog) w 42 3 i0 (.int .i64 0) uNat hi0 hz0 .i64 .i64 (N : Int) (N : Int) (by omega) (Int.le_refl _) (by rw [hz2]; omega) (by omega)
  rw [h, Int.toNat_natCast, hz1, Nat.mul_one, digV_rep]
  congr 3
  apply Array.ext
  · simp [madeCells]
  · intro j h1 h2
    simp [madeCells, Value.cells, Nat.mod_one]
end Go.Proofs.Ytfidbiabgmioaaa
