import Derived.Laws.BitsAllLaws
import Derived.Test.YtejnnghfelpioaaBEdGroup1
set_option maxRecDepth 4000
set_option linter.unusedVariables false
set_option linter.unusedSimpArgs false
namespace Go.Proofs.Ytejnnghfelpioaa
open Go.RowKit
def iv (x : BitVec 64) : Int := (x.toNat : Int)
theorem iv_nonneg (x : BitVec 64) : 0 ≤ iv x := Int.natCast_nonneg _
theorem iv_ofNat (n : Nat) (h : n < 18446744073709551616) : iv (BitVec.ofNat 64 n) = (n : Int) := by
  unfold iv; rw [BitVec.toNat_ofNat, Nat.mod_eq_of_lt h]
theorem iv_xor (x y : BitVec 64) : bits .xor .u64 (iv x) (iv y) = iv (x ^^^ y) := by
  unfold iv; rw [u64_xor_nat _ _ x.isLt y.isLt, BitVec.toNat_xor]
theorem iv_and (x y : BitVec 64) : bits .and .u64 (iv x) (iv y) = iv (x &&& y) := by
  unfold iv; rw [u64_and_nat _ _ x.isLt y.isLt, BitVec.toNat_and]
theorem iv_or (x y : BitVec 64) : bits .or .u64 (iv x) (iv y) = iv (x ||| y) := by
  unfold iv; rw [u64_or_nat _ _ x.isLt y.isLt, BitVec.toNat_or]
theorem wrap_u64' (n : Int) : IntKind.u64.wrap n = n % 18446744073709551616 := by simp [IntKind.wrap, IntKind.bits, IntKind.signed]
theorem iv_add (x y : BitVec 64) : IntKind.u64.wrap (iv x + iv y) = iv (x + y) := by
  rw [wrap_u64']; unfold iv; rw [BitVec.toNat_add]; omega
theorem iv_shl (x : BitVec 64) (n : Nat) : IntKind.u64.wrap (iv x * 2 ^ n) = iv (x <<< n) := by
  rw [wrap_u64']; unfold iv; rw [BitVec.toNat_shiftLeft, Nat.shiftLeft_eq, Int.natCast_emod, Int.natCast_mul, Int.natCast_pow]
  rfl
theorem iv_shr (x : BitVec 64) (n : Nat) : iv x / 2 ^ n = iv (x >>> n) := by
  unfold iv; rw [BitVec.toNat_ushiftRight, Nat.shiftRight_eq_div_pow, Int.natCast_ediv, Int.natCast_pow]
  rfl
theorem rot_spell (x : BitVec 64) (n : Nat) (h : n < 64) : bits .or .u64 (IntKind.u64.wrap (iv x * 2 ^ n)) (iv x / 2 ^ (64 - n)) = iv (x.rotateLeft n) := by
  rw [iv_shl, iv_shr, iv_or]
  congr 1
  rw [BitVec.rotateLeft_def, Nat.mod_eq_of_lt h]
def nb (xs : List (BitVec 64)) (j : Nat) : BitVec 64 := xs.getD j 0
def cellsB (xs : List (BitVec 64)) : Array Value := (xs.map fun x => Value.int .u64 (iv x)).toArray
def ArrB (t : TypeId) (w : World) (b : Nat) (xs : List (BitVec 64)) : Prop := w.heap[b]? = some (.cells (cellsB xs) t (0, 0))
theorem ArrB.cell {t : TypeId} {w : World} {b : Nat} {xs : List (BitVec 64)} (h : ArrB t w b xs) (j : Nat) (hj : j < xs.length) : w.cell? ⟨b, j, none⟩ = some (.int .u64 (iv (nb xs j))) := by
  unfold ArrB at h
  simp [World.cell?, h, cellsB, nb, hj]
theorem ArrB.free {t : TypeId} {w : World} {b : Nat} {xs : List (BitVec 64)} (h : ArrB t w b xs) (j : Nat) : w.frozen? ⟨b, j, none⟩ = false := by
  unfold ArrB at h
  simp [World.frozen?, h]
theorem ArrB.lt {t : TypeId} {w : World} {b : Nat} {xs : List (BitVec 64)} (h : ArrB t w b xs) : b < w.heap.size := by
  unfold ArrB at h
  exact (Array.getElem?_eq_some_iff.1 h).1
theorem ArrB.set {t : TypeId} {w : World} {b : Nat} {xs : List (BitVec 64)} (h : ArrB t w b xs) (j : Nat) (x : BitVec 64) : ArrB t (w.setCell ⟨b, j, none⟩ (.int .u64 (iv x))) b (xs.set j x) := by
  unfold ArrB at *
  simp [World.setCell, Array.getElem?_modify, h, cellsB, List.map_set]
theorem ArrB.other {t : TypeId} {w : World} {b : Nat} {xs : List (BitVec 64)} (h : ArrB t w b xs) {a : Addr} (ha : b ≠ a.block) (v : Value) : ArrB t (w.setCell a v) b xs := by
  unfold ArrB at *
  rw [Below.heap_setCell _ _ _ _ ha]; exact h
theorem ArrB.below {t : TypeId} {w w' : World} {b B : Nat} {xs : List (BitVec 64)} (h : ArrB t w b xs) (hb : Below B w w') (hB : b < B) : ArrB t w' b xs := by
  unfold ArrB at *
  rw [hb.block b hB]; exact h
theorem ArrB.alloc {t : TypeId} {w : World} {b : Nat} {xs : List (BitVec 64)} (h : ArrB t w b xs) (o : Obj) : ArrB t (w.alloc o) b xs := by
  unfold ArrB at *
  rw [Below.heap_alloc _ _ _ (ArrB.lt h)]; exact h
theorem ArrB.drew {t : TypeId} {w : World} {b : Nat} {xs : List (BitVec 64)} (h : ArrB t w b xs) : ArrB t w.drew b xs := h
theorem ArrB.ext {t : TypeId} {w : World} {b : Nat} {xs : List (BitVec 64)} (h : ArrB t w b xs) (x : World) : ArrB t (w.ext x) b xs := h.below (w.ext_below x) h.lt
theorem ArrB.new (t : TypeId) (w : World) (xs : List (BitVec 64)) : ArrB t (w.alloc (.cells (cellsB xs) t)) w.heap.size xs := by
  unfold ArrB
  show (w.heap.push _)[w.heap.size]? = _
  simp
theorem size_cellsB (s : List (BitVec 64)) : (cellsB s).size = s.length := by simp [cellsB]
theorem one_cellsB (s : List (BitVec 64)) : (cellsB s).all (·.oneCell') = true := by
  rw [Array.all_eq_true_iff_forall_mem]
  intro v hv
  simp [cellsB] at hv
  obtain ⟨x, _, rfl⟩ := hv
  rfl
theorem mask63 (k : Int) : bits .and .u64 (IntKind.u64.wrap k) 63 = k % 64 := by
  have h0 : 0 ≤ k % 18446744073709551616 := Int.emod_nonneg _ (by omega)
  rw [wrap_u64']
  obtain ⟨m, hm⟩ := Int.eq_ofNat_of_zero_le h0
  have hlt : m < 18446744073709551616 := by omega
  rw [hm, show (63 : Int) = ((63 : Nat) : Int) from rfl, u64_and_nat m 63 hlt (by omega), show (63 : Nat) = 2 ^ 6 - 1 from rfl, Nat.and_two_pow_sub_one_eq_mod]
  omega
end Go.Proofs.Ytejnnghfelpioaa
namespace Go.Proofs.Ytejnnghfelpioaa
open Go.RowKit
def yv (x : BitVec 8) : Int := (x.toNat : Int)
theorem yv_nonneg (x : BitVec 8) : 0 ≤ yv x := Int.natCast_nonneg _
theorem yv_lt (x : BitVec 8) : yv x ≤ 255 := by have := x.isLt; unfold yv; omega
theorem yv_wide (x : BitVec 8) : yv x = iv (x.setWidth 64) := by
  have := x.isLt
  unfold yv iv; rw [BitVec.toNat_setWidth, Nat.mod_eq_of_lt (by omega)]
theorem yv_wrap (x : BitVec 8) : IntKind.u64.wrap (yv x) = iv (x.setWidth 64) := by
  have h1 := yv_nonneg x; have h2 := yv_lt x
  rw [wrap_u64', ← yv_wide]; omega
def ny (xs : List (BitVec 8)) (j : Nat) : BitVec 8 := xs.getD j 0
def cellsY (xs : List (BitVec 8)) : Array Value := (xs.map fun x => Value.int .u8 (yv x)).toArray
def ArrY (t : TypeId) (w : World) (b : Nat) (xs : List (BitVec 8)) : Prop := w.heap[b]? = some (.cells (cellsY xs) t (0, 0))
theorem ArrY.cell {t : TypeId} {w : World} {b : Nat} {xs : List (BitVec 8)} (h : ArrY t w b xs) (j : Nat) (hj : j < xs.length) : w.cell? ⟨b, j, none⟩ = some (.int .u8 (yv (ny xs j))) := by
  unfold ArrY at h
  simp [World.cell?, h, cellsY, ny, hj]
theorem ArrY.free {t : TypeId} {w : World} {b : Nat} {xs : List (BitVec 8)} (h : ArrY t w b xs) (j : Nat) : w.frozen? ⟨b, j, none⟩ = false := by
  unfold ArrY at h
  simp [World.frozen?, h]
theorem ArrY.lt {t : TypeId} {w : World} {b : Nat} {xs : List (BitVec 8)} (h : ArrY t w b xs) : b < w.heap.size := by
  unfold ArrY at h
  exact (Array.getElem?_eq_some_iff.1 h).1
theorem ArrY.set {t : TypeId} {w : World} {b : Nat} {xs : List (BitVec 8)} (h : ArrY t w b xs) (j : Nat) (x : BitVec 8) : ArrY t (w.setCell ⟨b, j, none⟩ (.int .u8 (yv x))) b (xs.set j x) := by
  unfold ArrY at *
  simp [World.setCell, Array.getElem?_modify, h, cellsY, List.map_set]
theorem ArrY.other {t : TypeId} {w : World} {b : Nat} {xs : List (BitVec 8)} (h : ArrY t w b xs) {a : Addr} (ha : b ≠ a.block) (v : Value) : ArrY t (w.setCell a v) b xs := by
  unfold ArrY at *
  rw [Below.heap_setCell _ _ _ _ ha]; exact h
theorem ArrY.below {t : TypeId} {w w' : World} {b B : Nat} {xs : List (BitVec 8)} (h : ArrY t w b xs) (hb : Below B w w') (hB : b < B) : ArrY t w' b xs := by
  unfold ArrY at *
  rw [hb.block b hB]; exact h
theorem ArrY.alloc {t : TypeId} {w : World} {b : Nat} {xs : List (BitVec 8)} (h : ArrY t w b xs) (o : Obj) : ArrY t (w.alloc o) b xs := by
  unfold ArrY at *
  rw [Below.heap_alloc _ _ _ (ArrY.lt h)]; exact h
theorem ArrY.ext {t : TypeId} {w : World} {b : Nat} {xs : List (BitVec 8)} (h : ArrY t w b xs) (x : World) : ArrY t (w.ext x) b xs := h.below (w.ext_below x) h.lt
theorem ArrY.new (t : TypeId) (w : World) (xs : List (BitVec 8)) : ArrY t (w.alloc (.cells (cellsY xs) t)) w.heap.size xs := by
  unfold ArrY
  show (w.heap.push _)[w.heap.size]? = _
  simp
theorem size_cellsY (s : List (BitVec 8)) : (cellsY s).size = s.length := by simp [cellsY]
theorem one_cellsY (s : List (BitVec 8)) : (cellsY s).all (·.oneCell') = true := by
  rw [Array.all_eq_true_iff_forall_mem]
  intro v hv
  simp [cellsY] at hv
  obtain ⟨x, _, rfl⟩ := hv
  rfl
def RdY (w : World) (v : Value) (ys : List (BitVec 8)) : Prop :=
  ∃ a cap, v = .slice a ys.length cap ∧ ys.length ≤ cap ∧ (ys ≠ [] → ∃ b off, a = some ⟨b, off, none⟩ ∧ b < w.heap.size ∧ ∀ j, j < ys.length → w.cell? ⟨b, off + j, none⟩ = some (.int .u8 (yv (ny ys j))))
theorem RdY.below {w w' : World} {v : Value} {ys : List (BitVec 8)} (h : RdY w v ys) (hb : Below w.heap.size w w') : RdY w' v ys := by
  obtain ⟨a, cap, e, hc, h⟩ := h
  refine ⟨a, cap, e, hc, fun hx => ?_⟩
  obtain ⟨b, off, e2, h2, h3⟩ := h hx
  exact ⟨b, off, e2, Nat.lt_of_lt_of_le h2 hb.size, fun j hj => by rw [hb.cell (p := ⟨b, off + j, none⟩) h2]; exact h3 j hj⟩
theorem RdY.nil (w : World) (a : Option Addr) (cap : Nat) : RdY w (.slice a 0 cap) [] := ⟨a, cap, rfl, Nat.zero_le _, fun h => absurd rfl h⟩
theorem RdY.kept {w w' : World} {v : Value} {ys : List (BitVec 8)} {hb : Nat} (h : RdY w v ys) (hg : w.grownBy w' (some hb)) (hn : ∀ j x, w.cell? ⟨hb, j, none⟩ ≠ some (.int .u8 x)) : RdY w' v ys := by
  obtain ⟨a, cap, e, hc, h⟩ := h
  refine ⟨a, cap, e, hc, fun hx => ?_⟩
  obtain ⟨b, off, e2, h2, h3⟩ := h hx
  have hne : b ≠ hb := by
    rintro rfl
    have hpos : 0 < ys.length := by cases ys <;> simp_all
    exact hn _ _ (h3 0 hpos)
  refine ⟨b, off, e2, Nat.lt_of_lt_of_le h2 hg.size, fun j hj => ?_⟩
  rw [← h3 j hj]
  unfold World.cell?
  rw [hg.block b h2 (by simpa using hne)]
theorem RdY.toV {w : World} {v : Value} {ys : List (BitVec 8)} (h : RdY w v ys) : RdV w v ys.length 1 (ys.map fun y => Value.int .u8 (yv y)) := by
  obtain ⟨a, cap, e, hc, h⟩ := h
  refine ⟨by simp, ?_, a, cap, e, fun hpos => ?_⟩
  · intro u hu; simp at hu; obtain ⟨y, _, rfl⟩ := hu; rfl
  · obtain ⟨b, off, rfl, _, h3⟩ := h (by intro e'; rw [e'] at hpos; simp at hpos)
    refine ⟨_, rfl, fun j u hu => ?_⟩
    have ha : (⟨b, off, none⟩ : Addr).add j = ⟨b, off + j, none⟩ := by unfold Addr.add; split <;> simp_all
    have hj : j < ys.length := by
      rcases Nat.lt_or_ge j ys.length with h' | h'
      · exact h'
      · rw [List.getElem?_eq_none (by simpa using h')] at hu; simp at hu
    rw [ha, h3 j hj, ← hu]
    simp [ny, hj]
theorem RdY.owned {w : World} {B : Nat} {e : TypeId} {v : Value} {ys : List (BitVec 8)} (h : w.ownsRow B e 1 v ys.length (ys.map fun y => Value.int .u8 (yv y))) : RdY w v ys := by
  obtain ⟨h1, h2⟩ := h
  rcases h2 with ⟨rfl, h0⟩ | ⟨g, cap, cur, rfl, hb, hg, hnc, hcm, hcs, htake⟩
  · have : ys = [] := by cases ys <;> simp_all
    subst this; exact RdY.nil w none 0
  · refine ⟨_, cap, rfl, hnc, fun _ => ⟨g, 0, rfl, (Array.getElem?_eq_some_iff.1 hg).1, fun j hj => ?_⟩⟩
    have := cell_of_row w g j cur e (0, 0) hg
    have h4 : cur.toList[j]? = (ys.map fun y => Value.int .u8 (yv y))[j]? := by rw [← htake, List.getElem?_take, if_pos (by omega)]
    rw [Nat.zero_add, this, ← Array.getElem?_toList, h4]
    simp [ny, hj]
end Go.Proofs.Ytejnnghfelpioaa
namespace Go.Proofs.Ytejnnghfelpioaa
open Go.RowKit
theorem ArrY.rd {t : TypeId} {w : World} {b : Nat} {xs : List (BitVec 8)} (h : ArrY t w b xs) (cap : Nat) (hc : xs.length ≤ cap) : RdY w (.slice (some ⟨b, 0, none⟩) xs.length cap) xs :=
  ⟨_, cap, rfl, hc, fun _ => ⟨b, 0, rfl, h.lt, fun j hj => by rw [Nat.zero_add]; exact h.cell j hj⟩⟩
end Go.Proofs.Ytejnnghfelpioaa
namespace Go.Proofs.Ytejnnghfelpioaa
open Go.RowKit
def b8 (n : Nat) : BitVec 8 := BitVec.ofNat 8 n
theorem yv_b8 (n : Nat) : yv (b8 n) = ((n % 256 : Nat) : Int) := by unfold yv b8; rw [BitVec.toNat_ofNat]
def be (n x : Nat) : List (BitVec 8) := (List.range n).map fun i => b8 (x / 256 ^ (n - 1 - i))
theorem pow256_32 : (256 : Nat) ^ 32 = 2 ^ 256 := by rw [show (256 : Nat) = 2 ^ 8 from rfl, ← Nat.pow_mul]
theorem infoY8 : (Try.prog.info? 5).map (fun i => (i.zero, i.size, i.bytes)) = some (some (.int .u8 0), 1, 1) := by kernel_rfl
theorem uYs : Try.prog.underlying 22 = some (.slice 5) := by kernel_rfl
theorem mkY (N : Nat) (hN : N ≤ 1048576) (w : World) : (Instr.makeSlice 22 (.int .i64 (N : Int)) (.int .i64 (N : Int))).run Try.prog w = .ok (.slice (some ⟨w.heap.size, 0, none⟩) N N) (w.alloc (.cells (cellsY (List.replicate N 0)) 5)) := by
  obtain ⟨i0, hi0, hz0, hz1, hz2⟩ := info_parts infoY8
  have h := run_make (P := Try.prog) w 22 5 i0 (.int .u8 0) uYs hi0 hz0 .i64 .i64 (N : Int) (N : Int) (by omega) (Int.le_refl _) (by rw [hz2]; omega) (by omega)
  rw [h, Int.toNat_natCast, hz1, Nat.mul_one]
  congr 3
  apply Array.ext
  · simp [madeCells, cellsY]
  · intro j h1 h2
    simp [madeCells, Value.cells, Nat.mod_one, cellsY, yv]
theorem lm_b8 (x i : Nat) (hi : i < 32) : lm x (i / 8) / 2 ^ (8 * (i % 8)) % 256 = yv (b8 (x / 256 ^ i)) := by
  rw [yv_b8, ← lmN_byte x i hi]
  unfold lm
  rw [Int.natCast_emod, Int.natCast_ediv, Int.natCast_pow]; rfl
end Go.Proofs.Ytejnnghfelpioaa
namespace Go
open Go.RowKit
theorem wpQuiet_load_want {P : Program} {ops : Array Oper} {rest : List Oper} {o : Oper} {a : Act} {w : World} {Q : Act → Prop} (ty : TypeId) (x : Operand) (ho : o.op = .load ty x)
    (g : Nat) (hx : a.eval x = .pointer (some ⟨g, 0, none⟩)) (t : TypeId) (cs : Array Value) (d : TypeDesc) (hg : w.heap[g]? = some (.cells cs t (0, 0)))
    (hu : P.underlying ty = some d) (hd : (match d with | .struct _ | .array _ _ => true | _ => false) = true) (hi : (P.info? ty).map (·.size) = some cs.size) (hw : Region.wanted o (yielded ops a.tmps) = true)
    (h : wpQuiet P ops (fun w' => ∃ x, w' = w.ext x) Q rest (a.put o.dst (.agg cs))) : wpQuiet P ops (fun w' => ∃ x, w' = w.ext x) Q (o :: rest) a :=
  BigFrame.wpQuiet_want hw fun K hK => ⟨.agg cs, fun w' ⟨y, hy⟩ => by
    have hg' : w'.heap[g]? = some (.cells cs t (0, 0)) := by rw [hy]; exact (w.heap_ext y g (Array.getElem?_eq_some_iff.1 hg).1).trans hg
    unfold Oper.quietAt
    rw [run_load_part ty x ho g 0 hx t cs cs (0, 0) d hg' (fun j v h => by rw [Nat.zero_add]; exact h) hu hd hi]
    exact ⟨rfl, rfl⟩, hK _ h⟩
theorem wpQuiet_build_want {P : Program} {ops : Array Oper} {rest : List Oper} {o : Oper} {a : Act} {C : World → Prop} {Q : Act → Prop} (T : TypeId) (parts : Array (Nat × Operand)) (ho : o.op = .build T parts) (cells : Array Value)
    (hb : P.built T (parts.map fun (i, x) => (i, a.eval x)).toList = some cells) (hw : Region.wanted o (yielded ops a.tmps) = true)
    (h : wpQuiet P ops C Q rest (a.put o.dst (.agg cells))) : wpQuiet P ops C Q (o :: rest) a :=
  BigFrame.wpQuiet_want hw fun K hK => ⟨.agg cells, fun w' _ => by
    unfold Oper.quietAt execOp
    simp only [ho, Sem.run_bind, run_build w' T _ cells hb, Result.andThen_ok]
    exact ⟨rfl, rfl⟩, hK _ h⟩
theorem wpList_build_cells {P : Program} {ops : Array Oper} {rest : List Oper} {o : Oper} {a : Act} {w : World} {Q : Exit → Act → World → Prop} (hg : o.guard = none) (T : TypeId) (parts : Array (Nat × Operand)) (ho : o.op = .build T parts) (cells : Array Value)
    (hb : P.built T (parts.map fun (i, x) => (i, a.eval x)).toList = some cells) (h : wpList P ops Q rest (a.put o.dst (.agg cells)) w) : wpList P ops Q (o :: rest) a w :=
  wpList_build hg T parts ho (by rw [hb]; rfl) (by rw [hb]; exact h)
end Go
namespace Go.Proofs.Ytejnnghfelpioaa
open Go.RowKit
def pN : Nat := 57896044618658097711785492504343953926634992332820282019728792003956564819949
def lN : Nat := 7237005577332262213973186563042994240857116359379907606001950938285454250989
theorem pN_lt : pN < 2 ^ 256 := by decide +kernel
theorem lN_lt : lN < 2 ^ 256 := by decide +kernel
theorem pN_pos : 0 < pN := by decide +kernel
theorem lN_pos : 0 < lN := by decide +kernel
theorem pN_two : 2 ^ 256 = 2 * pN + 38 := by decide +kernel
theorem p_cells : cellsW pN = #[.int .u64 18446744073709551597, .int .u64 18446744073709551615, .int .u64 18446744073709551615, .int .u64 9223372036854775807] := by
  rw [show pN = mk4 18446744073709551597 18446744073709551615 18446744073709551615 9223372036854775807 from by decide +kernel, cellsW_mk4 _ _ _ _ (by decide) (by decide) (by decide) (by decide)]; rfl
theorem l_cells : cellsW lN = #[.int .u64 6346243789798364141, .int .u64 1503914060200516822, .int .u64 0, .int .u64 1152921504606846976] := by
  rw [show lN = mk4 6346243789798364141 1503914060200516822 0 1152921504606846976 from by decide +kernel, cellsW_mk4 _ _ _ _ (by decide) (by decide) (by decide) (by decide)]; rfl
theorem p_built : Try.prog.built 25 [(0, .int .u64 18446744073709551597), (1, .int .u64 18446744073709551615), (2, .int .u64 18446744073709551615), (3, .int .u64 9223372036854775807)] = some (cellsW pN) := by rw [p_cells]; kernel_rfl
theorem l_built : Try.prog.built 25 [(0, .int .u64 6346243789798364141), (1, .int .u64 1503914060200516822), (2, .int .u64 0), (3, .int .u64 1152921504606846976)] = some (cellsW lN) := by rw [l_cells]; kernel_rfl
set_option maxHeartbeats 1000000 in
theorem fP_any (w : World) : Calls Try.prog 41 #[] w fun e w' => e = .returned (wd pN) ∧ Below w.heap.size w w' := by
  have hB := hid p_built
  have iP := hid (iW pN)
  have nP := hid (one_cellsW pN)
  have hA0 := hid (ArrW.new 25 w 0)
  have hb0 : Below w.heap.size w (w.alloc (.cells (cellsW 0) 25)) := (Below.refl _ _).alloc (Nat.le_refl _) _
  unfold wd
  generalize pN = p at *
  go_enter Try.func41, Try.ntmps41
  go_wp2_with (first | (refine wpList_alloc_new rfl 25 rfl (cellsW 0) zWd ?_; simp only [Act.put, pvA, pv0, pv1, World.size_alloc]) | (refine wpList_buildStore 25 _ (.tmp 0) 1 (cellsW p) _ rfl rfl rfl rfl rfl rfl (by simp) (by first | exact hB.out | (simp only [List.map_toArray, List.map_cons, List.map_nil]; exact hB.out)) rfl 25 _ hA0.out iP.out rfl nP.out ?_; simp only [Act.put, pvA, pv0, pv1]))
  refine bodyPost_ret (results_cell_row rfl _ _ w.heap.size 25 (cellsW p) (0, 0) _ rfl (heap_setRow' _ _ _ _ _ hA0.out) uWd rfl iP.out) rfl ⟨rfl, below_setRow' hb0 _ (Nat.le_refl _) _⟩
set_option maxHeartbeats 1000000 in
theorem fL_any (w : World) : Calls Try.prog 19 #[] w fun e w' => e = .returned (wd lN) ∧ Below w.heap.size w w' := by
  have hB := hid l_built
  have iP := hid (iW lN)
  have nP := hid (one_cellsW lN)
  have hA0 := hid (ArrW.new 25 w 0)
  have hb0 : Below w.heap.size w (w.alloc (.cells (cellsW 0) 25)) := (Below.refl _ _).alloc (Nat.le_refl _) _
  unfold wd
  generalize lN = p at *
  go_enter Try.func19, Try.ntmps19
  go_wp2_with (first | (refine wpList_alloc_new rfl 25 rfl (cellsW 0) zWd ?_; simp only [Act.put, pvA, pv0, pv1, World.size_alloc]) | (refine wpList_buildStore 25 _ (.tmp 0) 1 (cellsW p) _ rfl rfl rfl rfl rfl rfl (by simp) (by first | exact hB.out | (simp only [List.map_toArray, List.map_cons, List.map_nil]; exact hB.out)) rfl 25 _ hA0.out iP.out rfl nP.out ?_; simp only [Act.put, pvA, pv0, pv1]))
  refine bodyPost_ret (results_cell_row rfl _ _ w.heap.size 25 (cellsW p) (0, 0) _ rfl (heap_setRow' _ _ _ _ _ hA0.out) uWd rfl iP.out) rfl ⟨rfl, below_setRow' hb0 _ (Nat.le_refl _) _⟩
set_option maxHeartbeats 2000000 in
theorem below_any (x : Nat) (w : World) (hx : x < 2 ^ 256) : Calls Try.prog 42 #[wd x] w fun e w' => e = .returned (wd (x % pN)) ∧ Below w.heap.size w w' := by
  have hP := hid fP_any
  have hC := hid (fun y w (hy : y < 2 ^ 256) => wcmp_any y pN w hy pN_lt)
  have hS := hid (fun y w (hy : y < 2 ^ 256) => wsub_any y pN w hy pN_lt)
  have hpos := hid pN_pos
  have hplt := hid pN_lt
  have HX := hid hx
  clear hx
  generalize pN = p at *
  unfold wd at *
  have hA0 := hid (show ArrW 25 ((w.alloc (.cells (cellsW x) 25)).alloc (.cells (cellsW 0) 25)) w.heap.size x from (ArrW.new _ w x).alloc _)
  have hC0 := hid (show ArrW 25 ((w.alloc (.cells (cellsW x) 25)).alloc (.cells (cellsW 0) 25)) (w.heap.size + 1) 0 by
    have := ArrW.new 25 (w.alloc (.cells (cellsW x) 25)) 0
    rw [World.size_alloc] at this; exact this)
  have hb0 : Below w.heap.size w ((w.alloc (.cells (cellsW x) 25)).alloc (.cells (cellsW 0) 25)) := ((Below.refl _ _).alloc (Nat.le_refl _) _).alloc (by simp) _
  go_enter Try.func42, Try.ntmps42
  go_wp2_with (refine wpList_alloc_new rfl 25 rfl (cellsW 0) zWd ?_; simp only [Act.put, pvA, pv0, pv1, World.size_alloc])
  generalize (w.alloc (.cells (cellsW x) 25)).alloc (.cells (cellsW 0) 25) = w1 at hA0 hC0 hb0 ⊢
  go_loopg [6] x (fun k _ wr => k < 2 ^ 256 ∧ Hid (k % p = x % p) ∧ Hid (ArrW 25 wr w.heap.size k) ∧ Hid (ArrW 25 wr (w.heap.size + 1) 0) ∧ Below w.heap.size w wr)
  case atStart => exact ⟨HX.out, hid rfl, hA0, hC0, hb0⟩
  case round =>
    clear hA0 hC0 hb0
    obtain ⟨hk, hm, hA, hC0, hb⟩ := hrel
    have iK := hid (iW gk)
    have hC1 := hid (fun w => hC.out gk w hk)
    have hS1 := hid (fun w => hS.out gk w hk)
    by_cases hle : p ≤ gk
    · have hge : 0 ≤ cmpI gk p := by unfold cmpI; split <;> (try split) <;> omega
      have HK := hid hk
      obtain ⟨c, hc⟩ : ∃ c, c = cmpI gk p := ⟨_, rfl⟩
      rw [← hc] at hC1 hge
      obtain ⟨d, hd⟩ : ∃ d, d = subW gk p := ⟨_, rfl⟩
      rw [← hd] at hS1
      have hd2 : d = gk - p := by
        rw [hd]; unfold subW
        have h1 := HK.out
        have h2 := hplt.out
        generalize 2 ^ 256 = T at *
        rw [show gk + (T - p) = (gk - p) + T by omega, Nat.add_mod_right, Nat.mod_eq_of_lt (by omega)]
      have HD := hid hd2
      have iD := hid (iW d)
      have nD := hid (one_cellsW d)
      have HLE := hid hle
      clear hc hd hd2 hk hle
      go_wp2_with fail
      ((try simp only [World.size_alloc]); refine wp_region_ext (by kernel_rfl) (by kernel_rfl) ?_; (try simp only [List.append_eq, List.cons_append, List.nil_append]); (repeat (first | (refine wpQuiet_load_want 25 (.tmp 1) rfl w.heap.size rfl 25 (cellsW _) _ hA.out uWd rfl iK.out rfl ?_; simp only [Act.put, pvA, pv0, pv1]) | go_big_quiet_step (first | (go_at_call 41; with_reducible refine Calls.ext_of (hP.out _)) | (go_at_call 60; with_reducible refine Calls.ext_of (hC1.out _))))); refine wpQuiet_nil ?_; rintro _ ⟨xw, rfl⟩)
      have hA1 := hid (hA.out.ext xw)
      have hC01 := hid (hC0.out.ext xw)
      have hb1 := World.ext_below_of hb hb.size xw
      generalize wr.ext xw = w2 at hA1 hC01 hb1 ⊢
      clear hA hC0 hb hC1
      go_wp2_with fail
      ((try simp only [World.size_alloc]); refine wp_region_ext_tail 3 (by kernel_rfl) (by kernel_rfl) ?_; simp only [List.take_succ_cons, List.take_zero, List.drop_succ_cons, List.drop_zero]; (repeat (first | (refine wpQuiet_load_want 25 (.tmp 1) rfl w.heap.size rfl 25 (cellsW _) _ hA1.out uWd rfl iK.out rfl ?_; simp only [Act.put, pvA, pv0, pv1]) | go_big_quiet_step (first | (go_at_call 41; with_reducible refine Calls.ext_of (hP.out _)) | (go_at_call 40; with_reducible refine Calls.ext_of (hS1.out _))))); refine wpQuiet_nil ?_; rintro _ ⟨xw, rfl⟩)
      have hA2 := hid (hA1.out.ext xw)
      have hC2 := hid (hC01.out.ext xw)
      have hb2 := World.ext_below_of hb1 hb1.size xw
      generalize w2.ext xw = w3 at hA2 hC2 hb2 ⊢
      clear hA1 hC01 hb1
      (refine wpList_store_row rfl 25 (.tmp 1) (.tmp 9) rfl w.heap.size _ rfl rfl 25 _ hA2.out iD.out rfl nD.out ?_; simp only [Act.put])
      have hA3 := hid (hA2.out.row d)
      have hC3 := hid (hC2.out.otherRow (show w.heap.size + 1 ≠ w.heap.size by omega) (cellsW d))
      have hb3 := below_setRow' hb2 w.heap.size (Nat.le_refl _) (cellsW d)
      generalize w3.setRow w.heap.size (cellsW d) = w4 at hA3 hC3 hb3 ⊢
      clear hA2 hC2 hb2
      go_wp2
      go_roundg d
      case measure => have := HD.out; have := hpos.out; have := HLE.out; omega
      case rel =>
        have e1 := HD.out
        have e2 := HLE.out
        refine ⟨by have := HK.out; omega, hid ?_, hA3, hC3, hb3⟩
        rw [e1, ← hm.out, Nat.mod_eq_sub_mod e2]
    · have hge : ¬ 0 ≤ cmpI gk p := by unfold cmpI; split <;> (try split) <;> omega
      have hfin := hid (show gk = x % p by rw [← hm.out, Nat.mod_eq_of_lt (by omega)])
      obtain ⟨c, hc⟩ : ∃ c, c = cmpI gk p := ⟨_, rfl⟩
      rw [← hc] at hC1 hge
      have nK := hid (one_cellsW gk)
      clear hc hle hk hm
      go_wp2_with fail
      ((try simp only [World.size_alloc]); refine wp_region_ext (by kernel_rfl) (by kernel_rfl) ?_; (try simp only [List.append_eq, List.cons_append, List.nil_append]); (repeat (first | (refine wpQuiet_load_want 25 (.tmp 1) rfl w.heap.size rfl 25 (cellsW _) _ hA.out uWd rfl iK.out rfl ?_; simp only [Act.put, pvA, pv0, pv1]) | go_big_quiet_step (first | (go_at_call 41; with_reducible refine Calls.ext_of (hP.out _)) | (go_at_call 60; with_reducible refine Calls.ext_of (hC1.out _))))); refine wpQuiet_nil ?_; rintro _ ⟨xw, rfl⟩)
      have hA1 := hid (hA.out.ext xw)
      have hC01 := hid (hC0.out.ext xw)
      have hb1 := World.ext_below_of hb hb.size xw
      generalize wr.ext xw = w2 at hA1 hC01 hb1 ⊢
      clear hA hC0 hb hC1
      go_wp2_with (first | (refine wpList_load_row rfl 25 (.tmp 1) rfl w.heap.size rfl 25 _ (0, 0) _ hA1.out uWd rfl iK.out ?_; simp only [Act.put, pvA, pv0, pv1]) | (refine wpList_store_row rfl 25 (.tmp 2) (.tmp 10) rfl (w.heap.size + 1) _ rfl rfl 25 _ hC01.out iK.out rfl nK.out ?_; simp only [Act.put]))
      refine bodyPost_ret (results_cell_row rfl _ _ (w.heap.size + 1) 25 (cellsW gk) (0, 0) _ rfl (heap_setRow' _ _ _ _ _ hC01.out) uWd rfl iK.out) rfl ⟨by rw [hfin.out], below_setRow' hb1 _ (by omega) _⟩
end Go.Proofs.Ytejnnghfelpioaa
namespace Go.Proofs.Ytejnnghfelpioaa
open Go.RowKit
theorem high_limb (N i : Nat) : lmN (N / 2 ^ 256) i = lmN N (i + 4) := by
  unfold lmN
  rw [Nat.div_div_eq_div_mul, ← Nat.pow_add, show 256 + 64 * i = 64 * (i + 4) by omega]
theorem fold_step (N X c i hi lo u1 v1 u2 v2 : Nat) (hc : c ≤ 39) (hu2 : u2 < 2 ^ 64) (hX : X < 2 ^ (64 * i))
    (hm : lmN N (i + 4) * 38 = lo + 2 ^ 64 * hi) (h1 : lo + c = u1 + 2 ^ 64 * v1) (h2 : lmN N i + u1 = u2 + 2 ^ 64 * v2)
    (hinv : X + 2 ^ (64 * i) * c = N % 2 ^ (64 * i) + 38 * (N / 2 ^ 256 % 2 ^ (64 * i))) :
    hi + v1 + v2 ≤ 39 ∧ X + 2 ^ (64 * i) * u2 < 2 ^ (64 * (i + 1)) ∧
    X + 2 ^ (64 * i) * u2 + 2 ^ (64 * (i + 1)) * (hi + v1 + v2) = N % 2 ^ (64 * (i + 1)) + 38 * (N / 2 ^ 256 % 2 ^ (64 * (i + 1))) := by
  have g1 := lmN_lt N i
  have g2 := lmN_lt N (i + 4)
  refine ⟨by clear hinv hX; omega, set_lt X i u2 hX hu2, ?_⟩
  rw [low_succ, low_succ, high_limb, pow64_succ]
  have e3 : u2 + 2 ^ 64 * (hi + v1 + v2) = lmN N i + 38 * lmN N (i + 4) + c := by omega
  have e4 : 2 ^ (64 * i) * u2 + 2 ^ (64 * i) * 2 ^ 64 * (hi + v1 + v2) = 2 ^ (64 * i) * lmN N i + 38 * (2 ^ (64 * i) * lmN N (i + 4)) + 2 ^ (64 * i) * c := by
    rw [Nat.mul_assoc, ← Nat.mul_add, e3, Nat.mul_add, Nat.mul_add, Nat.mul_left_comm]
  omega
theorem fold_mod (N X c : Nat) (hN : N < 2 ^ (64 * 8)) (h : X + 2 ^ (64 * 4) * c = N % 2 ^ (64 * 4) + 38 * (N / 2 ^ 256 % 2 ^ (64 * 4))) : (X + 2 ^ 256 * c) % pN = N % pN := by
  rw [show 64 * 4 = 256 from rfl, Nat.mod_eq_of_lt (show N / 2 ^ 256 < 2 ^ 256 from Nat.div_lt_of_lt_mul (by rw [← Nat.pow_add, show 256 + 256 = 64 * 8 from rfl]; exact hN))] at h
  rw [h]
  have h2 := Nat.mod_add_div N (2 ^ 256)
  have h3 := pN_two
  generalize N / 2 ^ 256 = q at *
  generalize N % 2 ^ 256 = r at *
  generalize 2 ^ 256 = T at *
  subst h3
  rw [← h2, show r + (2 * pN + 38) * q = r + 38 * q + pN * (2 * q) by rw [Nat.add_mul]; rw [Nat.mul_left_comm, ← Nat.mul_assoc 2 pN q]; omega]
  rw [Nat.add_mul_mod_self_left]
theorem wrap_mod (X c Y e : Nat) (h : Y + 2 ^ 256 * e = X + 38 * c) : (Y + 2 ^ 256 * e) % pN = (X + 2 ^ 256 * c) % pN := by
  rw [h]
  have h3 := pN_two
  generalize 2 ^ 256 = T at *
  subst h3
  rw [show X + (2 * pN + 38) * c = X + 38 * c + pN * (2 * c) by rw [Nat.add_mul]; rw [Nat.mul_left_comm, ← Nat.mul_assoc 2 pN c]; omega]
  rw [Nat.add_mul_mod_self_left]
set_option maxHeartbeats 4000000 in
set_option maxRecDepth 100000 in
theorem fold_any (N : Nat) (w : World) (hN : N < 2 ^ (64 * 8)) : Calls Try.prog 66 #[.agg (cellsM 8 N)] w fun e w' => e = .returned (wd (N % pN)) ∧ Below w.heap.size w w' := by
  have HN := hid hN
  have hB := hid (fun x w (hx : x < 2 ^ 256) => below_any x w hx)
  clear hN
  unfold wd at *
  have iN := hid (iM8 N)
  obtain ⟨W0, hW0⟩ : ∃ W0, W0 = ((w.alloc (.cells (cellsM 8 N) 102)).alloc (.cells (cellsW 0) 25)).alloc (.cells (cellsW 0) 25) := ⟨_, rfl⟩
  have hA0 := hid (show ArrM 102 8 W0 w.heap.size N by rw [hW0]; exact ((ArrM.new _ 8 w N).alloc _).alloc _)
  have hR0 := hid (show ArrW 25 W0 (w.heap.size + 1) 0 by
    have := ArrW.new 25 (w.alloc (.cells (cellsM 8 N) 102)) 0
    rw [World.size_alloc] at this; rw [hW0]; exact this.alloc _)
  have hX0 := hid (show ArrW 25 W0 (w.heap.size + 2) 0 by
    have := ArrW.new 25 ((w.alloc (.cells (cellsM 8 N) 102)).alloc (.cells (cellsW 0) 25)) 0
    rw [World.size_alloc, World.size_alloc] at this; rw [hW0]; exact this)
  have hb0 : Below w.heap.size w W0 := by rw [hW0]; exact (((Below.refl _ _).alloc (Nat.le_refl _) _).alloc (by simp) _).alloc (by simp; omega) _
  go_enter Try.func66, Try.ntmps66
  go_wp2_with (refine wpList_alloc_new rfl 25 rfl (cellsW 0) zWd ?_; simp only [Act.put, pvA, pv0, pv1, World.size_alloc])
  rw [← hW0]
  clear hW0
  go_loopw [4, 11] (fun cv iv wr => ∃ i c X : Nat, i ≤ 4 ∧ c ≤ 39 ∧ iv = .int .i64 (i : Int) ∧ cv = .int .u64 (c : Int) ∧ Hid (X < 2 ^ (64 * i) ∧ X + 2 ^ (64 * i) * c = N % 2 ^ (64 * i) + 38 * (N / 2 ^ 256 % 2 ^ (64 * i))) ∧ Hid (ArrM 102 8 wr w.heap.size N) ∧ Hid (ArrW 25 wr (w.heap.size + 1) 0) ∧ Hid (ArrW 25 wr (w.heap.size + 2) X) ∧ Below w.heap.size w wr)
    (fun _ iv _ => 4 - (intOf iv).toNat)
  case atStart => exact ⟨0, 0, 0, by omega, by omega, rfl, rfl, hid ⟨by simp, by simp [Nat.mod_one]⟩, hA0, hR0, hX0, hb0⟩
  case round =>
    clear hA0 hR0 hX0 hb0
    obtain ⟨i, c, X, hi, hc, rfl, rfl, hX, hA, hR, hW, hb⟩ := hrel
    by_cases hlt : i < 4
    · have c1 := hA.out.cell (i + 4) (by omega)
      have l1 := hA.out.lt
      obtain ⟨mhi, mlo, m1, m2, m3, m4⟩ := mul64_nat (lmN N (i + 4)) 38 (lmN_lt _ _) (by omega)
      obtain ⟨u1, v1, p1, p2, p3, p4⟩ := add64_nat0 mlo c m2 (by omega)
      obtain ⟨u2, v2, r1, r2, r3, r4⟩ := add64_nat0 (lmN N i) u1 (lmN_lt _ _) p1
      obtain ⟨s1, s2, s3⟩ := fold_step N X c i mhi mlo u1 v1 u2 v2 hc r1 hX.out.1 m3 p3 r3 hX.out.2
      have hset := hid (cellsW_set X i u2 hX.out.1 r1 hlt)
      have M4 := hid m4
      have S2 := hid s2
      have S3 := hid s3
      have hmhi : mhi ≤ 37 := by have := lmN_lt N (i + 4); omega
      clear m3 p3 r3 s2 s3 m4 hX
      go_wp2_with fail
      refine (M4.out _).mono ?_
      rintro e w2 ⟨rfl, hb2⟩
      have hA2 := hid (hA.out.below hb2 hA.out.lt)
      have hR2 := hid (hR.out.below hb2 hR.out.lt)
      have hW2 := hid (hW.out.below hb2 hW.out.lt)
      have hb3 := hb.trans (hb2.mono hb.size)
      clear hA hR hW hb hb2 c1 l1 M4
      have c1 := hA2.out.cell i (by omega)
      have l1 := hA2.out.lt
      have c3 := hW2.out.cell i hlt
      have f3 := hW2.out.free i
      have l3 := hW2.out.lt
      go_wp2
      go_roundw
      case rel =>
        refine ⟨i + 1, mhi + v1 + v2, X + 2 ^ (64 * i) * u2, by omega, s1, by go_num, by go_num, hid ⟨S2.out, S3.out⟩, hid (hA2.out.other (by show w.heap.size ≠ w.heap.size + 2; omega) _), hid (hR2.out.other (by show w.heap.size + 1 ≠ w.heap.size + 2; omega) _), hid (hW2.out.set i _ hset.out), hb3.setCell (p := ⟨w.heap.size + 2, i, none⟩) (by show w.heap.size ≤ w.heap.size + 2; omega) _⟩
      case measure => simp [intOf]; omega
    · obtain rfl : i = 4 := by omega
      have hmod := hid (fold_mod N X c HN.out hX.out.2)
      have HXl := hid (show X < 2 ^ 256 from hX.out.1)
      clear hX hlt hi hA iN HN
      go_wp2
      go_loopg [4] (X + 2 ^ 256 * c) (fun k cv wr => ∃ c X : Nat, c ≤ 39 ∧ cv = .int .u64 (c : Int) ∧ Hid (k = X + 2 ^ 256 * c ∧ X < 2 ^ 256 ∧ (X + 2 ^ 256 * c) % pN = N % pN) ∧ Hid (ArrW 25 wr (w.heap.size + 1) 0) ∧ Hid (ArrW 25 wr (w.heap.size + 2) X) ∧ Below w.heap.size w wr)
      case atStart => exact ⟨c, X, hc, rfl, hid ⟨rfl, HXl.out, hmod.out⟩, hR, hW, hb⟩
      case round =>
        clear hmod HXl hR hW hb
        obtain ⟨c, X, hc, rfl, hK, hR, hW, hb⟩ := hrel
        by_cases hc0 : 0 < c
        · have hX := hid (And.intro hK.out.2.1 hK.out.2.2)
          have HK := hid hK.out.1
          have a38 : c * 38 ≤ 1482 := by omega
          obtain ⟨u, v, p1, p2, p3, p4⟩ := add64_nat0 (lmN X 0) (c * 38) (lmN_lt _ _) (by omega)
          have c3 := hW.out.cell 0 (by omega)
          have f3 := hW.out.free 0
          have l3 := hW.out.lt
          unfold lm at c3
          have hci : (0 : Int) < (c : Int) := by omega
          have e38 : (c : Int) * 38 = ((c * 38 : Nat) : Int) := by omega
          have p4' : ∀ w, (callFunc 65 #[.int .u64 ((lmN X 0 : Nat) : Int), .int .u64 ((c : Int) * 38), .int .u64 0]).run Try.prog w = .ok (.value (.tuple #[.int .u64 (u : Int), .int .u64 (v : Int)])) w := by rw [e38]; exact p4
          have hset := hid (cellsM_set 4 X 0 u p1)
          have HS := hid (show setL X 0 u + 2 ^ (64 * 1) * v = X + 38 * c by
            have := setL_eq X 0 u
            rw [show 2 ^ (64 * 0) = 1 from rfl, Nat.one_mul, Nat.one_mul] at this
            rw [show 2 ^ (64 * 1) = 2 ^ 64 from rfl]
            omega)
          have HL := hid (show setL X 0 u < 2 ^ 256 from setL_lt X 0 u 4 hX.out.1 p1 (by omega))
          clear p3 p4 e38 hK
          go_wp2
          have hW2 := hid (show ArrW 25 (wr.setCell ⟨w.heap.size + 2, 0, none⟩ (.int .u64 (u : Int))) (w.heap.size + 2) (setL X 0 u) from (ArrM.toW (hW.out |> fun h => (ArrM.ofW h).set 0 u p1)))
          have hR2 := hid (hR.out.other (show w.heap.size + 1 ≠ (⟨w.heap.size + 2, 0, none⟩ : Addr).block by show w.heap.size + 1 ≠ w.heap.size + 2; omega) (.int .u64 (u : Int)))
          have hb2 : Below w.heap.size w (wr.setCell ⟨w.heap.size + 2, 0, none⟩ (.int .u64 (u : Int))) := hb.setCell (p := ⟨w.heap.size + 2, 0, none⟩) (by show w.heap.size ≤ w.heap.size + 2; omega) _
          generalize wr.setCell ⟨w.heap.size + 2, 0, none⟩ (.int .u64 (u : Int)) = w2 at hW2 hR2 hb2 ⊢
          clear hW hR hb c3 f3 l3 p4' hset
          go_loopw [4, 10] (fun ev iv wr => ∃ i e Y : Nat, 1 ≤ i ∧ i ≤ 4 ∧ e ≤ 1 ∧ ev = .int .u64 (e : Int) ∧ iv = .int .i64 (i : Int) ∧ Hid (Y < 2 ^ 256 ∧ Y + 2 ^ (64 * i) * e = X + 38 * c) ∧ Hid (ArrW 25 wr (w.heap.size + 1) 0) ∧ Hid (ArrW 25 wr (w.heap.size + 2) Y) ∧ Below w.heap.size w wr)
            (fun _ iv _ => 4 - (intOf iv).toNat)
          case atStart => exact ⟨1, v, setL X 0 u, by omega, by omega, p2, rfl, rfl, hid ⟨HL.out, HS.out⟩, hR2, hW2, hb2⟩
          case round =>
            clear hW2 hR2 hb2
            obtain ⟨i, e, Y, hi1, hi4, he, rfl, rfl, hY, hR, hW, hb⟩ := hrel
            by_cases hlt : i < 4
            · obtain ⟨u, v, p1, p2, p3, p4⟩ := add64_nat (lmN Y i) 0 e (lmN_lt _ _) (by omega) he
              have p4' : ∀ w, (callFunc 65 #[.int .u64 ((lmN Y i : Nat) : Int), .int .u64 0, .int .u64 (e : Int)]).run Try.prog w = .ok (.value (.tuple #[.int .u64 (u : Int), .int .u64 (v : Int)])) w := p4
              have c3 := hW.out.cell i hlt
              have f3 := hW.out.free i
              have l3 := hW.out.lt
              unfold lm at c3
              have HL := hid (show setL Y i u < 2 ^ 256 from setL_lt Y i u 4 hY.out.1 p1 hlt)
              have HS := hid (show setL Y i u + 2 ^ (64 * (i + 1)) * v = X + 38 * c by
                have h1 := setL_eq Y i u
                have h2 := hY.out.2
                rw [pow64_succ]
                have h3 : 2 ^ (64 * i) * u + 2 ^ (64 * i) * 2 ^ 64 * v = 2 ^ (64 * i) * lmN Y i + 2 ^ (64 * i) * e := by
                  rw [Nat.mul_assoc, ← Nat.mul_add, ← Nat.mul_add]; congr 1; omega
                omega)
              clear p3 p4 hY
              go_wp2
              go_roundw
              case rel =>
                exact ⟨i + 1, v, setL Y i u, by omega, by omega, p2, rfl, by go_num, hid ⟨HL.out, HS.out⟩, hid (hR.out.other (by show w.heap.size + 1 ≠ w.heap.size + 2; omega) _), hid (ArrM.toW ((ArrM.ofW hW.out).set i u p1)), hb.setCell (p := ⟨w.heap.size + 2, i, none⟩) (by show w.heap.size ≤ w.heap.size + 2; omega) _⟩
              case measure => simp [intOf]; omega
            · obtain rfl : i = 4 := by omega
              have HM := hid (wrap_mod X c Y e hY.out.2)
              have HD := hid (show Y + 2 ^ 256 * e < X + 2 ^ 256 * c by
                have h2 : Y + 2 ^ 256 * e = X + 38 * c := hY.out.2
                rw [h2]
                have h3 : (38 : Nat) < 2 ^ 256 := by decide
                generalize 2 ^ 256 = T at *
                have := Nat.mul_lt_mul_of_pos_right h3 hc0
                omega)
              have HY := hid hY.out.1
              clear hY hlt
              go_wp2
              go_roundg (Y + 2 ^ 256 * e)
              case measure => rw [HK.out]; exact HD.out
              case rel => exact ⟨e, Y, by omega, rfl, hid ⟨rfl, HY.out, HM.out.trans hX.out.2⟩, hR, hW, hb⟩
        · obtain rfl : c = 0 := by omega
          have hX := hid hK.out.2
          have hB1 := hid (fun w => hB.out X w hX.out.1)
          have hXm := hid (show X % pN = N % pN by have := hX.out.2; rwa [Nat.mul_zero, Nat.add_zero] at this)
          rw [hXm.out] at hB1
          have HXl := hid hX.out.1
          clear hK hX hB
          obtain ⟨r, hr⟩ : ∃ r, r = N % pN := ⟨_, rfl⟩
          rw [← hr] at hB1
          have HR := hid hr
          have iX := hid (iW X)
          have iR := hid (iW r)
          have nR := hid (one_cellsW r)
          clear hr hc0 hXm
          go_wp2_with (refine wpList_load_row rfl 25 (.tmp 3) rfl (w.heap.size + 2) rfl 25 _ (0, 0) _ hW.out uWd rfl iX.out ?_; simp only [Act.put, pvA, pv0, pv1])
          refine (hB1.out _).mono ?_
          rintro e w2 ⟨rfl, hb2⟩
          have hR2 := hid (hR.out.below hb2 hR.out.lt)
          have hb3 := hb.trans (hb2.mono hb.size)
          clear hR hW hb hb2
          go_wp2_with (refine wpList_store_row rfl 25 (.tmp 2) (.tmp 72) rfl (w.heap.size + 1) _ rfl rfl 25 _ hR2.out iR.out rfl nR.out ?_; simp only [Act.put])
          refine bodyPost_ret (results_cell_row rfl _ _ (w.heap.size + 1) 25 (cellsW r) (0, 0) _ rfl (heap_setRow' _ _ _ _ _ hR2.out) uWd rfl iR.out) rfl ⟨by rw [HR.out], below_setRow' hb3 _ (by omega) _⟩
end Go.Proofs.Ytejnnghfelpioaa
namespace Go.Proofs.Ytejnnghfelpioaa
open Go.RowKit
theorem p_mod_lt (a : Nat) : a % pN < 2 ^ 256 := Nat.lt_trans (Nat.mod_lt _ pN_pos) pN_lt
set_option maxHeartbeats 2000000 in
theorem fadd_any (a b : Nat) (w : World) (ha : a < 2 ^ 256) (hb : b < 2 ^ 256) : Calls Try.prog 37 #[wd a, wd b] w fun e w' => e = .returned (wd ((a + b) % pN)) ∧ Below w.heap.size w w' := by
  have hBA := hid (fun w => below_any a w ha)
  have hBB := hid (fun w => below_any b w hb)
  have hB := hid (fun x w (hx : x < 2 ^ 256) => below_any x w hx)
  obtain ⟨a', ha'⟩ : ∃ a', a' = a % pN := ⟨_, rfl⟩
  obtain ⟨b', hb'⟩ : ∃ b', b' = b % pN := ⟨_, rfl⟩
  have hlt := hid (show a' + b' < 2 ^ 256 by
    have h1 := Nat.mod_lt a pN_pos
    have h2 := Nat.mod_lt b pN_pos
    have h3 := pN_two
    omega)
  have ha2 := hid (show a' < 2 ^ 256 by rw [ha']; exact p_mod_lt a)
  have hb2 := hid (show b' < 2 ^ 256 by rw [hb']; exact p_mod_lt b)
  have HE := hid (show (a + b) % pN = (a' + b') % pN by rw [ha', hb', Nat.add_mod])
  rw [← ha'] at hBA
  rw [← hb'] at hBB
  clear ha hb ha' hb'
  unfold wd at *
  have iA := hid (iW a)
  have iB := hid (iW b)
  have iA' := hid (iW a')
  have nA' := hid (one_cellsW a')
  have iB' := hid (iW b')
  have nB' := hid (one_cellsW b')
  have hA0 := hid (show ArrW 25 (((w.alloc (.cells (cellsW a) 25)).alloc (.cells (cellsW b) 25)).alloc (.cells (cellsW 0) 25)) w.heap.size a from ((ArrW.new _ w a).alloc _).alloc _)
  have hB0 := hid (show ArrW 25 (((w.alloc (.cells (cellsW a) 25)).alloc (.cells (cellsW b) 25)).alloc (.cells (cellsW 0) 25)) (w.heap.size + 1) b by
    have := ArrW.new 25 (w.alloc (.cells (cellsW a) 25)) b
    rw [World.size_alloc] at this; exact this.alloc _)
  have hC0 := hid (show ArrW 25 (((w.alloc (.cells (cellsW a) 25)).alloc (.cells (cellsW b) 25)).alloc (.cells (cellsW 0) 25)) (w.heap.size + 2) 0 by
    have := ArrW.new 25 ((w.alloc (.cells (cellsW a) 25)).alloc (.cells (cellsW b) 25)) 0
    rw [World.size_alloc, World.size_alloc] at this; exact this)
  have hb0 : Below w.heap.size w (((w.alloc (.cells (cellsW a) 25)).alloc (.cells (cellsW b) 25)).alloc (.cells (cellsW 0) 25)) := (((Below.refl _ _).alloc (Nat.le_refl _) _).alloc (by simp) _).alloc (by simp; omega) _
  go_enter Try.func37, Try.ntmps37
  go_wp2_with (first | (refine wpList_alloc_new rfl 25 rfl (cellsW 0) zWd ?_; simp only [Act.put, pvA, pv0, pv1, World.size_alloc]) | (refine wpList_load_row rfl 25 (.tmp 2) rfl w.heap.size rfl 25 _ (0, 0) _ hA0.out uWd rfl iA.out ?_; simp only [Act.put, pvA, pv0, pv1]))
  refine (hBA.out _).mono ?_
  rintro e w1 ⟨rfl, hb1⟩
  have hB1 := hid ((hB0.out.below hb1 hB0.out.lt).alloc (.cells (cellsW a') 25))
  have hC1 := hid ((hC0.out.below hb1 hC0.out.lt).alloc (.cells (cellsW a') 25))
  have hX1 := hid (ArrW.new 25 w1 a')
  have hb3 := hb0.trans (hb1.mono hb0.size)
  have hb4 := hb3.alloc hb3.size (.cells (cellsW a') 25)
  have hsz : w.heap.size + 3 ≤ w1.heap.size := by have := (hC0.out.below hb1 hC0.out.lt).lt; omega
  clear hA0 hB0 hC0 hb0 hb1 hb3
  obtain ⟨G, hG⟩ : ∃ G, G = w1.heap.size := ⟨_, rfl⟩
  go_wp2_with (first | (refine wpList_allocStore 25 9 5 (cellsW a') (cellsW 0) rfl rfl rfl rfl rfl rfl (by decide) (by simp) rfl (by kernel_rfl) rfl iA'.out nA'.out ?_; simp only [Act.put, pvA, pv0, pv1]) | (refine wpList_load_row rfl 25 (.tmp 3) rfl (w.heap.size + 1) rfl 25 _ (0, 0) _ hB1.out uWd rfl iB.out ?_; simp only [Act.put, pvA, pv0, pv1]))
  rw [← hG] at hX1 hsz ⊢
  generalize w1.alloc (.cells (cellsW a') 25) = w2 at hB1 hC1 hX1 hb4 ⊢
  clear hG
  refine (hBB.out _).mono ?_
  rintro e w3 ⟨rfl, hb5⟩
  have hB2 := hid (hB1.out.below hb5 hB1.out.lt)
  have hC2 := hid (hC1.out.below hb5 hC1.out.lt)
  have hX2 := hid (hX1.out.below hb5 hX1.out.lt)
  have hb6 := hb4.trans (hb5.mono hb4.size)
  clear hB1 hC1 hX1 hb4 hb5
  go_wp2_with (refine wpList_store_row rfl 25 (.tmp 3) (.tmp 11) rfl (w.heap.size + 1) _ rfl rfl 25 _ hB2.out iB'.out rfl nB'.out ?_; simp only [Act.put])
  have hB3 := hid (hB2.out.row b')
  have hC3 := hid (hC2.out.otherRow (show w.heap.size + 2 ≠ w.heap.size + 1 by omega) (cellsW b'))
  have hX3 := hid (hX2.out.otherRow (show G ≠ w.heap.size + 1 by omega) (cellsW b'))
  have hb7 := below_setRow' hb6 (w.heap.size + 1) (by omega) (cellsW b')
  generalize w3.setRow (w.heap.size + 1) (cellsW b') = w4 at hB3 hC3 hX3 hb7 ⊢
  clear hB2 hC2 hX2 hb6 hBA hBB
  go_loopw [6, 12] (fun cv iv wr => ∃ i c Y : Nat, i ≤ 4 ∧ c ≤ 1 ∧ iv = .int .i64 (i : Int) ∧ cv = .int .u64 (c : Int) ∧ Hid (Y < 2 ^ 256 ∧ Y + 2 ^ (64 * i) * c = a' + b' % 2 ^ (64 * i)) ∧ Hid (ArrW 25 wr (w.heap.size + 1) b') ∧ Hid (ArrW 25 wr (w.heap.size + 2) 0) ∧ Hid (ArrW 25 wr G Y) ∧ Below w.heap.size w wr)
    (fun _ iv _ => 4 - (intOf iv).toNat)
  case atStart => exact ⟨0, 0, a', by omega, by omega, rfl, rfl, hid ⟨ha2.out, by simp [Nat.mod_one]⟩, hB3, hC3, hX3, hb7⟩
  case round =>
    clear hB3 hC3 hX3 hb7
    obtain ⟨i, c, Y, hi, hc, rfl, rfl, hY, hBb, hC, hX, hb⟩ := hrel
    by_cases hlt4 : i < 4
    · obtain ⟨u, v, p1, p2, p3, p4⟩ := add64_nat (lmN Y i) (lmN b' i) c (lmN_lt _ _) (lmN_lt _ _) hc
      have c1 := hX.out.cell i hlt4
      have f1 := hX.out.free i
      have l1 := hX.out.lt
      have c2 := hBb.out.cell i hlt4
      have l2 := hBb.out.lt
      unfold lm at c1 c2
      have HL := hid (show setL Y i u < 2 ^ 256 from setL_lt Y i u 4 hY.out.1 p1 hlt4)
      have HS := hid (show setL Y i u + 2 ^ (64 * (i + 1)) * v = a' + b' % 2 ^ (64 * (i + 1)) by
        have h1 := setL_eq Y i u
        have h2 := hY.out.2
        rw [low_succ, pow64_succ]
        have h3 : 2 ^ (64 * i) * u + 2 ^ (64 * i) * 2 ^ 64 * v = 2 ^ (64 * i) * lmN Y i + 2 ^ (64 * i) * lmN b' i + 2 ^ (64 * i) * c := by
          rw [Nat.mul_assoc, ← Nat.mul_add, ← Nat.mul_add, ← Nat.mul_add]; congr 1; omega
        omega)
      clear p3 hY
      go_wp2_with fail
      (refine wp_region_ext_float 13 11 [0, 1, 2, 3, 4, 5, 6, 7, 8, 9, 10, 12] [_, _, _, _, _, _, _, _, _, _, _, _] _ _ _ rfl rfl rfl rfl (by kernel_rfl) (by kernel_rfl) ?_; (repeat (go_big_quiet_step (first | fail))); refine wpQuiet_nil ?_; refine ⟨?_, ?_⟩; rotate_left; rintro _ ⟨xw, rfl⟩; rotate_left; (repeat (go_big_quiet_step (first | fail))); refine wpQuiet_nil ?_; rintro _ ⟨xw, rfl⟩)
      all_goals
        go_wp2
        go_roundw
        case rel =>
          exact ⟨i + 1, v, setL Y i u, by omega, p2, by go_num, rfl, hid ⟨HL.out, HS.out⟩, hid ((hBb.out.ext xw).other (by show w.heap.size + 1 ≠ G; omega) _), hid ((hC.out.ext xw).other (by show w.heap.size + 2 ≠ G; omega) _), hid (ArrM.toW ((ArrM.ofW (hX.out.ext xw)).set i u p1)), (World.ext_below_of hb hb.size xw).setCell (p := ⟨G, i, none⟩) (by show w.heap.size ≤ G; omega) _⟩
        case measure => simp [intOf]; omega
    · obtain rfl : i = 4 := by omega
      have hYe : Y = a' + b' := by
        have h1 := hY.out
        rw [low_full b' hb2.out] at h1
        have h2 := hlt.out
        have h3 : 2 ^ (64 * 4) = 2 ^ 256 := rfl
        rw [h3] at h1
        generalize 2 ^ 256 = T at *
        have h4 : c = 0 ∨ c = 1 := by omega
        rcases h4 with rfl | rfl
        · omega
        · omega
      have hB1 := hid (fun w => hB.out Y w hY.out.1)
      have HR := hid (show Y % pN = (a + b) % pN by rw [hYe, HE.out])
      obtain ⟨r, hr⟩ : ∃ r, r = Y % pN := ⟨_, rfl⟩
      rw [← hr] at hB1 HR
      have iY := hid (iW Y)
      have iR := hid (iW r)
      have nR := hid (one_cellsW r)
      clear hY hYe hB hr hlt4 hi
      go_wp2_with (refine wpList_load_row rfl 25 (.tmp 5) rfl G rfl 25 _ (0, 0) _ hX.out uWd rfl iY.out ?_; simp only [Act.put, pvA, pv0, pv1])
      refine (hB1.out _).mono ?_
      rintro e w2 ⟨rfl, hb2⟩
      have hR2 := hid (hC.out.below hb2 hC.out.lt)
      have hb3 := hb.trans (hb2.mono hb.size)
      clear hBb hC hX hb hb2
      go_wp2_with (refine wpList_store_row rfl 25 (.tmp 4) (.tmp 30) rfl (w.heap.size + 2) _ rfl rfl 25 _ hR2.out iR.out rfl nR.out ?_; simp only [Act.put])
      refine bodyPost_ret (results_cell_row rfl _ _ (w.heap.size + 2) 25 (cellsW r) (0, 0) _ rfl (heap_setRow' _ _ _ _ _ hR2.out) uWd rfl iR.out) rfl ⟨by rw [HR.out], below_setRow' hb3 _ (by omega) _⟩
def subP (a b : Nat) : Nat := (a + (pN - b % pN)) % pN
set_option maxHeartbeats 2000000 in
theorem fsub_any (a b : Nat) (w : World) (ha : a < 2 ^ 256) (hb : b < 2 ^ 256) : Calls Try.prog 16 #[wd a, wd b] w fun e w' => e = .returned (wd (subP a b)) ∧ Below w.heap.size w w' := by
  have hP := hid fP_any
  have hBB := hid (fun w => below_any b w hb)
  have hS := hid (fun w => wsub_any pN (b % pN) w pN_lt (p_mod_lt b))
  have hb1 := Nat.mod_lt b pN_pos
  have hsub : subW pN (b % pN) = pN - b % pN := by
    unfold subW
    have h1 := pN_lt
    have h2 : b % pN < 2 ^ 256 := p_mod_lt b
    generalize b % pN = y at *
    generalize pN = p at *
    generalize 2 ^ 256 = T at *
    rw [show p + (T - y) = (p - y) + T by omega, Nat.add_mod_right, Nat.mod_eq_of_lt (by omega)]
  rw [hsub] at hS
  have hdl : pN - b % pN < 2 ^ 256 := Nat.lt_of_le_of_lt (Nat.sub_le _ _) pN_lt
  have hA := hid (fun w => fadd_any a (pN - b % pN) w ha hdl)
  rw [show (a + (pN - b % pN)) % pN = subP a b from rfl] at hA
  obtain ⟨d, hd⟩ : ∃ d, d = pN - b % pN := ⟨_, rfl⟩
  obtain ⟨b', hb'⟩ : ∃ b', b' = b % pN := ⟨_, rfl⟩
  obtain ⟨r, hr⟩ : ∃ r, r = subP a b := ⟨_, rfl⟩
  rw [← hd] at hS hA
  rw [← hb'] at hBB hS
  rw [← hr] at hA ⊢
  generalize pN = p at *
  clear ha hb hb1 hsub hdl hd hb' hr
  unfold wd at *
  have iA := hid (iW a)
  have iB := hid (iW b)
  have iR := hid (iW r)
  have nR := hid (one_cellsW r)
  have hA0 := hid (show ArrW 25 (((w.alloc (.cells (cellsW a) 25)).alloc (.cells (cellsW b) 25)).alloc (.cells (cellsW 0) 25)) w.heap.size a from ((ArrW.new _ w a).alloc _).alloc _)
  have hB0 := hid (show ArrW 25 (((w.alloc (.cells (cellsW a) 25)).alloc (.cells (cellsW b) 25)).alloc (.cells (cellsW 0) 25)) (w.heap.size + 1) b by
    have := ArrW.new 25 (w.alloc (.cells (cellsW a) 25)) b
    rw [World.size_alloc] at this; exact this.alloc _)
  have hC0 := hid (show ArrW 25 (((w.alloc (.cells (cellsW a) 25)).alloc (.cells (cellsW b) 25)).alloc (.cells (cellsW 0) 25)) (w.heap.size + 2) 0 by
    have := ArrW.new 25 ((w.alloc (.cells (cellsW a) 25)).alloc (.cells (cellsW b) 25)) 0
    rw [World.size_alloc, World.size_alloc] at this; exact this)
  have hb0 : Below w.heap.size w (((w.alloc (.cells (cellsW a) 25)).alloc (.cells (cellsW b) 25)).alloc (.cells (cellsW 0) 25)) := (((Below.refl _ _).alloc (Nat.le_refl _) _).alloc (by simp) _).alloc (by simp; omega) _
  go_enter Try.func16, Try.ntmps16
  go_wp2_with (refine wpList_alloc_new rfl 25 rfl (cellsW 0) zWd ?_; simp only [Act.put, pvA, pv0, pv1, World.size_alloc])
  generalize ((w.alloc (.cells (cellsW a) 25)).alloc (.cells (cellsW b) 25)).alloc (.cells (cellsW 0) 25) = w1 at hA0 hB0 hC0 hb0 ⊢
  ((try simp only [World.size_alloc]); refine wp_region_ext_tail 6 (by kernel_rfl) (by kernel_rfl) ?_; simp only [List.take_succ_cons, List.take_zero, List.drop_succ_cons, List.drop_zero]; (repeat (first | (refine wpQuiet_load_want 25 (.tmp 2) rfl w.heap.size rfl 25 (cellsW _) _ hA0.out uWd rfl iA.out rfl ?_; simp only [Act.put, pvA, pv0, pv1]) | (refine wpQuiet_load_want 25 (.tmp 3) rfl (w.heap.size + 1) rfl 25 (cellsW _) _ hB0.out uWd rfl iB.out rfl ?_; simp only [Act.put, pvA, pv0, pv1]) | go_big_quiet_step (first | (go_at_call 41; with_reducible refine Calls.ext_of (hP.out _)) | (go_at_call 42; with_reducible refine Calls.ext_of (hBB.out _)) | (go_at_call 40; with_reducible refine Calls.ext_of (hS.out _)) | (go_at_call 37; with_reducible refine Calls.ext_of (hA.out _))))); refine wpQuiet_nil ?_; rintro _ ⟨xw, rfl⟩)
  have hC1 := hid (hC0.out.ext xw)
  have hb1 := World.ext_below_of hb0 hb0.size xw
  generalize w1.ext xw = w2 at hC1 hb1 ⊢
  clear hA0 hB0 hC0 hb0
  (refine wpList_store_row rfl 25 (.tmp 4) (.tmp 10) rfl (w.heap.size + 2) _ rfl rfl 25 _ hC1.out iR.out rfl nR.out ?_; simp only [Act.put])
  go_wp2
  refine bodyPost_ret (results_cell_row rfl _ _ (w.heap.size + 2) 25 (cellsW r) (0, 0) _ rfl (heap_setRow' _ _ _ _ _ hC1.out) uWd rfl iR.out) rfl ⟨rfl, below_setRow' hb1 _ (by omega) _⟩
set_option maxHeartbeats 4000000 in
set_option maxRecDepth 100000 in
theorem fmul_any (a b : Nat) (w : World) (ha : a < 2 ^ 256) (hb : b < 2 ^ 256) : Calls Try.prog 34 #[wd a, wd b] w fun e w' => e = .returned (wd (a * b % pN)) ∧ Below w.heap.size w w' := by
  have HA := hid ha
  have HB := hid hb
  have hF := hid (fun w => fold_any (a * b) w (by
    have := Nat.mul_lt_mul'' ha hb
    rw [← Nat.pow_add, show 256 + 256 = 64 * 8 from rfl] at this; exact this))
  obtain ⟨r, hr⟩ : ∃ r, r = a * b % pN := ⟨_, rfl⟩
  rw [← hr] at hF ⊢
  clear ha hb hr
  unfold wd at *
  have iR := hid (iW r)
  have nR := hid (one_cellsW r)
  obtain ⟨W0, hW0⟩ : ∃ W0, W0 = (((w.alloc (.cells (cellsW a) 25)).alloc (.cells (cellsW b) 25)).alloc (.cells (cellsW 0) 25)).alloc (.cells (cellsM 8 0) 102) := ⟨_, rfl⟩
  have hA0 := hid (show ArrW 25 W0 w.heap.size a by rw [hW0]; exact (((ArrW.new _ w a).alloc _).alloc _).alloc _)
  have hB0 := hid (show ArrW 25 W0 (w.heap.size + 1) b by
    have := ArrW.new 25 (w.alloc (.cells (cellsW a) 25)) b
    rw [World.size_alloc] at this; rw [hW0]; exact (this.alloc _).alloc _)
  have hR0 := hid (show ArrW 25 W0 (w.heap.size + 2) 0 by
    have := ArrW.new 25 ((w.alloc (.cells (cellsW a) 25)).alloc (.cells (cellsW b) 25)) 0
    rw [World.size_alloc, World.size_alloc] at this; rw [hW0]; exact this.alloc _)
  have hC0 := hid (show ArrM 102 8 W0 (w.heap.size + 3) 0 by
    have := ArrM.new 102 8 (((w.alloc (.cells (cellsW a) 25)).alloc (.cells (cellsW b) 25)).alloc (.cells (cellsW 0) 25)) 0
    rw [World.size_alloc, World.size_alloc, World.size_alloc] at this; rw [hW0]; exact this)
  have hb0 : Below w.heap.size w W0 := by rw [hW0]; exact ((((Below.refl _ _).alloc (Nat.le_refl _) _).alloc (by simp) _).alloc (by simp; omega) _).alloc (by simp; omega) _
  go_enter Try.func34, Try.ntmps34
  go_wp2_with (first | (refine wpList_alloc_new rfl 25 rfl (cellsW 0) zWd ?_; simp only [Act.put, pvA, pv0, pv1, World.size_alloc]) | (refine wpList_alloc_new rfl 102 rfl (cellsM 8 0) zM8 ?_; simp only [Act.put, pvA, pv0, pv1, World.size_alloc]))
  rw [← hW0]
  clear hW0
  go_loopw [12] (fun iv wr => ∃ i P : Nat, i ≤ 4 ∧ iv = .int .i64 (i : Int) ∧ Hid (P < 2 ^ (64 * (i + 4)) ∧ P = a % 2 ^ (64 * i) * b) ∧ Hid (ArrW 25 wr w.heap.size a) ∧ Hid (ArrW 25 wr (w.heap.size + 1) b) ∧ Hid (ArrW 25 wr (w.heap.size + 2) 0) ∧ Hid (ArrM 102 8 wr (w.heap.size + 3) P) ∧ Below w.heap.size w wr)
    (fun iv _ => 4 - (intOf iv).toNat)
  case atStart => exact ⟨0, 0, by omega, rfl, hid ⟨by exact Nat.pow_pos (by omega), by simp [Nat.mod_one]⟩, hA0, hB0, hR0, hC0, hb0⟩
  case round =>
    clear hA0 hB0 hR0 hC0 hb0
    obtain ⟨i, P0, hi, rfl, hX, hA0, hB0, hR0, hC0, hb0⟩ := hrel
    by_cases hlt : i < 4
    · go_wp2
      go_loopw [7, 15] (fun cv kv wr => ∃ k c P : Nat, k ≤ 4 ∧ c < 18446744073709551616 ∧ kv = .int .i64 (k : Int) ∧ cv = .int .u64 (c : Int) ∧ Hid (P < 2 ^ (64 * (i + 4)) ∧ P + 2 ^ (64 * (i + k)) * c = a % 2 ^ (64 * i) * b + 2 ^ (64 * i) * (lmN a i * (b % 2 ^ (64 * k)))) ∧ Hid (ArrW 25 wr w.heap.size a) ∧ Hid (ArrW 25 wr (w.heap.size + 1) b) ∧ Hid (ArrW 25 wr (w.heap.size + 2) 0) ∧ Hid (ArrM 102 8 wr (w.heap.size + 3) P) ∧ Below w.heap.size w wr)
        (fun _ kv _ => 4 - (intOf kv).toNat)
      case atStart => exact ⟨0, 0, P0, by omega, by omega, rfl, rfl, hid ⟨hX.out.1, by rw [hX.out.2]; simp [Nat.mod_one]⟩, hA0, hB0, hR0, hC0, hb0⟩
      case round =>
        clear hA0 hB0 hR0 hC0 hb0 hX
        obtain ⟨k, c, P, hk, hc, rfl, rfl, hX, hA, hB, hR, hC, hb⟩ := hrel
        by_cases hklt : k < 4
        · have c1 := hA.out.cell i hlt
          have c2 := hB.out.cell k hklt
          have l1 := hA.out.lt
          have l2 := hB.out.lt
          obtain ⟨mhi, mlo, m1, m2, m3, m4⟩ := mul64_nat (lmN a i) (lmN b k) (lmN_lt _ _) (lmN_lt _ _)
          obtain ⟨u1, v1, p1, p2, p3, p4⟩ := add64_nat0 mlo (lmN P (i + k)) m2 (lmN_lt _ _)
          obtain ⟨u2, v2, r1, r2, r3, r4⟩ := add64_nat0 u1 c p1 hc
          obtain ⟨s1, s2, s3⟩ := full_step a b P c i k mhi mlo u1 v1 u2 v2 hX.out.1 hklt hc r1 m3 p3 r3 hX.out.2
          have M4 := hid m4
          have S2 := hid s2
          have S3 := hid s3
          have lP := lmN_lt P (i + k)
          clear m3 p3 r3 s2 s3 m4
          unfold lm at c1 c2
          go_wp2_with fail
          (refine wp_region_ext (by kernel_rfl) (by kernel_rfl) ?_; (repeat (go_big_quiet_step (first | (go_at_call 64; with_reducible refine Calls.ext_of (M4.out _))))); refine wpQuiet_nil ?_; rintro _ ⟨xw, rfl⟩)
          have hA' := hid (hA.out.ext xw)
          have hB' := hid (hB.out.ext xw)
          have hR' := hid (hR.out.ext xw)
          have hC' := hid (hC.out.ext xw)
          have hb' := World.ext_below_of hb hb.size xw
          clear hA hB hR hC hb c1 c2 l1 l2
          generalize wr.ext xw = wr at *
          have c3 := hC'.out.cell (i + k) (by omega)
          have f3 := hC'.out.free (i + k)
          have l3 := hC'.out.lt
          go_wp2
          go_roundw
          case rel =>
            refine ⟨k + 1, mhi + v1 + v2, setL P (i + k) u2, by omega, s1, by go_num, ?_, hid ⟨S2.out, S3.out⟩, hid (hA'.out.other (by show w.heap.size ≠ w.heap.size + 3; omega) _), hid (hB'.out.other (by show w.heap.size + 1 ≠ w.heap.size + 3; omega) _), hid (hR'.out.other (by show w.heap.size + 2 ≠ w.heap.size + 3; omega) _), hid (hC'.out.set (i + k) u2 r1), hb'.setCell (p := ⟨w.heap.size + 3, i + k, none⟩) (by show w.heap.size ≤ w.heap.size + 3; omega) _⟩
            go_num
          case measure => simp [intOf]; omega
        · obtain rfl : k = 4 := by omega
          have c3 := hC.out.cell (i + 4) (by omega)
          have f3 := hC.out.free (i + 4)
          have l3 := hC.out.lt
          have HE := hid (full_end a b P c i HB.out hX.out.1 hX.out.2)
          have HL := hid (show setL P (i + 4) c < 2 ^ (64 * (i + 1 + 4)) by
            rw [setL_top _ _ _ hX.out.1, show i + 1 + 4 = (i + 4) + 1 by omega]
            exact set_lt P (i + 4) c hX.out.1 hc)
          go_wp2
          go_roundw
          case rel =>
            exact ⟨i + 1, setL P (i + 4) c, by omega, by go_num, hid ⟨HL.out, HE.out⟩, hid (hA.out.other (by show w.heap.size ≠ w.heap.size + 3; omega) _), hid (hB.out.other (by show w.heap.size + 1 ≠ w.heap.size + 3; omega) _), hid (hR.out.other (by show w.heap.size + 2 ≠ w.heap.size + 3; omega) _), hid (hC.out.set (i + 4) c hc), hb.setCell (p := ⟨w.heap.size + 3, i + 4, none⟩) (by show w.heap.size ≤ w.heap.size + 3; omega) _⟩
          case measure => simp [intOf]; omega
    · obtain rfl : i = 4 := by omega
      have hP : P0 = a * b := by rw [hX.out.2, low_full a HA.out]
      subst hP
      have iX := hid (iM8 (a * b))
      clear hX hA0 hB0 hlt hi
      go_wp2_with (refine wpList_load_row rfl 102 (.tmp 5) rfl (w.heap.size + 3) rfl 102 _ (0, 0) _ hC0.out uM8 rfl iX.out ?_; simp only [Act.put, pvA, pv0, pv1])
      refine (hF.out _).mono ?_
      rintro e w2 ⟨rfl, hb2⟩
      have hR2 := hid (hR0.out.below hb2 hR0.out.lt)
      have hb3 := hb0.trans (hb2.mono hb0.size)
      clear hR0 hC0 hb0 hb2
      go_wp2_with (refine wpList_store_row rfl 25 (.tmp 4) (.tmp 62) rfl (w.heap.size + 2) _ rfl rfl 25 _ hR2.out iR.out rfl nR.out ?_; simp only [Act.put])
      refine bodyPost_ret (results_cell_row rfl _ _ (w.heap.size + 2) 25 (cellsW r) (0, 0) _ rfl (heap_setRow' _ _ _ _ _ hR2.out) uWd rfl iR.out) rfl ⟨rfl, below_setRow' hb3 _ (by omega) _⟩
end Go.Proofs.Ytejnnghfelpioaa
namespace Go.Proofs.Ytejnnghfelpioaa
open Go.RowKit
def powP (a e : Nat) : Nat := a ^ e % pN
theorem powP_lt (a e : Nat) : powP a e < 2 ^ 256 := p_mod_lt _
theorem powP_zero (a : Nat) : powP a 0 = 1 := by unfold powP; rw [Nat.pow_zero]; decide +kernel
theorem powP_double (a e : Nat) : powP a e * powP a e % pN = powP a (2 * e) := by
  unfold powP; rw [← Nat.mul_mod, ← Nat.pow_add, Nat.two_mul]
theorem powP_succ (a e : Nat) : powP a e * a % pN = powP a (e + 1) := by
  unfold powP; rw [Nat.mod_mul_mod, ← Nat.pow_succ]
theorem one_built : Try.prog.built 25 [(0, .int .u64 1)] = some (cellsW 1) := by kernel_rfl
theorem bit_down (e k : Nat) : e / 2 ^ k = 2 * (e / 2 ^ (k + 1)) + e / 2 ^ k % 2 := by
  rw [Nat.pow_succ, ← Nat.div_div_eq_div_mul]; omega
set_option maxHeartbeats 4000000 in
theorem fpow_any (a e : Nat) (w : World) (ha : a < 2 ^ 256) (he : e < 2 ^ 256) : Calls Try.prog 67 #[wd a, wd e] w fun en w' => en = .returned (wd (powP a e)) ∧ Below w.heap.size w w' := by
  have HE := hid he
  have hM := hid (fun x y w (hx : x < 2 ^ 256) (hy : y < 2 ^ 256) => fmul_any x y w hx hy)
  have HA := hid ha
  clear ha he
  have hB1 := hid one_built
  unfold wd at *
  have iA := hid (iW a)
  have i1 := hid (iW 1)
  have n1 := hid (one_cellsW 1)
  obtain ⟨W0, hW0⟩ : ∃ W0, W0 = (((w.alloc (.cells (cellsW a) 25)).alloc (.cells (cellsW e) 25)).alloc (.cells (cellsW 0) 25)).alloc (.cells (cellsW 1) 25) := ⟨_, rfl⟩
  have hA0 := hid (show ArrW 25 W0 w.heap.size a by rw [hW0]; exact (((ArrW.new _ w a).alloc _).alloc _).alloc _)
  have hE0 := hid (show ArrW 25 W0 (w.heap.size + 1) e by
    have := ArrW.new 25 (w.alloc (.cells (cellsW a) 25)) e
    rw [World.size_alloc] at this; rw [hW0]; exact (this.alloc _).alloc _)
  have hR0 := hid (show ArrW 25 W0 (w.heap.size + 2) 0 by
    have := ArrW.new 25 ((w.alloc (.cells (cellsW a) 25)).alloc (.cells (cellsW e) 25)) 0
    rw [World.size_alloc, World.size_alloc] at this; rw [hW0]; exact this.alloc _)
  have hO0 := hid (show ArrW 25 W0 (w.heap.size + 3) 1 by
    have := ArrW.new 25 (((w.alloc (.cells (cellsW a) 25)).alloc (.cells (cellsW e) 25)).alloc (.cells (cellsW 0) 25)) 1
    rw [World.size_alloc, World.size_alloc, World.size_alloc] at this; rw [hW0]; exact this)
  have hb0 : Below w.heap.size w W0 := by rw [hW0]; exact ((((Below.refl _ _).alloc (Nat.le_refl _) _).alloc (by simp) _).alloc (by simp; omega) _).alloc (by simp; omega) _
  go_enter Try.func67, Try.ntmps67
  go_wp2_with (first | (refine wpList_alloc_new rfl 25 rfl (cellsW 0) zWd ?_; simp only [Act.put, pvA, pv0, pv1, World.size_alloc]) | (refine wpList_newArr 25 _ 8 5 (cellsW 1) (cellsW 0) rfl rfl rfl rfl rfl rfl rfl rfl rfl (by decide) (by simp) (by simp) (by kernel_rfl) (by kernel_rfl) (by kernel_rfl) (by kernel_rfl) (by kernel_rfl) ?_; simp only [Act.put, pvA, pv0, pv1]))
  (try simp only [World.size_alloc])
  rw [← hW0]
  clear hW0
  go_loopw [9] (fun iv wr => ∃ i : Nat, i ≤ 256 ∧ iv = .int .i64 (i : Int) ∧ Hid (ArrW 25 wr w.heap.size a) ∧ Hid (ArrW 25 wr (w.heap.size + 1) e) ∧ Hid (ArrW 25 wr (w.heap.size + 2) 0) ∧ Hid (ArrW 25 wr (w.heap.size + 3) (powP a (e / 2 ^ (256 - i)))) ∧ Below w.heap.size w wr)
    (fun iv _ => 256 - (intOf iv).toNat)
  case atStart =>
    refine ⟨0, by omega, rfl, hA0, hE0, hR0, ?_, hb0⟩
    rw [show e / 2 ^ (256 - 0) = 0 from Nat.div_eq_of_lt HE.out, powP_zero]
    exact hO0
  case round =>
    clear hA0 hE0 hR0 hO0 hb0
    obtain ⟨i, hi, rfl, hA, hE, hR, hO, hb⟩ := hrel
    by_cases hlt : i < 256
    · obtain ⟨k, hk⟩ : ∃ k, i + k = 255 := ⟨255 - i, by omega⟩
      have hki : (255 : Int) - (i : Int) = (k : Int) := by omega
      rw [show 256 - i = k + 1 by omega] at hO
      have hbit := lm_bit e k
      have HD := hid (bit_down e k)
      obtain ⟨y, hy⟩ : ∃ y, y = powP a (e / 2 ^ (k + 1)) := ⟨_, rfl⟩
      have hyl : y < 2 ^ 256 := by rw [hy]; exact powP_lt _ _
      have hM1 := hid (fun w => hM.out y y w hyl hyl)
      have H2 := hid (show y * y % pN = powP a (2 * (e / 2 ^ (k + 1))) by rw [hy]; exact powP_double _ _)
      obtain ⟨z, hz⟩ : ∃ z, z = y * y % pN := ⟨_, rfl⟩
      rw [← hz] at hM1 H2
      have hzl : z < 2 ^ 256 := by rw [hz]; exact p_mod_lt _
      rw [← hy] at hO
      have iY := hid (iW y)
      have iZ := hid (iW z)
      have nZ := hid (one_cellsW z)
      clear hy hyl hz
      have HZL := hid hzl
      clear hzl
      go_wp2_with (refine wpList_load_row rfl 25 (.tmp 5) rfl (w.heap.size + 3) rfl 25 _ (0, 0) _ hO.out uWd rfl iY.out ?_; simp only [Act.put, pvA, pv0, pv1])
      refine (hM1.out _).mono ?_
      rintro en w2 ⟨rfl, hb2⟩
      have hA2 := hid (hA.out.below hb2 hA.out.lt)
      have hE2 := hid (hE.out.below hb2 hE.out.lt)
      have hR2 := hid (hR.out.below hb2 hR.out.lt)
      have hO2 := hid (hO.out.below hb2 hO.out.lt)
      have hb3 := hb.trans (hb2.mono hb.size)
      clear hA hE hR hO hb hb2 hM1
      have hA3 := hid (hA2.out.otherRow (show w.heap.size ≠ w.heap.size + 3 by omega) (cellsW z))
      have hE3 := hid (hE2.out.otherRow (show w.heap.size + 1 ≠ w.heap.size + 3 by omega) (cellsW z))
      have hR3 := hid (hR2.out.otherRow (show w.heap.size + 2 ≠ w.heap.size + 3 by omega) (cellsW z))
      have hO3 := hid (hO2.out.row z)
      have hb4 := below_setRow' hb3 (w.heap.size + 3) (by omega) (cellsW z)
      have cE := hE3.out.cell (k / 64) (by omega)
      have lE := hE3.out.lt
      rcases (show e / 2 ^ k % 2 = 0 ∨ e / 2 ^ k % 2 = 1 by omega) with hb0 | hb1
      · rw [hb0] at hbit HD
        have H3 := hid (show z = powP a (e / 2 ^ k) by rw [H2.out, HD.out]; rfl)
        clear hb0
        go_wp2_with (refine wpList_store_row rfl 25 (.tmp 5) (.tmp 14) rfl (w.heap.size + 3) _ rfl rfl 25 _ hO2.out iZ.out rfl nZ.out ?_; simp only [Act.put])
        go_roundw
        case rel =>
          refine ⟨i + 1, by omega, by go_num, hA3, hE3, hR3, ?_, hb4⟩
          rw [show 256 - (i + 1) = k by omega, ← H3.out]; exact hO3
        case measure => simp [intOf]; omega
      · rw [hb1] at hbit HD
        have hM2 := hid (fun w => hM.out z a w HZL.out HA.out)
        have H3 := hid (show z * a % pN = powP a (e / 2 ^ k) by rw [H2.out, HD.out, powP_succ])
        obtain ⟨u, hu⟩ : ∃ u, u = z * a % pN := ⟨_, rfl⟩
        rw [← hu] at hM2 H3
        have iU := hid (iW u)
        have nU := hid (one_cellsW u)
        clear hb1 hu
        go_wp2_with (first | (refine wpList_store_row rfl 25 (.tmp 5) (.tmp 14) rfl (w.heap.size + 3) _ rfl rfl 25 _ hO2.out iZ.out rfl nZ.out ?_; simp only [Act.put]) | (refine wpList_load_row rfl 25 (.tmp 5) rfl (w.heap.size + 3) rfl 25 _ (0, 0) _ hO3.out uWd rfl iZ.out ?_; simp only [Act.put, pvA, pv0, pv1]) | (refine wpList_load_row rfl 25 (.tmp 2) rfl w.heap.size rfl 25 _ (0, 0) _ hA3.out uWd rfl iA.out ?_; simp only [Act.put, pvA, pv0, pv1]))
        refine (hM2.out _).mono ?_
        rintro en w5 ⟨rfl, hb5⟩
        have hA5 := hid (hA3.out.below hb5 hA3.out.lt)
        have hE5 := hid (hE3.out.below hb5 hE3.out.lt)
        have hR5 := hid (hR3.out.below hb5 hR3.out.lt)
        have hO5 := hid (hO3.out.below hb5 hO3.out.lt)
        have hb6 := hb4.trans (hb5.mono hb4.size)
        clear hA2 hE2 hR2 hO2 hb3 hA3 hE3 hR3 hO3 hb4 hb5 cE lE hM2
        have hA7 := hid (hA5.out.otherRow (show w.heap.size ≠ w.heap.size + 3 by omega) (cellsW u))
        have hE7 := hid (hE5.out.otherRow (show w.heap.size + 1 ≠ w.heap.size + 3 by omega) (cellsW u))
        have hR7 := hid (hR5.out.otherRow (show w.heap.size + 2 ≠ w.heap.size + 3 by omega) (cellsW u))
        have hO7 := hid (hO5.out.row u)
        have hb7 := below_setRow' hb6 (w.heap.size + 3) (by omega) (cellsW u)
        go_wp2_with (refine wpList_store_row rfl 25 (.tmp 5) (.tmp 28) rfl (w.heap.size + 3) _ rfl rfl 25 _ hO5.out iU.out rfl nU.out ?_; simp only [Act.put])
        go_roundw
        case rel =>
          refine ⟨i + 1, by omega, by go_num, hA7, hE7, hR7, ?_, hb7⟩
          rw [show 256 - (i + 1) = k by omega, ← H3.out]; exact hO7
        case measure => simp [intOf]; omega
    · obtain rfl : i = 256 := by omega
      rw [show e / 2 ^ (256 - 256) = e from Nat.div_one e] at hO
      obtain ⟨r, hr⟩ : ∃ r, r = powP a e := ⟨_, rfl⟩
      rw [← hr] at hO
      have HR := hid hr
      have iR := hid (iW r)
      have nR := hid (one_cellsW r)
      clear hr hlt hi hA hE
      go_wp2_with (first | (refine wpList_load_row rfl 25 (.tmp 5) rfl (w.heap.size + 3) rfl 25 _ (0, 0) _ hO.out uWd rfl iR.out ?_; simp only [Act.put, pvA, pv0, pv1]) | (refine wpList_store_row rfl 25 (.tmp 4) (.tmp 30) rfl (w.heap.size + 2) _ rfl rfl 25 _ hR.out iR.out rfl nR.out ?_; simp only [Act.put]))
      refine bodyPost_ret (results_cell_row rfl _ _ (w.heap.size + 2) 25 (cellsW r) (0, 0) _ rfl (heap_setRow' _ _ _ _ _ hR.out) uWd rfl iR.out) rfl ⟨by rw [HR.out], below_setRow' hb _ (by omega) _⟩
end Go.Proofs.Ytejnnghfelpioaa
namespace Go.Proofs.Ytejnnghfelpioaa
open Go.RowKit
theorem two_built : Try.prog.built 25 [(0, .int .u64 2)] = some (cellsW 2) := by kernel_rfl
theorem three_built : Try.prog.built 25 [(0, .int .u64 3)] = some (cellsW 3) := by kernel_rfl
theorem nil_built : Try.prog.built 25 [] = some (cellsW 0) := by kernel_rfl
theorem subW_le (a b : Nat) (ha : a < 2 ^ 256) (h : b ≤ a) : subW a b = a - b := by
  unfold subW
  generalize 2 ^ 256 = T at *
  rw [show a + (T - b) = (a - b) + T by omega, Nat.add_mod_right, Nat.mod_eq_of_lt (by omega)]
set_option maxHeartbeats 2000000 in
theorem finv_any (a : Nat) (w : World) (ha : a < 2 ^ 256) : Calls Try.prog 36 #[wd a] w fun e w' => e = .returned (wd (powP a (pN - 2))) ∧ Below w.heap.size w w' := by
  have hP := hid fP_any
  have hS := hid (fun w => wsub_any pN 2 w pN_lt (by decide))
  rw [subW_le pN 2 pN_lt (by decide +kernel)] at hS
  have hW := hid (fun w => fpow_any a (pN - 2) w ha (Nat.lt_of_le_of_lt (Nat.sub_le _ _) pN_lt))
  obtain ⟨d, hd⟩ : ∃ d, d = pN - 2 := ⟨_, rfl⟩
  rw [← hd] at hS hW ⊢
  obtain ⟨r, hr⟩ : ∃ r, r = powP a d := ⟨_, rfl⟩
  rw [← hr] at hW ⊢
  generalize pN = p at *
  have hB2 := hid two_built
  clear ha hd hr
  unfold wd at *
  have iA := hid (iW a)
  have iR := hid (iW r)
  have nR := hid (one_cellsW r)
  have hA0 := hid (show ArrW 25 ((w.alloc (.cells (cellsW a) 25)).alloc (.cells (cellsW 0) 25)) w.heap.size a from (ArrW.new _ w a).alloc _)
  have hC0 := hid (show ArrW 25 ((w.alloc (.cells (cellsW a) 25)).alloc (.cells (cellsW 0) 25)) (w.heap.size + 1) 0 by
    have := ArrW.new 25 (w.alloc (.cells (cellsW a) 25)) 0
    rw [World.size_alloc] at this; exact this)
  have hb0 : Below w.heap.size w ((w.alloc (.cells (cellsW a) 25)).alloc (.cells (cellsW 0) 25)) := ((Below.refl _ _).alloc (Nat.le_refl _) _).alloc (by simp) _
  go_enter Try.func36, Try.ntmps36
  go_wp2_with (refine wpList_alloc_new rfl 25 rfl (cellsW 0) zWd ?_; simp only [Act.put, pvA, pv0, pv1, World.size_alloc])
  generalize (w.alloc (.cells (cellsW a) 25)).alloc (.cells (cellsW 0) 25) = w1 at hA0 hC0 hb0 ⊢
  ((try simp only [World.size_alloc]); refine wp_region_ext_tail 5 (by kernel_rfl) (by kernel_rfl) ?_; simp only [List.take_succ_cons, List.take_zero, List.drop_succ_cons, List.drop_zero]; (repeat (first | (refine wpQuiet_load_want 25 (.tmp 1) rfl w.heap.size rfl 25 (cellsW _) _ hA0.out uWd rfl iA.out rfl ?_; simp only [Act.put, pvA, pv0, pv1]) | (refine wpQuiet_build_want 25 _ rfl (cellsW 2) (by first | exact hB2.out | (simp only [List.map_toArray, List.map_cons, List.map_nil]; exact hB2.out)) rfl ?_; simp only [Act.put, pvA, pv0, pv1]) | go_big_quiet_step (first | (go_at_call 41; with_reducible refine Calls.ext_of (hP.out _)) | (go_at_call 40; with_reducible refine Calls.ext_of (hS.out _)) | (go_at_call 67; with_reducible refine Calls.ext_of (hW.out _))))); refine wpQuiet_nil ?_; rintro _ ⟨xw, rfl⟩)
  have hC1 := hid (hC0.out.ext xw)
  have hb1 := World.ext_below_of hb0 hb0.size xw
  generalize w1.ext xw = w2 at hC1 hb1 ⊢
  clear hA0 hC0 hb0
  (refine wpList_store_row rfl 25 (.tmp 2) (.tmp 7) rfl (w.heap.size + 1) _ rfl rfl 25 _ hC1.out iR.out rfl nR.out ?_; simp only [Act.put])
  go_wp2
  refine bodyPost_ret (results_cell_row rfl _ _ (w.heap.size + 1) 25 (cellsW r) (0, 0) _ rfl (heap_setRow' _ _ _ _ _ hC1.out) uWd rfl iR.out) rfl ⟨rfl, below_setRow' hb1 _ (by omega) _⟩
def sq0 (a : Nat) : Nat := powP (a % pN) ((pN + 3) / 8)
def sq1 (a : Nat) : Nat := if sq0 a * sq0 a % pN = a % pN then sq0 a else sq0 a * powP 2 (pN / 4) % pN
def sqOk (a : Nat) : Bool := decide (sq1 a * sq1 a % pN = a % pN)
def sqX (a : Nat) : Nat := if sqOk a then (if sq1 a % 2 = 1 then pN - sq1 a else sq1 a) else 0
theorem sq1_lt (a : Nat) : sq1 a < pN := by
  unfold sq1; split
  · exact Nat.mod_lt _ pN_pos
  · exact Nat.mod_lt _ pN_pos
set_option maxHeartbeats 8000000 in
theorem fsqrt_any (a : Nat) (w : World) (ha : a < 2 ^ 256) : Calls Try.prog 35 #[wd a] w fun e w' => e = .returned (.tuple #[wd (sqX a), .bool (sqOk a)]) ∧ Below w.heap.size w w' := by
  have hP := hid fP_any
  have hBl := hid (fun w => below_any a w ha)
  have hAd := hid (fun w => wadd_any pN 3 w pN_lt (by decide))
  rw [Nat.mod_eq_of_lt (show pN + 3 < 2 ^ 256 by decide +kernel)] at hAd
  have hS3 := hid (fun w => wshr_any 3 (pN + 3) w (by decide) (by decide +kernel))
  rw [show upT 3 256 = 3 from rfl, show (2 : Nat) ^ 3 = 8 from rfl] at hS3
  have hS2 := hid (fun w => wshr_any 2 pN w (by decide) pN_lt)
  rw [show upT 2 256 = 2 from rfl, show (2 : Nat) ^ 2 = 4 from rfl] at hS2
  have hal := p_mod_lt a
  have hW0 := hid (fun w => fpow_any (a % pN) ((pN + 3) / 8) w hal (by decide +kernel))
  rw [show powP (a % pN) ((pN + 3) / 8) = sq0 a from rfl] at hW0
  have h0l : sq0 a < 2 ^ 256 := powP_lt _ _
  have hM0 := hid (fun w => fmul_any (sq0 a) (sq0 a) w h0l h0l)
  have hW2 := hid (fun w => fpow_any 2 (pN / 4) w (by decide) (by decide +kernel))
  have h2l : powP 2 (pN / 4) < 2 ^ 256 := powP_lt _ _
  have hM2 := hid (fun w => fmul_any (sq0 a) (powP 2 (pN / 4)) w h0l h2l)
  have h1p := sq1_lt a
  have h1l : sq1 a < 2 ^ 256 := Nat.lt_trans h1p pN_lt
  have hM1 := hid (fun w => fmul_any (sq1 a) (sq1 a) w h1l h1l)
  have hSb := hid (fun w => wsub_any pN (sq1 a) w pN_lt h1l)
  rw [subW_le pN (sq1 a) pN_lt (Nat.le_of_lt h1p)] at hSb
  have he0 : ∀ w, (Op.equalIn 10000 25 (.agg (cellsW (sq0 a * sq0 a % pN))) (.agg (cellsW (a % pN)))).run Try.prog w = .ok (decide (sq0 a * sq0 a % pN = a % pN)) w := eq_wd _ _ (p_mod_lt _) hal
  have he1 : ∀ w, (Op.equalIn 10000 25 (.agg (cellsW (sq1 a * sq1 a % pN))) (.agg (cellsW (a % pN)))).run Try.prog w = .ok (sqOk a) w := eq_wd _ _ (p_mod_lt _) hal
  have hX0 : sq0 a * sq0 a % pN = a % pN → sq1 a = sq0 a := fun h => by unfold sq1; rw [if_pos h]
  have hX1 : ¬ sq0 a * sq0 a % pN = a % pN → sq1 a = sq0 a * powP 2 (pN / 4) % pN := fun h => by unfold sq1; rw [if_neg h]
  have hbit := lm_bit (sq1 a) 0
  rw [show 0 / 64 = 0 from rfl, show 0 % 64 = 0 from rfl, Nat.pow_zero, Nat.div_one] at hbit
  have hpar : bits .and .u64 (lm (sq1 a) 0) 1 = ((sq1 a % 2 : Nat) : Int) := by
    rw [← hbit]; congr 1; rw [show ((2 : Int) ^ 0) = 1 from rfl, Int.ediv_one]
  have hRX : sqX a = if sqOk a then (if sq1 a % 2 = 1 then pN - sq1 a else sq1 a) else 0 := rfl
  obtain ⟨X, hX⟩ : ∃ X, X = sqX a := ⟨_, rfl⟩
  rw [← hX] at hRX ⊢
  obtain ⟨ok, hok⟩ : ∃ ok, ok = sqOk a := ⟨_, rfl⟩
  rw [← hok] at he1 hRX ⊢
  obtain ⟨x1, hx1⟩ : ∃ x, x = sq1 a := ⟨_, rfl⟩
  rw [← hx1] at hM1 hSb he1 hX0 hX1 hpar hRX
  obtain ⟨m1, hm1⟩ : ∃ m, m = x1 * x1 % pN := ⟨_, rfl⟩
  rw [← hm1] at hM1 he1
  obtain ⟨x0, hx0⟩ : ∃ x, x = sq0 a := ⟨_, rfl⟩
  rw [← hx0] at hW0 hM0 hM2 he0 hX0 hX1
  obtain ⟨t, ht⟩ : ∃ t, t = powP 2 (pN / 4) := ⟨_, rfl⟩
  rw [← ht] at hW2 hM2 hX1
  obtain ⟨y1, hy1⟩ : ∃ y, y = x0 * t % pN := ⟨_, rfl⟩
  rw [← hy1] at hM2 hX1
  obtain ⟨m0, hm0⟩ : ∃ m, m = x0 * x0 % pN := ⟨_, rfl⟩
  rw [← hm0] at hM0 he0 hX0 hX1
  obtain ⟨e0, hE0⟩ : ∃ e, e = (pN + 3) / 8 := ⟨_, rfl⟩
  rw [← hE0] at hS3 hW0
  obtain ⟨e1, hE1⟩ : ∃ e, e = pN / 4 := ⟨_, rfl⟩
  rw [← hE1] at hS2 hW2
  obtain ⟨q3, hq3⟩ : ∃ q, q = pN + 3 := ⟨_, rfl⟩
  rw [← hq3] at hAd hS3
  obtain ⟨n1, hn1⟩ : ∃ n, n = pN - x1 := ⟨_, rfl⟩
  rw [← hn1] at hSb hRX
  obtain ⟨a', ha'⟩ : ∃ a', a' = a % pN := ⟨_, rfl⟩
  rw [← ha'] at hBl hW0 he0 he1 hX0 hX1
  have HX0 := hid hX0
  have HX1 := hid hX1
  have HRX := hid hRX
  have Hpar := hid hpar
  have He1 := hid he1
  have hB2 := two_built
  have hB3 := three_built
  have hBn := hid nil_built
  clear ha hal h0l h2l h1p h1l hbit hpar hX hok hx1 hm1 hx0 ht hy1 hm0 hE0 hE1 hq3 hn1 ha' hX0 hX1 hRX he1
  generalize pN = p at *
  unfold wd at *
  have iA := hid (iW a)
  have iA' := hid (iW a')
  have nA' := hid (one_cellsW a')
  have iX0 := hid (iW x0)
  have nX0 := hid (one_cellsW x0)
  have iX1 := hid (iW x1)
  have nX1 := hid (one_cellsW x1)
  have iN1 := hid (iW n1)
  have nN1 := hid (one_cellsW n1)
  have iZ := hid (iW 0)
  have nZ := hid (one_cellsW 0)
  have hA0 := hid (show ArrW 25 ((w.alloc (.cells (cellsW a) 25)).alloc (.cells (cellsW 0) 25)) w.heap.size a from (ArrW.new _ w a).alloc _)
  have hC0 := hid (show ArrW 25 ((w.alloc (.cells (cellsW a) 25)).alloc (.cells (cellsW 0) 25)) (w.heap.size + 1) 0 by
    have := ArrW.new 25 (w.alloc (.cells (cellsW a) 25)) 0
    rw [World.size_alloc] at this; exact this)
  have hb0 : Below w.heap.size w ((w.alloc (.cells (cellsW a) 25)).alloc (.cells (cellsW 0) 25)) := ((Below.refl _ _).alloc (Nat.le_refl _) _).alloc (by simp) _
  go_enter Try.func35, Try.ntmps35
  go_wp2_with (first | (refine wpList_alloc_new rfl 25 rfl (cellsW 0) zWd ?_; simp only [Act.put, pvA, pv0, pv1, World.size_alloc]) | (refine wpList_load_row rfl 25 (.tmp 1) rfl w.heap.size rfl 25 _ (0, 0) _ hA0.out uWd rfl iA.out ?_; simp only [Act.put, pvA, pv0, pv1]))
  refine (hBl.out _).mono ?_
  rintro e w1 ⟨rfl, hb1⟩
  have hA1 := hid (hA0.out.below hb1 hA0.out.lt)
  have hC1 := hid ((hC0.out.below hb1 hC0.out.lt).otherRow (show w.heap.size + 1 ≠ w.heap.size by omega) (cellsW a'))
  have hA2 := hid (hA1.out.row a')
  have hb2 := hb0.trans (hb1.mono hb0.size)
  have hb3 := below_setRow' hb2 w.heap.size (Nat.le_refl _) (cellsW a')
  clear hA0 hC0 hb0 hb1 hBl
  go_wp2_with (refine wpList_store_row rfl 25 (.tmp 1) (.tmp 6) rfl w.heap.size _ rfl rfl 25 _ hA1.out iA'.out rfl nA'.out ?_; simp only [Act.put])
  generalize w1.setRow w.heap.size (cellsW a') = w2 at hA2 hC1 hb3 ⊢
  clear hA1 hb2
  have hs2 : w.heap.size + 2 ≤ w2.heap.size := by have := hC1.out.lt; omega
  refine wp_region_loose_tail 8 [.kn (.agg (cellsW (a'))), .kn (.agg (cellsW (3))), .kn (.agg (cellsW (p))), .kn (.agg (cellsW (3))), .kn (.agg (cellsW (q3))), .kn (.agg (cellsW (e0))), .kn (.agg (cellsW (x0))), .lo (fun v w => ∃ b, v = .pointer (some ⟨b, 0, none⟩) ∧ ArrW 25 w b 0 ∧ w2.heap.size ≤ b)] (by kernel_rfl) (by kernel_rfl) (by kernel_rfl) ?_ ?_
  · refine keepsAll_kn (keepsAll_kn (keepsAll_kn (keepsAll_kn (keepsAll_kn (keepsAll_kn (keepsAll_kn (keepsAll_lo ?_ trivial)))))))
    rintro v w w' ⟨b, h1, h2, h3⟩ hb
    exact ⟨b, h1, h2.below hb h2.lt, h3⟩
  simp only [List.take_succ_cons, List.take_zero, List.drop_succ_cons, List.drop_zero]
  (refine loose_step_on rfl (fun W' hB' hd K hK => wp_load_block 25 (.tmp 1) rfl w.heap.size rfl 25 _ _ (ArrW.below hA2.out hB' (ArrW.lt hA2.out)) uWd rfl iA'.out (hK _ _ (Below.refl _ _) rfl)) ?_; rintro _ rfl; simp only [Act.put, pvA, pv0, pv1])
  (refine loose_step_on rfl (fun W' hB' hd K hK => ?_) ?_; (focus (clear hd; go_simp; exact hK _ _ (Below.refl _ _) rfl)); rintro _ rfl; simp only [Act.put, pvA, pv0, pv1])
  (refine loose_step_on rfl (fun W' hB' hd K hK => ?_) ?_; (focus (skip; clear hd; go_simp; refine (hP.out _).mono ?_; rintro _ _ ⟨rfl, hb'⟩; exact hK _ _ hb' rfl)); rintro _ rfl; simp only [Act.put, pvA, pv0, pv1])
  (refine loose_step_on rfl (fun W' hB' hd K hK => ?_) ?_; (focus (clear hd; go_simp; exact hK _ _ (Below.refl _ _) rfl)); rintro _ rfl; simp only [Act.put, pvA, pv0, pv1])
  (refine loose_step_on rfl (fun W' hB' hd K hK => ?_) ?_; (focus (skip; clear hd; go_simp; refine (hAd.out _).mono ?_; rintro _ _ ⟨rfl, hb'⟩; exact hK _ _ hb' rfl)); rintro _ rfl; simp only [Act.put, pvA, pv0, pv1])
  (refine loose_step_on rfl (fun W' hB' hd K hK => ?_) ?_; (focus (skip; clear hd; go_simp; refine (hS3.out _).mono ?_; rintro _ _ ⟨rfl, hb'⟩; exact hK _ _ hb' rfl)); rintro _ rfl; simp only [Act.put, pvA, pv0, pv1])
  (refine loose_step_on rfl (fun W' hB' hd K hK => ?_) ?_; (focus (skip; clear hd; go_simp; refine (hW0.out _).mono ?_; rintro _ _ ⟨rfl, hb'⟩; exact hK _ _ hb' rfl)); rintro _ rfl; simp only [Act.put, pvA, pv0, pv1])
  (refine loose_step rfl (fun W' hB' hd K hK => wp_alloc_new 25 rfl (cellsW 0) zWd (hK _ _ ((Below.refl _ _).alloc (Nat.le_refl _) _) ⟨_, rfl, ArrW.new _ _ _, hB'.size⟩)) ?_; intro v4 _; simp only [Act.put, pvA, pv0, pv1])
  intro w6 hb6 hf
  have g4 : ∃ b, v4 = .pointer (some ⟨b, 0, none⟩) ∧ ArrW 25 w6 b 0 ∧ w2.heap.size ≤ b := hf 7 _ 4 (by first | omega | simp) rfl rfl (by simp)
  clear hf
  obtain ⟨G, rfl, hG6, hle⟩ := g4
  have hsG : w.heap.size + 2 ≤ G := by omega
  have HG6 := hid hG6
  have hX7 := hid (hG6.row x0)
  have hA7 := hid ((hA2.out.below hb6 hA2.out.lt).otherRow (show w.heap.size ≠ G by omega) (cellsW x0))
  have hC7 := hid ((hC1.out.below hb6 hC1.out.lt).otherRow (show w.heap.size + 1 ≠ G by omega) (cellsW x0))
  have hb7 := below_setRow' (hb3.trans (hb6.mono hb3.size)) G (by omega) (cellsW x0)
  clear hG6 hle hA2 hC1 hb3 hb6 hs2
  go_wp2_with (refine wpList_store_row rfl 25 (.tmp 4) (.tmp 13) rfl G _ rfl rfl 25 _ HG6.out iX0.out rfl nX0.out ?_; simp only [Act.put])
  generalize w6.setRow G (cellsW x0) = w7 at hX7 hA7 hC7 hb7 ⊢
  clear HG6
  have HB2 := hid hB2
  clear hB2 hB3
  by_cases h0 : m0 = a'
  · have hxe := HX0.out h0
    rw [decide_eq_true h0] at he0
    subst hxe
    clear h0 HX0 HX1 hM2 hW2 hS2
    go_wp2_with fail
    ((try simp only [World.size_alloc]); refine wp_region_ext (by kernel_rfl) (by kernel_rfl) ?_; (try simp only [List.append_eq, List.cons_append, List.nil_append]); (repeat (first | (refine wpQuiet_load_want 25 (.tmp 4) rfl G rfl 25 (cellsW _) _ hX7.out uWd rfl iX1.out rfl ?_; simp only [Act.put, pvA, pv0, pv1]) | (refine wpQuiet_load_want 25 (.tmp 1) rfl w.heap.size rfl 25 (cellsW _) _ hA7.out uWd rfl iA'.out rfl ?_; simp only [Act.put, pvA, pv0, pv1]) | go_big_quiet_step (first | (go_at_call 34; with_reducible refine Calls.ext_of (hM0.out _))))); refine wpQuiet_nil ?_; rintro _ ⟨xw, rfl⟩)
    have hX8 := hid (hX7.out.ext xw)
    have hA8 := hid (hA7.out.ext xw)
    have hC8 := hid (hC7.out.ext xw)
    have hb8 := World.ext_below_of hb7 hb7.size xw
    generalize w7.ext xw = w8 at hX8 hA8 hC8 hb8 ⊢
    clear hX7 hA7 hC7 hb7 hM0 he0
    have he1 := He1.out
    go_wp2_with fail
    ((try simp only [World.size_alloc]); refine wp_region_ext (by kernel_rfl) (by kernel_rfl) ?_; (try simp only [List.append_eq, List.cons_append, List.nil_append]); (repeat (first | (refine wpQuiet_load_want 25 (.tmp 4) rfl G rfl 25 (cellsW _) _ hX8.out uWd rfl iX1.out rfl ?_; simp only [Act.put, pvA, pv0, pv1]) | (refine wpQuiet_load_want 25 (.tmp 1) rfl w.heap.size rfl 25 (cellsW _) _ hA8.out uWd rfl iA'.out rfl ?_; simp only [Act.put, pvA, pv0, pv1]) | go_big_quiet_step (first | (go_at_call 34; with_reducible refine Calls.ext_of (hM1.out _))))); refine wpQuiet_nil ?_; rintro _ ⟨xw, rfl⟩)
    have hXa := hid (hX8.out.ext xw)
    have hCa := hid (hC8.out.ext xw)
    have hba := World.ext_below_of hb8 hb8.size xw
    generalize w8.ext xw = wa at hXa hCa hba ⊢
    clear hX8 hA8 hC8 hb8 hM1 he1
    cases ok
    · have HR0 := hid (show X = 0 from HRX.out)
      go_wp2_with (refine wpList_buildStore 25 _ (.tmp 2) 32 (cellsW 0) _ rfl rfl rfl rfl rfl rfl (by simp) (by first | exact hBn.out | (simp only [List.map_toArray, List.map_cons, List.map_nil]; exact hBn.out)) rfl 25 _ hCa.out iZ.out rfl nZ.out ?_; simp only [Act.put, pvA, pv0, pv1])
      refine bodyPost_ret (results_row_tmp rfl _ _ (w.heap.size + 1) 25 (cellsW 0) (0, 0) _ rfl (heap_setRow' _ _ _ _ _ hCa.out) uWd rfl iZ.out) rfl ⟨by rw [HR0.out]; rfl, below_setRow' hba _ (by omega) _⟩
    · have cX := hXa.out.cell 0 (by omega)
      have lX := hXa.out.lt
      have hpar := Hpar.out
      rcases (show x1 % 2 = 0 ∨ x1 % 2 = 1 by omega) with hp0 | hp1
      · have HR0 := hid (show X = x1 by have := HRX.out; rw [if_pos rfl, if_neg (by omega)] at this; exact this)
        rw [hp0] at hpar
        clear hp0
        go_wp2_with (first | (refine wpList_load_row rfl 25 (.tmp 4) rfl G rfl 25 _ (0, 0) _ hXa.out uWd rfl iX1.out ?_; simp only [Act.put, pvA, pv0, pv1]) | (refine wpList_store_row rfl 25 (.tmp 2) (.tmp 41) rfl (w.heap.size + 1) _ rfl rfl 25 _ hCa.out iX1.out rfl nX1.out ?_; simp only [Act.put]))
        refine bodyPost_ret (results_row_tmp rfl _ _ (w.heap.size + 1) 25 (cellsW x1) (0, 0) _ rfl (heap_setRow' _ _ _ _ _ hCa.out) uWd rfl iX1.out) rfl ⟨by rw [HR0.out]; rfl, below_setRow' hba _ (by omega) _⟩
      · have HR0 := hid (show X = n1 by have := HRX.out; rw [if_pos rfl, if_pos hp1] at this; exact this)
        rw [hp1] at hpar
        clear hp1
        go_wp2_with fail
        ((try simp only [World.size_alloc]); refine wp_region_ext_tail 3 (by kernel_rfl) (by kernel_rfl) ?_; simp only [List.take_succ_cons, List.take_zero, List.drop_succ_cons, List.drop_zero]; (repeat (first | (refine wpQuiet_load_want 25 (.tmp 4) rfl G rfl 25 (cellsW _) _ hXa.out uWd rfl iX1.out rfl ?_; simp only [Act.put, pvA, pv0, pv1]) | go_big_quiet_step (first | (go_at_call 41; with_reducible refine Calls.ext_of (hP.out _)) | (go_at_call 40; with_reducible refine Calls.ext_of (hSb.out _))))); refine wpQuiet_nil ?_; rintro _ ⟨xw, rfl⟩)
        have hXb := hid (hXa.out.ext xw)
        have hCb := hid ((hCa.out.ext xw).otherRow (show w.heap.size + 1 ≠ G by omega) (cellsW n1))
        have hbb := World.ext_below_of hba hba.size xw
        have hXc := hid (hXb.out.row n1)
        have hbc := below_setRow' hbb G (by omega) (cellsW n1)
        clear hXa hCa hba
        go_wp2_with (first | (refine wpList_store_row rfl 25 (.tmp 4) (.tmp 40) rfl G _ rfl rfl 25 _ hXb.out iN1.out rfl nN1.out ?_; simp only [Act.put]) | (refine wpList_load_row rfl 25 (.tmp 4) rfl G rfl 25 _ (0, 0) _ hXc.out uWd rfl iN1.out ?_; simp only [Act.put, pvA, pv0, pv1]) | (refine wpList_store_row rfl 25 (.tmp 2) (.tmp 41) rfl (w.heap.size + 1) _ rfl rfl 25 _ hCb.out iN1.out rfl nN1.out ?_; simp only [Act.put]))
        refine bodyPost_ret (results_row_tmp rfl _ _ (w.heap.size + 1) 25 (cellsW n1) (0, 0) _ rfl (heap_setRow' _ _ _ _ _ hCb.out) uWd rfl iN1.out) rfl ⟨by rw [HR0.out]; rfl, below_setRow' hbc _ (by omega) _⟩
  · have hxe := HX1.out h0
    rw [decide_eq_false h0] at he0
    subst hxe
    clear h0 HX0 HX1
    go_wp2_with fail
    ((try simp only [World.size_alloc]); refine wp_region_ext (by kernel_rfl) (by kernel_rfl) ?_; (try simp only [List.append_eq, List.cons_append, List.nil_append]); (repeat (first | (refine wpQuiet_load_want 25 (.tmp 4) rfl G rfl 25 (cellsW _) _ hX7.out uWd rfl iX0.out rfl ?_; simp only [Act.put, pvA, pv0, pv1]) | (refine wpQuiet_load_want 25 (.tmp 1) rfl w.heap.size rfl 25 (cellsW _) _ hA7.out uWd rfl iA'.out rfl ?_; simp only [Act.put, pvA, pv0, pv1]) | go_big_quiet_step (first | (go_at_call 34; with_reducible refine Calls.ext_of (hM0.out _))))); refine wpQuiet_nil ?_; rintro _ ⟨xw, rfl⟩)
    have hX8 := hid (hX7.out.ext xw)
    have hA8 := hid (hA7.out.ext xw)
    have hC8 := hid (hC7.out.ext xw)
    have hb8 := World.ext_below_of hb7 hb7.size xw
    generalize w7.ext xw = w8 at hX8 hA8 hC8 hb8 ⊢
    clear hX7 hA7 hC7 hb7 hM0 he0
    go_wp2_with fail
    ((try simp only [World.size_alloc]); refine wp_region_ext_tail 7 (by kernel_rfl) (by kernel_rfl) ?_; simp only [List.take_succ_cons, List.take_zero, List.drop_succ_cons, List.drop_zero]; (repeat (first | (refine wpQuiet_load_want 25 (.tmp 4) rfl G rfl 25 (cellsW _) _ hX8.out uWd rfl iX0.out rfl ?_; simp only [Act.put, pvA, pv0, pv1]) | (refine wpQuiet_build_want 25 _ rfl (cellsW 2) (by first | exact HB2.out | (simp only [List.map_toArray, List.map_cons, List.map_nil]; exact HB2.out)) rfl ?_; simp only [Act.put, pvA, pv0, pv1]) | go_big_quiet_step (first | (go_at_call 41; with_reducible refine Calls.ext_of (hP.out _)) | (go_at_call 68; with_reducible refine Calls.ext_of (hS2.out _)) | (go_at_call 67; with_reducible refine Calls.ext_of (hW2.out _)) | (go_at_call 34; with_reducible refine Calls.ext_of (hM2.out _))))); refine wpQuiet_nil ?_; rintro _ ⟨xw, rfl⟩)
    have hX9 := hid (hX8.out.ext xw)
    have hA9 := hid (hA8.out.ext xw)
    have hC9 := hid (hC8.out.ext xw)
    have hb9 := World.ext_below_of hb8 hb8.size xw
    generalize w8.ext xw = w9 at hX9 hA9 hC9 hb9 ⊢
    clear hX8 hA8 hC8 hb8 hM2 hW2 hS2
    (refine wpList_store_row rfl 25 (.tmp 4) (.tmp 25) rfl G _ rfl rfl 25 _ hX9.out iX1.out rfl nX1.out ?_; simp only [Act.put])
    have hX8 := hid (hX9.out.row x1)
    have hA8 := hid (hA9.out.otherRow (show w.heap.size ≠ G by omega) (cellsW x1))
    have hC8 := hid (hC9.out.otherRow (show w.heap.size + 1 ≠ G by omega) (cellsW x1))
    have hb8 := below_setRow' hb9 G (by omega) (cellsW x1)
    generalize w9.setRow G (cellsW x1) = w8 at hX8 hA8 hC8 hb8 ⊢
    clear hX9 hA9 hC9 hb9
    have he1 := He1.out
    go_wp2_with fail
    ((try simp only [World.size_alloc]); refine wp_region_ext (by kernel_rfl) (by kernel_rfl) ?_; (try simp only [List.append_eq, List.cons_append, List.nil_append]); (repeat (first | (refine wpQuiet_load_want 25 (.tmp 4) rfl G rfl 25 (cellsW _) _ hX8.out uWd rfl iX1.out rfl ?_; simp only [Act.put, pvA, pv0, pv1]) | (refine wpQuiet_load_want 25 (.tmp 1) rfl w.heap.size rfl 25 (cellsW _) _ hA8.out uWd rfl iA'.out rfl ?_; simp only [Act.put, pvA, pv0, pv1]) | go_big_quiet_step (first | (go_at_call 34; with_reducible refine Calls.ext_of (hM1.out _))))); refine wpQuiet_nil ?_; rintro _ ⟨xw, rfl⟩)
    have hXa := hid (hX8.out.ext xw)
    have hCa := hid (hC8.out.ext xw)
    have hba := World.ext_below_of hb8 hb8.size xw
    generalize w8.ext xw = wa at hXa hCa hba ⊢
    clear hX8 hA8 hC8 hb8 hM1 he1
    cases ok
    · have HR0 := hid (show X = 0 from HRX.out)
      go_wp2_with (refine wpList_buildStore 25 _ (.tmp 2) 32 (cellsW 0) _ rfl rfl rfl rfl rfl rfl (by simp) (by first | exact hBn.out | (simp only [List.map_toArray, List.map_cons, List.map_nil]; exact hBn.out)) rfl 25 _ hCa.out iZ.out rfl nZ.out ?_; simp only [Act.put, pvA, pv0, pv1])
      refine bodyPost_ret (results_row_tmp rfl _ _ (w.heap.size + 1) 25 (cellsW 0) (0, 0) _ rfl (heap_setRow' _ _ _ _ _ hCa.out) uWd rfl iZ.out) rfl ⟨by rw [HR0.out]; rfl, below_setRow' hba _ (by omega) _⟩
    · have cX := hXa.out.cell 0 (by omega)
      have lX := hXa.out.lt
      have hpar := Hpar.out
      rcases (show x1 % 2 = 0 ∨ x1 % 2 = 1 by omega) with hp0 | hp1
      · have HR0 := hid (show X = x1 by have := HRX.out; rw [if_pos rfl, if_neg (by omega)] at this; exact this)
        rw [hp0] at hpar
        clear hp0
        go_wp2_with (first | (refine wpList_load_row rfl 25 (.tmp 4) rfl G rfl 25 _ (0, 0) _ hXa.out uWd rfl iX1.out ?_; simp only [Act.put, pvA, pv0, pv1]) | (refine wpList_store_row rfl 25 (.tmp 2) (.tmp 41) rfl (w.heap.size + 1) _ rfl rfl 25 _ hCa.out iX1.out rfl nX1.out ?_; simp only [Act.put]))
        refine bodyPost_ret (results_row_tmp rfl _ _ (w.heap.size + 1) 25 (cellsW x1) (0, 0) _ rfl (heap_setRow' _ _ _ _ _ hCa.out) uWd rfl iX1.out) rfl ⟨by rw [HR0.out]; rfl, below_setRow' hba _ (by omega) _⟩
      · have HR0 := hid (show X = n1 by have := HRX.out; rw [if_pos rfl, if_pos hp1] at this; exact this)
        rw [hp1] at hpar
        clear hp1
        go_wp2_with fail
        ((try simp only [World.size_alloc]); refine wp_region_ext_tail 3 (by kernel_rfl) (by kernel_rfl) ?_; simp only [List.take_succ_cons, List.take_zero, List.drop_succ_cons, List.drop_zero]; (repeat (first | (refine wpQuiet_load_want 25 (.tmp 4) rfl G rfl 25 (cellsW _) _ hXa.out uWd rfl iX1.out rfl ?_; simp only [Act.put, pvA, pv0, pv1]) | go_big_quiet_step (first | (go_at_call 41; with_reducible refine Calls.ext_of (hP.out _)) | (go_at_call 40; with_reducible refine Calls.ext_of (hSb.out _))))); refine wpQuiet_nil ?_; rintro _ ⟨xw, rfl⟩)
        have hXb := hid (hXa.out.ext xw)
        have hCb := hid ((hCa.out.ext xw).otherRow (show w.heap.size + 1 ≠ G by omega) (cellsW n1))
        have hbb := World.ext_below_of hba hba.size xw
        have hXc := hid (hXb.out.row n1)
        have hbc := below_setRow' hbb G (by omega) (cellsW n1)
        clear hXa hCa hba
        go_wp2_with (first | (refine wpList_store_row rfl 25 (.tmp 4) (.tmp 40) rfl G _ rfl rfl 25 _ hXb.out iN1.out rfl nN1.out ?_; simp only [Act.put]) | (refine wpList_load_row rfl 25 (.tmp 4) rfl G rfl 25 _ (0, 0) _ hXc.out uWd rfl iN1.out ?_; simp only [Act.put, pvA, pv0, pv1]) | (refine wpList_store_row rfl 25 (.tmp 2) (.tmp 41) rfl (w.heap.size + 1) _ rfl rfl 25 _ hCb.out iN1.out rfl nN1.out ?_; simp only [Act.put]))
        refine bodyPost_ret (results_row_tmp rfl _ _ (w.heap.size + 1) 25 (cellsW n1) (0, 0) _ rfl (heap_setRow' _ _ _ _ _ hCb.out) uWd rfl iN1.out) rfl ⟨by rw [HR0.out]; rfl, below_setRow' hbc _ (by omega) _⟩
end Go.Proofs.Ytejnnghfelpioaa
namespace Go.Proofs.Ytejnnghfelpioaa
open Go.RowKit
structure Gs (B y1 y0 u z q r : Nat) : Prop where
  sum : u = q * y1 + r
  big : (u * B + z) / (y1 * B + y0) ≤ q
theorem Gs.start {B y1 y0 u z : Nat} (hz : z < B) (h1 : 0 < y1) : Gs B y1 y0 u z (u / y1) (u - u / y1 * y1) := by
  have h := Nat.div_add_mod u y1
  refine ⟨by rw [Nat.mul_comm] at h; omega, ?_⟩
  rw [Nat.le_div_iff_mul_le h1]
  have h2 := Nat.div_mul_le_self (u * B + z) (y1 * B + y0)
  generalize (u * B + z) / (y1 * B + y0) = q at h2 ⊢
  rw [Nat.mul_add q (y1 * B) y0, ← Nat.mul_assoc q y1 B] at h2
  have h3 : q * y1 * B < (u + 1) * B := by rw [Nat.add_mul, Nat.one_mul]; omega
  exact Nat.le_of_lt_succ (Nat.lt_of_mul_lt_mul_right h3)
theorem Gs.right {B y1 y0 u z q r : Nat} (h : Gs B y1 y0 u z q r) (hp : 0 < y1 * B + y0) (hle : q * y0 ≤ r * B + z) : q = (u * B + z) / (y1 * B + y0) := by
  refine Nat.le_antisymm ?_ h.big
  rw [Nat.le_div_iff_mul_le hp, h.sum, Nat.mul_add q (y1 * B) y0, ← Nat.mul_assoc q y1 B, Nat.add_mul (q * y1) r B]
  omega
theorem Gs.more {B y1 y0 u z q r : Nat} (h : Gs B y1 y0 u z q r) (hz : z < B) (hu : u < y1 * B + y0) (hgt : B ≤ q ∨ r * B + z < q * y0) : (u * B + z) / (y1 * B + y0) < q := by
  have hp : 0 < y1 * B + y0 := by omega
  rw [Nat.div_lt_iff_lt_mul hp]
  rcases hgt with hq | hq
  · refine Nat.lt_of_lt_of_le ?_ (Nat.mul_le_mul_right (y1 * B + y0) hq)
    have h2 : (u + 1) * B ≤ (y1 * B + y0) * B := Nat.mul_le_mul_right B hu
    rw [Nat.add_mul u 1 B, Nat.one_mul] at h2
    rw [Nat.mul_comm B]
    omega
  · rw [h.sum, Nat.mul_add q (y1 * B) y0, ← Nat.mul_assoc q y1 B, Nat.add_mul (q * y1) r B]
    omega
theorem Gs.next {B y1 y0 u z q r : Nat} (h : Gs B y1 y0 u z q r) (hm : (u * B + z) / (y1 * B + y0) < q) : Gs B y1 y0 u z (q - 1) (r + y1) := by
  refine ⟨?_, Nat.le_sub_one_of_lt hm⟩
  have hs := h.sum
  obtain ⟨p, rfl⟩ : ∃ p, q = p + 1 := ⟨q - 1, (Nat.succ_pred_eq_of_pos (Nat.lt_of_le_of_lt (Nat.zero_le _) hm)).symm⟩
  rw [Nat.add_mul p 1 y1, Nat.one_mul] at hs
  rw [Nat.add_sub_cancel]
  clear hm h
  omega
theorem Gs.last {B y1 y0 u z q r : Nat} (h : Gs B y1 y0 u z q r) (h0 : y0 < B) (hu : u < y1 * B + y0) (hr : B ≤ r) : q < B ∧ q * y0 ≤ r * B + z := by
  have hq : q < B := by
    rcases Nat.lt_or_ge q B with h3 | h3
    · exact h3
    · have h4 : B * y1 ≤ q * y1 := Nat.mul_le_mul_right _ h3
      have := h.sum
      rw [Nat.mul_comm B] at h4
      omega
  refine ⟨hq, ?_⟩
  have h5 : q * y0 ≤ B * B := Nat.mul_le_mul (Nat.le_of_lt hq) (Nat.le_of_lt h0)
  have h6 : B * B ≤ r * B := Nat.mul_le_mul_right _ hr
  omega
theorem div_halves (B U z1 z0 Y : Nat) (hY : 0 < Y) :
    (U * (B * B) + z1 * B + z0) / Y = (U * B + z1) / Y * B + ((U * B + z1) % Y * B + z0) / Y ∧
    (U * (B * B) + z1 * B + z0) % Y = ((U * B + z1) % Y * B + z0) % Y := by
  have h := Nat.div_add_mod (U * B + z1) Y
  generalize (U * B + z1) / Y = q1 at h ⊢
  generalize (U * B + z1) % Y = r1 at h ⊢
  have e : U * (B * B) + z1 * B + z0 = r1 * B + z0 + Y * (q1 * B) := by
    have e2 : (U * B + z1) * B = (Y * q1 + r1) * B := by rw [h]
    rw [Nat.add_mul, Nat.add_mul, Nat.mul_assoc U, Nat.mul_assoc Y q1] at e2
    omega
  rw [e, Nat.add_mul_div_left _ _ hY, Nat.add_mul_mod_self_left]
  exact ⟨Nat.add_comm _ _, rfl⟩
theorem div_shift (N Y s : Nat) : N * 2 ^ s / (Y * 2 ^ s) = N / Y ∧ N * 2 ^ s % (Y * 2 ^ s) / 2 ^ s = N % Y := by
  have hp : 0 < 2 ^ s := Nat.pow_pos (by omega)
  rw [Nat.mul_div_mul_right _ _ hp, Nat.mul_mod_mul_right, Nat.mul_div_cancel _ hp]
  exact ⟨rfl, rfl⟩
end Go.Proofs.Ytejnnghfelpioaa
namespace Go.Proofs.Ytejnnghfelpioaa
open Go.RowKit
theorem lz64_same (x : Nat) (h : x < 2 ^ 64) (w : World) : Calls Try.prog 83 #[.int .u64 (x : Int)] w fun e w' => e = .returned (.int .i64 ((64 - bl x : Nat) : Int)) ∧ w = w' :=
  (bits_LeadingZeros64 (x : Int) w (by omega) (by omega)).mono fun e w' ⟨h1, h2⟩ => ⟨by
    have := bl_le x 64 h
    rw [h1, Int.toNat_natCast, bl_lib x h]; congr 2; omega, h2.symm⟩
theorem u64w_nat (n : Nat) : IntKind.u64.wrap (n : Int) = ((n % 18446744073709551616 : Nat) : Int) := by rw [IntKind.wrap_u64]; omega
theorem div_second (U z1 z0 y1 y0 Y b : Nat) (hYe : Y = y1 * 4294967296 + y0) (hU : U < Y) (hY : Y < 2 ^ 64) (h1 : 0 < y1) (hz0 : z0 < 4294967296) (hb : b = (U * 4294967296 + z1) / (y1 * 4294967296 + y0)) :
    ∃ V q r : Nat, V = (U * 4294967296 + z1) % Y ∧ V < Y ∧
    IntKind.u64.wrap (IntKind.u64.wrap (IntKind.u64.wrap ((U : Int) * 4294967296) + (z1 : Int)) - IntKind.u64.wrap ((b : Int) * (Y : Int))) = (V : Int) ∧
    (V : Int).tdiv (y1 : Int) = (q : Int) ∧ IntKind.u64.wrap ((V : Int) - IntKind.u64.wrap ((q : Int) * (y1 : Int))) = (r : Int) ∧
    Hid (Gs 4294967296 y1 y0 V z0 q r) ∧ q < 2 ^ 64 ∧ r < y1 := by
  have hp : 0 < Y := by omega
  have hV := Nat.mod_lt (U * 4294967296 + z1) hp
  have hd := Nat.div_add_mod (U * 4294967296 + z1) Y
  rw [← hYe] at hb
  rw [← hb] at hd
  obtain ⟨V, hV2⟩ : ∃ V, V = (U * 4294967296 + z1) % Y := ⟨_, rfl⟩
  rw [← hV2] at hd hV
  have hq1 := Nat.div_add_mod V y1
  have hq2 := Nat.mod_lt V h1
  have hq3 := Nat.div_le_self V y1
  refine ⟨V, V / y1, V - V / y1 * y1, hV2, hV, ?_, rfl, ?_, hid (Gs.start hz0 h1), by omega, by rw [Nat.mul_comm] at hq1; omega⟩
  · rw [show (b : Int) * (Y : Int) = ((Y * b : Nat) : Int) by rw [Nat.mul_comm, Int.natCast_mul]]
    have e1 := IntKind.wrap_u64 ((U : Int) * 4294967296)
    have e2 := IntKind.wrap_u64 (((Y * b : Nat) : Int))
    rw [e1, e2, IntKind.wrap_u64, IntKind.wrap_u64]
    omega
  · rw [show ((V / y1 : Nat) : Int) * (y1 : Int) = ((V / y1 * y1 : Nat) : Int) by rw [Int.natCast_mul]]
    have h5 := Nat.div_mul_le_self V y1
    rw [u64w_nat, Nat.mod_eq_of_lt (by omega), IntKind.wrap_u64]
    omega
theorem div_third (V z0 y1 y0 Y a : Nat) (hYe : Y = y1 * 4294967296 + y0) (hp : 0 < Y) (hY : Y < 2 ^ 64) (ha : a = (V * 4294967296 + z0) / (y1 * 4294967296 + y0)) :
    ∃ R, R = (V * 4294967296 + z0) % Y ∧ R < 2 ^ 64 ∧ IntKind.u64.wrap (IntKind.u64.wrap (IntKind.u64.wrap ((V : Int) * 4294967296) + (z0 : Int)) - IntKind.u64.wrap ((a : Int) * (Y : Int))) = (R : Int) := by
  have hV := Nat.mod_lt (V * 4294967296 + z0) hp
  have hd := Nat.div_add_mod (V * 4294967296 + z0) Y
  rw [← hYe] at ha
  rw [← ha] at hd
  refine ⟨_, rfl, by omega, ?_⟩
  rw [show (a : Int) * (Y : Int) = ((Y * a : Nat) : Int) by rw [Nat.mul_comm, Int.natCast_mul]]
  have e1 := IntKind.wrap_u64 ((V : Int) * 4294967296)
  have e2 := IntKind.wrap_u64 (((Y * a : Nat) : Int))
  rw [e1, e2, IntKind.wrap_u64, IntKind.wrap_u64]
  omega
set_option maxRecDepth 100000 in
set_option maxHeartbeats 4000000 in
theorem div64_any (hi lo y : Nat) (hhi : hi < y) (hlo : lo < 2 ^ 64) (hy : y < 2 ^ 64) (w : World) : Calls Try.prog 81 #[.int .u64 (hi : Int), .int .u64 (lo : Int), .int .u64 (y : Int)] w fun e w' =>
    e = .returned (.tuple #[.int .u64 (((hi * 2 ^ 64 + lo) / y : Nat) : Int), .int .u64 (((hi * 2 ^ 64 + lo) % y : Nat) : Int)]) ∧ Below w.heap.size w w' := by
  by_cases h0 : hi = 0
  · subst h0
    have hy0 : ¬ (y : Int) = 0 := by omega
    have hy1 : ¬ (y : Int) ≤ 0 := by omega
    obtain ⟨q, hq⟩ : ∃ q, q = lo / y := ⟨_, rfl⟩
    obtain ⟨r, hr⟩ : ∃ r, r = lo % y := ⟨_, rfl⟩
    have hq2 : q < 2 ^ 64 := by rw [hq]; exact Nat.lt_of_le_of_lt (Nat.div_le_self _ _) hlo
    have hr2 : r < 2 ^ 64 := by rw [hr]; exact Nat.lt_of_le_of_lt (Nat.mod_le _ _) hlo
    have H1 : ((lo : Int).tdiv (y : Int)) = (q : Int) := by rw [hq]; rfl
    have H2 : ((lo : Int).tmod (y : Int)) = (r : Int) := by rw [hr]; rfl
    have H3 := hid (show (0 * 2 ^ 64 + lo) / y = q by rw [Nat.zero_mul, Nat.zero_add, hq])
    have H4 := hid (show (0 * 2 ^ 64 + lo) % y = r by rw [Nat.zero_mul, Nat.zero_add, hr])
    rw [H3.out, H4.out]
    clear hq hr H3 H4
    go_enter Try.func81, Try.ntmps81
    go_wp2_with (refine wp_region_ext (by kernel_rfl) (by kernel_rfl) ?_; (repeat (go_big_quiet_step (first | fail))); refine wpQuiet_nil ?_; rintro _ ⟨xw, rfl⟩)
    go_ret2
    exact ⟨rfl, (by repeat (first | (with_reducible first | exact Below.refl _ _ | assumption | refine World.ext_below_of ?_ ?_ _ | refine Below.setCell ?_ ?_ _ | refine Below.alloc ?_ ?_ _ | refine Below.drew ?_ | refine World.size_le_ext _ _ _ ?_) | (solve | simp [go_sem] | (simp [go_sem]; omega) | omega)))⟩
  · have hS := hid (fun w => lz64_same y hy w)
    obtain ⟨s, hs⟩ : ∃ s, s = 64 - bl y := ⟨_, rfl⟩
    rw [← hs] at hS
    have hsp := bl_spec y (by omega)
    have hbl := bl_le y 64 hy
    have hs63 : s ≤ 63 := by omega
    have hy0 : ¬ (y : Int) = 0 := by omega
    have hy1 : ¬ (y : Int) ≤ (hi : Int) := by omega
    have h00 : ¬ (hi : Int) = 0 := by omega
    obtain ⟨Y, hY⟩ : ∃ Y, Y = y * 2 ^ s := ⟨_, rfl⟩
    have hp : 0 < 2 ^ s := Nat.pow_pos (by omega)
    have hYlt : Y < 2 ^ 64 := by
      have h1 : y * 2 ^ s < 2 ^ bl y * 2 ^ s := Nat.mul_lt_mul_of_pos_right hsp.2.2 hp
      rw [← Nat.pow_add, show bl y + s = 64 by omega] at h1
      rw [hY]; exact h1
    have hYge : 2 ^ 63 ≤ Y := by
      have h1 : 2 ^ (bl y - 1) * 2 ^ s ≤ y * 2 ^ s := Nat.mul_le_mul_right _ hsp.2.1
      rw [← Nat.pow_add, show bl y - 1 + s = 63 by omega] at h1
      rw [hY]; exact h1
    have E1 : IntKind.u64.wrap ((y : Int) * 2 ^ s) = (Y : Int) := by
      rw [show (y : Int) * 2 ^ s = ((y * 2 ^ s : Nat) : Int) by rw [Int.natCast_mul, Int.natCast_pow]; rfl, ← hY, u64w_nat, Nat.mod_eq_of_lt (by omega)]
    obtain ⟨y1, hy1'⟩ : ∃ y1, y1 = Y / 4294967296 := ⟨_, rfl⟩
    obtain ⟨y0, hy0'⟩ : ∃ y0, y0 = Y % 4294967296 := ⟨_, rfl⟩
    have E2 : (Y : Int) / 4294967296 = (y1 : Int) := by omega
    have E3 : bits .and .u64 (Y : Int) 4294967295 = (y0 : Int) := by
      rw [show (4294967295 : Int) = ((2 ^ 32 - 1 : Nat) : Int) from rfl, u64_and_nat _ _ hYlt (by decide), Nat.and_two_pow_sub_one_eq_mod, hy0']
    have hlo2 : lo / 2 ^ (64 - s) < 2 ^ s := by
      rw [Nat.div_lt_iff_lt_mul (Nat.pow_pos (by omega)), ← Nat.pow_add, show s + (64 - s) = 64 by omega]; exact hlo
    obtain ⟨U, hU⟩ : ∃ U, U = hi * 2 ^ s + lo / 2 ^ (64 - s) := ⟨_, rfl⟩
    have hUY : U < Y := by
      have h1 : (hi + 1) * 2 ^ s ≤ y * 2 ^ s := Nat.mul_le_mul_right _ hhi
      rw [Nat.add_mul, Nat.one_mul] at h1
      omega
    have E4 : bits .or .u64 (IntKind.u64.wrap ((hi : Int) * 2 ^ s)) ((lo : Int) / 2 ^ (64 - s)) = (U : Int) := by
      have h1 : hi * 2 ^ s < 18446744073709551616 := Nat.lt_of_le_of_lt (by rw [hU]; exact Nat.le_add_right _ _) (Nat.lt_trans hUY hYlt)
      rw [show (hi : Int) * 2 ^ s = ((hi * 2 ^ s : Nat) : Int) by rw [Int.natCast_mul, Int.natCast_pow]; rfl, u64w_nat, Nat.mod_eq_of_lt h1]
      rw [show (lo : Int) / 2 ^ (64 - s) = ((lo / 2 ^ (64 - s) : Nat) : Int) by rw [Int.natCast_ediv, Int.natCast_pow]; rfl]
      rw [u64_or_nat _ _ h1 (Nat.lt_of_le_of_lt (Nat.div_le_self _ _) hlo), hU, Nat.or_comm, or_add _ _ _ hlo2, Nat.add_comm]
    obtain ⟨L, hL⟩ : ∃ L, L = lo * 2 ^ s % 2 ^ 64 := ⟨_, rfl⟩
    have hLlt : L < 2 ^ 64 := by rw [hL]; exact Nat.mod_lt _ (by decide)
    have E5 : IntKind.u64.wrap ((lo : Int) * 2 ^ s) = (L : Int) := by
      rw [show (lo : Int) * 2 ^ s = ((lo * 2 ^ s : Nat) : Int) by rw [Int.natCast_mul, Int.natCast_pow]; rfl, u64w_nat, hL]
    obtain ⟨z1, hz1⟩ : ∃ z1, z1 = L / 4294967296 := ⟨_, rfl⟩
    obtain ⟨z0, hz0⟩ : ∃ z0, z0 = L % 4294967296 := ⟨_, rfl⟩
    have E6 : (L : Int) / 4294967296 = (z1 : Int) := by omega
    have E7 : bits .and .u64 (L : Int) 4294967295 = (z0 : Int) := by
      rw [show (4294967295 : Int) = ((2 ^ 32 - 1 : Nat) : Int) from rfl, u64_and_nat _ _ hLlt (by decide), Nat.and_two_pow_sub_one_eq_mod, hz0]
    have HN := hid (show (hi * 2 ^ 64 + lo) * 2 ^ s = U * (4294967296 * 4294967296) + z1 * 4294967296 + z0 by
      have h1 : lo * 2 ^ s = lo / 2 ^ (64 - s) * 2 ^ 64 + L := by
        have e : lo * 2 ^ s / 2 ^ 64 = lo / 2 ^ (64 - s) := by
          rw [show (2 : Nat) ^ 64 = 2 ^ (64 - s) * 2 ^ s by rw [← Nat.pow_add]; congr 1; omega, Nat.mul_div_mul_right _ _ hp]
        have := Nat.div_add_mod (lo * 2 ^ s) (2 ^ 64)
        rw [e, ← hL] at this; omega
      rw [Nat.add_mul, Nat.mul_right_comm, h1, hU]
      omega)
    have HD := hid (div_shift (hi * 2 ^ 64 + lo) y s)
    have HYe := hid (show Y = y1 * 4294967296 + y0 by omega)
    rw [← hY, HN.out] at HD
    have hYpos : 0 < Y := by omega
    have HH := hid (div_halves 4294967296 U z1 z0 Y hYpos)
    have by1 : y1 < 4294967296 := by omega
    have by1' : 2147483648 ≤ y1 := by omega
    have by0 : y0 < 4294967296 := by omega
    have bz1 : z1 < 4294967296 := by omega
    have bz0 : z0 < 4294967296 := by omega
    have bU : U < 2 ^ 64 := by omega
    rw [← HD.out.1, ← HD.out.2, HH.out.1, HH.out.2]
    obtain ⟨X1, hX1⟩ : ∃ X, X = (U * 4294967296 + z1) / Y * 4294967296 + ((U * 4294967296 + z1) % Y * 4294967296 + z0) / Y := ⟨_, rfl⟩
    obtain ⟨X2, hX2⟩ : ∃ X, X = ((U * 4294967296 + z1) % Y * 4294967296 + z0) % Y / 2 ^ s := ⟨_, rfl⟩
    rw [← hX1, ← hX2]
    have HX1 := hid hX1
    have HX2 := hid hX2
    clear hX1 hX2
    obtain ⟨q, hq⟩ : ∃ q, q = U / y1 := ⟨_, rfl⟩
    have hG := hid (Gs.start (B := 4294967296) (y1 := y1) (y0 := y0) (u := U) bz1 (by omega))
    have hqle : q * y1 ≤ U := by rw [hq]; exact Nat.div_mul_le_self _ _
    have hrlt : U - q * y1 < y1 := by
      have h1 := Nat.div_add_mod U y1
      have h2 := Nat.mod_lt U (show 0 < y1 by omega)
      rw [Nat.mul_comm, ← hq] at h1; omega
    rw [← hq] at hG
    have bq : q < 2 ^ 64 := by rw [hq]; exact Nat.lt_of_le_of_lt (Nat.div_le_self _ _) bU
    obtain ⟨r, hr⟩ : ∃ r, r = U - q * y1 := ⟨_, rfl⟩
    rw [← hr] at hG hrlt
    have E8 : (U : Int).tdiv (y1 : Int) = (q : Int) := by rw [hq]; rfl
    have E9 : IntKind.u64.wrap ((U : Int) - IntKind.u64.wrap ((q : Int) * (y1 : Int))) = (r : Int) := by
      rw [show (q : Int) * (y1 : Int) = ((q * y1 : Nat) : Int) by rw [Int.natCast_mul], u64w_nat, Nat.mod_eq_of_lt (by omega), IntKind.wrap_u64]; omega
    have hn1 : ¬ (y1 : Int) = 0 := by omega
    have hUY' := hid hUY
    clear hsp hbl hs hp hlo2 hU hL hLlt hY hYge hy1' hy0' hz1 hz0 HD HH HN hhi hq hqle hr hUY hYpos
    go_enter Try.func81, Try.ntmps81
    go_wp2_with fail
    refine (hS.out _).mono ?_
    rintro e w1 ⟨rfl, rfl⟩
    go_wp2_with fail
    go_loopw [15, 16] (fun qv rv wr => ∃ q r : Nat, qv = .int .u64 q ∧ rv = .int .u64 r ∧ q < 2 ^ 64 ∧ r < 4294967296 ∧ Hid (Gs 4294967296 y1 y0 U z1 q r) ∧ wr = w)
      (fun qv _ _ => (intOf qv).toNat)
    case atStart => exact ⟨q, r, rfl, rfl, bq, by omega, hG, rfl⟩
    case round =>
      clear hG E1 E2 E3 E4 E5 E6 E7 E8 E9 bq hrlt hS
      obtain ⟨a, c, rfl, rfl, ba, bc, hG, rfl⟩ := hrel
      have hu : U < y1 * 4294967296 + y0 := by rw [← HYe.out]; exact hUY'.out
      have hYp : 0 < y1 * 4294967296 + y0 := by omega
      by_cases hq : 4294967296 ≤ a
      · have hM := hid (hG.out.more bz1 hu (.inl hq))
        have hN := hid (hG.out.next hM.out)
        obtain ⟨b, rfl⟩ : ∃ b, a = b + 1 := ⟨a - 1, by omega⟩
        rw [Nat.add_sub_cancel] at hN
        have hqi : ¬ ((b : Int) + 1 < 4294967296) := by omega
        have hqj : (4294967296 : Int) ≤ (b : Int) + 1 := by omega
        by_cases hc : 4294967296 ≤ c + y1
        · have hc' : (4294967296 : Int) ≤ (c : Int) + (y1 : Int) := by omega
          have hc2 : ¬ ((c : Int) + (y1 : Int) < 4294967296) := by omega
          have hL := hN.out.last by0 hu hc
          have hB := hN.out.right hYp hL.2
          have hblt := hL.1
          clear hq hM hN hG ba hc
          obtain ⟨V, q2, r2, hV1, hV2, F1, F2, F3, hG2, bq2, br2⟩ := div_second U z1 z0 y1 y0 Y b HYe.out hUY'.out hYlt (by omega) bz0 hB
          have HV := hid hV1
          have HBY := hid (show (U * 4294967296 + z1) / Y = b by rw [hB, HYe.out])
          have HV2 := hid hV2
          clear hB hV1
          go_wp2_with fail
          clear F1 F2 F3 hV2
          go_loopw [18, 16] (fun qv rv wr2 => ∃ q r : Nat, qv = .int .u64 q ∧ rv = .int .u64 r ∧ q < 2 ^ 64 ∧ r < 4294967296 ∧ Hid (Gs 4294967296 y1 y0 V z0 q r) ∧ wr2 = wr)
            (fun qv _ _ => (intOf qv).toNat)
          case atStart => exact ⟨q2, r2, rfl, rfl, bq2, by omega, hG2, rfl⟩
          case round =>
            clear hG2 bq2 br2
            obtain ⟨d, f, rfl, rfl, bd, bf, hG3, rfl⟩ := hrel
            have hu3 : V < y1 * 4294967296 + y0 := by rw [← HYe.out]; exact HV2.out
            by_cases hq3 : 4294967296 ≤ d
            · have hM3 := hid (hG3.out.more bz0 hu3 (.inl hq3))
              have hN3 := hid (hG3.out.next hM3.out)
              obtain ⟨g, rfl⟩ : ∃ g, d = g + 1 := ⟨d - 1, by omega⟩
              rw [Nat.add_sub_cancel] at hN3
              have hqi3 : ¬ ((g : Int) + 1 < 4294967296) := by omega
              have hqj3 : (4294967296 : Int) ≤ (g : Int) + 1 := by omega
              by_cases hc3 : 4294967296 ≤ f + y1
              · have hc' : (4294967296 : Int) ≤ (f : Int) + (y1 : Int) := by omega
                have hc2 : ¬ ((f : Int) + (y1 : Int) < 4294967296) := by omega
                have hL := hN3.out.last by0 hu3 hc3
                have hA := hN3.out.right hYp hL.2
                have hglt := hL.1
                clear hq3 hM3 hN3 hG3 bd hc3 hu3 hL
                have HA := hid (show (V * 4294967296 + z0) / Y = g by rw [hA, HYe.out])
                obtain ⟨R, hR, hRlt, F4⟩ := div_third V z0 y1 y0 Y g HYe.out (by rw [HYe.out]; exact hYp) hYlt hA
                have HR := hid hR
                clear hR hA
                go_wp2_with fail
                go_ret2
                refine ⟨(show Ending.returned (.tuple #[.int .u64 ((b : Int) * 4294967296 + (g : Int)), .int .u64 ((R : Int) / 2 ^ s)]) = _ from ?_), Below.refl _ _⟩
                have e1 : (X1 : Int) = (b : Int) * 4294967296 + (g : Int) := by
                  rw [HX1.out, ← HV.out, HA.out, HBY.out]; omega
                have e2 : (X2 : Int) = (R : Int) / 2 ^ s := by
                  rw [HX2.out, ← HV.out, ← HR.out, Int.natCast_ediv, Int.natCast_pow]; rfl
                rw [← e1, ← e2]
              · have hc' : ¬ (4294967296 : Int) ≤ (f : Int) + (y1 : Int) := by omega
                have hc2 : (f : Int) + (y1 : Int) < 4294967296 := by omega
                clear hu3
                go_wp2_with fail
                go_roundw
                case rel => exact ⟨g, f + y1, by go_num, by go_num, by omega, by omega, hN3, trivial⟩
                case measure => simp [intOf]
            · obtain ⟨p, hp⟩ : ∃ p, p = d * y0 := ⟨_, rfl⟩
              have hpi : (d : Int) * (y0 : Int) = (p : Int) := by rw [hp, Int.natCast_mul]
              have hplt : p < 18446744073709551616 := by
                have : d * y0 ≤ 4294967295 * 4294967295 := Nat.mul_le_mul (by omega) (by omega)
                omega
              have hqi3 : (d : Int) < 4294967296 := by omega
              have hqj3 : ¬ (4294967296 : Int) ≤ (d : Int) := by omega
              by_cases hgt : f * 4294967296 + z0 < p
              · have hM3 := hid (hG3.out.more bz0 hu3 (.inr (by rw [← hp]; exact hgt)))
                have hN3 := hid (hG3.out.next hM3.out)
                obtain ⟨g, hg⟩ : ∃ g, d = g + 1 := ⟨d - 1, by have := Nat.lt_of_le_of_lt (Nat.zero_le _) hM3.out; omega⟩
                rw [hg, Nat.add_sub_cancel] at hN3
                have hgi : (d : Int) - 1 = (g : Int) := by omega
                have hgd : g < d := by omega
                have hd1 : 1 ≤ d := by omega
                have hg2 : (4294967296 : Int) * (f : Int) + (z0 : Int) < (p : Int) := by omega
                by_cases hc3 : 4294967296 ≤ f + y1
                · have hc' : (4294967296 : Int) ≤ (f : Int) + (y1 : Int) := by omega
                  have hc2 : ¬ ((f : Int) + (y1 : Int) < 4294967296) := by omega
                  have hL := hN3.out.last by0 hu3 hc3
                  have hA := hN3.out.right hYp hL.2
                  have hglt := hL.1
                  have Hp := hid hp
                  clear hq3 hM3 hN3 hG3 bd hc3 hu3 hL hp hgt hg
                  have HA := hid (show (V * 4294967296 + z0) / Y = g by rw [hA, HYe.out])
                  obtain ⟨R, hR, hRlt, F4⟩ := div_third V z0 y1 y0 Y g HYe.out (by rw [HYe.out]; exact hYp) hYlt hA
                  have HR := hid hR
                  clear hR hA
                  go_wp2_with fail
                  go_ret2
                  refine ⟨(show Ending.returned (.tuple #[.int .u64 ((b : Int) * 4294967296 + (g : Int)), .int .u64 ((R : Int) / 2 ^ s)]) = _ from ?_), Below.refl _ _⟩
                  have e1 : (X1 : Int) = (b : Int) * 4294967296 + (g : Int) := by
                    rw [HX1.out, ← HV.out, HA.out, HBY.out]; omega
                  have e2 : (X2 : Int) = (R : Int) / 2 ^ s := by
                    rw [HX2.out, ← HV.out, ← HR.out, Int.natCast_ediv, Int.natCast_pow]; rfl
                  rw [← e1, ← e2]
                · have hc' : ¬ (4294967296 : Int) ≤ (f : Int) + (y1 : Int) := by omega
                  have hc2 : (f : Int) + (y1 : Int) < 4294967296 := by omega
                  clear hu3 hp hgt hg
                  go_wp2_with fail
                  go_roundw
                  case rel => exact ⟨g, f + y1, by go_num, by go_num, by omega, by omega, hN3, trivial⟩
                  case measure => simp [intOf]; omega
              · obtain ⟨g, hgd⟩ : ∃ g, g = d := ⟨d, rfl⟩
                have hA : g = (V * 4294967296 + z0) / (y1 * 4294967296 + y0) := by rw [hgd]; exact hG3.out.right hYp (by rw [← hp]; omega)
                have hg2 : ¬ ((4294967296 : Int) * (f : Int) + (z0 : Int) < (p : Int)) := by omega
                have hglt : g < 4294967296 := by omega
                subst hgd
                clear hq3 hG3 bd hu3 hp hgt
                have HA := hid (show (V * 4294967296 + z0) / Y = g by rw [hA, HYe.out])
                obtain ⟨R, hR, hRlt, F4⟩ := div_third V z0 y1 y0 Y g HYe.out (by rw [HYe.out]; exact hYp) hYlt hA
                have HR := hid hR
                clear hR hA
                go_wp2_with fail
                go_ret2
                refine ⟨(show Ending.returned (.tuple #[.int .u64 ((b : Int) * 4294967296 + (g : Int)), .int .u64 ((R : Int) / 2 ^ s)]) = _ from ?_), Below.refl _ _⟩
                have e1 : (X1 : Int) = (b : Int) * 4294967296 + (g : Int) := by
                  rw [HX1.out, ← HV.out, HA.out, HBY.out]; omega
                have e2 : (X2 : Int) = (R : Int) / 2 ^ s := by
                  rw [HX2.out, ← HV.out, ← HR.out, Int.natCast_ediv, Int.natCast_pow]; rfl
                rw [← e1, ← e2]
        · have hc' : ¬ (4294967296 : Int) ≤ (c : Int) + (y1 : Int) := by omega
          have hc2 : (c : Int) + (y1 : Int) < 4294967296 := by omega
          go_wp2_with fail
          go_roundw
          case rel => exact ⟨b, c + y1, by go_num, by go_num, by omega, by omega, hN, trivial⟩
          case measure => simp [intOf]
      · obtain ⟨p, hp⟩ : ∃ p, p = a * y0 := ⟨_, rfl⟩
        have hpi : (a : Int) * (y0 : Int) = (p : Int) := by rw [hp, Int.natCast_mul]
        have hplt : p < 18446744073709551616 := by
          have : a * y0 ≤ 4294967295 * 4294967295 := Nat.mul_le_mul (by omega) (by omega)
          omega
        have hqi : (a : Int) < 4294967296 := by omega
        have hqj : ¬ (4294967296 : Int) ≤ (a : Int) := by omega
        by_cases hgt : c * 4294967296 + z1 < p
        · have hM := hid (hG.out.more bz1 hu (.inr (by rw [← hp]; exact hgt)))
          have hN := hid (hG.out.next hM.out)
          obtain ⟨b, hb⟩ : ∃ b, a = b + 1 := ⟨a - 1, by have := Nat.lt_of_le_of_lt (Nat.zero_le _) hM.out; omega⟩
          rw [hb, Nat.add_sub_cancel] at hN
          have hbi : (a : Int) - 1 = (b : Int) := by omega
          have hbd : b < a := by omega
          have hd1 : 1 ≤ a := by omega
          have hg2 : (4294967296 : Int) * (c : Int) + (z1 : Int) < (p : Int) := by omega
          by_cases hc : 4294967296 ≤ c + y1
          · have hc' : (4294967296 : Int) ≤ (c : Int) + (y1 : Int) := by omega
            have hc2 : ¬ ((c : Int) + (y1 : Int) < 4294967296) := by omega
            have hL := hN.out.last by0 hu hc
            have hB := hN.out.right hYp hL.2
            have hblt := hL.1
            clear hq hM hN hG ba hc hp hgt hb
            obtain ⟨V, q2, r2, hV1, hV2, F1, F2, F3, hG2, bq2, br2⟩ := div_second U z1 z0 y1 y0 Y b HYe.out hUY'.out hYlt (by omega) bz0 hB
            have HV := hid hV1
            have HBY := hid (show (U * 4294967296 + z1) / Y = b by rw [hB, HYe.out])
            have HV2 := hid hV2
            clear hB hV1
            go_wp2_with fail
            clear F1 F2 F3 hV2
            go_loopw [18, 16] (fun qv rv wr2 => ∃ q r : Nat, qv = .int .u64 q ∧ rv = .int .u64 r ∧ q < 2 ^ 64 ∧ r < 4294967296 ∧ Hid (Gs 4294967296 y1 y0 V z0 q r) ∧ wr2 = wr)
              (fun qv _ _ => (intOf qv).toNat)
            case atStart => exact ⟨q2, r2, rfl, rfl, bq2, by omega, hG2, rfl⟩
            case round =>
              clear hG2 bq2 br2
              obtain ⟨d, f, rfl, rfl, bd, bf, hG3, rfl⟩ := hrel
              have hu3 : V < y1 * 4294967296 + y0 := by rw [← HYe.out]; exact HV2.out
              by_cases hq3 : 4294967296 ≤ d
              · have hM3 := hid (hG3.out.more bz0 hu3 (.inl hq3))
                have hN3 := hid (hG3.out.next hM3.out)
                obtain ⟨g, rfl⟩ : ∃ g, d = g + 1 := ⟨d - 1, by omega⟩
                rw [Nat.add_sub_cancel] at hN3
                have hqi3 : ¬ ((g : Int) + 1 < 4294967296) := by omega
                have hqj3 : (4294967296 : Int) ≤ (g : Int) + 1 := by omega
                by_cases hc3 : 4294967296 ≤ f + y1
                · have hc' : (4294967296 : Int) ≤ (f : Int) + (y1 : Int) := by omega
                  have hc2 : ¬ ((f : Int) + (y1 : Int) < 4294967296) := by omega
                  have hL := hN3.out.last by0 hu3 hc3
                  have hA := hN3.out.right hYp hL.2
                  have hglt := hL.1
                  clear hq3 hM3 hN3 hG3 bd hc3 hu3 hL
                  have HA := hid (show (V * 4294967296 + z0) / Y = g by rw [hA, HYe.out])
                  obtain ⟨R, hR, hRlt, F4⟩ := div_third V z0 y1 y0 Y g HYe.out (by rw [HYe.out]; exact hYp) hYlt hA
                  have HR := hid hR
                  clear hR hA
                  go_wp2_with fail
                  go_ret2
                  refine ⟨(show Ending.returned (.tuple #[.int .u64 ((b : Int) * 4294967296 + (g : Int)), .int .u64 ((R : Int) / 2 ^ s)]) = _ from ?_), Below.refl _ _⟩
                  have e1 : (X1 : Int) = (b : Int) * 4294967296 + (g : Int) := by
                    rw [HX1.out, ← HV.out, HA.out, HBY.out]; omega
                  have e2 : (X2 : Int) = (R : Int) / 2 ^ s := by
                    rw [HX2.out, ← HV.out, ← HR.out, Int.natCast_ediv, Int.natCast_pow]; rfl
                  rw [← e1, ← e2]
                · have hc' : ¬ (4294967296 : Int) ≤ (f : Int) + (y1 : Int) := by omega
                  have hc2 : (f : Int) + (y1 : Int) < 4294967296 := by omega
                  clear hu3
                  go_wp2_with fail
                  go_roundw
                  case rel => exact ⟨g, f + y1, by go_num, by go_num, by omega, by omega, hN3, trivial⟩
                  case measure => simp [intOf]
              · obtain ⟨p, hp⟩ : ∃ p, p = d * y0 := ⟨_, rfl⟩
                have hpi : (d : Int) * (y0 : Int) = (p : Int) := by rw [hp, Int.natCast_mul]
                have hplt : p < 18446744073709551616 := by
                  have : d * y0 ≤ 4294967295 * 4294967295 := Nat.mul_le_mul (by omega) (by omega)
                  omega
                have hqi3 : (d : Int) < 4294967296 := by omega
                have hqj3 : ¬ (4294967296 : Int) ≤ (d : Int) := by omega
                by_cases hgt : f * 4294967296 + z0 < p
                · have hM3 := hid (hG3.out.more bz0 hu3 (.inr (by rw [← hp]; exact hgt)))
                  have hN3 := hid (hG3.out.next hM3.out)
                  obtain ⟨g, hg⟩ : ∃ g, d = g + 1 := ⟨d - 1, by have := Nat.lt_of_le_of_lt (Nat.zero_le _) hM3.out; omega⟩
                  rw [hg, Nat.add_sub_cancel] at hN3
                  have hgi : (d : Int) - 1 = (g : Int) := by omega
                  have hgd : g < d := by omega
                  have hd1 : 1 ≤ d := by omega
                  have hg2 : (4294967296 : Int) * (f : Int) + (z0 : Int) < (p : Int) := by omega
                  by_cases hc3 : 4294967296 ≤ f + y1
                  · have hc' : (4294967296 : Int) ≤ (f : Int) + (y1 : Int) := by omega
                    have hc2 : ¬ ((f : Int) + (y1 : Int) < 4294967296) := by omega
                    have hL := hN3.out.last by0 hu3 hc3
                    have hA := hN3.out.right hYp hL.2
                    have hglt := hL.1
                    have Hp := hid hp
                    clear hq3 hM3 hN3 hG3 bd hc3 hu3 hL hp hgt hg
                    have HA := hid (show (V * 4294967296 + z0) / Y = g by rw [hA, HYe.out])
                    obtain ⟨R, hR, hRlt, F4⟩ := div_third V z0 y1 y0 Y g HYe.out (by rw [HYe.out]; exact hYp) hYlt hA
                    have HR := hid hR
                    clear hR hA
                    go_wp2_with fail
                    go_ret2
                    refine ⟨(show Ending.returned (.tuple #[.int .u64 ((b : Int) * 4294967296 + (g : Int)), .int .u64 ((R : Int) / 2 ^ s)]) = _ from ?_), Below.refl _ _⟩
                    have e1 : (X1 : Int) = (b : Int) * 4294967296 + (g : Int) := by
                      rw [HX1.out, ← HV.out, HA.out, HBY.out]; omega
                    have e2 : (X2 : Int) = (R : Int) / 2 ^ s := by
                      rw [HX2.out, ← HV.out, ← HR.out, Int.natCast_ediv, Int.natCast_pow]; rfl
                    rw [← e1, ← e2]
                  · have hc' : ¬ (4294967296 : Int) ≤ (f : Int) + (y1 : Int) := by omega
                    have hc2 : (f : Int) + (y1 : Int) < 4294967296 := by omega
                    clear hu3 hp hgt hg
                    go_wp2_with fail
                    go_roundw
                    case rel => exact ⟨g, f + y1, by go_num, by go_num, by omega, by omega, hN3, trivial⟩
                    case measure => simp [intOf]; omega
                · obtain ⟨g, hgd⟩ : ∃ g, g = d := ⟨d, rfl⟩
                  have hA : g = (V * 4294967296 + z0) / (y1 * 4294967296 + y0) := by rw [hgd]; exact hG3.out.right hYp (by rw [← hp]; omega)
                  have hg2 : ¬ ((4294967296 : Int) * (f : Int) + (z0 : Int) < (p : Int)) := by omega
                  have hglt : g < 4294967296 := by omega
                  subst hgd
                  clear hq3 hG3 bd hu3 hp hgt
                  have HA := hid (show (V * 4294967296 + z0) / Y = g by rw [hA, HYe.out])
                  obtain ⟨R, hR, hRlt, F4⟩ := div_third V z0 y1 y0 Y g HYe.out (by rw [HYe.out]; exact hYp) hYlt hA
                  have HR := hid hR
                  clear hR hA
                  go_wp2_with fail
                  go_ret2
                  refine ⟨(show Ending.returned (.tuple #[.int .u64 ((b : Int) * 4294967296 + (g : Int)), .int .u64 ((R : Int) / 2 ^ s)]) = _ from ?_), Below.refl _ _⟩
                  have e1 : (X1 : Int) = (b : Int) * 4294967296 + (g : Int) := by
                    rw [HX1.out, ← HV.out, HA.out, HBY.out]; omega
                  have e2 : (X2 : Int) = (R : Int) / 2 ^ s := by
                    rw [HX2.out, ← HV.out, ← HR.out, Int.natCast_ediv, Int.natCast_pow]; rfl
                  rw [← e1, ← e2]
          · have hc' : ¬ (4294967296 : Int) ≤ (c : Int) + (y1 : Int) := by omega
            have hc2 : (c : Int) + (y1 : Int) < 4294967296 := by omega
            clear hp hgt hb
            go_wp2_with fail
            go_roundw
            case rel => exact ⟨b, c + y1, by go_num, by go_num, by omega, by omega, hN, trivial⟩
            case measure => simp [intOf]; omega
        · obtain ⟨b, hbd⟩ : ∃ b, b = a := ⟨a, rfl⟩
          have hB : b = (U * 4294967296 + z1) / (y1 * 4294967296 + y0) := by rw [hbd]; exact hG.out.right hYp (by rw [← hp]; omega)
          have hg2 : ¬ ((4294967296 : Int) * (c : Int) + (z1 : Int) < (p : Int)) := by omega
          have hblt : b < 4294967296 := by omega
          subst hbd
          clear hq hG ba hp hgt
          obtain ⟨V, q2, r2, hV1, hV2, F1, F2, F3, hG2, bq2, br2⟩ := div_second U z1 z0 y1 y0 Y b HYe.out hUY'.out hYlt (by omega) bz0 hB
          have HV := hid hV1
          have HBY := hid (show (U * 4294967296 + z1) / Y = b by rw [hB, HYe.out])
          have HV2 := hid hV2
          clear hB hV1
          go_wp2_with fail
          clear F1 F2 F3 hV2
          go_loopw [18, 16] (fun qv rv wr2 => ∃ q r : Nat, qv = .int .u64 q ∧ rv = .int .u64 r ∧ q < 2 ^ 64 ∧ r < 4294967296 ∧ Hid (Gs 4294967296 y1 y0 V z0 q r) ∧ wr2 = wr)
            (fun qv _ _ => (intOf qv).toNat)
          case atStart => exact ⟨q2, r2, rfl, rfl, bq2, by omega, hG2, rfl⟩
          case round =>
            clear hG2 bq2 br2
            obtain ⟨d, f, rfl, rfl, bd, bf, hG3, rfl⟩ := hrel
            have hu3 : V < y1 * 4294967296 + y0 := by rw [← HYe.out]; exact HV2.out
            by_cases hq3 : 4294967296 ≤ d
            · have hM3 := hid (hG3.out.more bz0 hu3 (.inl hq3))
              have hN3 := hid (hG3.out.next hM3.out)
              obtain ⟨g, rfl⟩ : ∃ g, d = g + 1 := ⟨d - 1, by omega⟩
              rw [Nat.add_sub_cancel] at hN3
              have hqi3 : ¬ ((g : Int) + 1 < 4294967296) := by omega
              have hqj3 : (4294967296 : Int) ≤ (g : Int) + 1 := by omega
              by_cases hc3 : 4294967296 ≤ f + y1
              · have hc' : (4294967296 : Int) ≤ (f : Int) + (y1 : Int) := by omega
                have hc2 : ¬ ((f : Int) + (y1 : Int) < 4294967296) := by omega
                have hL := hN3.out.last by0 hu3 hc3
                have hA := hN3.out.right hYp hL.2
                have hglt := hL.1
                clear hq3 hM3 hN3 hG3 bd hc3 hu3 hL
                have HA := hid (show (V * 4294967296 + z0) / Y = g by rw [hA, HYe.out])
                obtain ⟨R, hR, hRlt, F4⟩ := div_third V z0 y1 y0 Y g HYe.out (by rw [HYe.out]; exact hYp) hYlt hA
                have HR := hid hR
                clear hR hA
                go_wp2_with fail
                go_ret2
                refine ⟨(show Ending.returned (.tuple #[.int .u64 ((b : Int) * 4294967296 + (g : Int)), .int .u64 ((R : Int) / 2 ^ s)]) = _ from ?_), Below.refl _ _⟩
                have e1 : (X1 : Int) = (b : Int) * 4294967296 + (g : Int) := by
                  rw [HX1.out, ← HV.out, HA.out, HBY.out]; omega
                have e2 : (X2 : Int) = (R : Int) / 2 ^ s := by
                  rw [HX2.out, ← HV.out, ← HR.out, Int.natCast_ediv, Int.natCast_pow]; rfl
                rw [← e1, ← e2]
              · have hc' : ¬ (4294967296 : Int) ≤ (f : Int) + (y1 : Int) := by omega
                have hc2 : (f : Int) + (y1 : Int) < 4294967296 := by omega
                clear hu3
                go_wp2_with fail
                go_roundw
                case rel => exact ⟨g, f + y1, by go_num, by go_num, by omega, by omega, hN3, trivial⟩
                case measure => simp [intOf]
            · obtain ⟨p, hp⟩ : ∃ p, p = d * y0 := ⟨_, rfl⟩
              have hpi : (d : Int) * (y0 : Int) = (p : Int) := by rw [hp, Int.natCast_mul]
              have hplt : p < 18446744073709551616 := by
                have : d * y0 ≤ 4294967295 * 4294967295 := Nat.mul_le_mul (by omega) (by omega)
                omega
              have hqi3 : (d : Int) < 4294967296 := by omega
              have hqj3 : ¬ (4294967296 : Int) ≤ (d : Int) := by omega
              by_cases hgt : f * 4294967296 + z0 < p
              · have hM3 := hid (hG3.out.more bz0 hu3 (.inr (by rw [← hp]; exact hgt)))
                have hN3 := hid (hG3.out.next hM3.out)
                obtain ⟨g, hg⟩ : ∃ g, d = g + 1 := ⟨d - 1, by have := Nat.lt_of_le_of_lt (Nat.zero_le _) hM3.out; omega⟩
                rw [hg, Nat.add_sub_cancel] at hN3
                have hgi : (d : Int) - 1 = (g : Int) := by omega
                have hgd : g < d := by omega
                have hd1 : 1 ≤ d := by omega
                have hg2 : (4294967296 : Int) * (f : Int) + (z0 : Int) < (p : Int) := by omega
                by_cases hc3 : 4294967296 ≤ f + y1
                · have hc' : (4294967296 : Int) ≤ (f : Int) + (y1 : Int) := by omega
                  have hc2 : ¬ ((f : Int) + (y1 : Int) < 4294967296) := by omega
                  have hL := hN3.out.last by0 hu3 hc3
                  have hA := hN3.out.right hYp hL.2
                  have hglt := hL.1
                  have Hp := hid hp
                  clear hq3 hM3 hN3 hG3 bd hc3 hu3 hL hp hgt hg
                  have HA := hid (show (V * 4294967296 + z0) / Y = g by rw [hA, HYe.out])
                  obtain ⟨R, hR, hRlt, F4⟩ := div_third V z0 y1 y0 Y g HYe.out (by rw [HYe.out]; exact hYp) hYlt hA
                  have HR := hid hR
                  clear hR hA
                  go_wp2_with fail
                  go_ret2
                  refine ⟨(show Ending.returned (.tuple #[.int .u64 ((b : Int) * 4294967296 + (g : Int)), .int .u64 ((R : Int) / 2 ^ s)]) = _ from ?_), Below.refl _ _⟩
                  have e1 : (X1 : Int) = (b : Int) * 4294967296 + (g : Int) := by
                    rw [HX1.out, ← HV.out, HA.out, HBY.out]; omega
                  have e2 : (X2 : Int) = (R : Int) / 2 ^ s := by
                    rw [HX2.out, ← HV.out, ← HR.out, Int.natCast_ediv, Int.natCast_pow]; rfl
                  rw [← e1, ← e2]
                · have hc' : ¬ (4294967296 : Int) ≤ (f : Int) + (y1 : Int) := by omega
                  have hc2 : (f : Int) + (y1 : Int) < 4294967296 := by omega
                  clear hu3 hp hgt hg
                  go_wp2_with fail
                  go_roundw
                  case rel => exact ⟨g, f + y1, by go_num, by go_num, by omega, by omega, hN3, trivial⟩
                  case measure => simp [intOf]; omega
              · obtain ⟨g, hgd⟩ : ∃ g, g = d := ⟨d, rfl⟩
                have hA : g = (V * 4294967296 + z0) / (y1 * 4294967296 + y0) := by rw [hgd]; exact hG3.out.right hYp (by rw [← hp]; omega)
                have hg2 : ¬ ((4294967296 : Int) * (f : Int) + (z0 : Int) < (p : Int)) := by omega
                have hglt : g < 4294967296 := by omega
                subst hgd
                clear hq3 hG3 bd hu3 hp hgt
                have HA := hid (show (V * 4294967296 + z0) / Y = g by rw [hA, HYe.out])
                obtain ⟨R, hR, hRlt, F4⟩ := div_third V z0 y1 y0 Y g HYe.out (by rw [HYe.out]; exact hYp) hYlt hA
                have HR := hid hR
                clear hR hA
                go_wp2_with fail
                go_ret2
                refine ⟨(show Ending.returned (.tuple #[.int .u64 ((b : Int) * 4294967296 + (g : Int)), .int .u64 ((R : Int) / 2 ^ s)]) = _ from ?_), Below.refl _ _⟩
                have e1 : (X1 : Int) = (b : Int) * 4294967296 + (g : Int) := by
                  rw [HX1.out, ← HV.out, HA.out, HBY.out]; omega
                have e2 : (X2 : Int) = (R : Int) / 2 ^ s := by
                  rw [HX2.out, ← HV.out, ← HR.out, Int.natCast_ediv, Int.natCast_pow]; rfl
                rw [← e1, ← e2]
end Go.Proofs.Ytejnnghfelpioaa
namespace Go.Proofs.Ytejnnghfelpioaa
open Go.RowKit
def win (Z k i : Nat) : Nat := Z / 2 ^ (64 * k) % 2 ^ (64 * i)
theorem win_zero (Z k : Nat) : win Z k 0 = 0 := by unfold win; rw [Nat.mul_zero, Nat.pow_zero, Nat.mod_one]
theorem win_succ (Z k i : Nat) : win Z k (i + 1) = win Z k i + 2 ^ (64 * i) * lmN Z (k + i) := by
  unfold win
  rw [low_succ]
  congr 2
  unfold lmN
  rw [Nat.div_div_eq_div_mul, ← Nat.pow_add]; congr 3; omega
theorem win_lt (Z k i : Nat) : win Z k i < 2 ^ (64 * i) := Nat.mod_lt _ (Nat.pow_pos (by omega))
theorem win_set (Z k i v : Nat) (hv : v < 2 ^ 64) : win (setL Z (k + i) v) k i = win Z k i := by
  induction i with
  | zero => rw [win_zero, win_zero]
  | succ i ih =>
    have h : ∀ m, m ≤ i → win (setL Z (k + (i + 1)) v) k m = win Z k m := fun m hm => by
      induction m with
      | zero => rw [win_zero, win_zero]
      | succ m ihm => rw [win_succ, win_succ, ihm (by omega), lmN_setL _ _ _ _ hv, if_neg (by omega)]
    rw [win_succ, win_succ, h i (Nat.le_refl _), lmN_setL _ _ _ _ hv, if_neg (by omega)]
theorem win_put (Z k i v : Nat) (hv : v < 2 ^ 64) : win (setL Z (k + i) v) k (i + 1) = win Z k i + 2 ^ (64 * i) * v := by
  rw [win_succ, win_set Z k i v hv, lmN_setL _ _ _ _ hv, if_pos rfl]
structure Turn (Z0 Z k i : Nat) : Prop where
  eq : Z + 2 ^ (64 * k) * win Z0 k i = Z0 + 2 ^ (64 * k) * win Z k i
  up : ∀ j, i ≤ j → lmN Z (k + j) = lmN Z0 (k + j)
theorem Turn.start (Z k : Nat) : Turn Z Z k 0 := ⟨rfl, fun _ _ => rfl⟩
theorem Turn.set {Z0 Z k i : Nat} (h : Turn Z0 Z k i) (v : Nat) (hv : v < 2 ^ 64) : Turn Z0 (setL Z (k + i) v) k (i + 1) := by
  refine ⟨?_, fun j hj => by rw [lmN_setL _ _ _ _ hv, if_neg (by omega)]; exact h.up j (by omega)⟩
  have h1 := setL_eq Z (k + i) v
  have h2 := h.eq
  have h3 := h.up i (Nat.le_refl _)
  rw [win_succ Z0, win_put Z k i v hv, Nat.mul_add, Nat.mul_add, ← Nat.mul_assoc, ← Nat.mul_assoc, ← Nat.pow_add, ← Nat.mul_add, ← h3]
  omega
theorem Turn.trans {Z0 Z1 Z2 k n : Nat} (h : Turn Z0 Z1 k n) (g : Turn Z1 Z2 k n) : Turn Z0 Z2 k n := by
  refine ⟨?_, fun j hj => (g.up j hj).trans (h.up j hj)⟩
  have h1 := h.eq
  have h2 := g.eq
  omega
def Mul (Z0 Z k V G i b c : Nat) : Prop := win Z k i + G * (V % 2 ^ (64 * i)) = win Z0 k i + 2 ^ (64 * i) * (b + c)
theorem Mul.start (Z k V G : Nat) : Mul Z Z k V G 0 0 0 := by
  unfold Mul; rw [Nat.mul_zero, Nat.pow_zero, Nat.mod_one]; omega
theorem Mul.step {Z0 Z k V G i b c hi lo l2 cc nw b2 : Nat} (h : Mul Z0 Z k V G i b c) (hup : lmN Z (k + i) = lmN Z0 (k + i)) (hnw : nw < 2 ^ 64)
    (h1 : G * lmN V i = lo + 2 ^ 64 * hi) (h2 : lo + c = l2 + 2 ^ 64 * cc) (h3 : nw + l2 + b = lmN Z (k + i) + 2 ^ 64 * b2) :
    Mul Z0 (setL Z (k + i) nw) k V G (i + 1) b2 (hi + cc) := by
  unfold Mul at *
  rw [win_put _ _ _ _ hnw, win_succ Z0, low_succ, Nat.mul_add G, pow64_succ]
  have e1 : G * (2 ^ (64 * i) * lmN V i) = 2 ^ (64 * i) * lo + 2 ^ (64 * i) * (2 ^ 64 * hi) := by rw [Nat.mul_left_comm, h1, Nat.mul_add]
  have e2 : 2 ^ (64 * i) * lo + 2 ^ (64 * i) * c = 2 ^ (64 * i) * l2 + 2 ^ (64 * i) * (2 ^ 64 * cc) := by rw [← Nat.mul_add, h2, Nat.mul_add]
  have e3 : 2 ^ (64 * i) * nw + 2 ^ (64 * i) * l2 + 2 ^ (64 * i) * b = 2 ^ (64 * i) * lmN Z0 (k + i) + 2 ^ (64 * i) * (2 ^ 64 * b2) := by rw [← Nat.mul_add, ← Nat.mul_add, h3, hup, Nat.mul_add]
  rw [Nat.mul_add] at h
  rw [Nat.mul_assoc, Nat.mul_add, Nat.mul_add, Nat.mul_add]
  rw [Nat.mul_add]
  omega
theorem Mul.last {Z0 Z k V G n b c nw b2 : Nat} (h : Mul Z0 Z k V G n b c) (hV : V < 2 ^ (64 * n)) (hup : lmN Z (k + n) = lmN Z0 (k + n)) (hnw : nw < 2 ^ 64) (h3 : nw + c + b = lmN Z (k + n) + 2 ^ 64 * b2) :
    win (setL Z (k + n) nw) k (n + 1) + G * V = win Z0 k (n + 1) + 2 ^ (64 * (n + 1)) * b2 := by
  unfold Mul at h
  rw [Nat.mod_eq_of_lt hV] at h
  rw [win_put _ _ _ _ hnw, win_succ Z0, pow64_succ]
  have e3 : 2 ^ (64 * n) * nw + 2 ^ (64 * n) * c + 2 ^ (64 * n) * b = 2 ^ (64 * n) * lmN Z0 (k + n) + 2 ^ (64 * n) * (2 ^ 64 * b2) := by rw [← Nat.mul_add, ← Nat.mul_add, h3, hup, Nat.mul_add]
  rw [Nat.mul_add] at h
  rw [Nat.mul_assoc]
  omega
def Adb (Z0 Z k V i c : Nat) : Prop := win Z k i + 2 ^ (64 * i) * c = win Z0 k i + V % 2 ^ (64 * i)
theorem Adb.start (Z k V : Nat) : Adb Z Z k V 0 0 := by
  unfold Adb; rw [Nat.mul_zero, Nat.pow_zero, Nat.mod_one]
theorem Adb.step {Z0 Z k V i c nw c2 : Nat} (h : Adb Z0 Z k V i c) (hup : lmN Z (k + i) = lmN Z0 (k + i)) (hnw : nw < 2 ^ 64) (h1 : lmN Z (k + i) + lmN V i + c = nw + 2 ^ 64 * c2) :
    Adb Z0 (setL Z (k + i) nw) k V (i + 1) c2 := by
  unfold Adb at *
  rw [win_put _ _ _ _ hnw, win_succ Z0, low_succ, pow64_succ]
  have e1 : 2 ^ (64 * i) * lmN Z0 (k + i) + 2 ^ (64 * i) * lmN V i + 2 ^ (64 * i) * c = 2 ^ (64 * i) * nw + 2 ^ (64 * i) * (2 ^ 64 * c2) := by rw [← Nat.mul_add, ← Nat.mul_add, ← hup, h1, Nat.mul_add]
  rw [Nat.mul_assoc]
  omega
theorem Adb.last {Z0 Z k V n c nw c2 : Nat} (h : Adb Z0 Z k V n c) (hV : V < 2 ^ (64 * n)) (hup : lmN Z (k + n) = lmN Z0 (k + n)) (hnw : nw < 2 ^ 64) (h1 : lmN Z (k + n) + 0 + c = nw + 2 ^ 64 * c2) :
    win (setL Z (k + n) nw) k (n + 1) + 2 ^ (64 * (n + 1)) * c2 = win Z0 k (n + 1) + V := by
  unfold Adb at h
  rw [Nat.mod_eq_of_lt hV] at h
  rw [win_put _ _ _ _ hnw, win_succ Z0, pow64_succ]
  have e1 : 2 ^ (64 * n) * lmN Z0 (k + n) + 2 ^ (64 * n) * c = 2 ^ (64 * n) * nw + 2 ^ (64 * n) * (2 ^ 64 * c2) := by rw [← Nat.mul_add, ← hup]; rw [Nat.add_zero] at h1; rw [h1, Nat.mul_add]
  rw [Nat.mul_assoc]
  omega
theorem guess_top (X V n q : Nat) (hq : q = X / V) (hV : 0 < V) (hv : 0 < lmN V n) (hVn : V < 2 ^ (64 * (n + 1))) :
    q ≤ (X / 2 ^ (64 * n)) / lmN V n := by
  have hp : 0 < 2 ^ (64 * n) := Nat.pow_pos (by omega)
  have hv1 : lmN V n = V / 2 ^ (64 * n) := by
    unfold lmN
    rw [pow64_succ, Nat.mul_comm] at hVn
    exact Nat.mod_eq_of_lt ((Nat.div_lt_iff_lt_mul hp).2 hVn)
  rw [Nat.le_div_iff_mul_le hv, Nat.le_div_iff_mul_le hp, hv1]
  have h1 := Nat.div_mul_le_self V (2 ^ (64 * n))
  have h2 := Nat.div_mul_le_self X V
  rw [← hq] at h2
  exact Nat.le_trans (by rw [Nat.mul_assoc]; exact Nat.mul_le_mul_left _ h1) h2
theorem guess_more (X V n q g r : Nat) (hq : q = X / V) (hV : 0 < V) (hs : X / 2 ^ (64 * (n + 1)) = g * (V / 2 ^ (64 * (n + 1))) + r) (hgt : r * 2 ^ 64 + lmN X n < g * lmN V n) : q < g := by
  rw [hq, Nat.div_lt_iff_lt_mul hV]
  have hp : 0 < 2 ^ (64 * n) := Nat.pow_pos (by omega)
  have h1 : V / 2 ^ (64 * n) = V / 2 ^ (64 * (n + 1)) * 2 ^ 64 + lmN V n := div_succ V n
  have h2 : X / 2 ^ (64 * n) = X / 2 ^ (64 * (n + 1)) * 2 ^ 64 + lmN X n := div_succ X n
  have h3 : X / 2 ^ (64 * n) < g * (V / 2 ^ (64 * n)) := by
    rw [h1, h2, hs]
    generalize V / 2 ^ (64 * (n + 1)) = A
    generalize lmN V n = v at hgt ⊢
    generalize lmN X n = x at hgt ⊢
    clear h1 h2 hs hq hp
    generalize (2 : Nat) ^ 64 = B at hgt ⊢
    rw [Nat.mul_add g (A * B) v, Nat.add_mul (g * A) r B, ← Nat.mul_assoc g A B]; omega
  have h4 := Nat.div_mul_le_self V (2 ^ (64 * n))
  have h5 := Nat.lt_of_lt_of_le ((Nat.div_lt_iff_lt_mul hp).1 h3) (Nat.le_of_eq (Nat.mul_assoc g (V / 2 ^ (64 * n)) (2 ^ (64 * n))))
  exact Nat.lt_of_lt_of_le h5 (Nat.mul_le_mul_left g h4)
end Go.Proofs.Ytejnnghfelpioaa
namespace Go.Proofs.Ytejnnghfelpioaa
open Go.RowKit
theorem win_div (Z k i n : Nat) (h : i ≤ n) : win Z k (n + 1) / 2 ^ (64 * i) % 2 ^ 64 = lmN Z (k + i) := by
  unfold win lmN
  have e : 2 ^ (64 * (n + 1)) = 2 ^ (64 * i) * (2 ^ 64 * 2 ^ (64 * (n - i))) := by rw [← Nat.pow_add, ← Nat.pow_add]; congr 1; omega
  have e0 : Z / 2 ^ (64 * (k + i)) = Z / 2 ^ (64 * k) / 2 ^ (64 * i) := by rw [Nat.div_div_eq_div_mul, ← Nat.pow_add, ← Nat.mul_add]
  rw [e0]
  generalize Z / 2 ^ (64 * k) = A
  have e1 := congrArg (fun x => A % x / 2 ^ (64 * i) % 2 ^ 64) e
  refine e1.trans ?_
  show A % (2 ^ (64 * i) * (2 ^ 64 * 2 ^ (64 * (n - i)))) / 2 ^ (64 * i) % 2 ^ 64 = _
  generalize 2 ^ (64 * (n - i)) = T
  generalize 2 ^ (64 * i) = S
  have e2 := Nat.mod_mul_right_div_self A S (2 ^ 64 * T)
  have e3 := Nat.mod_mul_right_mod (A / S) (2 ^ 64) T
  exact (congrArg (fun x => x % 2 ^ 64) e2).trans e3
theorem lmN_win (Z k i n : Nat) (h : i ≤ n) : lmN (win Z k (n + 1)) i = lmN Z (k + i) := win_div Z k i n h
theorem win_top (Z k n : Nat) : win Z k (n + 1) / 2 ^ (64 * n) = lmN Z (k + n) := by
  have h := win_div Z k n n (Nat.le_refl _)
  have h2 : win Z k (n + 1) / 2 ^ (64 * n) < 2 ^ 64 := by
    rw [Nat.div_lt_iff_lt_mul (Nat.pow_pos (by omega)), Nat.mul_comm, ← pow64_succ]
    exact win_lt _ _ _
  rw [Nat.mod_eq_of_lt h2] at h; exact h
theorem win_top2 (Z k n : Nat) : win Z k (n + 2) / 2 ^ (64 * n) = lmN Z (k + n + 1) * 2 ^ 64 + lmN Z (k + n) := by
  rw [div_succ (win Z k (n + 2)) n, lmN_win Z k n (n + 1) (by omega)]
  have := win_top Z k (n + 1)
  rw [show n + 1 + 1 = n + 2 from rfl] at this
  rw [this]; rfl
theorem step_fits (G v c hi lo l2 cc : Nat) (hG : G < 2 ^ 64) (hv : v < 2 ^ 64) (hc : c < 2 ^ 64) (hl : l2 < 2 ^ 64) (h1 : G * v = lo + 2 ^ 64 * hi) (h2 : lo + c = l2 + 2 ^ 64 * cc) : hi + cc < 2 ^ 64 := by
  have := mul64_le G v hG hv
  omega
theorem step_done (Z Z' k n V G : Nat) (hT : Turn Z Z' k (n + 1)) (hw : win Z' k (n + 1) + G * V = win Z k (n + 1)) (hV : 0 < V) (hq : win Z k (n + 1) / V ≤ G) :
    G = win Z k (n + 1) / V ∧ Z' + 2 ^ (64 * k) * (G * V) = Z := by
  refine ⟨Nat.le_antisymm ?_ hq, ?_⟩
  · rw [Nat.le_div_iff_mul_le hV]; omega
  · have h1 := hT.eq
    rw [← hw, Nat.mul_add] at h1
    omega
theorem step_again (Z Z' k n V G : Nat) (hw : win Z' k (n + 1) + G * V = win Z k (n + 1) + 2 ^ (64 * (n + 1)) * 1) (hV : 0 < V) : win Z k (n + 1) / V < G := by
  rw [Nat.div_lt_iff_lt_mul hV]
  have := win_lt Z' k (n + 1)
  omega
theorem step_back (Z Z1 Z2 k n V G c : Nat) (hG : 1 ≤ G) (hc : c ≤ 1) (hw : win Z1 k (n + 1) + G * V = win Z k (n + 1) + 2 ^ (64 * (n + 1)) * 1) (ha : win Z2 k (n + 1) + 2 ^ (64 * (n + 1)) * c = win Z1 k (n + 1) + V) :
    win Z2 k (n + 1) + (G - 1) * V = win Z k (n + 1) + 2 ^ (64 * (n + 1)) * (1 - c) := by
  obtain ⟨H, rfl⟩ : ∃ H, G = H + 1 := ⟨G - 1, by omega⟩
  rw [Nat.add_sub_cancel]
  rw [Nat.add_mul, Nat.one_mul] at hw
  have h01 : c = 0 ∨ c = 1 := by omega
  rcases h01 with rfl | rfl
  · rw [Nat.mul_zero] at ha; omega
  · rw [Nat.sub_self, Nat.mul_zero]; omega
def StI (g k N n Z V vb : Nat) (w wr : World) (Z' : Nat) : Prop := ArrM 23 N wr g Z' ∧ ArrM 23 n wr vb V ∧ Below g w wr
theorem StI.lt {g k N n Z V vb : Nat} {w wr : World} {Z' : Nat} (h : StI g k N n Z V vb w wr Z') : g < wr.heap.size := h.1.lt
theorem StI.next {g k N n Z V vb : Nat} {w wr wn : World} {Z' : Nat} (h : StI g k N n Z V vb w wr Z') (hb : Below wr.heap.size wr wn) : StI g k N n Z V vb w wn Z' :=
  ⟨h.1.below hb h.1.lt, h.2.1.below hb h.2.1.lt, h.2.2.trans (hb.mono (Nat.le_of_lt h.1.lt))⟩
theorem StI.put {g k N n Z V vb : Nat} {w wr : World} {Z' : Nat} (h : StI g k N n Z V vb w wr Z') (hvg : vb < g) (j v : Nat) (hv : v < 2 ^ 64) : StI g k N n Z V vb w (wr.setCell ⟨g, j, none⟩ (.int .u64 (v : Int))) (setL Z' j v) :=
  ⟨h.1.set j v hv, h.2.1.other (by show vb ≠ g; omega) _, h.2.2.setCell (p := ⟨g, j, none⟩) (Nat.le_refl _) _⟩
theorem StI.ext {g k N n Z V vb : Nat} {w wr : World} {Z' : Nat} (h : StI g k N n Z V vb w wr Z') (y : World) : StI g k N n Z V vb w (wr.ext y) Z' := h.next (wr.ext_below y)
set_option maxRecDepth 100000 in
set_option maxHeartbeats 20000000 in
theorem step_any (g k N Z vb m V cx : Nat) (w : World) (hX : ArrM 23 N w g Z) (hVb : ArrM 23 (m + 2) w vb V) (hvg : vb < g) (hm : m ≤ 7) (hk : k + m + 3 ≤ N) (hN : N ≤ 16) (hc : m + 3 ≤ cx)
    (hV1 : V < 2 ^ (64 * (m + 2))) (hV2 : 0 < lmN V (m + 1)) (hlt : win Z k (m + 3) < V * 2 ^ 64) :
    Calls Try.prog 84 #[.slice (some ⟨g, k, none⟩) ((m + 3 : Nat)) cx, .slice (some ⟨vb, 0, none⟩) ((m + 2 : Nat)) ((m + 2 : Nat))] w fun e w' => ∃ Z', e = .returned (.int .u64 ((win Z k (m + 3) / V : Nat) : Int)) ∧ ArrM 23 N w' g Z' ∧ Z' + 2 ^ (64 * k) * (win Z k (m + 3) / V * V) = Z ∧ Below g w w' := by
  have hVpos : 0 < V := by
    rcases Nat.eq_zero_or_pos V with h | h
    · subst h; simp [lmN] at hV2
    · exact h
  have c1 := hX.cell (k + (m + 2)) (by omega)
  have c2 := hVb.cell (m + 1) (by omega)
  have c3 := hX.cell (k + (m + 1)) (by omega)
  have l1 := hX.lt
  have l2 := hVb.lt
  have gz2 := lmN_lt Z (k + (m + 2))
  have gz1 := lmN_lt Z (k + (m + 1))
  have gv1 := lmN_lt V (m + 1)
  have gv0 := lmN_lt V m
  have hqb := hid (show win Z k (m + 3) / V < 2 ^ 64 by rw [Nat.div_lt_iff_lt_mul hVpos, Nat.mul_comm]; exact hlt)
  have HI := hid (show StI g k N (m + 2) Z V vb w w Z from ⟨hX, hVb, Below.refl _ _⟩)
  have HV1 := hid hV1
  have HVp := hid hVpos
  have HLT := hid hlt
  clear hV1 hVpos hlt hX hVb
  go_enter Try.func84, Try.ntmps84
  go_wp2_with fail
  (refine wp_region_ext (by kernel_rfl) (by kernel_rfl) ?_; (repeat (go_big_quiet_step (first | fail))); refine wpQuiet_nil ?_; rintro _ ⟨xw, rfl⟩)
  by_cases htop : lmN Z (k + (m + 2)) < lmN V (m + 1)
  · have c1' := c1
    have HT2 := hid (win_top2 Z k (m + 1))
    have hsum : win Z k (m + 3) / 2 ^ (64 * (m + 1)) = lmN Z (k + (m + 2)) * 2 ^ 64 + lmN Z (k + (m + 1)) := win_top2 Z k (m + 1)
    have hD := hid (fun w => div64_any (lmN Z (k + (m + 2))) (lmN Z (k + (m + 1))) (lmN V (m + 1)) htop gz1 gv1 w)
    rw [← hsum] at hD
    have hg0 := hid (guess_top (win Z k (m + 3)) V (m + 1) _ rfl HVp.out hV2 HV1.out)
    have hdm := Nat.div_add_mod (win Z k (m + 3) / 2 ^ (64 * (m + 1))) (lmN V (m + 1))
    have hml := Nat.mod_lt (win Z k (m + 3) / 2 ^ (64 * (m + 1))) hV2
    have hgl : win Z k (m + 3) / 2 ^ (64 * (m + 1)) / lmN V (m + 1) < 2 ^ 64 := by
      rw [Nat.div_lt_iff_lt_mul hV2, hsum]
      have : (lmN Z (k + (m + 2)) + 1) * 2 ^ 64 ≤ lmN V (m + 1) * 2 ^ 64 := Nat.mul_le_mul_right _ htop
      rw [Nat.mul_comm (2 ^ 64)]
      omega
    obtain ⟨G0, hG0⟩ : ∃ G, G = win Z k (m + 3) / 2 ^ (64 * (m + 1)) / lmN V (m + 1) := ⟨_, rfl⟩
    obtain ⟨R0, hR0⟩ : ∃ R, R = win Z k (m + 3) / 2 ^ (64 * (m + 1)) % lmN V (m + 1) := ⟨_, rfl⟩
    rw [← hG0, ← hR0] at hD hdm
    rw [← hG0] at hg0 hgl
    rw [← hR0] at hml
    rw [Nat.mul_comm] at hdm
    have HDM := hid hdm.symm
    clear hG0 hR0 hdm hsum HT2 c1'
    have lx1 := (w.ext_below xw).size
    have hcc1 := (w.cell?_ext xw g (k + (m + 2)) l1).trans c1
    have hcc2 := (w.cell?_ext xw vb (m + 1) l2).trans c2
    have hcc3 := (w.cell?_ext xw g (k + (m + 1)) l1).trans c3
    have hI2 : Hid (StI g k N (m + 2) Z V vb w (w.ext xw) Z) := hid ⟨HI.out.1.ext xw, HI.out.2.1.ext xw, World.ext_below_of HI.out.2.2 (by omega) xw⟩
    have ll1 : g < (w.ext xw).heap.size := by omega
    have ll2 : vb < (w.ext xw).heap.size := by omega
    clear c1 c2 c3 lx1 HI
    go_wp2_with fail
    generalize w.ext xw = w1 at hcc1 hcc2 hcc3 hI2 ll1 ll2 ⊢
    (refine wp_region_ext (by kernel_rfl) (by kernel_rfl) ?_; (repeat (go_big_quiet_step (first | (go_at_call 81; with_reducible refine Calls.ext_of (hD.out _))))); refine wpQuiet_nil ?_; rintro _ ⟨xw, rfl⟩)
    have hI3 : Hid (StI g k N (m + 2) Z V vb w (w1.ext xw) Z) := hid ⟨hI2.out.1.ext xw, hI2.out.2.1.ext xw, World.ext_below_of hI2.out.2.2 (by omega) xw⟩
    have ll1' := World.size_le_ext w1 xw _ ll1
    have ll2' := World.size_le_ext w1 xw _ ll2
    clear hI2 ll1 ll2 hcc1 hcc2 hcc3 hD
    go_wp2_with fail
    generalize w1.ext xw = w2 at hI3 ll1' ll2' ⊢
    simp only [decide_eq_true htop, show m + 2 - 1 = m + 1 from rfl]
    go_loopw [6, 8] (fun gv rv wr => ∃ G R : Nat, gv = .int .u64 (G : Int) ∧ rv = .int .u64 (R : Int) ∧ G < 2 ^ 64 ∧ R < 2 ^ 64 ∧ Hid (win Z k (m + 3) / V ≤ G ∧ win Z k (m + 3) / 2 ^ (64 * (m + 1)) = G * lmN V (m + 1) + R) ∧ Hid (StI g k N (m + 2) Z V vb w wr Z))
      (fun gv _ _ => (intOf gv).toNat)
    case atStart => exact ⟨G0, R0, rfl, rfl, hgl, by omega, hid ⟨hg0.out, HDM.out⟩, hI3⟩
    case round =>
      clear hgl hg0 hml HDM hI3 ll1' ll2'
      obtain ⟨G, R, rfl, rfl, bG, bR, hQ, hI⟩ := hrel
      obtain ⟨mhi, mlo, m1, m2, m3, m4⟩ := mul64_nat G (lmN V m) bG (lmN_lt _ _)
      have M4 := hid m4
      have HVB := hid hI.out.2.1
      have cv := HVB.out.cell m (by omega)
      have lv := HVB.out.lt
      clear m4
      go_wp2_with fail
      refine (M4.out _).mono ?_
      rintro e w3 ⟨rfl, hb3⟩
      have hI2 := hid (hI.out.next hb3)
      have cx0 := hI2.out.1.cell (k + m) (by omega)
      have cv1 := hI2.out.2.1.cell (m + 1) (by omega)
      have l1 := hI2.out.1.lt
      have l2 := hI2.out.2.1.lt
      have gx0 := lmN_lt Z (k + m)
      have hX0 := hid (show lmN (win Z k (m + 3)) m = lmN Z (k + m) from lmN_win Z k m (m + 2) (by omega))
      clear hI HVB cv lv hb3
      by_cases ha : mhi < R
      · obtain ⟨H, hH⟩ : ∃ H, H = G := ⟨G, rfl⟩
        subst hH
        have hHq := hid hQ.out.1
        have hIH := hI2
        clear hQ hI2 cx0 cv1 m3 M4
        go_wp2_with fail
        (try simp only [show m + 2 - 1 = m + 1 from rfl])
        go_loopw [13, 14, 95] (fun bv cv iv wr5 => ∃ i b c Z1 : Nat, i ≤ m + 2 ∧ b ≤ 1 ∧ c < 2 ^ 64 ∧ bv = .int .u64 (b : Int) ∧ cv = .int .u64 (c : Int) ∧ iv = .int .i64 (i : Int) ∧ Hid (Turn Z Z1 k i ∧ Mul Z Z1 k V H i b c) ∧ Hid (StI g k N (m + 2) Z V vb w wr5 Z1))
          (fun _ _ iv _ => m + 2 - (intOf iv).toNat)
        case atStart => exact ⟨0, 0, 0, Z, by omega, by omega, by omega, rfl, rfl, rfl, hid ⟨Turn.start Z k, Mul.start Z k V H⟩, hIH⟩
        case round =>
          clear hIH
          obtain ⟨i, b, c, Z1, hi, hb1, hc1, rfl, rfl, rfl, hTM, hI5⟩ := hrel
          by_cases hlt5 : i < m + 2
          · obtain ⟨ahi, alo, a1, a2, a3, a4⟩ := mul64_nat H (lmN V i) bG (lmN_lt _ _)
            obtain ⟨u1, v1, p1, p2, p3, p4⟩ := add64_nat0 alo c a2 hc1
            obtain ⟨u2, v2, r1, r2, r3, r4⟩ := sub64_nat (lmN Z1 (k + i)) u1 b (lmN_lt _ _) p1 hb1
            have hcs := step_fits H (lmN V i) c ahi alo u1 v1 bG (lmN_lt _ _) hc1 p1 a3 p3
            have HTM2 := hid (And.intro (hTM.out.1.set u2 r1) (hTM.out.2.step (hTM.out.1.up i (Nat.le_refl _)) r1 a3 p3 r3))
            have A4 := hid a4
            have cv5 := hI5.out.2.1.cell i hlt5
            have lv5 := hI5.out.2.1.lt
            clear a3 p3 r3 a4 hTM
            go_wp2_with fail
            refine (A4.out _).mono ?_
            rintro e w6 ⟨rfl, hb6⟩
            have hI6 := hid (hI5.out.next hb6)
            have cx6 := hI6.out.1.cell (k + i) (by omega)
            have fx6 := hI6.out.1.free (k + i)
            have lx6 := hI6.out.1.lt
            clear hI5 cv5 lv5 hb6 A4
            go_wp2_with fail
            go_roundw
            case rel => exact ⟨i + 1, v2, ahi + v1, setL Z1 (k + i) u2, by omega, r2, hcs, rfl, by go_num, by go_num, HTM2, hid (hI6.out.put hvg (k + i) u2 r1)⟩
            case measure => simp [intOf]; omega
          · obtain rfl : i = m + 2 := by omega
            obtain ⟨u3, v3, r1, r2, r3, r4⟩ := sub64_nat (lmN Z1 (k + (m + 2))) c b (lmN_lt _ _) hc1 hb1
            have HT3 := hid (hTM.out.1.set u3 r1)
            have HW3 := hid (hTM.out.2.last HV1.out (hTM.out.1.up (m + 2) (Nat.le_refl _)) r1 r3)
            have cx6 := hI5.out.1.cell (k + (m + 2)) (by omega)
            have fx6 := hI5.out.1.free (k + (m + 2))
            have lx6 := hI5.out.1.lt
            clear hTM hlt5 hi r3
            go_wp2_with fail
            have hI7 := hid (hI5.out.put hvg (k + (m + 2)) u3 r1)
            generalize wr.setCell ⟨g, k + (m + 2), none⟩ (.int .u64 (u3 : Int)) = w7 at hI7 ⊢
            clear hI5 cx6 fx6 lx6 r4
            go_loopw [6, 13] (fun gv bv wr7 => ∃ G3 b3 Z3 : Nat, G3 < 2 ^ 64 ∧ b3 ≤ 1 ∧ gv = .int .u64 (G3 : Int) ∧ bv = .int .u64 (b3 : Int) ∧ Hid (Turn Z Z3 k (m + 3) ∧ win Z3 k (m + 3) + G3 * V = win Z k (m + 3) + 2 ^ (64 * (m + 3)) * b3 ∧ win Z k (m + 3) / V ≤ G3) ∧ Hid (StI g k N (m + 2) Z V vb w wr7 Z3))
              (fun gv _ _ => (intOf gv).toNat)
            case atStart => exact ⟨H, v3, setL Z1 (k + (m + 2)) u3, bG, r2, rfl, rfl, hid ⟨HT3.out, HW3.out, hHq.out⟩, hI7⟩
            case round =>
              clear hI7 HT3 HW3
              obtain ⟨G3, b3, Z3, bG3, hb3, rfl, rfl, hF, hI8⟩ := hrel
              have hcase : b3 = 0 ∨ b3 = 1 := by omega
              rcases hcase with rfl | rfl
              · have hfin := step_done Z Z3 k (m + 2) V G3 hF.out.1 hF.out.2.1 HVp.out hF.out.2.2
                have HF1 := hid hfin.1
                have HF2 := hid hfin.2
                clear hfin hF
                go_wp2_with fail
                go_ret
                exact ⟨Z3, by rw [← HF1.out]; rfl, hI8.out.1, by rw [← HF1.out]; exact HF2.out, hI8.out.2.2⟩
              · have hag := step_again Z Z3 k (m + 2) V G3 hF.out.2.1 HVp.out
                obtain ⟨J, hJ⟩ : ∃ J, G3 = J + 1 := ⟨G3 - 1, by have := Nat.lt_of_le_of_lt (Nat.zero_le _) hag; omega⟩
                have hJi : (G3 : Int) - 1 = (J : Int) := by omega
                have hJ1 : 1 ≤ G3 := by omega
                have hJl : J < G3 := by omega
                have HJ := hid hJ
                have HAG := hid (show win Z k (m + 3) / V ≤ J from by have := hag; rw [hJ] at this; exact Nat.le_of_lt_succ this)
                clear hag hJ
                go_wp2_with fail
                go_loopw [19, 148] (fun cv iv wr8 => ∃ i c Z4 : Nat, i ≤ m + 2 ∧ c ≤ 1 ∧ cv = .int .u64 (c : Int) ∧ iv = .int .i64 (i : Int) ∧ Hid (Turn Z3 Z4 k i ∧ Adb Z3 Z4 k V i c) ∧ Hid (StI g k N (m + 2) Z V vb w wr8 Z4))
                  (fun _ iv _ => m + 2 - (intOf iv).toNat)
                case atStart => exact ⟨0, 0, Z3, by omega, by omega, rfl, rfl, hid ⟨Turn.start Z3 k, Adb.start Z3 k V⟩, hI8⟩
                case round =>
                  clear hI8
                  obtain ⟨i, c, Z4, hi, hc4, rfl, rfl, hTA, hI9⟩ := hrel
                  by_cases hlt9 : i < m + 2
                  · obtain ⟨u, v, p1, p2, p3, p4⟩ := add64_nat (lmN Z4 (k + i)) (lmN V i) c (lmN_lt _ _) (lmN_lt _ _) hc4
                    have HTA2 := hid (And.intro (hTA.out.1.set u p1) (hTA.out.2.step (hTA.out.1.up i (Nat.le_refl _)) p1 p3))
                    have cx9 := hI9.out.1.cell (k + i) (by omega)
                    have fx9 := hI9.out.1.free (k + i)
                    have lx9 := hI9.out.1.lt
                    have cv9 := hI9.out.2.1.cell i hlt9
                    have lv9 := hI9.out.2.1.lt
                    clear p3 hTA
                    go_wp2_with fail
                    (refine wp_region_ext_float 16 14 [0, 1, 2, 3, 4, 5, 6, 7, 8, 9, 10, 11, 12, 13, 15] [_, _, _, _, _, _, _, _, _, _, _, _, _, _, _] _ _ _ rfl rfl rfl rfl (by kernel_rfl) (by kernel_rfl) ?_; (repeat (go_big_quiet_step (first | fail))); refine wpQuiet_nil ?_; refine ⟨?_, ?_⟩; rotate_left; rintro _ ⟨xw, rfl⟩; rotate_left; (repeat (go_big_quiet_step (first | fail))); refine wpQuiet_nil ?_; rintro _ ⟨xw, rfl⟩)
                    all_goals
                      go_wp2_with fail
                      go_roundw
                      case rel => exact ⟨i + 1, v, setL Z4 (k + i) u, by omega, p2, rfl, by go_num, HTA2, hid ((hI9.out.ext xw).put hvg (k + i) u p1)⟩
                      case measure => simp [intOf]; omega
                  · obtain rfl : i = m + 2 := by omega
                    obtain ⟨u, v, p1, p2, p3, p4⟩ := add64_nat (lmN Z4 (k + (m + 2))) 0 c (lmN_lt _ _) (by omega) hc4
                    have HT5 := hid (hF.out.1.trans (hTA.out.1.set u p1))
                    have HW5 := hid (step_back Z Z3 (setL Z4 (k + (m + 2)) u) k (m + 2) V G3 v hJ1 p2 hF.out.2.1 (hTA.out.2.last HV1.out (hTA.out.1.up (m + 2) (Nat.le_refl _)) p1 p3))
                    have cx9 := hI9.out.1.cell (k + (m + 2)) (by omega)
                    have fx9 := hI9.out.1.free (k + (m + 2))
                    have lx9 := hI9.out.1.lt
                    have hv01 : (1 : Int) - (v : Int) = ((1 - v : Nat) : Int) := by omega
                    have p5 : ∀ w, (callFunc 65 #[.int .u64 ((lmN Z4 (k + (m + 2)) : Nat) : Int), .int .u64 0, .int .u64 (c : Int)]).run Try.prog w = .ok (.value (.tuple #[.int .u64 (u : Int), .int .u64 (v : Int)])) w := p4
                    clear p3 hTA hlt9 hi hF p4
                    go_wp2_with fail
                    go_roundw
                    case rel => exact ⟨J, 1 - v, setL Z4 (k + (m + 2)) u, by omega, by omega, by go_num, by go_num, hid ⟨HT5.out, by have := HW5.out; rw [HJ.out, Nat.add_sub_cancel] at this; exact this, HAG.out⟩, hid (hI9.out.put hvg (k + (m + 2)) u p1)⟩
                    case measure => simp [intOf]; omega
      · by_cases hb : mhi = R ∧ mlo ≤ lmN Z (k + m)
        · obtain ⟨hb1, hb2⟩ := hb
          subst hb1
          obtain ⟨H, hH⟩ : ∃ H, H = G := ⟨G, rfl⟩
          subst hH
          have hHq := hid hQ.out.1
          have hIH := hI2
          clear hQ hI2 cv1 m3 M4
          go_wp2_with fail
          (try simp only [show m + 2 - 1 = m + 1 from rfl])
          go_loopw [13, 14, 95] (fun bv cv iv wr5 => ∃ i b c Z1 : Nat, i ≤ m + 2 ∧ b ≤ 1 ∧ c < 2 ^ 64 ∧ bv = .int .u64 (b : Int) ∧ cv = .int .u64 (c : Int) ∧ iv = .int .i64 (i : Int) ∧ Hid (Turn Z Z1 k i ∧ Mul Z Z1 k V H i b c) ∧ Hid (StI g k N (m + 2) Z V vb w wr5 Z1))
            (fun _ _ iv _ => m + 2 - (intOf iv).toNat)
          case atStart => exact ⟨0, 0, 0, Z, by omega, by omega, by omega, rfl, rfl, rfl, hid ⟨Turn.start Z k, Mul.start Z k V H⟩, hIH⟩
          case round =>
            clear hIH
            obtain ⟨i, b, c, Z1, hi, hb1, hc1, rfl, rfl, rfl, hTM, hI5⟩ := hrel
            by_cases hlt5 : i < m + 2
            · obtain ⟨ahi, alo, a1, a2, a3, a4⟩ := mul64_nat H (lmN V i) bG (lmN_lt _ _)
              obtain ⟨u1, v1, p1, p2, p3, p4⟩ := add64_nat0 alo c a2 hc1
              obtain ⟨u2, v2, r1, r2, r3, r4⟩ := sub64_nat (lmN Z1 (k + i)) u1 b (lmN_lt _ _) p1 hb1
              have hcs := step_fits H (lmN V i) c ahi alo u1 v1 bG (lmN_lt _ _) hc1 p1 a3 p3
              have HTM2 := hid (And.intro (hTM.out.1.set u2 r1) (hTM.out.2.step (hTM.out.1.up i (Nat.le_refl _)) r1 a3 p3 r3))
              have A4 := hid a4
              have cv5 := hI5.out.2.1.cell i hlt5
              have lv5 := hI5.out.2.1.lt
              clear a3 p3 r3 a4 hTM
              go_wp2_with fail
              refine (A4.out _).mono ?_
              rintro e w6 ⟨rfl, hb6⟩
              have hI6 := hid (hI5.out.next hb6)
              have cx6 := hI6.out.1.cell (k + i) (by omega)
              have fx6 := hI6.out.1.free (k + i)
              have lx6 := hI6.out.1.lt
              clear hI5 cv5 lv5 hb6 A4
              go_wp2_with fail
              go_roundw
              case rel => exact ⟨i + 1, v2, ahi + v1, setL Z1 (k + i) u2, by omega, r2, hcs, rfl, by go_num, by go_num, HTM2, hid (hI6.out.put hvg (k + i) u2 r1)⟩
              case measure => simp [intOf]; omega
            · obtain rfl : i = m + 2 := by omega
              obtain ⟨u3, v3, r1, r2, r3, r4⟩ := sub64_nat (lmN Z1 (k + (m + 2))) c b (lmN_lt _ _) hc1 hb1
              have HT3 := hid (hTM.out.1.set u3 r1)
              have HW3 := hid (hTM.out.2.last HV1.out (hTM.out.1.up (m + 2) (Nat.le_refl _)) r1 r3)
              have cx6 := hI5.out.1.cell (k + (m + 2)) (by omega)
              have fx6 := hI5.out.1.free (k + (m + 2))
              have lx6 := hI5.out.1.lt
              clear hTM hlt5 hi r3
              go_wp2_with fail
              have hI7 := hid (hI5.out.put hvg (k + (m + 2)) u3 r1)
              generalize wr.setCell ⟨g, k + (m + 2), none⟩ (.int .u64 (u3 : Int)) = w7 at hI7 ⊢
              clear hI5 cx6 fx6 lx6 r4
              go_loopw [6, 13] (fun gv bv wr7 => ∃ G3 b3 Z3 : Nat, G3 < 2 ^ 64 ∧ b3 ≤ 1 ∧ gv = .int .u64 (G3 : Int) ∧ bv = .int .u64 (b3 : Int) ∧ Hid (Turn Z Z3 k (m + 3) ∧ win Z3 k (m + 3) + G3 * V = win Z k (m + 3) + 2 ^ (64 * (m + 3)) * b3 ∧ win Z k (m + 3) / V ≤ G3) ∧ Hid (StI g k N (m + 2) Z V vb w wr7 Z3))
                (fun gv _ _ => (intOf gv).toNat)
              case atStart => exact ⟨H, v3, setL Z1 (k + (m + 2)) u3, bG, r2, rfl, rfl, hid ⟨HT3.out, HW3.out, hHq.out⟩, hI7⟩
              case round =>
                clear hI7 HT3 HW3
                obtain ⟨G3, b3, Z3, bG3, hb3, rfl, rfl, hF, hI8⟩ := hrel
                have hcase : b3 = 0 ∨ b3 = 1 := by omega
                rcases hcase with rfl | rfl
                · have hfin := step_done Z Z3 k (m + 2) V G3 hF.out.1 hF.out.2.1 HVp.out hF.out.2.2
                  have HF1 := hid hfin.1
                  have HF2 := hid hfin.2
                  clear hfin hF
                  go_wp2_with fail
                  go_ret
                  exact ⟨Z3, by rw [← HF1.out]; rfl, hI8.out.1, by rw [← HF1.out]; exact HF2.out, hI8.out.2.2⟩
                · have hag := step_again Z Z3 k (m + 2) V G3 hF.out.2.1 HVp.out
                  obtain ⟨J, hJ⟩ : ∃ J, G3 = J + 1 := ⟨G3 - 1, by have := Nat.lt_of_le_of_lt (Nat.zero_le _) hag; omega⟩
                  have hJi : (G3 : Int) - 1 = (J : Int) := by omega
                  have hJ1 : 1 ≤ G3 := by omega
                  have hJl : J < G3 := by omega
                  have HJ := hid hJ
                  have HAG := hid (show win Z k (m + 3) / V ≤ J from by have := hag; rw [hJ] at this; exact Nat.le_of_lt_succ this)
                  clear hag hJ
                  go_wp2_with fail
                  go_loopw [19, 148] (fun cv iv wr8 => ∃ i c Z4 : Nat, i ≤ m + 2 ∧ c ≤ 1 ∧ cv = .int .u64 (c : Int) ∧ iv = .int .i64 (i : Int) ∧ Hid (Turn Z3 Z4 k i ∧ Adb Z3 Z4 k V i c) ∧ Hid (StI g k N (m + 2) Z V vb w wr8 Z4))
                    (fun _ iv _ => m + 2 - (intOf iv).toNat)
                  case atStart => exact ⟨0, 0, Z3, by omega, by omega, rfl, rfl, hid ⟨Turn.start Z3 k, Adb.start Z3 k V⟩, hI8⟩
                  case round =>
                    clear hI8
                    obtain ⟨i, c, Z4, hi, hc4, rfl, rfl, hTA, hI9⟩ := hrel
                    by_cases hlt9 : i < m + 2
                    · obtain ⟨u, v, p1, p2, p3, p4⟩ := add64_nat (lmN Z4 (k + i)) (lmN V i) c (lmN_lt _ _) (lmN_lt _ _) hc4
                      have HTA2 := hid (And.intro (hTA.out.1.set u p1) (hTA.out.2.step (hTA.out.1.up i (Nat.le_refl _)) p1 p3))
                      have cx9 := hI9.out.1.cell (k + i) (by omega)
                      have fx9 := hI9.out.1.free (k + i)
                      have lx9 := hI9.out.1.lt
                      have cv9 := hI9.out.2.1.cell i hlt9
                      have lv9 := hI9.out.2.1.lt
                      clear p3 hTA
                      go_wp2_with fail
                      (refine wp_region_ext_float 16 14 [0, 1, 2, 3, 4, 5, 6, 7, 8, 9, 10, 11, 12, 13, 15] [_, _, _, _, _, _, _, _, _, _, _, _, _, _, _] _ _ _ rfl rfl rfl rfl (by kernel_rfl) (by kernel_rfl) ?_; (repeat (go_big_quiet_step (first | fail))); refine wpQuiet_nil ?_; refine ⟨?_, ?_⟩; rotate_left; rintro _ ⟨xw, rfl⟩; rotate_left; (repeat (go_big_quiet_step (first | fail))); refine wpQuiet_nil ?_; rintro _ ⟨xw, rfl⟩)
                      all_goals
                        go_wp2_with fail
                        go_roundw
                        case rel => exact ⟨i + 1, v, setL Z4 (k + i) u, by omega, p2, rfl, by go_num, HTA2, hid ((hI9.out.ext xw).put hvg (k + i) u p1)⟩
                        case measure => simp [intOf]; omega
                    · obtain rfl : i = m + 2 := by omega
                      obtain ⟨u, v, p1, p2, p3, p4⟩ := add64_nat (lmN Z4 (k + (m + 2))) 0 c (lmN_lt _ _) (by omega) hc4
                      have HT5 := hid (hF.out.1.trans (hTA.out.1.set u p1))
                      have HW5 := hid (step_back Z Z3 (setL Z4 (k + (m + 2)) u) k (m + 2) V G3 v hJ1 p2 hF.out.2.1 (hTA.out.2.last HV1.out (hTA.out.1.up (m + 2) (Nat.le_refl _)) p1 p3))
                      have cx9 := hI9.out.1.cell (k + (m + 2)) (by omega)
                      have fx9 := hI9.out.1.free (k + (m + 2))
                      have lx9 := hI9.out.1.lt
                      have hv01 : (1 : Int) - (v : Int) = ((1 - v : Nat) : Int) := by omega
                      have p5 : ∀ w, (callFunc 65 #[.int .u64 ((lmN Z4 (k + (m + 2)) : Nat) : Int), .int .u64 0, .int .u64 (c : Int)]).run Try.prog w = .ok (.value (.tuple #[.int .u64 (u : Int), .int .u64 (v : Int)])) w := p4
                      clear p3 hTA hlt9 hi hF p4
                      go_wp2_with fail
                      go_roundw
                      case rel => exact ⟨J, 1 - v, setL Z4 (k + (m + 2)) u, by omega, by omega, by go_num, by go_num, hid ⟨HT5.out, by have := HW5.out; rw [HJ.out, Nat.add_sub_cancel] at this; exact this, HAG.out⟩, hid (hI9.out.put hvg (k + (m + 2)) u p1)⟩
                      case measure => simp [intOf]; omega
        · have hgt : R * 2 ^ 64 + lmN (win Z k (m + 3)) m < G * lmN V m := by rw [hX0.out, m3]; omega
          have hVt : V / 2 ^ (64 * (m + 1)) = lmN V (m + 1) := by
            unfold lmN
            rw [Nat.mod_eq_of_lt]
            rw [Nat.div_lt_iff_lt_mul (Nat.pow_pos (by omega)), Nat.mul_comm, ← pow64_succ]
            exact HV1.out
          have hmore := guess_more (win Z k (m + 3)) V m _ G R rfl HVp.out (by rw [hVt]; exact hQ.out.2) hgt
          obtain ⟨H, hH⟩ : ∃ H, G = H + 1 := ⟨G - 1, by have := Nat.lt_of_le_of_lt (Nat.zero_le _) hmore; omega⟩
          obtain ⟨u, v, p1, p2, p3, p4⟩ := add64_nat0 R (lmN V (m + 1)) bR gv1
          have hHq := hid (show win Z k (m + 3) / V ≤ H by rw [hH] at hmore; exact Nat.le_of_lt_succ hmore)
          have hHs := hid (show v = 0 → win Z k (m + 3) / 2 ^ (64 * (m + 1)) = H * lmN V (m + 1) + u from fun hv => by
            rw [hv] at p3
            rw [hQ.out.2, hH, Nat.add_mul, Nat.one_mul]; omega)
          have hHi : (G : Int) - 1 = (H : Int) := by omega
          have hGH : H < G := by omega
          have hG1 : 1 ≤ G := by omega
          have bGG := bG
          have bG : H < 2 ^ 64 := by omega
          have hjoin : ¬ mhi = R ∨ (mhi = R ∧ ¬ mlo ≤ lmN Z (k + m)) := by omega
          clear hQ hmore hgt hVt m3 M4 p3 hb hH
          have hv01 : v = 0 ∨ v = 1 := by omega
          rcases hjoin with he | ⟨he, he2⟩
          · rcases hv01 with hv0 | hv1
            · have p5 : ∀ w, (callFunc 65 #[.int .u64 (R : Int), .int .u64 ((lmN V (m + 1) : Nat) : Int), .int .u64 0]).run Try.prog w = .ok (.value (.tuple #[.int .u64 (u : Int), .int .u64 0])) w := fun w => by rw [p4 w, hv0]; rfl
              have hHs2 := hid (hHs.out hv0)
              clear p4 hv0 hHs
              go_wp2_with fail
              go_roundw
              case rel => exact ⟨H, u, by go_num, rfl, bG, p1, hid ⟨hHq.out, hHs2.out⟩, hI2⟩
              case measure => simp [intOf]; omega
            · have p5 : ∀ w, (callFunc 65 #[.int .u64 (R : Int), .int .u64 ((lmN V (m + 1) : Nat) : Int), .int .u64 0]).run Try.prog w = .ok (.value (.tuple #[.int .u64 (u : Int), .int .u64 1])) w := fun w => by rw [p4 w, hv1]; rfl
              have hIH := hI2
              clear hI2 hHs p4 hv1
              go_wp2_with fail
              (try simp only [show m + 2 - 1 = m + 1 from rfl])
              go_loopw [13, 14, 95] (fun bv cv iv wr5 => ∃ i b c Z1 : Nat, i ≤ m + 2 ∧ b ≤ 1 ∧ c < 2 ^ 64 ∧ bv = .int .u64 (b : Int) ∧ cv = .int .u64 (c : Int) ∧ iv = .int .i64 (i : Int) ∧ Hid (Turn Z Z1 k i ∧ Mul Z Z1 k V H i b c) ∧ Hid (StI g k N (m + 2) Z V vb w wr5 Z1))
                (fun _ _ iv _ => m + 2 - (intOf iv).toNat)
              case atStart => exact ⟨0, 0, 0, Z, by omega, by omega, by omega, rfl, rfl, rfl, hid ⟨Turn.start Z k, Mul.start Z k V H⟩, hIH⟩
              case round =>
                clear hIH
                obtain ⟨i, b, c, Z1, hi, hb1, hc1, rfl, rfl, rfl, hTM, hI5⟩ := hrel
                by_cases hlt5 : i < m + 2
                · obtain ⟨ahi, alo, a1, a2, a3, a4⟩ := mul64_nat H (lmN V i) bG (lmN_lt _ _)
                  obtain ⟨u1, v1, p1, p2, p3, p4⟩ := add64_nat0 alo c a2 hc1
                  obtain ⟨u2, v2, r1, r2, r3, r4⟩ := sub64_nat (lmN Z1 (k + i)) u1 b (lmN_lt _ _) p1 hb1
                  have hcs := step_fits H (lmN V i) c ahi alo u1 v1 bG (lmN_lt _ _) hc1 p1 a3 p3
                  have HTM2 := hid (And.intro (hTM.out.1.set u2 r1) (hTM.out.2.step (hTM.out.1.up i (Nat.le_refl _)) r1 a3 p3 r3))
                  have A4 := hid a4
                  have cv5 := hI5.out.2.1.cell i hlt5
                  have lv5 := hI5.out.2.1.lt
                  clear a3 p3 r3 a4 hTM
                  go_wp2_with fail
                  refine (A4.out _).mono ?_
                  rintro e w6 ⟨rfl, hb6⟩
                  have hI6 := hid (hI5.out.next hb6)
                  have cx6 := hI6.out.1.cell (k + i) (by omega)
                  have fx6 := hI6.out.1.free (k + i)
                  have lx6 := hI6.out.1.lt
                  clear hI5 cv5 lv5 hb6 A4
                  go_wp2_with fail
                  go_roundw
                  case rel => exact ⟨i + 1, v2, ahi + v1, setL Z1 (k + i) u2, by omega, r2, hcs, rfl, by go_num, by go_num, HTM2, hid (hI6.out.put hvg (k + i) u2 r1)⟩
                  case measure => simp [intOf]; omega
                · obtain rfl : i = m + 2 := by omega
                  obtain ⟨u3, v3, r1, r2, r3, r4⟩ := sub64_nat (lmN Z1 (k + (m + 2))) c b (lmN_lt _ _) hc1 hb1
                  have HT3 := hid (hTM.out.1.set u3 r1)
                  have HW3 := hid (hTM.out.2.last HV1.out (hTM.out.1.up (m + 2) (Nat.le_refl _)) r1 r3)
                  have cx6 := hI5.out.1.cell (k + (m + 2)) (by omega)
                  have fx6 := hI5.out.1.free (k + (m + 2))
                  have lx6 := hI5.out.1.lt
                  clear hTM hlt5 hi r3
                  go_wp2_with fail
                  have hI7 := hid (hI5.out.put hvg (k + (m + 2)) u3 r1)
                  generalize wr.setCell ⟨g, k + (m + 2), none⟩ (.int .u64 (u3 : Int)) = w7 at hI7 ⊢
                  clear hI5 cx6 fx6 lx6 r4
                  go_loopw [6, 13] (fun gv bv wr7 => ∃ G3 b3 Z3 : Nat, G3 < 2 ^ 64 ∧ b3 ≤ 1 ∧ gv = .int .u64 (G3 : Int) ∧ bv = .int .u64 (b3 : Int) ∧ Hid (Turn Z Z3 k (m + 3) ∧ win Z3 k (m + 3) + G3 * V = win Z k (m + 3) + 2 ^ (64 * (m + 3)) * b3 ∧ win Z k (m + 3) / V ≤ G3) ∧ Hid (StI g k N (m + 2) Z V vb w wr7 Z3))
                    (fun gv _ _ => (intOf gv).toNat)
                  case atStart => exact ⟨H, v3, setL Z1 (k + (m + 2)) u3, bG, r2, rfl, rfl, hid ⟨HT3.out, HW3.out, hHq.out⟩, hI7⟩
                  case round =>
                    clear hI7 HT3 HW3
                    obtain ⟨G3, b3, Z3, bG3, hb3, rfl, rfl, hF, hI8⟩ := hrel
                    have hcase : b3 = 0 ∨ b3 = 1 := by omega
                    rcases hcase with rfl | rfl
                    · have hfin := step_done Z Z3 k (m + 2) V G3 hF.out.1 hF.out.2.1 HVp.out hF.out.2.2
                      have HF1 := hid hfin.1
                      have HF2 := hid hfin.2
                      clear hfin hF
                      go_wp2_with fail
                      go_ret
                      exact ⟨Z3, by rw [← HF1.out]; rfl, hI8.out.1, by rw [← HF1.out]; exact HF2.out, hI8.out.2.2⟩
                    · have hag := step_again Z Z3 k (m + 2) V G3 hF.out.2.1 HVp.out
                      obtain ⟨J, hJ⟩ : ∃ J, G3 = J + 1 := ⟨G3 - 1, by have := Nat.lt_of_le_of_lt (Nat.zero_le _) hag; omega⟩
                      have hJi : (G3 : Int) - 1 = (J : Int) := by omega
                      have hJ1 : 1 ≤ G3 := by omega
                      have hJl : J < G3 := by omega
                      have HJ := hid hJ
                      have HAG := hid (show win Z k (m + 3) / V ≤ J from by have := hag; rw [hJ] at this; exact Nat.le_of_lt_succ this)
                      clear hag hJ
                      go_wp2_with fail
                      go_loopw [19, 148] (fun cv iv wr8 => ∃ i c Z4 : Nat, i ≤ m + 2 ∧ c ≤ 1 ∧ cv = .int .u64 (c : Int) ∧ iv = .int .i64 (i : Int) ∧ Hid (Turn Z3 Z4 k i ∧ Adb Z3 Z4 k V i c) ∧ Hid (StI g k N (m + 2) Z V vb w wr8 Z4))
                        (fun _ iv _ => m + 2 - (intOf iv).toNat)
                      case atStart => exact ⟨0, 0, Z3, by omega, by omega, rfl, rfl, hid ⟨Turn.start Z3 k, Adb.start Z3 k V⟩, hI8⟩
                      case round =>
                        clear hI8
                        obtain ⟨i, c, Z4, hi, hc4, rfl, rfl, hTA, hI9⟩ := hrel
                        by_cases hlt9 : i < m + 2
                        · obtain ⟨u, v, p1, p2, p3, p4⟩ := add64_nat (lmN Z4 (k + i)) (lmN V i) c (lmN_lt _ _) (lmN_lt _ _) hc4
                          have HTA2 := hid (And.intro (hTA.out.1.set u p1) (hTA.out.2.step (hTA.out.1.up i (Nat.le_refl _)) p1 p3))
                          have cx9 := hI9.out.1.cell (k + i) (by omega)
                          have fx9 := hI9.out.1.free (k + i)
                          have lx9 := hI9.out.1.lt
                          have cv9 := hI9.out.2.1.cell i hlt9
                          have lv9 := hI9.out.2.1.lt
                          clear p3 hTA
                          go_wp2_with fail
                          (refine wp_region_ext_float 16 14 [0, 1, 2, 3, 4, 5, 6, 7, 8, 9, 10, 11, 12, 13, 15] [_, _, _, _, _, _, _, _, _, _, _, _, _, _, _] _ _ _ rfl rfl rfl rfl (by kernel_rfl) (by kernel_rfl) ?_; (repeat (go_big_quiet_step (first | fail))); refine wpQuiet_nil ?_; refine ⟨?_, ?_⟩; rotate_left; rintro _ ⟨xw, rfl⟩; rotate_left; (repeat (go_big_quiet_step (first | fail))); refine wpQuiet_nil ?_; rintro _ ⟨xw, rfl⟩)
                          all_goals
                            go_wp2_with fail
                            go_roundw
                            case rel => exact ⟨i + 1, v, setL Z4 (k + i) u, by omega, p2, rfl, by go_num, HTA2, hid ((hI9.out.ext xw).put hvg (k + i) u p1)⟩
                            case measure => simp [intOf]; omega
                        · obtain rfl : i = m + 2 := by omega
                          obtain ⟨u, v, p1, p2, p3, p4⟩ := add64_nat (lmN Z4 (k + (m + 2))) 0 c (lmN_lt _ _) (by omega) hc4
                          have HT5 := hid (hF.out.1.trans (hTA.out.1.set u p1))
                          have HW5 := hid (step_back Z Z3 (setL Z4 (k + (m + 2)) u) k (m + 2) V G3 v hJ1 p2 hF.out.2.1 (hTA.out.2.last HV1.out (hTA.out.1.up (m + 2) (Nat.le_refl _)) p1 p3))
                          have cx9 := hI9.out.1.cell (k + (m + 2)) (by omega)
                          have fx9 := hI9.out.1.free (k + (m + 2))
                          have lx9 := hI9.out.1.lt
                          have hv01 : (1 : Int) - (v : Int) = ((1 - v : Nat) : Int) := by omega
                          have p5 : ∀ w, (callFunc 65 #[.int .u64 ((lmN Z4 (k + (m + 2)) : Nat) : Int), .int .u64 0, .int .u64 (c : Int)]).run Try.prog w = .ok (.value (.tuple #[.int .u64 (u : Int), .int .u64 (v : Int)])) w := p4
                          clear p3 hTA hlt9 hi hF p4
                          go_wp2_with fail
                          go_roundw
                          case rel => exact ⟨J, 1 - v, setL Z4 (k + (m + 2)) u, by omega, by omega, by go_num, by go_num, hid ⟨HT5.out, by have := HW5.out; rw [HJ.out, Nat.add_sub_cancel] at this; exact this, HAG.out⟩, hid (hI9.out.put hvg (k + (m + 2)) u p1)⟩
                          case measure => simp [intOf]; omega
          · subst he
            rcases hv01 with hv0 | hv1
            · have p5 : ∀ w, (callFunc 65 #[.int .u64 (mhi : Int), .int .u64 ((lmN V (m + 1) : Nat) : Int), .int .u64 0]).run Try.prog w = .ok (.value (.tuple #[.int .u64 (u : Int), .int .u64 0])) w := fun w => by rw [p4 w, hv0]; rfl
              have hHs2 := hid (hHs.out hv0)
              clear p4 hv0 hHs
              go_wp2_with fail
              go_roundw
              case rel => exact ⟨H, u, by go_num, rfl, bG, p1, hid ⟨hHq.out, hHs2.out⟩, hI2⟩
              case measure => simp [intOf]; omega
            · have p5 : ∀ w, (callFunc 65 #[.int .u64 (mhi : Int), .int .u64 ((lmN V (m + 1) : Nat) : Int), .int .u64 0]).run Try.prog w = .ok (.value (.tuple #[.int .u64 (u : Int), .int .u64 1])) w := fun w => by rw [p4 w, hv1]; rfl
              have hIH := hI2
              clear hI2 hHs p4 hv1
              go_wp2_with fail
              (try simp only [show m + 2 - 1 = m + 1 from rfl])
              go_loopw [13, 14, 95] (fun bv cv iv wr5 => ∃ i b c Z1 : Nat, i ≤ m + 2 ∧ b ≤ 1 ∧ c < 2 ^ 64 ∧ bv = .int .u64 (b : Int) ∧ cv = .int .u64 (c : Int) ∧ iv = .int .i64 (i : Int) ∧ Hid (Turn Z Z1 k i ∧ Mul Z Z1 k V H i b c) ∧ Hid (StI g k N (m + 2) Z V vb w wr5 Z1))
                (fun _ _ iv _ => m + 2 - (intOf iv).toNat)
              case atStart => exact ⟨0, 0, 0, Z, by omega, by omega, by omega, rfl, rfl, rfl, hid ⟨Turn.start Z k, Mul.start Z k V H⟩, hIH⟩
              case round =>
                clear hIH
                obtain ⟨i, b, c, Z1, hi, hb1, hc1, rfl, rfl, rfl, hTM, hI5⟩ := hrel
                by_cases hlt5 : i < m + 2
                · obtain ⟨ahi, alo, a1, a2, a3, a4⟩ := mul64_nat H (lmN V i) bG (lmN_lt _ _)
                  obtain ⟨u1, v1, p1, p2, p3, p4⟩ := add64_nat0 alo c a2 hc1
                  obtain ⟨u2, v2, r1, r2, r3, r4⟩ := sub64_nat (lmN Z1 (k + i)) u1 b (lmN_lt _ _) p1 hb1
                  have hcs := step_fits H (lmN V i) c ahi alo u1 v1 bG (lmN_lt _ _) hc1 p1 a3 p3
                  have HTM2 := hid (And.intro (hTM.out.1.set u2 r1) (hTM.out.2.step (hTM.out.1.up i (Nat.le_refl _)) r1 a3 p3 r3))
                  have A4 := hid a4
                  have cv5 := hI5.out.2.1.cell i hlt5
                  have lv5 := hI5.out.2.1.lt
                  clear a3 p3 r3 a4 hTM
                  go_wp2_with fail
                  refine (A4.out _).mono ?_
                  rintro e w6 ⟨rfl, hb6⟩
                  have hI6 := hid (hI5.out.next hb6)
                  have cx6 := hI6.out.1.cell (k + i) (by omega)
                  have fx6 := hI6.out.1.free (k + i)
                  have lx6 := hI6.out.1.lt
                  clear hI5 cv5 lv5 hb6 A4
                  go_wp2_with fail
                  go_roundw
                  case rel => exact ⟨i + 1, v2, ahi + v1, setL Z1 (k + i) u2, by omega, r2, hcs, rfl, by go_num, by go_num, HTM2, hid (hI6.out.put hvg (k + i) u2 r1)⟩
                  case measure => simp [intOf]; omega
                · obtain rfl : i = m + 2 := by omega
                  obtain ⟨u3, v3, r1, r2, r3, r4⟩ := sub64_nat (lmN Z1 (k + (m + 2))) c b (lmN_lt _ _) hc1 hb1
                  have HT3 := hid (hTM.out.1.set u3 r1)
                  have HW3 := hid (hTM.out.2.last HV1.out (hTM.out.1.up (m + 2) (Nat.le_refl _)) r1 r3)
                  have cx6 := hI5.out.1.cell (k + (m + 2)) (by omega)
                  have fx6 := hI5.out.1.free (k + (m + 2))
                  have lx6 := hI5.out.1.lt
                  clear hTM hlt5 hi r3
                  go_wp2_with fail
                  have hI7 := hid (hI5.out.put hvg (k + (m + 2)) u3 r1)
                  generalize wr.setCell ⟨g, k + (m + 2), none⟩ (.int .u64 (u3 : Int)) = w7 at hI7 ⊢
                  clear hI5 cx6 fx6 lx6 r4
                  go_loopw [6, 13] (fun gv bv wr7 => ∃ G3 b3 Z3 : Nat, G3 < 2 ^ 64 ∧ b3 ≤ 1 ∧ gv = .int .u64 (G3 : Int) ∧ bv = .int .u64 (b3 : Int) ∧ Hid (Turn Z Z3 k (m + 3) ∧ win Z3 k (m + 3) + G3 * V = win Z k (m + 3) + 2 ^ (64 * (m + 3)) * b3 ∧ win Z k (m + 3) / V ≤ G3) ∧ Hid (StI g k N (m + 2) Z V vb w wr7 Z3))
                    (fun gv _ _ => (intOf gv).toNat)
                  case atStart => exact ⟨H, v3, setL Z1 (k + (m + 2)) u3, bG, r2, rfl, rfl, hid ⟨HT3.out, HW3.out, hHq.out⟩, hI7⟩
                  case round =>
                    clear hI7 HT3 HW3
                    obtain ⟨G3, b3, Z3, bG3, hb3, rfl, rfl, hF, hI8⟩ := hrel
                    have hcase : b3 = 0 ∨ b3 = 1 := by omega
                    rcases hcase with rfl | rfl
                    · have hfin := step_done Z Z3 k (m + 2) V G3 hF.out.1 hF.out.2.1 HVp.out hF.out.2.2
                      have HF1 := hid hfin.1
                      have HF2 := hid hfin.2
                      clear hfin hF
                      go_wp2_with fail
                      go_ret
                      exact ⟨Z3, by rw [← HF1.out]; rfl, hI8.out.1, by rw [← HF1.out]; exact HF2.out, hI8.out.2.2⟩
                    · have hag := step_again Z Z3 k (m + 2) V G3 hF.out.2.1 HVp.out
                      obtain ⟨J, hJ⟩ : ∃ J, G3 = J + 1 := ⟨G3 - 1, by have := Nat.lt_of_le_of_lt (Nat.zero_le _) hag; omega⟩
                      have hJi : (G3 : Int) - 1 = (J : Int) := by omega
                      have hJ1 : 1 ≤ G3 := by omega
                      have hJl : J < G3 := by omega
                      have HJ := hid hJ
                      have HAG := hid (show win Z k (m + 3) / V ≤ J from by have := hag; rw [hJ] at this; exact Nat.le_of_lt_succ this)
                      clear hag hJ
                      go_wp2_with fail
                      go_loopw [19, 148] (fun cv iv wr8 => ∃ i c Z4 : Nat, i ≤ m + 2 ∧ c ≤ 1 ∧ cv = .int .u64 (c : Int) ∧ iv = .int .i64 (i : Int) ∧ Hid (Turn Z3 Z4 k i ∧ Adb Z3 Z4 k V i c) ∧ Hid (StI g k N (m + 2) Z V vb w wr8 Z4))
                        (fun _ iv _ => m + 2 - (intOf iv).toNat)
                      case atStart => exact ⟨0, 0, Z3, by omega, by omega, rfl, rfl, hid ⟨Turn.start Z3 k, Adb.start Z3 k V⟩, hI8⟩
                      case round =>
                        clear hI8
                        obtain ⟨i, c, Z4, hi, hc4, rfl, rfl, hTA, hI9⟩ := hrel
                        by_cases hlt9 : i < m + 2
                        · obtain ⟨u, v, p1, p2, p3, p4⟩ := add64_nat (lmN Z4 (k + i)) (lmN V i) c (lmN_lt _ _) (lmN_lt _ _) hc4
                          have HTA2 := hid (And.intro (hTA.out.1.set u p1) (hTA.out.2.step (hTA.out.1.up i (Nat.le_refl _)) p1 p3))
                          have cx9 := hI9.out.1.cell (k + i) (by omega)
                          have fx9 := hI9.out.1.free (k + i)
                          have lx9 := hI9.out.1.lt
                          have cv9 := hI9.out.2.1.cell i hlt9
                          have lv9 := hI9.out.2.1.lt
                          clear p3 hTA
                          go_wp2_with fail
                          (refine wp_region_ext_float 16 14 [0, 1, 2, 3, 4, 5, 6, 7, 8, 9, 10, 11, 12, 13, 15] [_, _, _, _, _, _, _, _, _, _, _, _, _, _, _] _ _ _ rfl rfl rfl rfl (by kernel_rfl) (by kernel_rfl) ?_; (repeat (go_big_quiet_step (first | fail))); refine wpQuiet_nil ?_; refine ⟨?_, ?_⟩; rotate_left; rintro _ ⟨xw, rfl⟩; rotate_left; (repeat (go_big_quiet_step (first | fail))); refine wpQuiet_nil ?_; rintro _ ⟨xw, rfl⟩)
                          all_goals
                            go_wp2_with fail
                            go_roundw
                            case rel => exact ⟨i + 1, v, setL Z4 (k + i) u, by omega, p2, rfl, by go_num, HTA2, hid ((hI9.out.ext xw).put hvg (k + i) u p1)⟩
                            case measure => simp [intOf]; omega
                        · obtain rfl : i = m + 2 := by omega
                          obtain ⟨u, v, p1, p2, p3, p4⟩ := add64_nat (lmN Z4 (k + (m + 2))) 0 c (lmN_lt _ _) (by omega) hc4
                          have HT5 := hid (hF.out.1.trans (hTA.out.1.set u p1))
                          have HW5 := hid (step_back Z Z3 (setL Z4 (k + (m + 2)) u) k (m + 2) V G3 v hJ1 p2 hF.out.2.1 (hTA.out.2.last HV1.out (hTA.out.1.up (m + 2) (Nat.le_refl _)) p1 p3))
                          have cx9 := hI9.out.1.cell (k + (m + 2)) (by omega)
                          have fx9 := hI9.out.1.free (k + (m + 2))
                          have lx9 := hI9.out.1.lt
                          have hv01 : (1 : Int) - (v : Int) = ((1 - v : Nat) : Int) := by omega
                          have p5 : ∀ w, (callFunc 65 #[.int .u64 ((lmN Z4 (k + (m + 2)) : Nat) : Int), .int .u64 0, .int .u64 (c : Int)]).run Try.prog w = .ok (.value (.tuple #[.int .u64 (u : Int), .int .u64 (v : Int)])) w := p4
                          clear p3 hTA hlt9 hi hF p4
                          go_wp2_with fail
                          go_roundw
                          case rel => exact ⟨J, 1 - v, setL Z4 (k + (m + 2)) u, by omega, by omega, by go_num, by go_num, hid ⟨HT5.out, by have := HW5.out; rw [HJ.out, Nat.add_sub_cancel] at this; exact this, HAG.out⟩, hid (hI9.out.put hvg (k + (m + 2)) u p1)⟩
                          case measure => simp [intOf]; omega
  · obtain ⟨H, hH⟩ : ∃ H : Nat, H = 18446744073709551615 := ⟨_, rfl⟩
    have hHi : (18446744073709551615 : Int) = (H : Int) := by omega
    have bG : H < 2 ^ 64 := by omega
    have hHq := hid (show win Z k (m + 3) / V ≤ H by have := hqb.out; omega)
    have hIH := hid (HI.out.ext xw)
    have hge : ¬ lmN Z (k + (m + 2)) < lmN V (m + 1) := htop
    rw [hHi]
    clear hH hHi c1 c2 c3 HI hqb l1 l2
    simp only [decide_eq_false hge, show m + 2 - 1 = m + 1 from rfl]
    clear hge htop
    generalize w.ext xw = w1 at hIH ⊢
    go_wp2_with fail
    (try simp only [show m + 2 - 1 = m + 1 from rfl])
    go_loopw [13, 14, 95] (fun bv cv iv wr5 => ∃ i b c Z1 : Nat, i ≤ m + 2 ∧ b ≤ 1 ∧ c < 2 ^ 64 ∧ bv = .int .u64 (b : Int) ∧ cv = .int .u64 (c : Int) ∧ iv = .int .i64 (i : Int) ∧ Hid (Turn Z Z1 k i ∧ Mul Z Z1 k V H i b c) ∧ Hid (StI g k N (m + 2) Z V vb w wr5 Z1))
      (fun _ _ iv _ => m + 2 - (intOf iv).toNat)
    case atStart => exact ⟨0, 0, 0, Z, by omega, by omega, by omega, rfl, rfl, rfl, hid ⟨Turn.start Z k, Mul.start Z k V H⟩, hIH⟩
    case round =>
      clear hIH
      obtain ⟨i, b, c, Z1, hi, hb1, hc1, rfl, rfl, rfl, hTM, hI5⟩ := hrel
      by_cases hlt5 : i < m + 2
      · obtain ⟨ahi, alo, a1, a2, a3, a4⟩ := mul64_nat H (lmN V i) bG (lmN_lt _ _)
        obtain ⟨u1, v1, p1, p2, p3, p4⟩ := add64_nat0 alo c a2 hc1
        obtain ⟨u2, v2, r1, r2, r3, r4⟩ := sub64_nat (lmN Z1 (k + i)) u1 b (lmN_lt _ _) p1 hb1
        have hcs := step_fits H (lmN V i) c ahi alo u1 v1 bG (lmN_lt _ _) hc1 p1 a3 p3
        have HTM2 := hid (And.intro (hTM.out.1.set u2 r1) (hTM.out.2.step (hTM.out.1.up i (Nat.le_refl _)) r1 a3 p3 r3))
        have A4 := hid a4
        have cv5 := hI5.out.2.1.cell i hlt5
        have lv5 := hI5.out.2.1.lt
        clear a3 p3 r3 a4 hTM
        go_wp2_with fail
        refine (A4.out _).mono ?_
        rintro e w6 ⟨rfl, hb6⟩
        have hI6 := hid (hI5.out.next hb6)
        have cx6 := hI6.out.1.cell (k + i) (by omega)
        have fx6 := hI6.out.1.free (k + i)
        have lx6 := hI6.out.1.lt
        clear hI5 cv5 lv5 hb6 A4
        go_wp2_with fail
        go_roundw
        case rel => exact ⟨i + 1, v2, ahi + v1, setL Z1 (k + i) u2, by omega, r2, hcs, rfl, by go_num, by go_num, HTM2, hid (hI6.out.put hvg (k + i) u2 r1)⟩
        case measure => simp [intOf]; omega
      · obtain rfl : i = m + 2 := by omega
        obtain ⟨u3, v3, r1, r2, r3, r4⟩ := sub64_nat (lmN Z1 (k + (m + 2))) c b (lmN_lt _ _) hc1 hb1
        have HT3 := hid (hTM.out.1.set u3 r1)
        have HW3 := hid (hTM.out.2.last HV1.out (hTM.out.1.up (m + 2) (Nat.le_refl _)) r1 r3)
        have cx6 := hI5.out.1.cell (k + (m + 2)) (by omega)
        have fx6 := hI5.out.1.free (k + (m + 2))
        have lx6 := hI5.out.1.lt
        clear hTM hlt5 hi r3
        go_wp2_with fail
        have hI7 := hid (hI5.out.put hvg (k + (m + 2)) u3 r1)
        generalize wr.setCell ⟨g, k + (m + 2), none⟩ (.int .u64 (u3 : Int)) = w7 at hI7 ⊢
        clear hI5 cx6 fx6 lx6 r4
        go_loopw [6, 13] (fun gv bv wr7 => ∃ G3 b3 Z3 : Nat, G3 < 2 ^ 64 ∧ b3 ≤ 1 ∧ gv = .int .u64 (G3 : Int) ∧ bv = .int .u64 (b3 : Int) ∧ Hid (Turn Z Z3 k (m + 3) ∧ win Z3 k (m + 3) + G3 * V = win Z k (m + 3) + 2 ^ (64 * (m + 3)) * b3 ∧ win Z k (m + 3) / V ≤ G3) ∧ Hid (StI g k N (m + 2) Z V vb w wr7 Z3))
          (fun gv _ _ => (intOf gv).toNat)
        case atStart => exact ⟨H, v3, setL Z1 (k + (m + 2)) u3, bG, r2, rfl, rfl, hid ⟨HT3.out, HW3.out, hHq.out⟩, hI7⟩
        case round =>
          clear hI7 HT3 HW3
          obtain ⟨G3, b3, Z3, bG3, hb3, rfl, rfl, hF, hI8⟩ := hrel
          have hcase : b3 = 0 ∨ b3 = 1 := by omega
          rcases hcase with rfl | rfl
          · have hfin := step_done Z Z3 k (m + 2) V G3 hF.out.1 hF.out.2.1 HVp.out hF.out.2.2
            have HF1 := hid hfin.1
            have HF2 := hid hfin.2
            clear hfin hF
            go_wp2_with fail
            go_ret
            exact ⟨Z3, by rw [← HF1.out]; rfl, hI8.out.1, by rw [← HF1.out]; exact HF2.out, hI8.out.2.2⟩
          · have hag := step_again Z Z3 k (m + 2) V G3 hF.out.2.1 HVp.out
            obtain ⟨J, hJ⟩ : ∃ J, G3 = J + 1 := ⟨G3 - 1, by have := Nat.lt_of_le_of_lt (Nat.zero_le _) hag; omega⟩
            have hJi : (G3 : Int) - 1 = (J : Int) := by omega
            have hJ1 : 1 ≤ G3 := by omega
            have hJl : J < G3 := by omega
            have HJ := hid hJ
            have HAG := hid (show win Z k (m + 3) / V ≤ J from by have := hag; rw [hJ] at this; exact Nat.le_of_lt_succ this)
            clear hag hJ
            go_wp2_with fail
            go_loopw [19, 148] (fun cv iv wr8 => ∃ i c Z4 : Nat, i ≤ m + 2 ∧ c ≤ 1 ∧ cv = .int .u64 (c : Int) ∧ iv = .int .i64 (i : Int) ∧ Hid (Turn Z3 Z4 k i ∧ Adb Z3 Z4 k V i c) ∧ Hid (StI g k N (m + 2) Z V vb w wr8 Z4))
              (fun _ iv _ => m + 2 - (intOf iv).toNat)
            case atStart => exact ⟨0, 0, Z3, by omega, by omega, rfl, rfl, hid ⟨Turn.start Z3 k, Adb.start Z3 k V⟩, hI8⟩
            case round =>
              clear hI8
              obtain ⟨i, c, Z4, hi, hc4, rfl, rfl, hTA, hI9⟩ := hrel
              by_cases hlt9 : i < m + 2
              · obtain ⟨u, v, p1, p2, p3, p4⟩ := add64_nat (lmN Z4 (k + i)) (lmN V i) c (lmN_lt _ _) (lmN_lt _ _) hc4
                have HTA2 := hid (And.intro (hTA.out.1.set u p1) (hTA.out.2.step (hTA.out.1.up i (Nat.le_refl _)) p1 p3))
                have cx9 := hI9.out.1.cell (k + i) (by omega)
                have fx9 := hI9.out.1.free (k + i)
                have lx9 := hI9.out.1.lt
                have cv9 := hI9.out.2.1.cell i hlt9
                have lv9 := hI9.out.2.1.lt
                clear p3 hTA
                go_wp2_with fail
                (refine wp_region_ext_float 16 14 [0, 1, 2, 3, 4, 5, 6, 7, 8, 9, 10, 11, 12, 13, 15] [_, _, _, _, _, _, _, _, _, _, _, _, _, _, _] _ _ _ rfl rfl rfl rfl (by kernel_rfl) (by kernel_rfl) ?_; (repeat (go_big_quiet_step (first | fail))); refine wpQuiet_nil ?_; refine ⟨?_, ?_⟩; rotate_left; rintro _ ⟨xw, rfl⟩; rotate_left; (repeat (go_big_quiet_step (first | fail))); refine wpQuiet_nil ?_; rintro _ ⟨xw, rfl⟩)
                all_goals
                  go_wp2_with fail
                  go_roundw
                  case rel => exact ⟨i + 1, v, setL Z4 (k + i) u, by omega, p2, rfl, by go_num, HTA2, hid ((hI9.out.ext xw).put hvg (k + i) u p1)⟩
                  case measure => simp [intOf]; omega
              · obtain rfl : i = m + 2 := by omega
                obtain ⟨u, v, p1, p2, p3, p4⟩ := add64_nat (lmN Z4 (k + (m + 2))) 0 c (lmN_lt _ _) (by omega) hc4
                have HT5 := hid (hF.out.1.trans (hTA.out.1.set u p1))
                have HW5 := hid (step_back Z Z3 (setL Z4 (k + (m + 2)) u) k (m + 2) V G3 v hJ1 p2 hF.out.2.1 (hTA.out.2.last HV1.out (hTA.out.1.up (m + 2) (Nat.le_refl _)) p1 p3))
                have cx9 := hI9.out.1.cell (k + (m + 2)) (by omega)
                have fx9 := hI9.out.1.free (k + (m + 2))
                have lx9 := hI9.out.1.lt
                have hv01 : (1 : Int) - (v : Int) = ((1 - v : Nat) : Int) := by omega
                have p5 : ∀ w, (callFunc 65 #[.int .u64 ((lmN Z4 (k + (m + 2)) : Nat) : Int), .int .u64 0, .int .u64 (c : Int)]).run Try.prog w = .ok (.value (.tuple #[.int .u64 (u : Int), .int .u64 (v : Int)])) w := p4
                clear p3 hTA hlt9 hi hF p4
                go_wp2_with fail
                go_roundw
                case rel => exact ⟨J, 1 - v, setL Z4 (k + (m + 2)) u, by omega, by omega, by go_num, by go_num, hid ⟨HT5.out, by have := HW5.out; rw [HJ.out, Nat.add_sub_cancel] at this; exact this, HAG.out⟩, hid (hI9.out.put hvg (k + (m + 2)) u p1)⟩
                case measure => simp [intOf]; omega
end Go.Proofs.Ytejnnghfelpioaa
