import Derived.Test.YtfidbiabgmioaaaNatM
import Derived.Test.YtfidbiabgmioaaaArr
/-! Words of 256 bits as numbers; conclaveref01: Power, Of, Word. -/
set_option maxRecDepth 4000
set_option linter.unusedVariables false
set_option linter.unusedSimpArgs false
namespace Go
open Go.RowKit
theorem results_row_tmp {P : Program} {fn : Func} {p u : Tmp} {ty : TypeId} (h : fn.results = #[.cell p ty, .tmp u]) (tmps : Array Value) (w : World) (g : Nat) (t : TypeId) (cs : Array Value) (fr : Nat × Nat) (d : TypeDesc)
    (hp : tmps.getD p undef = .pointer (some ⟨g, 0, none⟩)) (hg : w.heap[g]? = some (.cells cs t fr))
    (hu : P.underlying ty = some d) (hd : (match d with | .struct _ | .array _ _ => true | _ => false) = true) (hi : (P.info? ty).map (·.size) = some cs.size) :
    (results fn tmps).run P w = .ok (.tuple #[.agg cs, tmps.getD u undef]) w := by
  have hp' : tmps[p]?.getD undef = .pointer (some ⟨g, 0, none⟩) := by simpa using hp
  simp [results, h, hp', asAddr, run_loadVar_row w g t ty cs fr d hg hu hd hi]
theorem results_row_row {P : Program} {fn : Func} {p p2 : Tmp} {ty ty2 : TypeId} (h : fn.results = #[.cell p ty, .cell p2 ty2]) (tmps : Array Value) (w : World) (g g2 : Nat) (t t2 : TypeId) (cs cs2 : Array Value) (fr fr2 : Nat × Nat) (d d2 : TypeDesc)
    (hp : tmps.getD p undef = .pointer (some ⟨g, 0, none⟩)) (hg : w.heap[g]? = some (.cells cs t fr))
    (hp2 : tmps.getD p2 undef = .pointer (some ⟨g2, 0, none⟩)) (hg2 : w.heap[g2]? = some (.cells cs2 t2 fr2))
    (hu : P.underlying ty = some d) (hd : (match d with | .struct _ | .array _ _ => true | _ => false) = true) (hi : (P.info? ty).map (·.size) = some cs.size)
    (hu2 : P.underlying ty2 = some d2) (hd2 : (match d2 with | .struct _ | .array _ _ => true | _ => false) = true) (hi2 : (P.info? ty2).map (·.size) = some cs2.size) :
    (results fn tmps).run P w = .ok (.tuple #[.agg cs, .agg cs2]) w := by
  have hp' : tmps[p]?.getD undef = .pointer (some ⟨g, 0, none⟩) := by simpa using hp
  have hp2' : tmps[p2]?.getD undef = .pointer (some ⟨g2, 0, none⟩) := by simpa using hp2
  simp [results, h, hp', hp2', asAddr, run_loadVar_row w g t ty cs fr d hg hu hd hi, run_loadVar_row w g2 t2 ty2 cs2 fr2 d2 hg2 hu2 hd2 hi2]
theorem results_tmp_row {P : Program} {fn : Func} {p u : Tmp} {ty : TypeId} (h : fn.results = #[.tmp u, .cell p ty]) (tmps : Array Value) (w : World) (g : Nat) (t : TypeId) (cs : Array Value) (fr : Nat × Nat) (d : TypeDesc)
    (hp : tmps.getD p undef = .pointer (some ⟨g, 0, none⟩)) (hg : w.heap[g]? = some (.cells cs t fr))
    (hu : P.underlying ty = some d) (hd : (match d with | .struct _ | .array _ _ => true | _ => false) = true) (hi : (P.info? ty).map (·.size) = some cs.size) :
    (results fn tmps).run P w = .ok (.tuple #[tmps.getD u undef, .agg cs]) w := by
  have hp' : tmps[p]?.getD undef = .pointer (some ⟨g, 0, none⟩) := by simpa using hp
  simp [results, h, hp', asAddr, run_loadVar_row w g t ty cs fr d hg hu hd hi]
end Go
namespace Go.Proofs.Ytfidbiabgmioaaa
open Go.RowKit

/-- A limb: closed to the walk's simp. -/
def lmN (x i : Nat) : Nat := x / 2 ^ (64 * i) % 2 ^ 64
def lm (x i : Nat) : Int := (lmN x i : Int)
theorem lm_nonneg (x i : Nat) : 0 ≤ lm x i := Int.natCast_nonneg _
theorem lmN_lt (x i : Nat) : lmN x i < 18446744073709551616 := Nat.mod_lt _ (by decide)
theorem lm_lt (x i : Nat) : lm x i ≤ 18446744073709551615 := by have := lmN_lt x i; unfold lm; omega
def cellsW (x : Nat) : Array Value := #[.int .u64 (lm x 0), .int .u64 (lm x 1), .int .u64 (lm x 2), .int .u64 (lm x 3)]
def wd (x : Nat) : Value := .agg (cellsW x)
theorem size_cellsW (x : Nat) : (cellsW x).size = 4 := rfl
theorem one_cellsW (x : Nat) : (cellsW x).all (·.oneCell') = true := by simp [cellsW, Value.oneCell']
theorem cellsW_at (x j : Nat) (h : j < 4) : (cellsW x)[j]? = some (.int .u64 (lm x j)) := by
  match j, h with
  | 0, _ => rfl
  | 1, _ => rfl
  | 2, _ => rfl
  | 3, _ => rfl
/-- Block b holds the word x. -/
def ArrW (t : TypeId) (w : World) (b : Nat) (x : Nat) : Prop := w.heap[b]? = some (.cells (cellsW x) t (0, 0))
theorem ArrW.lt {t : TypeId} {w : World} {b x : Nat} (h : ArrW t w b x) : b < w.heap.size := (Array.getElem?_eq_some_iff.1 h).1
theorem ArrW.cell {t : TypeId} {w : World} {b x : Nat} (h : ArrW t w b x) (j : Nat) (hj : j < 4) : w.cell? ⟨b, j, none⟩ = some (.int .u64 (lm x j)) := by
  rw [cell_of_row w b j _ _ _ h]; exact cellsW_at x j hj
theorem ArrW.free {t : TypeId} {w : World} {b x : Nat} (h : ArrW t w b x) (j : Nat) : w.frozen? ⟨b, j, none⟩ = false := by
  unfold ArrW at h
  simp [World.frozen?, h]
theorem ArrW.other {t : TypeId} {w : World} {b x : Nat} (h : ArrW t w b x) {a : Addr} (ha : b ≠ a.block) (v : Value) : ArrW t (w.setCell a v) b x := by
  unfold ArrW at *
  rw [Below.heap_setCell _ _ _ _ ha]; exact h
theorem ArrW.below {t : TypeId} {w w' : World} {b B x : Nat} (h : ArrW t w b x) (hb : Below B w w') (hB : b < B) : ArrW t w' b x := by
  unfold ArrW at *
  rw [hb.block b hB]; exact h
theorem ArrW.ext {t : TypeId} {w : World} {b x : Nat} (h : ArrW t w b x) (y : World) : ArrW t (w.ext y) b x := h.below (w.ext_below y) h.lt
theorem ArrW.alloc {t : TypeId} {w : World} {b x : Nat} (h : ArrW t w b x) (o : Obj) : ArrW t (w.alloc o) b x := by
  unfold ArrW at *
  rw [Below.heap_alloc _ _ _ (ArrW.lt h)]; exact h
theorem ArrW.new (t : TypeId) (w : World) (x : Nat) : ArrW t (w.alloc (.cells (cellsW x) t)) w.heap.size x := by
  unfold ArrW
  show (w.heap.push _)[w.heap.size]? = _
  simp
theorem ArrW.set {t : TypeId} {w : World} {b x y : Nat} (h : ArrW t w b x) (j : Nat) (v : Int) (he : (cellsW x).setIfInBounds j (.int .u64 v) = cellsW y) : ArrW t (w.setCell ⟨b, j, none⟩ (.int .u64 v)) b y := by
  unfold ArrW at *
  simp [World.setCell, Array.getElem?_modify, h, he]
/-- A word and its limbs. -/
theorem limbs_sum (x : Nat) (h : x < 2 ^ 256) : lmN x 0 + 2 ^ 64 * (lmN x 1 + 2 ^ 64 * (lmN x 2 + 2 ^ 64 * lmN x 3)) = x := by
  unfold lmN
  simp only [Nat.mul_zero, Nat.pow_zero, Nat.div_one, Nat.mul_one]
  rw [show (2 : Nat) ^ (64 * 2) = 2 ^ 64 * 2 ^ 64 from by rw [← Nat.pow_add], show (2 : Nat) ^ (64 * 3) = 2 ^ 64 * 2 ^ 64 * 2 ^ 64 from by rw [← Nat.pow_add, ← Nat.pow_add], ← Nat.div_div_eq_div_mul, ← Nat.div_div_eq_div_mul, ← Nat.div_div_eq_div_mul]
  rw [show (2 : Nat) ^ 256 = 2 ^ 64 * 2 ^ 64 * 2 ^ 64 * 2 ^ 64 from by rw [← Nat.pow_add, ← Nat.pow_add, ← Nat.pow_add]] at h
  omega
theorem wd_inj {x y : Nat} (hx : x < 2 ^ 256) (hy : y < 2 ^ 256) (h : cellsW x = cellsW y) : x = y := by
  simp only [cellsW, Array.mk.injEq, List.cons.injEq, Value.int.injEq, true_and, and_true] at h
  obtain ⟨h0, h1, h2, h3⟩ := h
  rw [← limbs_sum x hx, ← limbs_sum y hy]
  unfold lm at h0 h1 h2 h3
  omega
/-- Of four limbs. -/
def mk4 (a b c d : Nat) : Nat := a + 2 ^ 64 * (b + 2 ^ 64 * (c + 2 ^ 64 * d))
theorem mk4_lt (a b c d : Nat) (ha : a < 2 ^ 64) (hb : b < 2 ^ 64) (hc : c < 2 ^ 64) (hd : d < 2 ^ 64) : mk4 a b c d < 2 ^ 256 := by
  unfold mk4
  rw [show (2 : Nat) ^ 256 = 2 ^ 64 * 2 ^ 64 * 2 ^ 64 * 2 ^ 64 from by rw [← Nat.pow_add, ← Nat.pow_add, ← Nat.pow_add]]
  omega
theorem lmN_mk4 (a b c d : Nat) (ha : a < 2 ^ 64) (hb : b < 2 ^ 64) (hc : c < 2 ^ 64) (hd : d < 2 ^ 64) : lmN (mk4 a b c d) 0 = a ∧ lmN (mk4 a b c d) 1 = b ∧ lmN (mk4 a b c d) 2 = c ∧ lmN (mk4 a b c d) 3 = d := by
  unfold lmN mk4
  simp only [Nat.mul_zero, Nat.pow_zero, Nat.div_one, Nat.mul_one]
  rw [show (2 : Nat) ^ (64 * 2) = 2 ^ 64 * 2 ^ 64 from by rw [← Nat.pow_add], show (2 : Nat) ^ (64 * 3) = 2 ^ 64 * 2 ^ 64 * 2 ^ 64 from by rw [← Nat.pow_add, ← Nat.pow_add], ← Nat.div_div_eq_div_mul, ← Nat.div_div_eq_div_mul, ← Nat.div_div_eq_div_mul]
  omega
theorem cellsW_mk4 (a b c d : Nat) (ha : a < 2 ^ 64) (hb : b < 2 ^ 64) (hc : c < 2 ^ 64) (hd : d < 2 ^ 64) : cellsW (mk4 a b c d) = #[.int .u64 (a : Int), .int .u64 (b : Int), .int .u64 (c : Int), .int .u64 (d : Int)] := by
  obtain ⟨h0, h1, h2, h3⟩ := lmN_mk4 a b c d ha hb hc hd
  unfold cellsW lm
  rw [h0, h1, h2, h3]
/-- One digit more. -/
theorem lmN_add (x d i j : Nat) (hx : x < 256 ^ i) (hd : d < 256) (hj : j < 4) : lmN (x + 256 ^ i * d) j = (if j = i / 8 then lmN x j + d * 2 ^ (8 * (i % 8)) else lmN x j) ∧ (j = i / 8 → lmN x j < 2 ^ (8 * (i % 8))) := by
  have e256 : (256 : Nat) ^ i = 2 ^ (64 * (i / 8)) * 2 ^ (8 * (i % 8)) := by
    rw [show (256 : Nat) = 2 ^ 8 from rfl, ← Nat.pow_mul, ← Nat.pow_add]; congr 1; omega
  unfold lmN
  by_cases h : j = i / 8
  · subst h
    rw [if_pos rfl]
    have hp : 0 < 2 ^ (64 * (i / 8)) := Nat.pow_pos (by omega)
    have h1 : x / 2 ^ (64 * (i / 8)) < 2 ^ (8 * (i % 8)) := by rw [Nat.div_lt_iff_lt_mul hp, Nat.mul_comm, ← e256]; exact hx
    have h2 : 2 ^ (8 * (i % 8)) * 256 ≤ 2 ^ 64 := by
      rw [show (256 : Nat) = 2 ^ 8 from rfl, ← Nat.pow_add]; exact Nat.pow_le_pow_right (by omega) (by omega)
    have h3 : 2 ^ (8 * (i % 8)) * d ≤ 2 ^ (8 * (i % 8)) * 255 := Nat.mul_le_mul_left _ (by omega)
    have m1 : (x / 2 ^ (64 * (i / 8)) + 2 ^ (8 * (i % 8)) * d) % 2 ^ 64 = x / 2 ^ (64 * (i / 8)) + 2 ^ (8 * (i % 8)) * d := Nat.mod_eq_of_lt (by omega)
    have m2 : x / 2 ^ (64 * (i / 8)) % 2 ^ 64 = x / 2 ^ (64 * (i / 8)) := Nat.mod_eq_of_lt (by omega)
    rw [e256, Nat.mul_assoc, Nat.add_mul_div_left _ _ hp, m1, m2, Nat.mul_comm d]
    exact ⟨rfl, fun _ => h1⟩
  · rw [if_neg h]
    refine ⟨?_, fun e => absurd e h⟩
    rcases Nat.lt_or_ge j (i / 8) with hlt | hge
    · have e2 : (256 : Nat) ^ i * d = 2 ^ (64 * j) * (2 ^ 64 * (2 ^ (8 * i - 64 * j - 64) * d)) := by
        rw [show (256 : Nat) = 2 ^ 8 from rfl, ← Nat.pow_mul, ← Nat.mul_assoc, ← Nat.mul_assoc, ← Nat.pow_add, ← Nat.pow_add]; congr 2; omega
      rw [e2, Nat.add_mul_div_left _ _ (Nat.pow_pos (by omega)), Nat.add_mul_mod_self_left]
    · have h4 : 256 ^ (i + 1) ≤ 2 ^ (64 * j) := by
        rw [show (256 : Nat) = 2 ^ 8 from rfl, ← Nat.pow_mul]; exact Nat.pow_le_pow_right (by omega) (by omega)
      have h5 : 256 ^ i * d ≤ 256 ^ i * 255 := Nat.mul_le_mul_left _ (by omega)
      rw [Nat.pow_succ] at h4
      rw [Nat.div_eq_of_lt (by omega), Nat.div_eq_of_lt (by omega)]
theorem or_add (a d r : Nat) (h : a < 2 ^ r) : a ||| d * 2 ^ r = a + d * 2 ^ r := by
  rw [Nat.or_comm, Nat.mul_comm, ← Nat.two_pow_add_eq_or_of_lt h, Nat.add_comm]
/-- A byte of a word. -/
theorem lmN_byte (x i : Nat) (hi : i < 32) : lmN x (i / 8) / 2 ^ (8 * (i % 8)) % 256 = x / 256 ^ i % 256 := by
  have e256 : (256 : Nat) ^ i = 2 ^ (64 * (i / 8)) * 2 ^ (8 * (i % 8)) := by
    rw [show (256 : Nat) = 2 ^ 8 from rfl, ← Nat.pow_mul, ← Nat.pow_add]; congr 1; omega
  rw [e256, ← Nat.div_div_eq_div_mul]
  unfold lmN
  generalize x / 2 ^ (64 * (i / 8)) = y
  have hc : i % 8 = 0 ∨ i % 8 = 1 ∨ i % 8 = 2 ∨ i % 8 = 3 ∨ i % 8 = 4 ∨ i % 8 = 5 ∨ i % 8 = 6 ∨ i % 8 = 7 := by omega
  rcases hc with h | h | h | h | h | h | h | h <;> rw [h] <;> omega
/-- The first i bytes of a number. -/
def byN (x : Nat) : Nat → List Nat
  | 0 => []
  | i + 1 => byN x i ++ [x / 256 ^ i % 256]
theorem byN_len (x i : Nat) : (byN x i).length = i := by induction i <;> simp [byN, *]
theorem byN_dig (x i : Nat) : Dig (byN x i) := by
  induction i with
  | zero => intro d hd; cases hd
  | succ i ih => exact ih.app fun d hd => by rw [List.mem_singleton] at hd; omega
theorem byN_num (x i : Nat) : num (byN x i) = x % 256 ^ i := by
  induction i with
  | zero => rw [Nat.pow_zero, Nat.mod_one]; rfl
  | succ i ih =>
    rw [byN, num_app, ih, byN_len, Nat.pow_succ, Nat.mod_mul]
    simp [num]
theorem heap_setRow' (w : World) (g : Nat) (cs old : Array Value) (t : TypeId) (h : w.heap[g]? = some (.cells old t (0, 0))) : (w.setRow g cs).heap[g]? = some (.cells cs t (0, 0)) := by
  simp [World.setRow, Array.getElem?_modify, h]
theorem below_setRow' {B : Nat} {a w : World} (h : Below B a w) (g : Nat) (hg : B ≤ g) (cs : Array Value) : Below B a (w.setRow g cs) :=
  h.trans ⟨rfl, rfl, rfl, by simp [World.setRow], fun k hk => by
    simp only [World.setRow, Array.getElem?_modify]
    rw [if_neg (by omega)]⟩
theorem uWd : Try.prog.underlying 24 = some (.array 4 22) := by kernel_rfl
theorem iWd : (Try.prog.info? 24).map (·.size) = some 4 := by kernel_rfl
theorem zWd : (Try.prog.info? 24).bind (·.zero) = some (.agg (cellsW 0)) := by kernel_rfl
theorem iW (x : Nat) : (Try.prog.info? 24).map (·.size) = some (cellsW x).size := iWd
end Go.Proofs.Ytfidbiabgmioaaa
