import Derived.Test.YtfidbiabgmioaaaProg
import Derived.WalkKit
import Derived.KernelRfl
import Derived.RowKit3
import Derived.Deep.LoopGhost
import Derived.Deep.QuietTactic
import Derived.BigQuiet
import Derived.Deep.DeepCutAuto
import Derived.Deep.CutBlock
import Derived.Deep.RegionHeld3
import Derived.ChangeKeysEq

/-! Laws over whatever program that the walks of this seat use: arrays compared; a world with new blocks. -/
set_option maxRecDepth 4000
set_option linter.unusedVariables false
set_option linter.unusedSimpArgs false
namespace Go.Proofs.Ytfidbiabgmioaaa
open Go.RowKit

/-- A fact kept from the walk, and from whoever looks for a contradiction. -/
structure Hid (p : Prop) : Prop where
  out : p
theorem hid {p : Prop} (h : p) : Hid p := ⟨h⟩

/-! ### '==' of arrays of integers -/
theorem eqItems_ints {P : Program} {w : World} (d : Nat) {e : TypeId} {k : IntKind} (he : P.underlying e = some (.int k)) (xs ys : List Int) : ∀ (m s : Nat), s + m = xs.length → s + m = ys.length →
    (Op.eqItems (d + 1) e 1 (xs.map (Value.int k)).toArray (ys.map (Value.int k)).toArray (List.range' s m)).run P w = .ok (decide (xs.drop s = ys.drop s)) w
  | 0, s, hx, hy => by
    simp [Op.eqItems, List.drop_eq_nil_of_le (show xs.length ≤ s by omega), List.drop_eq_nil_of_le (show ys.length ≤ s by omega)]
  | m + 1, s, hx, hy => by
    have hag : ∀ w : World, (isAgg e).run P w = .ok false w := fun w => by
      unfold isAgg; rw [Sem.run_bind, run_underlying he w]; rfl
    have h1 : s < xs.length := by omega
    have h2 : s < ys.length := by omega
    have ih := eqItems_ints (P := P) (w := w) d he xs ys m (s + 1) (by omega) (by omega)
    rw [List.range'_succ, Op.eqItems]
    have g1 : (part e (xs.map (Value.int k)).toArray (s * 1)).run P w = .ok (.int k xs[s]) w := by
      simp [part, Sem.run_bind, hag, h1]
    have g2 : (part e (ys.map (Value.int k)).toArray (s * 1)).run P w = .ok (.int k ys[s]) w := by
      simp [part, Sem.run_bind, hag, h2]
    simp only [Sem.run_bind, g1, g2, Result.andThen_ok, run_equalIn_int w d e k k xs[s] ys[s] he]
    have e1 : xs.drop s = xs[s] :: xs.drop (s + 1) := List.drop_eq_getElem_cons h1
    have e2 : ys.drop s = ys[s] :: ys.drop (s + 1) := List.drop_eq_getElem_cons h2
    by_cases hq : xs[s] = ys[s]
    · simp only [e1, e2, hq, beq_self_eq_true, Bool.not_true, Bool.false_eq_true, if_false, List.cons.injEq, true_and]
      exact ih
    · have hn : ¬ (xs.drop s = ys.drop s) := by rw [e1, e2]; intro h; exact hq (List.cons.inj h).1
      simp [hq, hn]

theorem run_equalIn_ints {P : Program} (w : World) (d : Nat) {t e : TypeId} {n : Nat} {k : IntKind} (hu : P.underlying t = some (.array n e)) (hi : (P.info? e).isSome = true) (hc : P.cellsOf e = 1) (he : P.underlying e = some (.int k))
    (xs ys : List Int) (hx : xs.length = n) (hy : ys.length = n) :
    (Op.equalIn (d + 2) t (.agg (xs.map (Value.int k)).toArray) (.agg (ys.map (Value.int k)).toArray)).run P w = .ok (decide (xs = ys)) w := by
  obtain ⟨i, hi⟩ := Option.isSome_iff_exists.mp hi
  rw [run_equalIn_array w (d + 1) _ _ hu hi, hc, List.range_eq_range']
  have := eqItems_ints (P := P) (w := w) d he xs ys n 0 (by omega) (by omega)
  simpa using this

/-- Whether two lists of integers are one: closed to the walk's simp. -/
def weq (x y : List Int) : Bool := decide (x = y)
theorem weq_iff {x y : List Int} : weq x y = true ↔ x = y := by simp [weq]
theorem weq_self (x : List Int) : weq x x = true := by simp [weq]
theorem weq_comm (x y : List Int) : weq x y = weq y x := by simp [weq, eq_comm]

theorem run_equalIn_four {P : Program} (w : World) {t e : TypeId} {k : IntKind} (hu : P.underlying t = some (.array 4 e)) (hi : (P.info? e).isSome = true) (hc : P.cellsOf e = 1) (he : P.underlying e = some (.int k))
    (a b c d a' b' c' d' : Int) :
    (Op.equalIn 10000 t (.agg #[.int k a, .int k b, .int k c, .int k d]) (.agg #[.int k a', .int k b', .int k c', .int k d'])).run P w = .ok (weq [a, b, c, d] [a', b', c', d']) w :=
  run_equalIn_ints w 9998 hu hi hc he [a, b, c, d] [a', b', c', d'] rfl rfl

/-- 'a[i]' at an array of integers that is a value. -/
theorem run_index_ints {P : Program} {t e : TypeId} {n : Nat} {k k' : IntKind} (hu : P.underlying t = some (.array n e)) (hi : (P.info? e).isSome = true) (hc : P.cellsOf e = 1) (he : P.underlying e = some (.int k))
    (xs : List Int) (hx : xs.length = n) (i : Int) (h0 : 0 ≤ i) (h1 : i < n) (w : World) :
    (Instr.index t (.agg (xs.map (Value.int k)).toArray) (.int k' i)).run P w = .ok (.int k (xs.getD i.toNat 0)) w := by
  obtain ⟨inf, hi⟩ := Option.isSome_iff_exists.mp hi
  have hag : ∀ w : World, (isAgg e).run P w = .ok false w := fun w => by
    unfold isAgg; rw [Sem.run_bind, run_underlying he w]; rfl
  have hl : i.toNat < xs.length := by omega
  simp only [Instr.index, asIntOf, Sem.run_bind, Sem.run_pure, Result.andThen_ok, run_underlying hu, run_sizeOf w hi, hc, Nat.mul_one, h0, h1, and_self, if_true]
  simp [part, Sem.run_bind, hag, hl]

theorem len4 {α : Type} {l : List α} (h : l.length = 4) : ∃ a b c d, l = [a, b, c, d] := by
  match l, h with
  | [a, b, c, d], _ => exact ⟨a, b, c, d, rfl⟩
theorem ret_int {k : IntKind} {a b : Int} (h : a = b) : Ending.returned (.int k a) = .returned (.int k b) := by rw [h]
theorem ret_bool {a b : Bool} (h : a = b) : Ending.returned (.bool a) = .returned (.bool b) := by rw [h]

/-! ### A world with new blocks: 'w.ext x' -/
theorem below_next {B : Nat} {a b c : World} (h : Below B a b) (hB : B ≤ a.heap.size) (k : Below b.heap.size b c) : Below B a c := h.trans (k.mono (Nat.le_trans hB h.size))
end Go.Proofs.Ytfidbiabgmioaaa
namespace Go
open Go.RowKit
open Classical in
/-- Some world that has w's blocks unturned, and maybe new ones behind them. (Whatever x is.) -/
noncomputable def World.ext (w x : World) : World := if Below w.heap.size w x then x else w
theorem World.ext_below (w x : World) : Below w.heap.size w (w.ext x) := by
  unfold World.ext; split
  · assumption
  · exact Below.refl _ _
theorem World.ext_of {w x : World} (h : Below w.heap.size w x) : x = w.ext x := by unfold World.ext; rw [if_pos h]
@[go_sem] theorem World.cell?_ext (w x : World) (b o : Nat) (h : b < w.heap.size) : (w.ext x).cell? ⟨b, o, none⟩ = w.cell? ⟨b, o, none⟩ := (w.ext_below x).cell (p := ⟨b, o, none⟩) h
@[go_sem] theorem World.frozen?_ext (w x : World) (b o : Nat) (h : b < w.heap.size) : (w.ext x).frozen? ⟨b, o, none⟩ = w.frozen? ⟨b, o, none⟩ := (w.ext_below x).frozen (p := ⟨b, o, none⟩) h
theorem World.size_ext (w x : World) : w.heap.size ≤ (w.ext x).heap.size := (w.ext_below x).size
theorem World.size_le_ext (w x : World) (n : Nat) (h : n ≤ w.heap.size) : n ≤ (w.ext x).heap.size := Nat.le_trans h (w.size_ext x)
theorem World.heap_ext (w x : World) (b : Nat) (h : b < w.heap.size) : (w.ext x).heap[b]? = w.heap[b]? := (w.ext_below x).block b h
@[go_sem] theorem World.lt_ext (w x : World) (b : Nat) (h : b < w.heap.size) : (b < (w.ext x).heap.size) = True := eq_true (Nat.lt_of_lt_of_le h (w.size_ext x))
@[go_sem] theorem World.le_ext (w x : World) (b : Nat) (h : b ≤ w.heap.size) : (b ≤ (w.ext x).heap.size) = True := eq_true (Nat.le_trans h (w.size_ext x))
@[go_sem] theorem World.ne_ext (w x : World) (b : Nat) (h : b < w.heap.size) : (b = (w.ext x).heap.size) = False := eq_false (Nat.ne_of_lt (Nat.lt_of_lt_of_le h (w.size_ext x)))
@[go_sem] theorem World.ne_ext' (w x : World) (b : Nat) (h : b < w.heap.size) : ((w.ext x).heap.size = b) = False := eq_false (Nat.ne_of_gt (Nat.lt_of_lt_of_le h (w.size_ext x)))
theorem World.ext_below_of {B : Nat} {a w : World} (h : Below B a w) (hB : B ≤ w.heap.size) (x : World) : Below B a (w.ext x) := h.trans ((w.ext_below x).mono hB)

/-- 'R' of a callee that leaves all old blocks as they are, and hands v back. -/
theorem Calls.ext_of {P : Program} {f : FuncId} {args : Array Value} {w x : World} {v : Value}
    (h : Calls P f args (w.ext x) fun e w' => e = .returned v ∧ Below (w.ext x).heap.size (w.ext x) w') : Calls P f args (w.ext x) fun e w'' => e = .returned v ∧ ∃ y, w'' = w.ext y :=
  h.mono fun _ w'' ⟨he, hb⟩ => ⟨he, w'', World.ext_of ((w.ext_below x).trans (hb.mono (w.size_ext x)))⟩

/-- The same, from whatever world. -/
theorem Calls.asExt {P : Program} {f : FuncId} {args : Array Value} {w : World} {v : Value}
    (h : Calls P f args w fun e w' => e = .returned v ∧ Below w.heap.size w w') : Calls P f args w fun e w'' => e = .returned v ∧ ∃ y, w'' = w.ext y :=
  h.mono fun _ w'' ⟨he, hb⟩ => ⟨he, w'', World.ext_of hb⟩

/-- A region that draws its order, whose operations read, and whose callees read or make new blocks: one walk. -/
theorem wp_region_ext {P : Program} {id : Nat} {Q : Exit → Act → World → Prop} {a : Act} {w : World} {l : List Oper} (hm : P.follows .mixedOrders = true) (hB : Region.lexB .any l.toArray = true)
    (h : wpQuiet P l.toArray (fun w' => ∃ x, w' = w.ext x) (fun a' => ∀ w', (∃ x, w' = w.ext x) → Q .normal a' w') l a) : (Code.region id l.toArray true).wp P Q a w :=
  wp_region_quiet (C := fun w' => ∃ x, w' = w.ext x) hm hB ⟨_, World.ext_of (Below.refl _ _).drew⟩ (by simpa using h)
/-- The draw's own world. -/
theorem World.drew_ext (w : World) : w.drew = w.ext w.drew := World.ext_of (Below.refl _ _).drew
end Go
