import Derived.Test.YtejnnghfelpioaaProg
import Derived.WalkKit
import Derived.KernelRfl
import Derived.RowKit3
import Derived.Deep.LoopGhost
import Derived.Deep.QuietTactic
import Derived.BigQuiet
import Derived.Deep.DeepCutAuto
import Derived.Deep.CutBlock
import Derived.Deep.RegionHeld3
import Derived.ChangeKeysEq
import Derived.Test.YtejnnghfelpioaaRows
import Derived.ProofKit
import Derived.OpenShut
import Derived.ShutString
import Derived.ChangeOld
import Derived.Below
import Derived.Deep.Slices
import Derived.StillTail
import Derived.Laws.BitsAllLaws
import Derived.Maps.AppendAt
import Derived.ArgAppend
import Derived.SizedLaws
import Derived.Laws.OwnMore
import Derived.Deep.AppendLies
import Derived.Laws.BitsLemmas
import Derived.Laws.Bits128
import Derived.Laws.MakeOwn
import Derived.Shelf.Small.Bits
import Derived.Shelf.Strconv.Itoa0
import Derived.Shelf.Bits.Mul64
import Derived.Laws.Externs
import Derived.Laws.CopyRow
import Derived.Lib.ItoaNum
import Derived.Laws.Cover3
set_option maxRecDepth 4000
set_option linter.unusedVariables false
set_option linter.unusedSimpArgs false
namespace Go
theorem pvA {α : Type _} (l : List α) (i : Nat) (a : α) : l.toArray.setIfInBounds i a = (l.set i a).toArray := List.setIfInBounds_toArray ..
theorem pv0 {α : Type _} (a b : α) (l : List α) : (a :: l).set 0 b = b :: l := rfl
theorem pv1 {α : Type _} (a b : α) (l : List α) (i : Nat) : (a :: l).set (i + 1) b = a :: l.set i b := rfl
end Go
namespace Go.Proofs.Ytejnnghfelpioaa
open Go.RowKit
structure Hid (p : Prop) : Prop where
  out : p
theorem hid {p : Prop} (h : p) : Hid p := ⟨h⟩
theorem eqItems_ints {P : Program} {w : World} (d : Nat) {e : TypeId} {k : IntKind} (he : P.underlying e = some (.int k)) (xs ys : List Int) : ∀ (m s : Nat), s + m = xs.length → s + m = ys.length →
    (Op.eqItems (d + 1) e 1 (xs.map (Value.int k)).toArray (ys.map (Value.int k)).toArray (List.range' s m)).run P w = .ok (decide (xs.drop s = ys.drop s)) w
  | 0, s, hx, hy => by
    simp [Op.eqItems, List.drop_eq_nil_of_le (show xs.length ≤ s by omega), List.drop_eq_nil_of_le (show ys.length ≤ s by omega)]
  | m + 1, s, hx, hy => by
    have hag : ∀ w : World, (isAgg e).run P w = .ok false w := fun w => by
      unfold isAgg; rw [Sem.run_bind, run_underlying he w]; rfl
    have h1 : s < xs.length := by omega
    have h2 : s < ys.length := by omega
    have ih := eqItems_ints (P := P) (w := w) d he xs ys m (s + 1) (by omega) (by omega)
    rw [List.range'_succ, Op.eqItems]
    have g1 : (part e (xs.map (Value.int k)).toArray (s * 1)).run P w = .ok (.int k xs[s]) w := by
      simp [part, Sem.run_bind, hag, h1]
    have g2 : (part e (ys.map (Value.int k)).toArray (s * 1)).run P w = .ok (.int k ys[s]) w := by
      simp [part, Sem.run_bind, hag, h2]
    simp only [Sem.run_bind, g1, g2, Result.andThen_ok, run_equalIn_int w d e k k xs[s] ys[s] he]
    have e1 : xs.drop s = xs[s] :: xs.drop (s + 1) := List.drop_eq_getElem_cons h1
    have e2 : ys.drop s = ys[s] :: ys.drop (s + 1) := List.drop_eq_getElem_cons h2
    by_cases hq : xs[s] = ys[s]
    · simp only [e1, e2, hq, beq_self_eq_true, Bool.not_true, Bool.false_eq_true, if_false, List.cons.injEq, true_and]
      exact ih
    · have hn : ¬ (xs.drop s = ys.drop s) := by rw [e1, e2]; intro h; exact hq (List.cons.inj h).1
      simp [hq, hn]
theorem run_equalIn_ints {P : Program} (w : World) (d : Nat) {t e : TypeId} {n : Nat} {k : IntKind} (hu : P.underlying t = some (.array n e)) (hi : (P.info? e).isSome = true) (hc : P.cellsOf e = 1) (he : P.underlying e = some (.int k))
    (xs ys : List Int) (hx : xs.length = n) (hy : ys.length = n) :
    (Op.equalIn (d + 2) t (.agg (xs.map (Value.int k)).toArray) (.agg (ys.map (Value.int k)).toArray)).run P w = .ok (decide (xs = ys)) w := by
  obtain ⟨i, hi⟩ := Option.isSome_iff_exists.mp hi
  rw [run_equalIn_array w (d + 1) _ _ hu hi, hc, List.range_eq_range']
  have := eqItems_ints (P := P) (w := w) d he xs ys n 0 (by omega) (by omega)
  simpa using this
def weq (x y : List Int) : Bool := decide (x = y)
theorem run_equalIn_four {P : Program} (w : World) {t e : TypeId} {k : IntKind} (hu : P.underlying t = some (.array 4 e)) (hi : (P.info? e).isSome = true) (hc : P.cellsOf e = 1) (he : P.underlying e = some (.int k))
    (a b c d a' b' c' d' : Int) :
    (Op.equalIn 10000 t (.agg #[.int k a, .int k b, .int k c, .int k d]) (.agg #[.int k a', .int k b', .int k c', .int k d'])).run P w = .ok (weq [a, b, c, d] [a', b', c', d']) w :=
  run_equalIn_ints w 9998 hu hi hc he [a, b, c, d] [a', b', c', d'] rfl rfl
theorem run_index_ints {P : Program} {t e : TypeId} {n : Nat} {k k' : IntKind} (hu : P.underlying t = some (.array n e)) (hi : (P.info? e).isSome = true) (hc : P.cellsOf e = 1) (he : P.underlying e = some (.int k))
    (xs : List Int) (hx : xs.length = n) (i : Int) (h0 : 0 ≤ i) (h1 : i < n) (w : World) :
    (Instr.index t (.agg (xs.map (Value.int k)).toArray) (.int k' i)).run P w = .ok (.int k (xs.getD i.toNat 0)) w := by
  obtain ⟨inf, hi⟩ := Option.isSome_iff_exists.mp hi
  have hag : ∀ w : World, (isAgg e).run P w = .ok false w := fun w => by
    unfold isAgg; rw [Sem.run_bind, run_underlying he w]; rfl
  have hl : i.toNat < xs.length := by omega
  simp only [Instr.index, asIntOf, Sem.run_bind, Sem.run_pure, Result.andThen_ok, run_underlying hu, run_sizeOf w hi, hc, Nat.mul_one, h0, h1, and_self, if_true]
  simp [part, Sem.run_bind, hag, hl]
theorem len4 {α : Type} {l : List α} (h : l.length = 4) : ∃ a b c d, l = [a, b, c, d] := by
  match l, h with
  | [a, b, c, d], _ => exact ⟨a, b, c, d, rfl⟩
theorem ret_int {k : IntKind} {a b : Int} (h : a = b) : Ending.returned (.int k a) = .returned (.int k b) := by rw [h]
theorem below_next {B : Nat} {a b c : World} (h : Below B a b) (hB : B ≤ a.heap.size) (k : Below b.heap.size b c) : Below B a c := h.trans (k.mono (Nat.le_trans hB h.size))
end Go.Proofs.Ytejnnghfelpioaa
namespace Go
open Go.RowKit
open Classical in
noncomputable def World.ext (w x : World) : World := if Below w.heap.size w x then x else w
theorem World.ext_below (w x : World) : Below w.heap.size w (w.ext x) := by
  unfold World.ext; split
  · assumption
  · exact Below.refl _ _
theorem World.ext_of {w x : World} (h : Below w.heap.size w x) : x = w.ext x := by unfold World.ext; rw [if_pos h]
@[go_sem] theorem World.cell?_ext (w x : World) (b o : Nat) (h : b < w.heap.size) : (w.ext x).cell? ⟨b, o, none⟩ = w.cell? ⟨b, o, none⟩ := (w.ext_below x).cell (p := ⟨b, o, none⟩) h
@[go_sem] theorem World.frozen?_ext (w x : World) (b o : Nat) (h : b < w.heap.size) : (w.ext x).frozen? ⟨b, o, none⟩ = w.frozen? ⟨b, o, none⟩ := (w.ext_below x).frozen (p := ⟨b, o, none⟩) h
theorem World.size_ext (w x : World) : w.heap.size ≤ (w.ext x).heap.size := (w.ext_below x).size
theorem World.size_le_ext (w x : World) (n : Nat) (h : n ≤ w.heap.size) : n ≤ (w.ext x).heap.size := Nat.le_trans h (w.size_ext x)
theorem World.heap_ext (w x : World) (b : Nat) (h : b < w.heap.size) : (w.ext x).heap[b]? = w.heap[b]? := (w.ext_below x).block b h
@[go_sem] theorem World.lt_ext (w x : World) (b : Nat) (h : b < w.heap.size) : (b < (w.ext x).heap.size) = True := eq_true (Nat.lt_of_lt_of_le h (w.size_ext x))
@[go_sem] theorem World.le_ext (w x : World) (b : Nat) (h : b ≤ w.heap.size) : (b ≤ (w.ext x).heap.size) = True := eq_true (Nat.le_trans h (w.size_ext x))
@[go_sem] theorem World.ne_ext (w x : World) (b : Nat) (h : b < w.heap.size) : (b = (w.ext x).heap.size) = False := eq_false (Nat.ne_of_lt (Nat.lt_of_lt_of_le h (w.size_ext x)))
@[go_sem] theorem World.ne_ext' (w x : World) (b : Nat) (h : b < w.heap.size) : ((w.ext x).heap.size = b) = False := eq_false (Nat.ne_of_gt (Nat.lt_of_lt_of_le h (w.size_ext x)))
theorem World.ext_below_of {B : Nat} {a w : World} (h : Below B a w) (hB : B ≤ w.heap.size) (x : World) : Below B a (w.ext x) := h.trans ((w.ext_below x).mono hB)
theorem Calls.ext_of {P : Program} {f : FuncId} {args : Array Value} {w x : World} {v : Value}
    (h : Calls P f args (w.ext x) fun e w' => e = .returned v ∧ Below (w.ext x).heap.size (w.ext x) w') : Calls P f args (w.ext x) fun e w'' => e = .returned v ∧ ∃ y, w'' = w.ext y :=
  h.mono fun _ w'' ⟨he, hb⟩ => ⟨he, w'', World.ext_of ((w.ext_below x).trans (hb.mono (w.size_ext x)))⟩
theorem Calls.asExt {P : Program} {f : FuncId} {args : Array Value} {w : World} {v : Value}
    (h : Calls P f args w fun e w' => e = .returned v ∧ Below w.heap.size w w') : Calls P f args w fun e w'' => e = .returned v ∧ ∃ y, w'' = w.ext y :=
  h.mono fun _ w'' ⟨he, hb⟩ => ⟨he, w'', World.ext_of hb⟩
theorem wp_region_ext {P : Program} {id : Nat} {Q : Exit → Act → World → Prop} {a : Act} {w : World} {l : List Oper} (hm : P.follows .mixedOrders = true) (hB : Region.lexB .any l.toArray = true)
    (h : wpQuiet P l.toArray (fun w' => ∃ x, w' = w.ext x) (fun a' => ∀ w', (∃ x, w' = w.ext x) → Q .normal a' w') l a) : (Code.region id l.toArray true).wp P Q a w :=
  wp_region_quiet (C := fun w' => ∃ x, w' = w.ext x) hm hB ⟨_, World.ext_of (Below.refl _ _).drew⟩ (by simpa using h)
theorem World.drew_ext (w : World) : w.drew = w.ext w.drew := World.ext_of (Below.refl _ _).drew
end Go
namespace Go.Proofs.Ytejnnghfelpioaa
open Go.RowKit
def Rd (k : IntKind) (w : World) (v : Value) (xs : List Int) : Prop :=
  ∃ a cap, v = .slice a xs.length cap ∧ (xs ≠ [] → ∃ b off, a = some ⟨b, off, none⟩ ∧ b < w.heap.size ∧ ∀ j, j < xs.length → w.cell? ⟨b, off + j, none⟩ = some (.int k (xs.getD j 0)))
theorem Rd.below {k : IntKind} {w w' : World} {v : Value} {xs : List Int} (h : Rd k w v xs) (hb : Below w.heap.size w w') : Rd k w' v xs := by
  obtain ⟨a, cap, e, h⟩ := h
  refine ⟨a, cap, e, fun hx => ?_⟩
  obtain ⟨b, off, e2, h2, h3⟩ := h hx
  exact ⟨b, off, e2, Nat.lt_of_lt_of_le h2 hb.size, fun j hj => by rw [hb.cell (p := ⟨b, off + j, none⟩) h2]; exact h3 j hj⟩
theorem Rd.nil (k : IntKind) (w : World) (a : Option Addr) (cap : Nat) : Rd k w (.slice a 0 cap) [] := ⟨a, cap, rfl, fun h => absurd rfl h⟩
end Go.Proofs.Ytejnnghfelpioaa
namespace Go.Proofs.Ytejnnghfelpioaa
open Go.ChangeShapes Go.WideShapes Go.ChangeAt Go.RowKit
theorem wf_u64 {a : Int} (h : (Lit.int .u64 a).wf = true) : 0 ≤ a ∧ a ≤ 18446744073709551615 := bounds_u64 h
theorem wf_u8 {a : Int} (h : (Lit.int .u8 a).wf = true) : 0 ≤ a ∧ a ≤ 255 := bounds_u8 h
section
variable {H : Type} {enc : TypeId × Value → H} {P : Program} {W : World} {base : Nat} {r : Reach} {sp : Nat → Bool} {held : Bool}
theorem cells_arr {b0 : Nat} {t e : TypeId} {n fuel : Nat} {k : IntKind} {cs : List Value} {x : DataW H × List MemPlace} (hu : P.underlying t = some (.array n e)) (he : P.underlying e = some (.int k)) (hc : P.cellsOf e = 1) (hct : P.cellsOf t = n)
    (h : DataW.trod enc P W b0 sp held fuel t cs = some x) : ∃ xs : List Int, cs = xs.map (Value.int k) ∧ xs.length = n ∧ ∀ y ∈ xs, (Lit.int k y).wf = true := by
  obtain ⟨ys, m, _, _, hl, hn, hel⟩ := DataW.trod_array hu h
  have hlen : cs.length = n := by rw [hl, hct]
  have each : ∀ i, (hi : i < cs.length) → ∃ a, cs[i] = .int k a ∧ (Lit.int k a).wf = true := fun i hi => by
    have h1 := hel i (by omega)
    rw [hc, Nat.mul_one, show List.take 1 (cs.drop i) = [cs[i]] from by rw [List.drop_eq_getElem_cons hi]; rfl] at h1
    have : i < ys.length := by omega
    rw [List.getElem?_eq_getElem this] at h1
    obtain ⟨a, h2, _, h4⟩ := DataW.trod_int he h1
    exact ⟨a, by simpa using h2, h4⟩
  refine ⟨cs.map fun | .int _ a => a | _ => 0, ?_, by simpa using hlen, ?_⟩
  · apply List.ext_getElem (by simp)
    intro i h1 h2
    obtain ⟨a, h3, _⟩ := each i h1
    simp [h3]
  · intro y hy
    rw [List.mem_map] at hy
    obtain ⟨c, hc1, rfl⟩ := hy
    obtain ⟨i, hi, rfl⟩ := List.getElem_of_mem hc1
    obtain ⟨a, h3, h4⟩ := each i hi
    rw [h3]; exact h4
theorem arg_arr {b0 : Nat} {t e : TypeId} {n : Nat} {k : IntKind} {v : Value} {d : DataW H} {p : List MemPlace} (hu : P.underlying t = some (.array n e)) (he : P.underlying e = some (.int k)) (hc : P.cellsOf e = 1) (hct : P.cellsOf t = n)
    (hval : Value.okWide P W r base t v) (h : DataW.Trod enc P W b0 sp held t v d p) : ∃ xs : List Int, v = .agg (xs.map (Value.int k)).toArray ∧ xs.length = n ∧ ∀ y ∈ xs, (Lit.int k y).wf = true := by
  simp only [Value.okWide, hu] at hval
  obtain ⟨cs, rfl, _, _⟩ := hval
  obtain ⟨fuel, hf⟩ := h
  obtain ⟨xs, h1, h2, h3⟩ := cells_arr hu he hc hct hf
  refine ⟨xs, ?_, h2, h3⟩
  have : cs = (xs.map (Value.int k)).toArray := by rw [← h1]; simp [Value.cells]
  rw [this]
end
end Go.Proofs.Ytejnnghfelpioaa
namespace Go
open Go.RowKit
def putAll : List Oper → (Nat → Value) → Nat → Act → Act
  | [], _, _, a => a
  | o :: l, f, k, a => putAll l f (k + 1) (a.put o.dst (f k))
theorem Act.putd_defers (a : Act) (d : Option Tmp) (v : Value) : (a.put d v).defers = a.defers := by cases d <;> rfl
theorem Act.putd_size (a : Act) (d : Option Tmp) (v : Value) : (a.put d v).tmps.size = a.tmps.size := by cases d <;> simp [Act.put]
theorem Act.putd_get_ne (a : Act) (o : Option Tmp) (v : Value) (d : Nat) (h : o ≠ some d) : (a.put o v).tmps[d]? = a.tmps[d]? := by
  cases o with
  | none => rfl
  | some t => simp only [Act.put]; rw [Array.getElem?_setIfInBounds_ne (by simpa using h)]
theorem Act.putd_get_eq (a : Act) (v : Value) (d : Nat) : (a.put (some d) v).tmps[d]? = if d < a.tmps.size then some v else none := by
  simp only [Act.put]
  rw [Array.getElem?_setIfInBounds]
  split <;> simp_all
theorem putAll_eq (a : Act) : ∀ (l : List Oper) (f : Nat → Value) (k : Nat) (a0 : Act), a0.defers = a.defers → a0.tmps.size = a.tmps.size →
    (∀ d : Nat, (∀ o ∈ l, o.dst ≠ some d) → a0.tmps[d]? = a.tmps[d]?) → (∀ (i : Nat) (o : Oper) (d : Nat), l[i]? = some o → o.dst = some d → f (k + i) = a.tmps.getD d undef) → putAll l f k a0 = a
  | [], f, k, a0, hd, hs, h, _ => by
    have : a0.tmps = a.tmps := Array.ext_getElem? (fun d => h d (by simp))
    cases a0; cases a; simp_all [putAll]
  | o :: l, f, k, a0, hd, hs, h, hf => by
    refine putAll_eq a l f (k + 1) _ (by rw [Act.putd_defers]; exact hd) (by rw [Act.putd_size]; exact hs) (fun d hn => ?_) (fun i o' d hi ho => ?_)
    · by_cases hod : o.dst = some d
      · rw [hod, Act.putd_get_eq]
        have hk := hf 0 o d (by simp) hod
        rw [Nat.add_zero] at hk
        by_cases hlt : d < a0.tmps.size
        · rw [if_pos hlt, hk]
          rw [hs] at hlt
          simp [Array.getD, hlt]
        · rw [if_neg hlt]
          rw [hs] at hlt
          exact (Array.getElem?_eq_none (Nat.le_of_not_lt hlt)).symm
      · rw [Act.putd_get_ne _ _ _ _ hod]
        exact h d (fun o' ho' => by rcases List.mem_cons.1 ho' with rfl | h'; exact hod; exact hn o' h')
    · have := hf (i + 1) o' d (by simpa using hi) ho
      rw [show k + 1 + i = k + (i + 1) from by omega]
      exact this
def specB (l : List Oper) : Bool :=
  (l.zipIdx.all fun (o, i) => o.after.all fun e => !Region.binds .any e || decide (e.on < i)) &&
  (let ds := l.filterMap (·.dst); decide ds.Nodup)
theorem filterMap_nodup_inj : ∀ (l : List Oper), (l.filterMap (·.dst)).Nodup → ∀ (i j : Nat) (oi oj : Oper) (d : Nat), l[i]? = some oi → l[j]? = some oj → oi.dst = some d → oj.dst = some d → i = j
  | [], _, i, j, oi, oj, d, hi, _, _, _ => by simp at hi
  | o :: l, hn, i, j, oi, oj, d, hi, hj, di, dj => by
    have mem : ∀ (k : Nat) (ok : Oper), l[k]? = some ok → ok.dst = some d → d ∈ l.filterMap (·.dst) := fun k ok hk dk =>
      List.mem_filterMap.2 ⟨ok, List.mem_of_getElem? hk, dk⟩
    cases i with
    | zero =>
      cases j with
      | zero => rfl
      | succ j =>
        simp at hi hj
        subst hi
        rw [List.filterMap_cons, di] at hn
        exact absurd (mem j oj hj dj) (List.nodup_cons.1 hn).1
    | succ i =>
      cases j with
      | zero =>
        simp at hi hj
        subst hj
        rw [List.filterMap_cons, dj] at hn
        exact absurd (mem i oi hi di) (List.nodup_cons.1 hn).1
      | succ j =>
        simp at hi hj
        have hn' : (l.filterMap (·.dst)).Nodup := by
          rw [List.filterMap_cons] at hn
          split at hn
          · exact hn
          · exact (List.nodup_cons.1 hn).2
        rw [filterMap_nodup_inj l hn' i j oi oj d hi hj di dj]
section
variable {P : Program} {l : List Oper} {Φ : Nat → Value → World → Prop} {w0 : World} {a0 : Act}
structure RInv (l : List Oper) (Φ : Nat → Value → World → Prop) (w0 : World) (a0 : Act) (listed : Array Bool) (a : Act) (w : World) : Prop where
  size : listed.size = l.length
  below : Below w0.heap.size w0 w
  defers : a.defers = a0.defers
  tsize : a.tmps.size = a0.tmps.size
  same : ∀ d : Nat, (∀ (i : Nat) (o : Oper), l[i]? = some o → o.dst = some d → listed.getD i true = false) → a.tmps[d]? = a0.tmps[d]?
  made : ∀ (i : Nat) (o : Oper) (d : Nat), l[i]? = some o → listed.getD i false = true → o.dst = some d → d < a0.tmps.size → Φ i (a.tmps.getD d undef) w
structure Leans (l : List Oper) (Φ : Nat → Value → World → Prop) (w0 : World) (a0 : Act) (o : Oper) (a : Act) (w : World) : Prop where
  below : Below w0.heap.size w0 w
  same : ∀ d : Nat, (∀ o' ∈ l, o'.dst ≠ some d) → a.tmps[d]? = a0.tmps[d]?
  made : ∀ e ∈ o.after, Region.binds .any e = true → ∀ (o' : Oper) (d : Nat), l[e.on]? = some o' → o'.dst = some d → d < a0.tmps.size → Φ e.on (a.tmps.getD d undef) w
  tsize : a.tmps.size = a0.tmps.size
theorem all_listed_of_ready_nil (hB : specB l = true) {listed : Array Bool} (hs : listed.size = l.length) (h : Region.ready .any l.toArray listed = []) : ∀ i, i < l.length → listed.getD i true = true := by
  simp only [specB, Bool.and_eq_true, List.all_eq_true] at hB
  intro i
  induction i using Nat.strongRecOn with
  | ind i ih =>
    intro hi
    by_cases hli : listed.getD i true = true
    · exact hli
    · exfalso
      have : i ∈ Region.ready .any l.toArray listed := by
        rw [mem_ready]
        refine ⟨by simpa using hli, l[i], by simp [hi], fun e he hb => ?_⟩
        have h1 := hB.1 (l[i], i) (by rw [List.mem_zipIdx_iff_getElem?]; simp [hi])
        simp only [Array.all_eq_true_iff_forall_mem] at h1
        have h2 := h1 e he
        rw [hb] at h2
        simp at h2
        have h3 := ih e.on h2 (by omega)
        have h4 : e.on < listed.size := by omega
        simp [Array.getD, h4] at h3 ⊢
        exact h3
      rw [h] at this
      cases this
def unlisted (listed : Array Bool) : Nat := listed.toList.count false
theorem unlisted_set {listed : Array Bool} {i : Nat} (hi : listed.getD i true = false) : unlisted (listed.setIfInBounds i true) + 1 = unlisted listed := by
  unfold unlisted
  have hlt : i < listed.size := by
    rcases Nat.lt_or_ge i listed.size with h | h
    · exact h
    · simp [Array.getD, Nat.not_lt.2 h] at hi
  have hv : listed.toList[i]'(by simpa using hlt) = false := by simpa [Array.getD, hlt] using hi
  rw [Array.toList_setIfInBounds]
  rw [List.count_set (by simpa using hlt)]
  have hpos : 0 < listed.toList.count false := List.count_pos_iff.2 (by rw [← hv]; exact List.getElem_mem _)
  rw [hv, if_pos (by rfl), if_neg (by decide)]
  omega
theorem wpAny_of_spec {Q : Exit → Act → World → Prop} (hB : specB l = true)
    (stable : ∀ i v w w', Φ i v w → Below w.heap.size w w' → Φ i v w')
    (each : ∀ (i : Nat) (o : Oper), l[i]? = some o → ∀ a w, Leans l Φ w0 a0 o a w →
      if Region.wanted o (yielded l.toArray a.tmps) then o.wp P a w (fun a' w' => ∃ v, a' = a.put o.dst v ∧ Below w.heap.size w w' ∧ Φ i v w') Q else Φ i undef w)
    (fin : ∀ (f : Nat → Value) (w : World), Below w0.heap.size w0 w → (∀ (i : Nat) (o : Oper) (d : Nat), l[i]? = some o → o.dst = some d → d < a0.tmps.size → Φ i (f i) w) → Q .normal (putAll l f 0 a0) w) :
    ∀ (fuel : Nat) (listed : Array Bool) (a : Act) (w : World), unlisted listed = fuel → RInv l Φ w0 a0 listed a w → wpAny P .any l.toArray Q fuel listed a w := by
  have hnd : (l.filterMap (·.dst)).Nodup := by
    simp only [specB, Bool.and_eq_true] at hB
    exact of_decide_eq_true hB.2
  have close : ∀ (listed : Array Bool) (a : Act) (w : World), RInv l Φ w0 a0 listed a w → (∀ i, i < l.length → listed.getD i true = true) → Q .normal a w := by
    intro listed a w h hall
    have e : putAll l (fun i => match (l[i]?).bind (·.dst) with | some d => a.tmps.getD d undef | none => undef) 0 a0 = a := by
      refine putAll_eq a l _ 0 a0 h.defers.symm h.tsize.symm (fun d hn => ?_) (fun i o d hi ho => ?_)
      · exact (h.same d (fun i o hi ho => absurd ho (hn o (List.mem_of_getElem? hi)))).symm
      · rw [Nat.zero_add, hi]; simp [ho]
    rw [← e]
    refine fin _ w h.below (fun i o d hi ho hds => ?_)
    have hlt : i < l.length := by
      rcases Nat.lt_or_ge i l.length with h' | h'
      · exact h'
      · rw [List.getElem?_eq_none h'] at hi; cases hi
    have hl := hall i hlt
    have := h.made i o d hi (by have hs := h.size; simp [Array.getD, show i < listed.size by omega] at hl ⊢; exact hl) ho hds
    simp only [hi, Option.bind_some, ho]
    exact this
  intro fuel
  induction fuel with
  | zero =>
    intro listed a w hu h
    have hall : ∀ i, i < l.length → listed.getD i true = true := fun i hi => by
      have hs := h.size
      have hlt : i < listed.size := by omega
      by_cases hb : listed[i] = true
      · simp [Array.getD, hlt, hb]
      · exfalso
        have : 0 < listed.toList.count false := List.count_pos_iff.2 (by
          have : listed[i] = false := by simpa using hb
          rw [← this]; exact Array.getElem_mem_toList _)
        unfold unlisted at hu
        omega
    refine ⟨?_, close listed a w h hall⟩
    rw [List.eq_nil_iff_forall_not_mem]
    intro i hi
    rw [mem_ready] at hi
    obtain ⟨h1, o, h2, _⟩ := hi
    have hlt : i < l.length := by
      rcases Nat.lt_or_ge i l.length with h' | h'
      · exact h'
      · simp [h'] at h2
    rw [hall i hlt] at h1
    cases h1
  | succ fuel ih =>
    intro listed a w hu h
    refine ⟨fun hn => close listed a w h (all_listed_of_ready_nil hB h.size hn), fun i hi => ?_⟩
    have hi' := hi
    rw [mem_ready] at hi
    obtain ⟨hun, o, ho, hafter⟩ := hi
    have ho' : l[i]? = some o := by simpa using ho
    have hl : i < l.length := by
      rcases Nat.lt_or_ge i l.length with h' | h'
      · exact h'
      · rw [List.getElem?_eq_none h'] at ho'; cases ho'
    have lean : Leans l Φ w0 a0 o a w := ⟨h.below, fun d hn => h.same d (fun i o hi ho => absurd ho (hn o (List.mem_of_getElem? hi))),
      fun e he hb o' d hi' hd hds => h.made e.on o' d hi' (hafter e he hb) hd hds, h.tsize⟩
    have step : ∀ v w', Below w.heap.size w w' → Φ i v w' → RInv l Φ w0 a0 (listed.setIfInBounds i true) (a.put o.dst v) w' := fun v w' hb hv => by
      refine ⟨by rw [Array.size_setIfInBounds]; exact h.size, h.below.trans (hb.mono h.below.size), by rw [Act.putd_defers]; exact h.defers, by rw [Act.putd_size]; exact h.tsize, fun d hd => ?_, fun j oj d hj hlj hdj hds => ?_⟩
      · by_cases hod : o.dst = some d
        · have := hd i o ho' hod
          simp [Array.getD, show i < listed.size by have := h.size; omega] at this
        · rw [Act.putd_get_ne _ _ _ _ hod]
          refine h.same d (fun j oj hj hdj => ?_)
          have h1 := hd j oj hj hdj
          have hne : j ≠ i := fun e => by subst e; rw [ho'] at hj; cases hj; exact hod hdj
          rw [getD_set_ne true (Ne.symm hne)] at h1
          exact h1
      · by_cases hji : j = i
        · subst hji
          rw [ho'] at hj; cases hj
          have hlt : d < a.tmps.size := by have := h.tsize; omega
          · have : (a.put o.dst v).tmps.getD d undef = v := by
              rw [hdj]
              have e := Act.putd_get_eq a v d
              rw [if_pos hlt] at e
              rw [Array.getD_eq_getD_getElem?, e]; rfl
            rw [this]; exact hv
        · have hne : o.dst ≠ some d := fun e => hji (filterMap_nodup_inj l hnd j i oj o d hj ho' hdj e)
          have h1 := h.made j oj d hj (by rw [getD_set_ne false (Ne.symm hji)] at hlj; exact hlj) hdj hds
          have e : (a.put o.dst v).tmps.getD d undef = a.tmps.getD d undef := by
            rw [Array.getD_eq_getD_getElem?, Array.getD_eq_getD_getElem?, Act.putd_get_ne _ _ _ _ hne]
          rw [e]
          exact stable _ _ _ _ h1 hb
    have hu' : unlisted (listed.setIfInBounds i true) = fuel := by have := unlisted_set hun; omega
    have he := each i o ho' a w lean
    unfold wpOp
    simp only [ho]
    split
    · rename_i hw
      rw [if_pos hw] at he
      exact .inl (Oper.wp_mono (fun a' w' ⟨v, ha', hb, hv⟩ => by subst ha'; exact ih _ _ _ hu' (step v w' hb hv)) he)
    · rename_i hw
      rw [if_neg hw] at he
      exact ih _ _ _ hu' (step undef w (Below.refl _ _) he)
theorem wp_region_spec {id : Nat} {Q : Exit → Act → World → Prop} (hm : P.follows .mixedOrders = true) (Φ : Nat → Value → World → Prop) (hB : specB l = true)
    (stable : ∀ i v w w', Φ i v w → Below w.heap.size w w' → Φ i v w')
    (each : ∀ (i : Nat) (o : Oper), l[i]? = some o → ∀ a w, Leans l Φ w0 a0 o a w →
      if Region.wanted o (yielded l.toArray a.tmps) then o.wp P a w (fun a' w' => ∃ v, a' = a.put o.dst v ∧ Below w.heap.size w w' ∧ Φ i v w') Q else Φ i undef w)
    (fin : ∀ (f : Nat → Value) (w : World), Below w0.heap.size w0 w → (∀ (i : Nat) (o : Oper) (d : Nat), l[i]? = some o → o.dst = some d → d < a0.tmps.size → Φ i (f i) w) → Q .normal (putAll l f 0 a0) w) :
    (Code.region id l.toArray true).wp P Q a0 w0 := by
  refine wp_region_any hm (wpAny_of_spec (w0 := w0) (a0 := a0) hB stable each fin _ _ a0 _ (by simp [unlisted]) ⟨by simp, (Below.refl _ _).drew, rfl, rfl, fun d _ => rfl, fun i o d hi hl _ _ => ?_⟩)
  have hlt : i < l.length := by
    rcases Nat.lt_or_ge i l.length with h' | h'
    · exact h'
    · rw [List.getElem?_eq_none h'] at hi; cases hi
  simp [Array.getD, hlt] at hl
end
end Go
namespace Go
open Go.RowKit
section
variable {P : Program} {ops : Array Oper} {md : Region.Mode} {C : World → Prop}
def wpAnyLQ (P : Program) (md : Region.Mode) (ops : Array Oper) (C : World → Prop) (n : Nat) (L : Array Bool → Act → Prop) : Nat → Array Bool → Act → Prop
  | 0, listed, a => L listed a
  | f + 1, listed, a =>
    Region.ready md ops listed ≠ [] ∧ ∀ i ∈ Region.ready md ops listed, i < n ∧ qOp P ops C i (wpAnyLQ P md ops C n L f (listed.setIfInBounds i true)) a
theorem wpAny_of_headQ {n g : Nat} {L : Array Bool → Act → Prop} {Q' : Exit → Act → World → Prop} (hL : ∀ listed a w, C w → L listed a → wpAny P md ops Q' g listed a w) :
    ∀ (f : Nat) (listed : Array Bool) (a : Act) (w : World), C w → wpAnyLQ P md ops C n L f listed a → wpAny P md ops Q' (f + g) listed a w
  | 0, listed, a, w, hw, h => by rw [Nat.zero_add]; exact hL _ _ _ hw h
  | f + 1, listed, a, w, hw, h => by
    rw [show f + 1 + g = (f + g) + 1 by omega]
    exact ⟨fun h0 => absurd h0 h.1, fun i hi => wpOp_of_qOp hw (fun a' w' hw' h' => wpAny_of_headQ hL f _ a' w' hw' h') (h.2 i hi).2⟩
theorem wpAnyLQ_first {n i : Nat} {oi : Oper} {v : Value} {L : Array Bool → Act → Prop} (hi : ops[i]? = some oi) (hsel : ∀ (j : Nat) (o : Oper) cs b, ops[j]? = some o → o.op ≠ .select cs b)
    (hs : Region.sinkB md ops n = true) (hc : Region.chainB md ops n = true) (hn : n < ops.size) (hin : i < n)
    (hdone : ∀ listed a, L listed a → ∀ j ∈ Region.ready md ops listed, n ≤ j) :
    ∀ (f : Nat) (listed : Array Bool) (a : Act), HeadInv md ops n listed →
      (∀ j oj, ops[j]? = some oj → j ≠ i → listed.getD j true = false → (∀ e ∈ oj.after, Region.binds md e = true → e.on ≠ i) → oi.apart ops oj = true) →
      i ∈ Region.ready md ops listed → YieldsIn P ops C oi v a →
      wpAnyLQ P md ops C n L f (listed.setIfInBounds i true) (a.put oi.dst v) → wpAnyLQ P md ops C n L (f + 1) listed a := by
  intro f
  induction f with
  | zero =>
    intro listed a inv _ hr hy H
    have hun := (mem_ready.1 hr).1
    refine ⟨fun h => (by rw [h] at hr; cases hr), fun j hj => ?_⟩
    have hjn : j < n := by
      rcases Nat.lt_or_ge j n with h | h
      · exact h
      · exact absurd hj (tail_waits hs hc hn inv _ i rfl hin hun j h)
    refine ⟨hjn, ?_⟩
    by_cases hji : j = i
    · subst hji; exact hy.qOp hi H
    · have := hdone _ _ H j (ready_mono hj hji)
      omega
  | succ f ih =>
    intro listed a inv hfree hr hy H
    have hun := (mem_ready.1 hr).1
    refine ⟨fun h => (by rw [h] at hr; cases hr), fun j hj => ?_⟩
    have hjn : j < n := by
      rcases Nat.lt_or_ge j n with h | h
      · exact h
      · exact absurd hj (tail_waits hs hc hn inv _ i rfl hin hun j h)
    refine ⟨hjn, ?_⟩
    by_cases hji : j = i
    · subst hji; exact hy.qOp hi H
    · have h1 := (H.2 j (ready_mono hj hji)).2
      obtain ⟨hjun, oj, hoj, hall⟩ := mem_ready.1 hj
      have hnot : ∀ e ∈ oj.after, Region.binds md e = true → e.on ≠ i := fun e he hb heq => by
        have h1 := hall e he hb
        rw [heq, getD_both hun] at h1
        cases h1
      have h2 := qOp_put hoj (hfree j oj hoj hji hjun hnot) (fun cs b => hsel i oi cs b hi) (fun cs b => hsel j oj cs b hoj) hy h1
      have hfree' : ∀ k ok, ops[k]? = some ok → k ≠ i → (listed.setIfInBounds j true).getD k true = false →
          (∀ e ∈ ok.after, Region.binds md e = true → e.on ≠ i) → oi.apart ops ok = true := fun k ok hk hki hun hno => by
        refine hfree k ok hk hki ?_ hno
        by_cases hjk : j = k
        · subst hjk; exact hjun
        · rw [getD_set_ne true hjk] at hun; exact hun
      refine qOp_mono (fun a' h3 => ih (listed.setIfInBounds j true) a' (inv.set hj hjn) hfree' (ready_mono hr (Ne.symm hji)) h3.1 ?_) h2
      rw [Array.setIfInBounds_comm _ _ hji]
      exact h3.2
theorem wpAnyLQ_lex {n g : Nat} {Lq : Act → Prop} (hsel : Region.noSelect ops = true) (hs : Region.sinkB md ops n = true) (hc : Region.chainB md ops n = true) (hn : n < ops.size) :
    ∀ (l : List Oper) (k : Nat) (listed : Array Bool) (a : Act), (∀ j, j < l.length → l[j]? = ops[k + j]?) → k + l.length = n → HeadInv md ops n listed →
    Region.lexHead md ops g l.length k listed = true → wpQuiet P ops C Lq l a →
    wpAnyLQ P md ops C n (fun listed' a' => Region.seqB md ops g n listed' = true ∧ Lq a') l.length listed a
  | [], k, listed, a, _, hk, _, hB, h => by
    have : k = n := by simpa using hk
    subst this
    exact ⟨by simpa [Region.lexHead] using hB, h⟩
  | o :: l, k, listed, a, hl, hk, inv, hB, h => by
    have h0 : ops[k]? = some o := by simpa using (hl 0 (by simp)).symm
    simp only [List.length_cons, Region.lexHead, Bool.and_eq_true] at hB
    obtain ⟨⟨hr, hf⟩, hB'⟩ := hB
    have hkn : k < n := by simp only [List.length_cons] at hk; omega
    have hr' : k ∈ Region.ready md ops listed := by simpa using hr
    have hst : qOp P ops C k (wpQuiet P ops C Lq l) a := by unfold qOp; simp only [h0]; exact h
    obtain ⟨v, hy, hK⟩ := yieldsIn_of_qOp h0 hst
    exact wpAnyLQ_first h0 (Region.noSelect_spec hsel) hs hc hn hkn (fun listed' a' hL => seqB_ready hL.1) l.length listed a inv (Region.free_spec h0 hf) hr' hy
      (wpAnyLQ_lex hsel hs hc hn l (k + 1) _ _ (fun j hj => by have := hl (j + 1) (by simp; omega); simpa [Nat.add_assoc, Nat.add_comm 1 j] using this) (by simp only [List.length_cons] at hk; omega) (inv.set hr' hkn) hB' hK)
theorem wp_region_ext_tail {id : Nat} {Q : Exit → Act → World → Prop} {a : Act} {w : World} {l : List Oper} (n : Nat) (hm : P.follows .mixedOrders = true) (hB : Region.lexTailB .any l.toArray n = true)
    (h : wpQuiet P l.toArray (fun w' => ∃ x, w' = w.ext x) (fun a' => ∀ w', (∃ x, w' = w.ext x) → wpList P l.toArray Q (l.drop n) a' w') (l.take n) a) : (Code.region id l.toArray true).wp P Q a w := by
  simp only [Region.lexTailB, Bool.and_eq_true, decide_eq_true_eq] at hB
  obtain ⟨⟨⟨⟨hsel, hn⟩, hs⟩, hc⟩, hlex⟩ := hB
  have hn' : n < l.length := by simpa using hn
  have htl : (l.take n).length = n := by simp; omega
  have hdl : (l.drop n).length = l.toArray.size - n := by simp
  have inv0 : HeadInv .any l.toArray n (Array.replicate l.toArray.size false) :=
    ⟨by simp, fun j oj _ hl => (by rw [getD_replicate_false] at hl; cases hl), fun t _ ht => getD_in (by simpa using ht) (getD_replicate_false _ _)⟩
  have H := wpAnyLQ_lex (md := .any) (g := l.toArray.size - n) hsel hs hc hn (l.take n) 0 _ a (fun j hj => by
    have hj' : j < n := by rw [htl] at hj; exact hj
    simp [hj']) (by simpa using htl) inv0 (by rw [htl]; exact hlex) h
  refine wp_region_any hm ?_
  have := wpAny_of_headQ (C := fun w' => ∃ x, w' = w.ext x) (Q' := Q) (g := l.toArray.size - n) (fun listed a' w' hw' hL => by
    have := wpAny_of_seq (md := .any) (Q' := Q) (l.drop n) n listed a' w' (fun j => by simp [List.getElem?_drop]) (by rw [hdl]; exact hL.1) (hL.2 w' hw')
    rwa [hdl] at this) _ _ _ w.drew ⟨_, w.drew_ext⟩ H
  rw [htl, show n + (l.toArray.size - n) = l.toArray.size by omega] at this
  exact this
end
section
variable {P : Program} {l : List Oper} {Φ : Nat → Value → World → Prop} {w0 : World} {a0 : Act}
def unheaded (n : Nat) (listed : Array Bool) : Nat := (listed.toList.take n).count false
theorem unheaded_set {n : Nat} {listed : Array Bool} {i : Nat} (hi : listed.getD i true = false) (hn : i < n) : unheaded n (listed.setIfInBounds i true) + 1 = unheaded n listed := by
  unfold unheaded
  have hlt : i < listed.size := by
    rcases Nat.lt_or_ge i listed.size with h | h
    · exact h
    · simp [Array.getD, Nat.not_lt.2 h] at hi
  have hlt' : i < (listed.toList.take n).length := by simp; omega
  have hv : (listed.toList.take n)[i] = false := by simpa [Array.getD, hlt] using hi
  rw [Array.toList_setIfInBounds, List.take_set, List.count_set hlt']
  have hpos : 0 < (listed.toList.take n).count false := List.count_pos_iff.2 (by rw [← hv]; exact List.getElem_mem _)
  rw [hv, if_pos (by rfl), if_neg (by decide)]
  omega
def specTailB (l : List Oper) (n : Nat) : Bool :=
  specB l && decide (n < l.length) && Region.sinkB .any l.toArray n && Region.chainB .any l.toArray n && Region.seqB .any l.toArray (l.length - n) n (Array.replicate n true ++ Array.replicate (l.length - n) false)
theorem listed_form {n m : Nat} {listed : Array Bool} (hs : listed.size = m) (hn : n ≤ m) (h1 : ∀ i, i < n → listed.getD i true = true) (h2 : ∀ i, n ≤ i → i < m → listed.getD i true = false) : listed = Array.replicate n true ++ Array.replicate (m - n) false := by
  apply Array.ext (by simp; omega)
  intro i hi hi'
  rw [Array.getElem_append]
  split
  · rename_i h
    have := h1 i (by simpa using h)
    simp [Array.getD, hi] at this ⊢; exact this
  · rename_i h
    have := h2 i (by simpa using h) (by omega)
    simp [Array.getD, hi] at this ⊢; exact this
theorem wpAny_of_specT {n : Nat} {Q : Exit → Act → World → Prop} (hB : specTailB l n = true)
    (stable : ∀ i v w w', Φ i v w → Below w.heap.size w w' → Φ i v w')
    (each : ∀ (i : Nat) (o : Oper), i < n → l[i]? = some o → ∀ a w, Leans l Φ w0 a0 o a w →
      if Region.wanted o (yielded l.toArray a.tmps) then o.wp P a w (fun a' w' => ∃ v, a' = a.put o.dst v ∧ Below w.heap.size w w' ∧ Φ i v w') Q else Φ i undef w)
    (fin : ∀ (f : Nat → Value) (w : World), Below w0.heap.size w0 w → (∀ (i : Nat) (o : Oper) (d : Nat), i < n → l[i]? = some o → o.dst = some d → d < a0.tmps.size → Φ i (f i) w) → wpList P l.toArray Q (l.drop n) (putAll (l.take n) f 0 a0) w) :
    ∀ (fuel : Nat) (listed : Array Bool) (a : Act) (w : World), unheaded n listed = fuel → HeadInv .any l.toArray n listed → RInv l Φ w0 a0 listed a w → wpAny P .any l.toArray Q (fuel + (l.length - n)) listed a w := by
  simp only [specTailB, Bool.and_eq_true, decide_eq_true_eq] at hB
  obtain ⟨⟨⟨⟨hB, hnl⟩, hsink⟩, hchain⟩, hseq⟩ := hB
  have hnd : (l.filterMap (·.dst)).Nodup := by
    simp only [specB, Bool.and_eq_true] at hB
    exact of_decide_eq_true hB.2
  have close : ∀ (listed : Array Bool) (a : Act) (w : World), HeadInv .any l.toArray n listed → RInv l Φ w0 a0 listed a w → (∀ i, i < n → listed.getD i true = true) → wpAny P .any l.toArray Q (l.length - n) listed a w := by
    intro listed a w inv h hall
    have hform : listed = Array.replicate n true ++ Array.replicate (l.length - n) false := listed_form h.size (by omega) hall (fun i h1 h2 => inv.tail i h1 (by simpa using h2))
    have e : putAll (l.take n) (fun i => match (l[i]?).bind (·.dst) with | some d => a.tmps.getD d undef | none => undef) 0 a0 = a := by
      refine putAll_eq a (l.take n) _ 0 a0 h.defers.symm h.tsize.symm (fun d hn => ?_) (fun i o d hi ho => ?_)
      · refine (h.same d (fun i o hi ho => ?_)).symm
        by_cases hin : i < n
        · exact absurd ho (hn o (List.mem_of_getElem? (i := i) (by rw [List.getElem?_take, if_pos hin]; exact hi)))
        · exact inv.tail i (by omega) (by
            rcases Nat.lt_or_ge i l.length with h' | h'
            · simpa using h'
            · rw [List.getElem?_eq_none h'] at hi; cases hi)
      · rw [List.getElem?_take] at hi
        split at hi
        · rw [Nat.zero_add, hi]; simp [ho]
        · cases hi
    have hdl : (l.drop n).length = l.length - n := by simp
    have := wpAny_of_seq (md := .any) (ops := l.toArray) (Q' := Q) (P := P) (l.drop n) n listed a w (fun j => by simp [List.getElem?_drop]) (by rw [hdl, hform]; exact hseq) (by
      rw [← e]
      refine fin _ w h.below (fun i o d hin hi ho hds => ?_)
      have hl := hall i hin
      have := h.made i o d hi (by have hs := h.size; simp [Array.getD, show i < listed.size by omega] at hl ⊢; exact hl) ho hds
      simp only [hi, Option.bind_some, ho]
      exact this)
    rwa [hdl] at this
  intro fuel
  induction fuel with
  | zero =>
    intro listed a w hu inv h
    rw [Nat.zero_add]
    refine close listed a w inv h (fun i hi => ?_)
    have hs := h.size
    have hlt : i < listed.size := by omega
    by_cases hb : listed[i] = true
    · simp [Array.getD, hlt, hb]
    · exfalso
      have : 0 < (listed.toList.take n).count false := List.count_pos_iff.2 (by
        have hf : listed[i] = false := by simpa using hb
        have hlt' : i < (listed.toList.take n).length := by simp; omega
        have : (listed.toList.take n)[i] = false := by simpa using hf
        rw [← this]; exact List.getElem_mem _)
      unfold unheaded at hu
      omega
  | succ fuel ih =>
    intro listed a w hu inv h
    rw [show fuel + 1 + (l.length - n) = (fuel + (l.length - n)) + 1 by omega]
    have hsome : ∃ i, i < n ∧ listed.getD i true = false := by
      have : 0 < (listed.toList.take n).count false := by unfold unheaded at hu; omega
      obtain ⟨i, hi, he⟩ := List.getElem_of_mem (List.count_pos_iff.1 this)
      have hi' := hi
      simp at hi'
      exact ⟨i, by omega, by simp at he; simp [Array.getD, show i < listed.size by omega, he]⟩
    obtain ⟨i0, hi0, hun0⟩ := hsome
    refine ⟨fun hn => ?_, fun i hi => ?_⟩
    · have := all_listed_of_ready_nil hB h.size hn i0 (by omega)
      rw [this] at hun0; cases hun0
    have hin : i < n := by
      rcases Nat.lt_or_ge i n with h' | h'
      · exact h'
      · exact absurd hi (tail_waits hsink hchain (by simpa using hnl) inv _ i0 rfl hi0 hun0 i h')
    have hi' := hi
    rw [mem_ready] at hi
    obtain ⟨hun, o, ho, hafter⟩ := hi
    have ho' : l[i]? = some o := by simpa using ho
    have hl : i < l.length := by omega
    have lean : Leans l Φ w0 a0 o a w := ⟨h.below, fun d hn => h.same d (fun i o hi ho => absurd ho (hn o (List.mem_of_getElem? hi))),
      fun e he hb o' d hi' hd hds => h.made e.on o' d hi' (hafter e he hb) hd hds, h.tsize⟩
    have step : ∀ v w', Below w.heap.size w w' → Φ i v w' → RInv l Φ w0 a0 (listed.setIfInBounds i true) (a.put o.dst v) w' := fun v w' hb hv => by
      refine ⟨by rw [Array.size_setIfInBounds]; exact h.size, h.below.trans (hb.mono h.below.size), by rw [Act.putd_defers]; exact h.defers, by rw [Act.putd_size]; exact h.tsize, fun d hd => ?_, fun j oj d hj hlj hdj hds => ?_⟩
      · by_cases hod : o.dst = some d
        · have := hd i o ho' hod
          simp [Array.getD, show i < listed.size by have := h.size; omega] at this
        · rw [Act.putd_get_ne _ _ _ _ hod]
          refine h.same d (fun j oj hj hdj => ?_)
          have h1 := hd j oj hj hdj
          have hne : j ≠ i := fun e => by subst e; rw [ho'] at hj; cases hj; exact hod hdj
          rw [getD_set_ne true (Ne.symm hne)] at h1
          exact h1
      · by_cases hji : j = i
        · subst hji
          rw [ho'] at hj; cases hj
          have hlt : d < a.tmps.size := by have := h.tsize; omega
          have : (a.put o.dst v).tmps.getD d undef = v := by
            rw [hdj]
            have e := Act.putd_get_eq a v d
            rw [if_pos hlt] at e
            rw [Array.getD_eq_getD_getElem?, e]; rfl
          rw [this]; exact hv
        · have hne : o.dst ≠ some d := fun e => hji (filterMap_nodup_inj l hnd j i oj o d hj ho' hdj e)
          have h1 := h.made j oj d hj (by rw [getD_set_ne false (Ne.symm hji)] at hlj; exact hlj) hdj hds
          have e : (a.put o.dst v).tmps.getD d undef = a.tmps.getD d undef := by
            rw [Array.getD_eq_getD_getElem?, Array.getD_eq_getD_getElem?, Act.putd_get_ne _ _ _ _ hne]
          rw [e]
          exact stable _ _ _ _ h1 hb
    have hu' : unheaded n (listed.setIfInBounds i true) = fuel := by have := unheaded_set hun hin; omega
    have inv' := inv.set hi' hin
    have he := each i o hin ho' a w lean
    unfold wpOp
    simp only [ho]
    split
    · rename_i hw
      rw [if_pos hw] at he
      exact .inl (Oper.wp_mono (fun a' w' ⟨v, ha', hb, hv⟩ => by subst ha'; exact ih _ _ _ hu' inv' (step v w' hb hv)) he)
    · rename_i hw
      rw [if_neg hw] at he
      exact ih _ _ _ hu' inv' (step undef w (Below.refl _ _) he)
theorem wp_region_spec_tail {id : Nat} {Q : Exit → Act → World → Prop} (n : Nat) (hm : P.follows .mixedOrders = true) (Φ : Nat → Value → World → Prop) (hB : specTailB l n = true)
    (stable : ∀ i v w w', Φ i v w → Below w.heap.size w w' → Φ i v w')
    (each : ∀ (i : Nat) (o : Oper), i < n → l[i]? = some o → ∀ a w, Leans l Φ w0 a0 o a w →
      if Region.wanted o (yielded l.toArray a.tmps) then o.wp P a w (fun a' w' => ∃ v, a' = a.put o.dst v ∧ Below w.heap.size w w' ∧ Φ i v w') Q else Φ i undef w)
    (fin : ∀ (f : Nat → Value) (w : World), Below w0.heap.size w0 w → (∀ (i : Nat) (o : Oper) (d : Nat), i < n → l[i]? = some o → o.dst = some d → d < a0.tmps.size → Φ i (f i) w) → wpList P l.toArray Q (l.drop n) (putAll (l.take n) f 0 a0) w) :
    (Code.region id l.toArray true).wp P Q a0 w0 := by
  have hnl : n < l.length := by
    simp only [specTailB, Bool.and_eq_true, decide_eq_true_eq] at hB
    exact hB.1.1.1.2
  refine wp_region_any hm ?_
  have := wpAny_of_specT (w0 := w0) (a0 := a0) (P := P) (Q := Q) hB stable each fin _ (Array.replicate l.toArray.size false) a0 w0.drew rfl
    ⟨by simp, fun j oj _ hl => (by rw [getD_replicate_false] at hl; cases hl), fun t _ ht => getD_in (by simpa using ht) (getD_replicate_false _ _)⟩
    ⟨by simp, (Below.refl _ _).drew, rfl, rfl, fun d _ => rfl, fun i o d hi hl _ _ => (by rw [getD_replicate_false] at hl; cases hl)⟩
  have hu : unheaded n (Array.replicate l.toArray.size false) = n := by
    unfold unheaded
    simp
    omega
  rw [hu, show n + (l.length - n) = l.toArray.size by simp; omega] at this
  exact this
end
end Go
namespace Go.Proofs.Ytejnnghfelpioaa
open Go.RowKit
def iv (x : BitVec 64) : Int := (x.toNat : Int)
theorem iv_nonneg (x : BitVec 64) : 0 ≤ iv x := Int.natCast_nonneg _
theorem iv_ofNat (n : Nat) (h : n < 18446744073709551616) : iv (BitVec.ofNat 64 n) = (n : Int) := by
  unfold iv; rw [BitVec.toNat_ofNat, Nat.mod_eq_of_lt h]
theorem iv_xor (x y : BitVec 64) : bits .xor .u64 (iv x) (iv y) = iv (x ^^^ y) := by
  unfold iv; rw [u64_xor_nat _ _ x.isLt y.isLt, BitVec.toNat_xor]
theorem iv_and (x y : BitVec 64) : bits .and .u64 (iv x) (iv y) = iv (x &&& y) := by
  unfold iv; rw [u64_and_nat _ _ x.isLt y.isLt, BitVec.toNat_and]
theorem iv_or (x y : BitVec 64) : bits .or .u64 (iv x) (iv y) = iv (x ||| y) := by
  unfold iv; rw [u64_or_nat _ _ x.isLt y.isLt, BitVec.toNat_or]
theorem wrap_u64' (n : Int) : IntKind.u64.wrap n = n % 18446744073709551616 := by simp [IntKind.wrap, IntKind.bits, IntKind.signed]
theorem iv_add (x y : BitVec 64) : IntKind.u64.wrap (iv x + iv y) = iv (x + y) := by
  rw [wrap_u64']; unfold iv; rw [BitVec.toNat_add]; omega
theorem iv_shl (x : BitVec 64) (n : Nat) : IntKind.u64.wrap (iv x * 2 ^ n) = iv (x <<< n) := by
  rw [wrap_u64']; unfold iv; rw [BitVec.toNat_shiftLeft, Nat.shiftLeft_eq, Int.natCast_emod, Int.natCast_mul, Int.natCast_pow]
  rfl
theorem iv_shr (x : BitVec 64) (n : Nat) : iv x / 2 ^ n = iv (x >>> n) := by
  unfold iv; rw [BitVec.toNat_ushiftRight, Nat.shiftRight_eq_div_pow, Int.natCast_ediv, Int.natCast_pow]
  rfl
theorem rot_spell (x : BitVec 64) (n : Nat) (h : n < 64) : bits .or .u64 (IntKind.u64.wrap (iv x * 2 ^ n)) (iv x / 2 ^ (64 - n)) = iv (x.rotateLeft n) := by
  rw [iv_shl, iv_shr, iv_or]
  congr 1
  rw [BitVec.rotateLeft_def, Nat.mod_eq_of_lt h]
def nb (xs : List (BitVec 64)) (j : Nat) : BitVec 64 := xs.getD j 0
def cellsB (xs : List (BitVec 64)) : Array Value := (xs.map fun x => Value.int .u64 (iv x)).toArray
def ArrB (t : TypeId) (w : World) (b : Nat) (xs : List (BitVec 64)) : Prop := w.heap[b]? = some (.cells (cellsB xs) t (0, 0))
theorem ArrB.cell {t : TypeId} {w : World} {b : Nat} {xs : List (BitVec 64)} (h : ArrB t w b xs) (j : Nat) (hj : j < xs.length) : w.cell? ⟨b, j, none⟩ = some (.int .u64 (iv (nb xs j))) := by
  unfold ArrB at h
  simp [World.cell?, h, cellsB, nb, hj]
theorem ArrB.free {t : TypeId} {w : World} {b : Nat} {xs : List (BitVec 64)} (h : ArrB t w b xs) (j : Nat) : w.frozen? ⟨b, j, none⟩ = false := by
  unfold ArrB at h
  simp [World.frozen?, h]
theorem ArrB.lt {t : TypeId} {w : World} {b : Nat} {xs : List (BitVec 64)} (h : ArrB t w b xs) : b < w.heap.size := by
  unfold ArrB at h
  exact (Array.getElem?_eq_some_iff.1 h).1
theorem ArrB.set {t : TypeId} {w : World} {b : Nat} {xs : List (BitVec 64)} (h : ArrB t w b xs) (j : Nat) (x : BitVec 64) : ArrB t (w.setCell ⟨b, j, none⟩ (.int .u64 (iv x))) b (xs.set j x) := by
  unfold ArrB at *
  simp [World.setCell, Array.getElem?_modify, h, cellsB, List.map_set]
theorem ArrB.other {t : TypeId} {w : World} {b : Nat} {xs : List (BitVec 64)} (h : ArrB t w b xs) {a : Addr} (ha : b ≠ a.block) (v : Value) : ArrB t (w.setCell a v) b xs := by
  unfold ArrB at *
  rw [Below.heap_setCell _ _ _ _ ha]; exact h
theorem ArrB.below {t : TypeId} {w w' : World} {b B : Nat} {xs : List (BitVec 64)} (h : ArrB t w b xs) (hb : Below B w w') (hB : b < B) : ArrB t w' b xs := by
  unfold ArrB at *
  rw [hb.block b hB]; exact h
theorem ArrB.alloc {t : TypeId} {w : World} {b : Nat} {xs : List (BitVec 64)} (h : ArrB t w b xs) (o : Obj) : ArrB t (w.alloc o) b xs := by
  unfold ArrB at *
  rw [Below.heap_alloc _ _ _ (ArrB.lt h)]; exact h
theorem ArrB.drew {t : TypeId} {w : World} {b : Nat} {xs : List (BitVec 64)} (h : ArrB t w b xs) : ArrB t w.drew b xs := h
theorem ArrB.ext {t : TypeId} {w : World} {b : Nat} {xs : List (BitVec 64)} (h : ArrB t w b xs) (x : World) : ArrB t (w.ext x) b xs := h.below (w.ext_below x) h.lt
theorem ArrB.new (t : TypeId) (w : World) (xs : List (BitVec 64)) : ArrB t (w.alloc (.cells (cellsB xs) t)) w.heap.size xs := by
  unfold ArrB
  show (w.heap.push _)[w.heap.size]? = _
  simp
theorem size_cellsB (s : List (BitVec 64)) : (cellsB s).size = s.length := by simp [cellsB]
theorem one_cellsB (s : List (BitVec 64)) : (cellsB s).all (·.oneCell') = true := by
  rw [Array.all_eq_true_iff_forall_mem]
  intro v hv
  simp [cellsB] at hv
  obtain ⟨x, _, rfl⟩ := hv
  rfl
theorem mask63 (k : Int) : bits .and .u64 (IntKind.u64.wrap k) 63 = k % 64 := by
  have h0 : 0 ≤ k % 18446744073709551616 := Int.emod_nonneg _ (by omega)
  rw [wrap_u64']
  obtain ⟨m, hm⟩ := Int.eq_ofNat_of_zero_le h0
  have hlt : m < 18446744073709551616 := by omega
  rw [hm, show (63 : Int) = ((63 : Nat) : Int) from rfl, u64_and_nat m 63 hlt (by omega), show (63 : Nat) = 2 ^ 6 - 1 from rfl, Nat.and_two_pow_sub_one_eq_mod]
  omega
end Go.Proofs.Ytejnnghfelpioaa
namespace Go
open Go.RowKit
theorem run_append_zero {P : Program} (w : World) (t ty e : TypeId) (i : TypeInfo) (ht : P.underlying t = some (.slice e)) (hi : P.info? e = some i) (base ao : Option Addr) (n cap c : Nat) (hc : n ≤ cap) :
    (Builtin.append_ #[t, t] ty #[.slice base n cap, .slice ao 0 c]).run P w = .ok (.slice base n cap) w := by
  cases base <;> cases ao <;> simp [Builtin.append_, run_underlying ht, sizeOf, typeInfo, hi, Builtin.lenOf, Builtin.firstCells, loadCells, loadCellsFrom, storeCells, hc]
def RdV (w : World) (v : Value) (m size : Nat) (news : List Value) : Prop :=
  news.length = m * size ∧ (∀ u ∈ news, u.oneCell' = true) ∧ ∃ ao c, v = .slice ao m c ∧ (0 < m → ∃ ad : Addr, ao = some ad ∧ ∀ j u, news[j]? = some u → w.cell? (ad.add j) = some u)
theorem run_append_any {P : Program} (w : World) (base : Nat) (t ty e : TypeId) (i : TypeInfo) (z : Value) (size bytes : Nat) (ht : P.underlying t = some (.slice e)) (hi : P.info? e = some i) (hz : i.zero = some z)
    (hsize : i.size = size) (hby : i.bytes = bytes) (hzs : z.cells.size = size) (hsz : 0 < size)
    (v : Value) (n : Nat) (xs : List Value) (hown : w.ownsRow base e size v n xs) (sv : Value) (m : Nat) (news : List Value) (hr : RdV w sv m size news)
    (h63 : n + m ≤ maxLen) (hbytes : (n + m) * bytes ≤ 140737488355328) (hbase : base ≤ w.heap.size) :
    ∃ v' w', (Builtin.append_ #[t, t] ty #[v, sv]).run P w = .ok v' w' ∧ w'.ownsRow base e size v' (n + m) (xs ++ news) ∧ w.grownBy w' v.ownBlock ∧ (v' = .slice none 0 0 ↔ v = .slice none 0 0 ∧ m = 0) ∧ (v'.ownBlock = v.ownBlock ∨ v'.ownBlock = some w.heap.size) := by
  obtain ⟨hl, h1, ao, c, rfl, hcell⟩ := hr
  rcases Nat.eq_zero_or_pos m with h0 | h0
  · subst h0
    have hn : news = [] := by simpa using hl
    subst hn
    refine ⟨v, w, ?_, by simpa using hown, ⟨rfl, rfl, rfl, Nat.le_refl _, fun _ _ _ => rfl⟩, by simp, .inl rfl⟩
    rcases hown.2 with ⟨rfl, rfl⟩ | ⟨g, cap, cur, rfl, _, _, hcap, _⟩
    · exact run_append_zero w t ty e i ht hi none ao 0 0 c (Nat.le_refl _)
    · exact run_append_zero w t ty e i ht hi _ ao n cap c hcap
  · obtain ⟨ad, rfl, hc⟩ := hcell h0
    exact run_append_own_at (P := P) w base t ty e i z size bytes ht hi hz hsize hby hzs hsz v n xs hown ad m c news hl hc h1 h63 hbytes hbase
theorem wp_append_any {P : Program} {o : Oper} {a : Act} {w : World} {K : Act → World → Prop} {Q : Exit → Act → World → Prop} (s x : Operand) (t : TypeId)
    (ho : o.op = .call { callee := .builtin .append, args := #[s, x], argTypes := #[t, t] })
    (base : Nat) (e : TypeId) (i : TypeInfo) (z : Value) (size bytes : Nat) (ht : P.underlying t = some (.slice e)) (hi : P.info? e = some i) (hz : i.zero = some z)
    (hsize : i.size = size) (hby : i.bytes = bytes) (hzs : z.cells.size = size) (hsz : 0 < size)
    (v sv : Value) (hs : a.eval s = v) (hx : a.eval x = sv) (n : Nat) (xs : List Value) (hown : w.ownsRow base e size v n xs) (m : Nat) (news : List Value) (hr : RdV w sv m size news)
    (h63 : n + m ≤ maxLen) (hbytes : (n + m) * bytes ≤ 140737488355328) (hbase : base ≤ w.heap.size)
    (h : ∀ v' w', w'.ownsRow base e size v' (n + m) (xs ++ news) → w.grownBy w' v.ownBlock → (v'.ownBlock = v.ownBlock ∨ v'.ownBlock = some w.heap.size) → K (a.put o.dst v') w') : o.wp P a w K Q := by
  obtain ⟨v', w', hrun, h1, h2, _, h4⟩ := run_append_any (P := P) w base t o.type e i z size bytes ht hi hz hsize hby hzs hsz v n xs hown sv m news hr h63 hbytes hbase
  unfold Oper.wp execOp
  simp only [ho, resolve, invoke, builtin, Sem.run_bind, Sem.run_pure, Result.andThen_ok, List.map_toArray, List.map_cons, List.map_nil, hs, hx, hrun]
  exact h v' w' h1 h2 h4
theorem wpList_append_any {P : Program} {ops : Array Oper} {rest : List Oper} {o : Oper} {a : Act} {w : World} {Q : Exit → Act → World → Prop} (hgd : o.guard = none) (s x : Operand) (t : TypeId)
    (ho : o.op = .call { callee := .builtin .append, args := #[s, x], argTypes := #[t, t] })
    (base : Nat) (e : TypeId) (i : TypeInfo) (z : Value) (size bytes : Nat) (ht : P.underlying t = some (.slice e)) (hi : P.info? e = some i) (hz : i.zero = some z)
    (hsize : i.size = size) (hby : i.bytes = bytes) (hzs : z.cells.size = size) (hsz : 0 < size)
    (v sv : Value) (hs : a.eval s = v) (hx : a.eval x = sv) (n : Nat) (xs : List Value) (hown : w.ownsRow base e size v n xs) (m : Nat) (news : List Value) (hr : RdV w sv m size news)
    (h63 : n + m ≤ maxLen) (hbytes : (n + m) * bytes ≤ 140737488355328) (hbase : base ≤ w.heap.size)
    (h : ∀ v' w', w'.ownsRow base e size v' (n + m) (xs ++ news) → w.grownBy w' v.ownBlock → (v'.ownBlock = v.ownBlock ∨ v'.ownBlock = some w.heap.size) → wpList P ops Q rest (a.put o.dst v') w') : wpList P ops Q (o :: rest) a w :=
  wpList_plain hgd fun _ hK => wp_append_any s x t ho base e i z size bytes ht hi hz hsize hby hzs hsz v sv hs hx n xs hown m news hr h63 hbytes hbase fun v' w' h2 h3 h4 => hK _ _ (h v' w' h2 h3 h4)
theorem ownsRow_from {w : World} {B size n : Nat} {e : TypeId} {v : Value} {xs : List Value} (h : w.ownsRow B e size v n xs) : ∀ a m c, v = .slice (some a) m c → B ≤ a.block := by
  rcases h.2 with ⟨rfl, _⟩ | ⟨g, cap, cur, rfl, hb, _⟩
  · intro a m c e; cases e
  · intro a m c e
    simp only [Value.slice.injEq, Option.some.injEq] at e
    rw [← e.1]; exact hb
end Go
namespace Go.Proofs.Ytejnnghfelpioaa
open Go.RowKit
def yv (x : BitVec 8) : Int := (x.toNat : Int)
theorem yv_nonneg (x : BitVec 8) : 0 ≤ yv x := Int.natCast_nonneg _
theorem yv_lt (x : BitVec 8) : yv x ≤ 255 := by have := x.isLt; unfold yv; omega
theorem yv_of {a : Int} (h0 : 0 ≤ a) (h1 : a ≤ 255) : ∃ x, a = yv x :=
  ⟨BitVec.ofNat 8 a.toNat, by unfold yv; rw [BitVec.toNat_ofNat, Nat.mod_eq_of_lt (by omega)]; omega⟩
theorem yv_wide (x : BitVec 8) : yv x = iv (x.setWidth 64) := by
  have := x.isLt
  unfold yv iv; rw [BitVec.toNat_setWidth, Nat.mod_eq_of_lt (by omega)]
theorem yv_wrap (x : BitVec 8) : IntKind.u64.wrap (yv x) = iv (x.setWidth 64) := by
  have h1 := yv_nonneg x; have h2 := yv_lt x
  rw [wrap_u64', ← yv_wide]; omega
def ny (xs : List (BitVec 8)) (j : Nat) : BitVec 8 := xs.getD j 0
def cellsY (xs : List (BitVec 8)) : Array Value := (xs.map fun x => Value.int .u8 (yv x)).toArray
def ArrY (t : TypeId) (w : World) (b : Nat) (xs : List (BitVec 8)) : Prop := w.heap[b]? = some (.cells (cellsY xs) t (0, 0))
theorem ArrY.cell {t : TypeId} {w : World} {b : Nat} {xs : List (BitVec 8)} (h : ArrY t w b xs) (j : Nat) (hj : j < xs.length) : w.cell? ⟨b, j, none⟩ = some (.int .u8 (yv (ny xs j))) := by
  unfold ArrY at h
  simp [World.cell?, h, cellsY, ny, hj]
theorem ArrY.free {t : TypeId} {w : World} {b : Nat} {xs : List (BitVec 8)} (h : ArrY t w b xs) (j : Nat) : w.frozen? ⟨b, j, none⟩ = false := by
  unfold ArrY at h
  simp [World.frozen?, h]
theorem ArrY.lt {t : TypeId} {w : World} {b : Nat} {xs : List (BitVec 8)} (h : ArrY t w b xs) : b < w.heap.size := by
  unfold ArrY at h
  exact (Array.getElem?_eq_some_iff.1 h).1
theorem ArrY.set {t : TypeId} {w : World} {b : Nat} {xs : List (BitVec 8)} (h : ArrY t w b xs) (j : Nat) (x : BitVec 8) : ArrY t (w.setCell ⟨b, j, none⟩ (.int .u8 (yv x))) b (xs.set j x) := by
  unfold ArrY at *
  simp [World.setCell, Array.getElem?_modify, h, cellsY, List.map_set]
theorem ArrY.other {t : TypeId} {w : World} {b : Nat} {xs : List (BitVec 8)} (h : ArrY t w b xs) {a : Addr} (ha : b ≠ a.block) (v : Value) : ArrY t (w.setCell a v) b xs := by
  unfold ArrY at *
  rw [Below.heap_setCell _ _ _ _ ha]; exact h
theorem ArrY.below {t : TypeId} {w w' : World} {b B : Nat} {xs : List (BitVec 8)} (h : ArrY t w b xs) (hb : Below B w w') (hB : b < B) : ArrY t w' b xs := by
  unfold ArrY at *
  rw [hb.block b hB]; exact h
theorem ArrY.alloc {t : TypeId} {w : World} {b : Nat} {xs : List (BitVec 8)} (h : ArrY t w b xs) (o : Obj) : ArrY t (w.alloc o) b xs := by
  unfold ArrY at *
  rw [Below.heap_alloc _ _ _ (ArrY.lt h)]; exact h
theorem ArrY.ext {t : TypeId} {w : World} {b : Nat} {xs : List (BitVec 8)} (h : ArrY t w b xs) (x : World) : ArrY t (w.ext x) b xs := h.below (w.ext_below x) h.lt
theorem ArrY.new (t : TypeId) (w : World) (xs : List (BitVec 8)) : ArrY t (w.alloc (.cells (cellsY xs) t)) w.heap.size xs := by
  unfold ArrY
  show (w.heap.push _)[w.heap.size]? = _
  simp
theorem size_cellsY (s : List (BitVec 8)) : (cellsY s).size = s.length := by simp [cellsY]
theorem one_cellsY (s : List (BitVec 8)) : (cellsY s).all (·.oneCell') = true := by
  rw [Array.all_eq_true_iff_forall_mem]
  intro v hv
  simp [cellsY] at hv
  obtain ⟨x, _, rfl⟩ := hv
  rfl
theorem bytes_of (xs : List Int) (h : ∀ y ∈ xs, 0 ≤ y ∧ y ≤ 255) : ∃ ys : List (BitVec 8), xs = ys.map yv := by
  induction xs with
  | nil => exact ⟨[], rfl⟩
  | cons x xs ih =>
    obtain ⟨ys, h1⟩ := ih (fun y hy => h y (List.mem_cons_of_mem _ hy))
    obtain ⟨z, hz⟩ := yv_of (h x (by simp)).1 (h x (by simp)).2
    exact ⟨z :: ys, by simp [h1, hz]⟩
def RdY (w : World) (v : Value) (ys : List (BitVec 8)) : Prop :=
  ∃ a cap, v = .slice a ys.length cap ∧ ys.length ≤ cap ∧ (ys ≠ [] → ∃ b off, a = some ⟨b, off, none⟩ ∧ b < w.heap.size ∧ ∀ j, j < ys.length → w.cell? ⟨b, off + j, none⟩ = some (.int .u8 (yv (ny ys j))))
theorem RdY.below {w w' : World} {v : Value} {ys : List (BitVec 8)} (h : RdY w v ys) (hb : Below w.heap.size w w') : RdY w' v ys := by
  obtain ⟨a, cap, e, hc, h⟩ := h
  refine ⟨a, cap, e, hc, fun hx => ?_⟩
  obtain ⟨b, off, e2, h2, h3⟩ := h hx
  exact ⟨b, off, e2, Nat.lt_of_lt_of_le h2 hb.size, fun j hj => by rw [hb.cell (p := ⟨b, off + j, none⟩) h2]; exact h3 j hj⟩
theorem RdY.nil (w : World) (a : Option Addr) (cap : Nat) : RdY w (.slice a 0 cap) [] := ⟨a, cap, rfl, Nat.zero_le _, fun h => absurd rfl h⟩
theorem RdY.kept {w w' : World} {v : Value} {ys : List (BitVec 8)} {hb : Nat} (h : RdY w v ys) (hg : w.grownBy w' (some hb)) (hn : ∀ j x, w.cell? ⟨hb, j, none⟩ ≠ some (.int .u8 x)) : RdY w' v ys := by
  obtain ⟨a, cap, e, hc, h⟩ := h
  refine ⟨a, cap, e, hc, fun hx => ?_⟩
  obtain ⟨b, off, e2, h2, h3⟩ := h hx
  have hne : b ≠ hb := by
    rintro rfl
    have hpos : 0 < ys.length := by cases ys <;> simp_all
    exact hn _ _ (h3 0 hpos)
  refine ⟨b, off, e2, Nat.lt_of_lt_of_le h2 hg.size, fun j hj => ?_⟩
  rw [← h3 j hj]
  unfold World.cell?
  rw [hg.block b h2 (by simpa using hne)]
theorem RdY.toV {w : World} {v : Value} {ys : List (BitVec 8)} (h : RdY w v ys) : RdV w v ys.length 1 (ys.map fun y => Value.int .u8 (yv y)) := by
  obtain ⟨a, cap, e, hc, h⟩ := h
  refine ⟨by simp, ?_, a, cap, e, fun hpos => ?_⟩
  · intro u hu; simp at hu; obtain ⟨y, _, rfl⟩ := hu; rfl
  · obtain ⟨b, off, rfl, _, h3⟩ := h (by intro e'; rw [e'] at hpos; simp at hpos)
    refine ⟨_, rfl, fun j u hu => ?_⟩
    have ha : (⟨b, off, none⟩ : Addr).add j = ⟨b, off + j, none⟩ := by unfold Addr.add; split <;> simp_all
    have hj : j < ys.length := by
      rcases Nat.lt_or_ge j ys.length with h' | h'
      · exact h'
      · rw [List.getElem?_eq_none (by simpa using h')] at hu; simp at hu
    rw [ha, h3 j hj, ← hu]
    simp [ny, hj]
theorem RdY.owned {w : World} {B : Nat} {e : TypeId} {v : Value} {ys : List (BitVec 8)} (h : w.ownsRow B e 1 v ys.length (ys.map fun y => Value.int .u8 (yv y))) : RdY w v ys := by
  obtain ⟨h1, h2⟩ := h
  rcases h2 with ⟨rfl, h0⟩ | ⟨g, cap, cur, rfl, hb, hg, hnc, hcm, hcs, htake⟩
  · have : ys = [] := by cases ys <;> simp_all
    subst this; exact RdY.nil w none 0
  · refine ⟨_, cap, rfl, hnc, fun _ => ⟨g, 0, rfl, (Array.getElem?_eq_some_iff.1 hg).1, fun j hj => ?_⟩⟩
    have := cell_of_row w g j cur e (0, 0) hg
    have h4 : cur.toList[j]? = (ys.map fun y => Value.int .u8 (yv y))[j]? := by rw [← htake, List.getElem?_take, if_pos (by omega)]
    rw [Nat.zero_add, this, ← Array.getElem?_toList, h4]
    simp [ny, hj]
end Go.Proofs.Ytejnnghfelpioaa
namespace Go.Proofs.Ytejnnghfelpioaa
open Go.RowKit
theorem ArrY.rd {t : TypeId} {w : World} {b : Nat} {xs : List (BitVec 8)} (h : ArrY t w b xs) (cap : Nat) (hc : xs.length ≤ cap) : RdY w (.slice (some ⟨b, 0, none⟩) xs.length cap) xs :=
  ⟨_, cap, rfl, hc, fun _ => ⟨b, 0, rfl, h.lt, fun j hj => by rw [Nat.zero_add]; exact h.cell j hj⟩⟩
end Go.Proofs.Ytejnnghfelpioaa
namespace Go.Proofs.Ytejnnghfelpioaa
open Go.ChangeShapes Go.WideShapes Go.ChangeAt Go.RowKit
section
variable {H : Type} {enc : TypeId × Value → H} {P : Program} {W : World} {base : Nat} {r : Reach} {sp : Nat → Bool} {held : Bool}
theorem arg_rdy {b0 : Nat} {t e : TypeId} {v : Value} {d : DataW H} {p : List MemPlace} (hu : P.underlying t = some (.slice e)) (he : P.underlying e = some (.int .u8)) (hc : P.cellsOf e = 1)
    (hval : Value.okWide P W r base t v) (h : DataW.Trod enc P W b0 sp held t v d p) : ∃ ys : List (BitVec 8), RdY W v ys ∧ ((d = .nil ∧ ys = []) ∨ ∃ el sp, d = .slice el sp ∧ el.length = ys.length) := by
  obtain ⟨a0, len, cap, rfl⟩ := okWide_slice hu hval
  obtain ⟨fuel, hf⟩ := h
  rcases open_ints hu he hc hf with ⟨hcs, hx⟩ | ⟨x, l, c, zs, hcs, _, hl, hm, hz, hx, hcell, hwz⟩
  · simp [Value.cells] at hcs
    obtain ⟨rfl, rfl, rfl⟩ := hcs
    simp at hx
    exact ⟨[], RdY.nil W _ _, .inl ⟨hx.1, rfl⟩⟩
  · simp [Value.cells] at hcs
    obtain ⟨rfl, rfl, rfl⟩ := hcs
    simp at hx
    have hlz : len ≤ zs.length := by rw [hz]; split <;> omega
    have htl : (zs.take len).length = len := by rw [List.length_take]; omega
    obtain ⟨ys, hys⟩ := bytes_of (zs.take len) (fun y hy => wf_u8 (hwz y (List.mem_of_mem_take hy)))
    have hyl : ys.length = len := by rw [hys] at htl; simpa using htl
    refine ⟨ys, ⟨_, cap, by rw [hyl], by omega, fun hne => ?_⟩, .inr ⟨_, _, hx.1, by simp [lits]; omega⟩⟩
    obtain ⟨b, off, spot⟩ := x
    have hpos : 0 < len := by
      rcases Nat.eq_zero_or_pos len with h0 | h0
      · subst h0; cases ys <;> simp_all
      · exact h0
    have hc0 := hcell 0 (by omega)
    have hspot : spot = none := by simpa [Addr.add] using World.cell?_spot hc0
    subst hspot
    refine ⟨b, off, rfl, ?_, fun j hj => ?_⟩
    · rcases Nat.lt_or_ge b W.heap.size with h' | h'
      · exact h'
      · simp [World.cell?, Addr.add, Array.getElem?_eq_none h'] at hc0
    · have := hcell j (by omega)
      have ha : (⟨b, off, none⟩ : Addr).add j = ⟨b, off + j, none⟩ := by unfold Addr.add; split <;> simp_all
      rw [ha] at this
      rw [this]
      have h1 : zs.getD j 0 = (ys.map yv).getD j 0 := by
        rw [← hys]
        simp [List.getD_eq_getElem?_getD, show j < len by omega]
      rw [h1]
      simp [ny, show j < ys.length by omega]
theorem reach_y {ts : List TypeId} {ds : List (DataW H)} {j : Nat} {t e : TypeId} {d : DataW H} {ys : List (BitVec 8)} (h : (DataW.weightsEach P ts ds).all (· ≤ reachBytes) = true) (ht : ts[j]? = some t) (hd : ds[j]? = some d)
    (hu : P.underlying t = some (.slice e)) (hb : P.bytesOf e = 1) (hs : (d = .nil ∧ ys = []) ∨ ∃ el sp, d = .slice el sp ∧ el.length = ys.length) : ys.length ≤ 140737488351232 := by
  rcases hs with ⟨_, rfl⟩ | ⟨el, sp, rfl, h2⟩
  · simp
  · have := sized_slice h ht hd hu
    rw [hb] at this
    simp only [reachBytes] at this
    omega
end
end Go.Proofs.Ytejnnghfelpioaa
namespace Go.Proofs.Ytejnnghfelpioaa
def num : List Nat → Nat
  | [] => 0
  | d :: l => d + 256 * num l
def dg (n : Nat) : List Nat := if h : n = 0 then [] else n % 256 :: dg (n / 256)
  termination_by n
  decreasing_by omega
def Dig (l : List Nat) : Prop := ∀ d ∈ l, d < 256
theorem Dig.cons {d : Nat} {l : List Nat} (h : Dig (d :: l)) : d < 256 ∧ Dig l := ⟨h d (by simp), fun e he => h e (by simp [he])⟩
theorem Dig.getD {l : List Nat} (h : Dig l) (i : Nat) : l.getD i 0 < 256 := by
  rw [List.getD_eq_getElem?_getD]
  cases hq : l[i]? with
  | none => simp
  | some d => exact h d (List.mem_of_getElem? hq)
theorem Dig.take {l : List Nat} (h : Dig l) (k : Nat) : Dig (l.take k) := fun d hd => h d (List.mem_of_mem_take hd)
theorem Dig.drop {l : List Nat} (h : Dig l) (k : Nat) : Dig (l.drop k) := fun d hd => h d (List.mem_of_mem_drop hd)
theorem Dig.set {l : List Nat} (h : Dig l) (i x : Nat) (hx : x < 256) : Dig (l.set i x) := fun d hd => by
  rcases List.mem_or_eq_of_mem_set hd with h1 | h1
  · exact h d h1
  · omega
theorem num_lt (l : List Nat) (h : Dig l) : num l < 256 ^ l.length := by
  induction l with
  | nil => simp [num]
  | cons d l ih =>
    have h1 := h.cons
    have := ih h1.2
    rw [num, List.length_cons, Nat.pow_succ]
    omega
theorem num_app (a b : List Nat) : num (a ++ b) = num a + 256 ^ a.length * num b := by
  induction a with
  | nil => simp [num]
  | cons d a ih => rw [List.cons_append, num, ih, num, List.length_cons, Nat.pow_succ, Nat.mul_add, ← Nat.mul_assoc, Nat.mul_comm (256 ^ a.length) 256]; omega
theorem num_split (l : List Nat) (i : Nat) (h : i ≤ l.length) : num l = num (l.take i) + 256 ^ i * num (l.drop i) := by
  conv => lhs; rw [← List.take_append_drop i l]
  rw [num_app, List.length_take, Nat.min_eq_left h]
theorem num_take_succ (l : List Nat) (i : Nat) : num (l.take (i + 1)) = num (l.take i) + 256 ^ i * l.getD i 0 := by
  rcases Nat.lt_or_ge i l.length with h | h
  · rw [List.take_succ_eq_append_getElem h, num_app, List.length_take, Nat.min_eq_left (by omega)]
    simp [num, List.getD_eq_getElem?_getD, h]
  · rw [List.take_of_length_le (by omega), List.take_of_length_le h]
    simp [List.getD_eq_getElem?_getD, List.getElem?_eq_none h]
def cmpI (a b : Nat) : Int := if a < b then -1 else if b < a then 1 else 0
theorem cmpI_lt {a b : Nat} (h : a < b) : cmpI a b = -1 := by rw [cmpI, if_pos h]
theorem cmpI_gt {a b : Nat} (h : b < a) : cmpI a b = 1 := by rw [cmpI, if_neg (by omega), if_pos h]
theorem cmpI_eq {a b : Nat} (h : a = b) : cmpI a b = 0 := by rw [cmpI, if_neg (by omega), if_neg (by omega)]
theorem cmpI_neg (a b : Nat) : cmpI a b < 0 ↔ a < b := by
  unfold cmpI; split
  · simp [*]
  · split <;> simp <;> omega
end Go.Proofs.Ytejnnghfelpioaa
namespace Go.Proofs.Ytejnnghfelpioaa
open Go.RowKit
def nd (l : List Nat) (i : Nat) : Nat := l.getD i 0
theorem nd_dig {l : List Nat} (h : Dig l) (i : Nat) : nd l i < 256 := h.getD i
def digV (l : List Nat) : List Value := l.map fun d : Nat => Value.int .i64 (d : Int)
def RdL (w : World) (v : Value) (l : List Nat) : Prop :=
  ∃ a cap, v = .slice a l.length cap ∧ l.length ≤ cap ∧ (l ≠ [] → ∃ b off, a = some ⟨b, off, none⟩ ∧ b < w.heap.size ∧ ∀ j, j < l.length → w.cell? ⟨b, off + j, none⟩ = some (.int .i64 ((nd l j : Nat) : Int)))
theorem RdL.below {w w' : World} {v : Value} {l : List Nat} (h : RdL w v l) (hb : Below w.heap.size w w') : RdL w' v l := by
  obtain ⟨a, cap, e, hc, h⟩ := h
  refine ⟨a, cap, e, hc, fun hx => ?_⟩
  obtain ⟨b, off, e2, h2, h3⟩ := h hx
  exact ⟨b, off, e2, Nat.lt_of_lt_of_le h2 hb.size, fun j hj => by rw [hb.cell (p := ⟨b, off + j, none⟩) h2]; exact h3 j hj⟩
theorem RdL.ext {w : World} {v : Value} {l : List Nat} (h : RdL w v l) (x : World) : RdL (w.ext x) v l := h.below (w.ext_below x)
theorem RdL.toV {w : World} {v : Value} {l : List Nat} (h : RdL w v l) : RdV w v l.length 1 (digV l) := by
  obtain ⟨a, cap, e, hc, h⟩ := h
  refine ⟨by simp [digV], ?_, a, cap, e, fun hpos => ?_⟩
  · intro u hu; simp [digV] at hu; obtain ⟨y, _, rfl⟩ := hu; rfl
  · obtain ⟨b, off, rfl, _, h3⟩ := h (by intro e'; rw [e'] at hpos; simp at hpos)
    refine ⟨_, rfl, fun j u hu => ?_⟩
    have ha : (⟨b, off, none⟩ : Addr).add j = ⟨b, off + j, none⟩ := by unfold Addr.add; split <;> simp_all
    have hj : j < l.length := by
      rcases Nat.lt_or_ge j l.length with h' | h'
      · exact h'
      · rw [List.getElem?_eq_none (by simpa [digV] using h')] at hu; simp at hu
    rw [ha, h3 j hj, ← hu]
    simp [nd, digV, hj]
theorem RdL.owned {w : World} {B : Nat} {e : TypeId} {v : Value} {l : List Nat} (h : w.ownsRow B e 1 v l.length (digV l)) : RdL w v l := by
  obtain ⟨h1, h2⟩ := h
  rcases h2 with ⟨rfl, h0⟩ | ⟨g, cap, cur, rfl, hb, hg, hnc, hcm, hcs, htake⟩
  · have : l = [] := by cases l <;> simp_all
    subst this; exact ⟨none, 0, rfl, Nat.le_refl _, fun h => absurd rfl h⟩
  · refine ⟨_, cap, rfl, hnc, fun _ => ⟨g, 0, rfl, (Array.getElem?_eq_some_iff.1 hg).1, fun j hj => ?_⟩⟩
    have := cell_of_row w g j cur e (0, 0) hg
    have h4 : cur.toList[j]? = (digV l)[j]? := by rw [← htake, List.getElem?_take, if_pos (by omega)]
    rw [Nat.zero_add, this, ← Array.getElem?_toList, h4]
    simp [nd, digV, hj]
def RdN (w : World) (v : Value) (n : Nat) : Prop := RdL w v (dg n)
theorem RdN.below {w w' : World} {v : Value} {n : Nat} (h : RdN w v n) (hb : Below w.heap.size w w') : RdN w' v n := RdL.below h hb
theorem RdN.ext {w : World} {v : Value} {n : Nat} (h : RdN w v n) (x : World) : RdN (w.ext x) v n := RdL.ext h x
end Go.Proofs.Ytejnnghfelpioaa
namespace Go.Proofs.Ytejnnghfelpioaa
open Go.RowKit
end Go.Proofs.Ytejnnghfelpioaa
namespace Go.Proofs.Ytejnnghfelpioaa
open Go.RowKit
def ArrL (w : World) (g : Nat) (l : List Nat) : Prop := w.heap[g]? = some (.cells (digV l).toArray 3 (0, 0))
theorem ArrL.lt {w : World} {g : Nat} {l : List Nat} (h : ArrL w g l) : g < w.heap.size := (Array.getElem?_eq_some_iff.1 h).1
theorem ArrL.cell {w : World} {g : Nat} {l : List Nat} (h : ArrL w g l) (j : Nat) (hj : j < l.length) : w.cell? ⟨g, j, none⟩ = some (.int .i64 ((nd l j : Nat) : Int)) := by
  unfold ArrL at h
  simp [World.cell?, h, digV, nd, hj]
theorem ArrL.free {w : World} {g : Nat} {l : List Nat} (h : ArrL w g l) (j : Nat) : w.frozen? ⟨g, j, none⟩ = false := by
  unfold ArrL at h
  simp [World.frozen?, h]
theorem ArrL.set {w : World} {g : Nat} {l : List Nat} (h : ArrL w g l) (j x : Nat) : ArrL (w.setCell ⟨g, j, none⟩ (.int .i64 (x : Int))) g (l.set j x) := by
  unfold ArrL at *
  simp [World.setCell, Array.getElem?_modify, h, digV, List.map_set]
theorem ArrL.other {w : World} {g : Nat} {l : List Nat} (h : ArrL w g l) {a : Addr} (ha : g ≠ a.block) (v : Value) : ArrL (w.setCell a v) g l := by
  unfold ArrL at *
  rw [Below.heap_setCell _ _ _ _ ha]; exact h
theorem ArrL.below {w w' : World} {g B : Nat} {l : List Nat} (h : ArrL w g l) (hb : Below B w w') (hB : g < B) : ArrL w' g l := by
  unfold ArrL at *
  rw [hb.block g hB]; exact h
theorem ArrL.ext {w : World} {g : Nat} {l : List Nat} (h : ArrL w g l) (x : World) : ArrL (w.ext x) g l := h.below (w.ext_below x) h.lt
theorem ArrL.alloc {w : World} {g : Nat} {l : List Nat} (h : ArrL w g l) (o : Obj) : ArrL (w.alloc o) g l := by
  unfold ArrL at *
  rw [Below.heap_alloc _ _ _ (ArrL.lt h)]; exact h
theorem ArrL.new (w : World) (l : List Nat) : ArrL (w.alloc (.cells (digV l).toArray 3)) w.heap.size l := by
  unfold ArrL
  show (w.heap.push _)[w.heap.size]? = _
  simp
theorem ArrL.rd {w : World} {g : Nat} {l : List Nat} (h : ArrL w g l) (cap : Nat) (hc : l.length ≤ cap) : RdL w (.slice (some ⟨g, 0, none⟩) l.length cap) l :=
  ⟨_, cap, rfl, hc, fun _ => ⟨g, 0, rfl, h.lt, fun j hj => by rw [Nat.zero_add]; exact h.cell j hj⟩⟩
end Go.Proofs.Ytejnnghfelpioaa
namespace Go.Proofs.Ytejnnghfelpioaa
open Go.RowKit
end Go.Proofs.Ytejnnghfelpioaa
namespace Go.Proofs.Ytejnnghfelpioaa
open Go.RowKit
end Go.Proofs.Ytejnnghfelpioaa
namespace Go
open Go.RowKit
theorem World.setRow_alloc (w : World) (zs cs : Array Value) (t : TypeId) : (w.alloc (.cells zs t)).setRow w.heap.size cs = w.alloc (.cells cs t) := by
  unfold World.setRow World.alloc
  congr 1
  apply Array.ext_getElem?
  intro i
  rw [Array.getElem?_modify, Array.getElem?_push, Array.getElem?_push]
  by_cases h : w.heap.size = i
  · subst h; simp
  · rw [if_neg h, if_neg (fun e => h e.symm), if_neg (fun e => h e.symm)]
theorem wp_alloc_new {P : Program} {o : Oper} {a : Act} {w : World} {K : Act → World → Prop} {Q : Exit → Act → World → Prop} (T : TypeId) (ho : o.op = .alloc T) (zs : Array Value)
    (hz : (P.info? T).bind (·.zero) = some (.agg zs))
    (h : K (a.put o.dst (.pointer (some ⟨w.heap.size, 0, none⟩))) (w.alloc (.cells zs T))) : o.wp P a w K Q := by
  cases hq : P.info? T with
  | none => simp [hq] at hz
  | some i =>
    have hz' : i.zero = some (.agg zs) := by simpa [hq] using hz
    unfold Oper.wp execOp
    simp only [ho, Instr.alloc, zeroValue, typeInfo, hq, hz', newVar, newRow, Sem.run_bind, Result.andThen_ok, Value.cells]
    simp [hq, hz', Sem.run, Oper.upon]
    exact h
theorem wpList_newArr {P : Program} {rest : List Oper} {ops' : Array Oper} {o1 o2 o3 : Oper} {a : Act} {w : World} {Q : Exit → Act → World → Prop} (T : TypeId) (parts : Array (Nat × Operand)) (d1 d2 : Tmp) (cells zs : Array Value)
    (g1 : o1.guard = none) (g2 : o2.guard = none) (g3 : o3.guard = none) (h1 : o1.op = .build T parts) (e1 : o1.dst = some d1) (h2 : o2.op = .alloc T) (e2 : o2.dst = some d2) (h3 : o3.op = .store T (.tmp d2) (.tmp d1)) (e3 : o3.dst = none)
    (hne : d1 ≠ d2) (hd1 : d1 < a.tmps.size) (hd2 : d2 < a.tmps.size)
    (hb : P.built T (parts.map fun (i, x) => (i, a.eval x)).toList = some cells)
    (hz : (P.info? T).bind (·.zero) = some (.agg zs)) (hzs : zs.size = cells.size) (hi : (P.info? T).map (·.size) = some cells.size) (hc : cells.all (·.oneCell') = true)
    (h : wpList P ops' Q rest ((a.put (some d1) (.agg cells)).put (some d2) (.pointer (some ⟨w.heap.size, 0, none⟩))) (w.alloc (.cells cells T))) : wpList P ops' Q (o1 :: o2 :: o3 :: rest) a w := by
  refine wpList_build g1 T parts h1 (by rw [hb]; rfl) ?_
  rw [hb, e1]
  simp only [Option.getD_some]
  refine wpList_plain g2 fun K2 hK2 => wp_alloc_new T h2 zs hz (hK2 _ _ ?_)
  rw [e2]
  refine wpList_store_row g3 T (.tmp d2) (.tmp d1) h3 w.heap.size cells ?_ ?_ T zs ?_ hi hzs hc ?_
  · simp [Act.eval, Act.put, Array.getD, hd2, hd1]
  · simp [Act.eval, Act.put, Array.getD, hd2, hd1, Ne.symm hne]
  · show (w.heap.push _)[w.heap.size]? = _
    simp
  · rw [World.setRow_alloc, e3]
    exact h
theorem wpList_allocStore {P : Program} {rest : List Oper} {ops' : Array Oper} {o2 o3 : Oper} {a : Act} {w : World} {Q : Exit → Act → World → Prop} (T : TypeId) (d1 d2 : Tmp) (cells zs : Array Value)
    (g2 : o2.guard = none) (g3 : o3.guard = none) (h2 : o2.op = .alloc T) (e2 : o2.dst = some d2) (h3 : o3.op = .store T (.tmp d2) (.tmp d1)) (e3 : o3.dst = none)
    (hne : d1 ≠ d2) (hd2 : d2 < a.tmps.size) (hv : a.eval (.tmp d1) = .agg cells)
    (hz : (P.info? T).bind (·.zero) = some (.agg zs)) (hzs : zs.size = cells.size) (hi : (P.info? T).map (·.size) = some cells.size) (hc : cells.all (·.oneCell') = true)
    (h : wpList P ops' Q rest (a.put (some d2) (.pointer (some ⟨w.heap.size, 0, none⟩))) (w.alloc (.cells cells T))) : wpList P ops' Q (o2 :: o3 :: rest) a w := by
  refine wpList_plain g2 fun K2 hK2 => wp_alloc_new T h2 zs hz (hK2 _ _ ?_)
  rw [e2]
  refine wpList_store_row g3 T (.tmp d2) (.tmp d1) h3 w.heap.size cells ?_ ?_ T zs ?_ hi hzs hc ?_
  · simp [Act.eval, Act.put, Array.getD, hd2]
  · rw [← hv]; simp [Act.eval, Act.put, Array.getElem?_setIfInBounds, hne, Ne.symm hne]
  · show (w.heap.push _)[w.heap.size]? = _
    simp
  · rw [World.setRow_alloc, e3]
    exact h
theorem wpList_alloc_new {P : Program} {ops : Array Oper} {rest : List Oper} {o : Oper} {a : Act} {w : World} {Q : Exit → Act → World → Prop} (hgd : o.guard = none) (T : TypeId) (ho : o.op = .alloc T) (zs : Array Value)
    (hz : (P.info? T).bind (·.zero) = some (.agg zs))
    (h : wpList P ops Q rest (a.put o.dst (.pointer (some ⟨w.heap.size, 0, none⟩))) (w.alloc (.cells zs T))) : wpList P ops Q (o :: rest) a w :=
  wpList_plain hgd fun _ hK => wp_alloc_new T ho zs hz (hK _ _ h)
theorem wpList_buildStore {P : Program} {rest : List Oper} {ops' : Array Oper} {o1 o3 : Oper} {a : Act} {w : World} {Q : Exit → Act → World → Prop} (T : TypeId) (parts : Array (Nat × Operand)) (x : Operand) (d1 : Tmp) (cells : Array Value) (g : Nat)
    (g1 : o1.guard = none) (g3 : o3.guard = none) (h1 : o1.op = .build T parts) (e1 : o1.dst = some d1) (h3 : o3.op = .store T x (.tmp d1)) (e3 : o3.dst = none) (hd1 : d1 < a.tmps.size)
    (hb : P.built T (parts.map fun (i, x) => (i, a.eval x)).toList = some cells)
    (hx : (a.put (some d1) (.agg cells)).eval x = .pointer (some ⟨g, 0, none⟩)) (t : TypeId) (old : Array Value) (hg : w.heap[g]? = some (.cells old t (0, 0)))
    (hi : (P.info? T).map (·.size) = some cells.size) (hold : old.size = cells.size) (hc : cells.all (·.oneCell') = true)
    (h : wpList P ops' Q rest (a.put (some d1) (.agg cells)) (w.setRow g cells)) : wpList P ops' Q (o1 :: o3 :: rest) a w := by
  refine wpList_build g1 T parts h1 (by rw [hb]; rfl) ?_
  rw [hb, e1]
  simp only [Option.getD_some]
  refine wpList_store_row g3 T x (.tmp d1) h3 g cells hx ?_ t old hg hi hold hc ?_
  · simp [Act.eval, Act.put, Array.getD, hd1]
  · rw [e3]; exact h
end Go
namespace Go
open Go.RowKit
theorem results_row_tmp {P : Program} {fn : Func} {p u : Tmp} {ty : TypeId} (h : fn.results = #[.cell p ty, .tmp u]) (tmps : Array Value) (w : World) (g : Nat) (t : TypeId) (cs : Array Value) (fr : Nat × Nat) (d : TypeDesc)
    (hp : tmps.getD p undef = .pointer (some ⟨g, 0, none⟩)) (hg : w.heap[g]? = some (.cells cs t fr))
    (hu : P.underlying ty = some d) (hd : (match d with | .struct _ | .array _ _ => true | _ => false) = true) (hi : (P.info? ty).map (·.size) = some cs.size) :
    (results fn tmps).run P w = .ok (.tuple #[.agg cs, tmps.getD u undef]) w := by
  have hp' : tmps[p]?.getD undef = .pointer (some ⟨g, 0, none⟩) := by simpa using hp
  simp [results, h, hp', asAddr, run_loadVar_row w g t ty cs fr d hg hu hd hi]
theorem results_tmp_row {P : Program} {fn : Func} {p u : Tmp} {ty : TypeId} (h : fn.results = #[.tmp u, .cell p ty]) (tmps : Array Value) (w : World) (g : Nat) (t : TypeId) (cs : Array Value) (fr : Nat × Nat) (d : TypeDesc)
    (hp : tmps.getD p undef = .pointer (some ⟨g, 0, none⟩)) (hg : w.heap[g]? = some (.cells cs t fr))
    (hu : P.underlying ty = some d) (hd : (match d with | .struct _ | .array _ _ => true | _ => false) = true) (hi : (P.info? ty).map (·.size) = some cs.size) :
    (results fn tmps).run P w = .ok (.tuple #[tmps.getD u undef, .agg cs]) w := by
  have hp' : tmps[p]?.getD undef = .pointer (some ⟨g, 0, none⟩) := by simpa using hp
  simp [results, h, hp', asAddr, run_loadVar_row w g t ty cs fr d hg hu hd hi]
end Go
namespace Go.Proofs.Ytejnnghfelpioaa
open Go.RowKit
def lmN (x i : Nat) : Nat := x / 2 ^ (64 * i) % 2 ^ 64
def lm (x i : Nat) : Int := (lmN x i : Int)
theorem lm_nonneg (x i : Nat) : 0 ≤ lm x i := Int.natCast_nonneg _
theorem lmN_lt (x i : Nat) : lmN x i < 18446744073709551616 := Nat.mod_lt _ (by decide)
theorem lm_lt (x i : Nat) : lm x i ≤ 18446744073709551615 := by have := lmN_lt x i; unfold lm; omega
def cellsW (x : Nat) : Array Value := #[.int .u64 (lm x 0), .int .u64 (lm x 1), .int .u64 (lm x 2), .int .u64 (lm x 3)]
def wd (x : Nat) : Value := .agg (cellsW x)
theorem size_cellsW (x : Nat) : (cellsW x).size = 4 := rfl
theorem one_cellsW (x : Nat) : (cellsW x).all (·.oneCell') = true := by simp [cellsW, Value.oneCell']
theorem cellsW_at (x j : Nat) (h : j < 4) : (cellsW x)[j]? = some (.int .u64 (lm x j)) := by
  match j, h with
  | 0, _ => rfl
  | 1, _ => rfl
  | 2, _ => rfl
  | 3, _ => rfl
def ArrW (t : TypeId) (w : World) (b : Nat) (x : Nat) : Prop := w.heap[b]? = some (.cells (cellsW x) t (0, 0))
theorem ArrW.lt {t : TypeId} {w : World} {b x : Nat} (h : ArrW t w b x) : b < w.heap.size := (Array.getElem?_eq_some_iff.1 h).1
theorem ArrW.cell {t : TypeId} {w : World} {b x : Nat} (h : ArrW t w b x) (j : Nat) (hj : j < 4) : w.cell? ⟨b, j, none⟩ = some (.int .u64 (lm x j)) := by
  rw [cell_of_row w b j _ _ _ h]; exact cellsW_at x j hj
theorem ArrW.free {t : TypeId} {w : World} {b x : Nat} (h : ArrW t w b x) (j : Nat) : w.frozen? ⟨b, j, none⟩ = false := by
  unfold ArrW at h
  simp [World.frozen?, h]
theorem ArrW.other {t : TypeId} {w : World} {b x : Nat} (h : ArrW t w b x) {a : Addr} (ha : b ≠ a.block) (v : Value) : ArrW t (w.setCell a v) b x := by
  unfold ArrW at *
  rw [Below.heap_setCell _ _ _ _ ha]; exact h
theorem ArrW.below {t : TypeId} {w w' : World} {b B x : Nat} (h : ArrW t w b x) (hb : Below B w w') (hB : b < B) : ArrW t w' b x := by
  unfold ArrW at *
  rw [hb.block b hB]; exact h
theorem ArrW.ext {t : TypeId} {w : World} {b x : Nat} (h : ArrW t w b x) (y : World) : ArrW t (w.ext y) b x := h.below (w.ext_below y) h.lt
theorem ArrW.alloc {t : TypeId} {w : World} {b x : Nat} (h : ArrW t w b x) (o : Obj) : ArrW t (w.alloc o) b x := by
  unfold ArrW at *
  rw [Below.heap_alloc _ _ _ (ArrW.lt h)]; exact h
theorem ArrW.new (t : TypeId) (w : World) (x : Nat) : ArrW t (w.alloc (.cells (cellsW x) t)) w.heap.size x := by
  unfold ArrW
  show (w.heap.push _)[w.heap.size]? = _
  simp
theorem ArrW.set {t : TypeId} {w : World} {b x y : Nat} (h : ArrW t w b x) (j : Nat) (v : Int) (he : (cellsW x).setIfInBounds j (.int .u64 v) = cellsW y) : ArrW t (w.setCell ⟨b, j, none⟩ (.int .u64 v)) b y := by
  unfold ArrW at *
  simp [World.setCell, Array.getElem?_modify, h, he]
theorem limbs_sum (x : Nat) (h : x < 2 ^ 256) : lmN x 0 + 2 ^ 64 * (lmN x 1 + 2 ^ 64 * (lmN x 2 + 2 ^ 64 * lmN x 3)) = x := by
  unfold lmN
  simp only [Nat.mul_zero, Nat.pow_zero, Nat.div_one, Nat.mul_one]
  rw [show (2 : Nat) ^ (64 * 2) = 2 ^ 64 * 2 ^ 64 from by rw [← Nat.pow_add], show (2 : Nat) ^ (64 * 3) = 2 ^ 64 * 2 ^ 64 * 2 ^ 64 from by rw [← Nat.pow_add, ← Nat.pow_add], ← Nat.div_div_eq_div_mul, ← Nat.div_div_eq_div_mul, ← Nat.div_div_eq_div_mul]
  rw [show (2 : Nat) ^ 256 = 2 ^ 64 * 2 ^ 64 * 2 ^ 64 * 2 ^ 64 from by rw [← Nat.pow_add, ← Nat.pow_add, ← Nat.pow_add]] at h
  omega
theorem wd_inj {x y : Nat} (hx : x < 2 ^ 256) (hy : y < 2 ^ 256) (h : cellsW x = cellsW y) : x = y := by
  simp only [cellsW, Array.mk.injEq, List.cons.injEq, Value.int.injEq, true_and, and_true] at h
  obtain ⟨h0, h1, h2, h3⟩ := h
  rw [← limbs_sum x hx, ← limbs_sum y hy]
  unfold lm at h0 h1 h2 h3
  omega
def mk4 (a b c d : Nat) : Nat := a + 2 ^ 64 * (b + 2 ^ 64 * (c + 2 ^ 64 * d))
theorem mk4_lt (a b c d : Nat) (ha : a < 2 ^ 64) (hb : b < 2 ^ 64) (hc : c < 2 ^ 64) (hd : d < 2 ^ 64) : mk4 a b c d < 2 ^ 256 := by
  unfold mk4
  rw [show (2 : Nat) ^ 256 = 2 ^ 64 * 2 ^ 64 * 2 ^ 64 * 2 ^ 64 from by rw [← Nat.pow_add, ← Nat.pow_add, ← Nat.pow_add]]
  omega
theorem lmN_mk4 (a b c d : Nat) (ha : a < 2 ^ 64) (hb : b < 2 ^ 64) (hc : c < 2 ^ 64) (hd : d < 2 ^ 64) : lmN (mk4 a b c d) 0 = a ∧ lmN (mk4 a b c d) 1 = b ∧ lmN (mk4 a b c d) 2 = c ∧ lmN (mk4 a b c d) 3 = d := by
  unfold lmN mk4
  simp only [Nat.mul_zero, Nat.pow_zero, Nat.div_one, Nat.mul_one]
  rw [show (2 : Nat) ^ (64 * 2) = 2 ^ 64 * 2 ^ 64 from by rw [← Nat.pow_add], show (2 : Nat) ^ (64 * 3) = 2 ^ 64 * 2 ^ 64 * 2 ^ 64 from by rw [← Nat.pow_add, ← Nat.pow_add], ← Nat.div_div_eq_div_mul, ← Nat.div_div_eq_div_mul, ← Nat.div_div_eq_div_mul]
  omega
theorem cellsW_mk4 (a b c d : Nat) (ha : a < 2 ^ 64) (hb : b < 2 ^ 64) (hc : c < 2 ^ 64) (hd : d < 2 ^ 64) : cellsW (mk4 a b c d) = #[.int .u64 (a : Int), .int .u64 (b : Int), .int .u64 (c : Int), .int .u64 (d : Int)] := by
  obtain ⟨h0, h1, h2, h3⟩ := lmN_mk4 a b c d ha hb hc hd
  unfold cellsW lm
  rw [h0, h1, h2, h3]
theorem lmN_add (x d i j : Nat) (hx : x < 256 ^ i) (hd : d < 256) (hj : j < 4) : lmN (x + 256 ^ i * d) j = (if j = i / 8 then lmN x j + d * 2 ^ (8 * (i % 8)) else lmN x j) ∧ (j = i / 8 → lmN x j < 2 ^ (8 * (i % 8))) := by
  have e256 : (256 : Nat) ^ i = 2 ^ (64 * (i / 8)) * 2 ^ (8 * (i % 8)) := by
    rw [show (256 : Nat) = 2 ^ 8 from rfl, ← Nat.pow_mul, ← Nat.pow_add]; congr 1; omega
  unfold lmN
  by_cases h : j = i / 8
  · subst h
    rw [if_pos rfl]
    have hp : 0 < 2 ^ (64 * (i / 8)) := Nat.pow_pos (by omega)
    have h1 : x / 2 ^ (64 * (i / 8)) < 2 ^ (8 * (i % 8)) := by rw [Nat.div_lt_iff_lt_mul hp, Nat.mul_comm, ← e256]; exact hx
    have h2 : 2 ^ (8 * (i % 8)) * 256 ≤ 2 ^ 64 := by
      rw [show (256 : Nat) = 2 ^ 8 from rfl, ← Nat.pow_add]; exact Nat.pow_le_pow_right (by omega) (by omega)
    have h3 : 2 ^ (8 * (i % 8)) * d ≤ 2 ^ (8 * (i % 8)) * 255 := Nat.mul_le_mul_left _ (by omega)
    have m1 : (x / 2 ^ (64 * (i / 8)) + 2 ^ (8 * (i % 8)) * d) % 2 ^ 64 = x / 2 ^ (64 * (i / 8)) + 2 ^ (8 * (i % 8)) * d := Nat.mod_eq_of_lt (by omega)
    have m2 : x / 2 ^ (64 * (i / 8)) % 2 ^ 64 = x / 2 ^ (64 * (i / 8)) := Nat.mod_eq_of_lt (by omega)
    rw [e256, Nat.mul_assoc, Nat.add_mul_div_left _ _ hp, m1, m2, Nat.mul_comm d]
    exact ⟨rfl, fun _ => h1⟩
  · rw [if_neg h]
    refine ⟨?_, fun e => absurd e h⟩
    rcases Nat.lt_or_ge j (i / 8) with hlt | hge
    · have e2 : (256 : Nat) ^ i * d = 2 ^ (64 * j) * (2 ^ 64 * (2 ^ (8 * i - 64 * j - 64) * d)) := by
        rw [show (256 : Nat) = 2 ^ 8 from rfl, ← Nat.pow_mul, ← Nat.mul_assoc, ← Nat.mul_assoc, ← Nat.pow_add, ← Nat.pow_add]; congr 2; omega
      rw [e2, Nat.add_mul_div_left _ _ (Nat.pow_pos (by omega)), Nat.add_mul_mod_self_left]
    · have h4 : 256 ^ (i + 1) ≤ 2 ^ (64 * j) := by
        rw [show (256 : Nat) = 2 ^ 8 from rfl, ← Nat.pow_mul]; exact Nat.pow_le_pow_right (by omega) (by omega)
      have h5 : 256 ^ i * d ≤ 256 ^ i * 255 := Nat.mul_le_mul_left _ (by omega)
      rw [Nat.pow_succ] at h4
      rw [Nat.div_eq_of_lt (by omega), Nat.div_eq_of_lt (by omega)]
theorem or_add (a d r : Nat) (h : a < 2 ^ r) : a ||| d * 2 ^ r = a + d * 2 ^ r := by
  rw [Nat.or_comm, Nat.mul_comm, ← Nat.two_pow_add_eq_or_of_lt h, Nat.add_comm]
theorem lmN_byte (x i : Nat) (hi : i < 32) : lmN x (i / 8) / 2 ^ (8 * (i % 8)) % 256 = x / 256 ^ i % 256 := by
  have e256 : (256 : Nat) ^ i = 2 ^ (64 * (i / 8)) * 2 ^ (8 * (i % 8)) := by
    rw [show (256 : Nat) = 2 ^ 8 from rfl, ← Nat.pow_mul, ← Nat.pow_add]; congr 1; omega
  rw [e256, ← Nat.div_div_eq_div_mul]
  unfold lmN
  generalize x / 2 ^ (64 * (i / 8)) = y
  have hc : i % 8 = 0 ∨ i % 8 = 1 ∨ i % 8 = 2 ∨ i % 8 = 3 ∨ i % 8 = 4 ∨ i % 8 = 5 ∨ i % 8 = 6 ∨ i % 8 = 7 := by omega
  rcases hc with h | h | h | h | h | h | h | h <;> rw [h] <;> omega
def byN (x : Nat) : Nat → List Nat
  | 0 => []
  | i + 1 => byN x i ++ [x / 256 ^ i % 256]
theorem byN_len (x i : Nat) : (byN x i).length = i := by induction i <;> simp [byN, *]
theorem byN_num (x i : Nat) : num (byN x i) = x % 256 ^ i := by
  induction i with
  | zero => rw [Nat.pow_zero, Nat.mod_one]; rfl
  | succ i ih =>
    rw [byN, num_app, ih, byN_len, Nat.pow_succ, Nat.mod_mul]
    simp [num]
theorem heap_setRow' (w : World) (g : Nat) (cs old : Array Value) (t : TypeId) (h : w.heap[g]? = some (.cells old t (0, 0))) : (w.setRow g cs).heap[g]? = some (.cells cs t (0, 0)) := by
  simp [World.setRow, Array.getElem?_modify, h]
theorem below_setRow' {B : Nat} {a w : World} (h : Below B a w) (g : Nat) (hg : B ≤ g) (cs : Array Value) : Below B a (w.setRow g cs) :=
  h.trans ⟨rfl, rfl, rfl, by simp [World.setRow], fun k hk => by
    simp only [World.setRow, Array.getElem?_modify]
    rw [if_neg (by omega)]⟩
theorem uWd : Try.prog.underlying 25 = some (.array 4 23) := by kernel_rfl
theorem iWd : (Try.prog.info? 25).map (·.size) = some 4 := by kernel_rfl
theorem zWd : (Try.prog.info? 25).bind (·.zero) = some (.agg (cellsW 0)) := by kernel_rfl
theorem iW (x : Nat) : (Try.prog.info? 25).map (·.size) = some (cellsW x).size := iWd
end Go.Proofs.Ytejnnghfelpioaa
namespace Go.Proofs.Ytejnnghfelpioaa
open Go.RowKit
theorem num_take_lt (l : List Nat) (hD : Dig l) (i : Nat) : num (l.take i) < 256 ^ i :=
  Nat.lt_of_lt_of_le (num_lt _ (hD.take i)) (Nat.pow_le_pow_right (by omega) (List.length_take_le _ _))
theorem cellsW_add (x d i : Nat) (hx : x < 256 ^ i) (hd : d < 256) (hi : i < 32) : (cellsW x).setIfInBounds (i / 8) (.int .u64 ((lmN x (i / 8) ||| d * 2 ^ (8 * (i % 8)) : Nat) : Int)) = cellsW (x + 256 ^ i * d) := by
  have hj : i / 8 < 4 := by omega
  have h := fun j hj => lmN_add x d i j hx hd hj
  rw [or_add _ _ _ ((h _ hj).2 rfl)]
  have hc : i / 8 = 0 ∨ i / 8 = 1 ∨ i / 8 = 2 ∨ i / 8 = 3 := by omega
  have h0 := (h 0 (by omega)).1
  have h1 := (h 1 (by omega)).1
  have h2 := (h 2 (by omega)).1
  have h3 := (h 3 (by omega)).1
  unfold cellsW lm
  rw [h0, h1, h2, h3]
  rcases hc with e | e | e | e <;> simp [e]
end Go.Proofs.Ytejnnghfelpioaa
namespace Go.Proofs.Ytejnnghfelpioaa
open Go.Shelf
def lays134_ren : Go.Shelf.Ren := ⟨fun | 134 => 83 | 129 => 90 | n => n, fun | 53 => 23 | 3 => 3 | 4 => 4 | 46 => 40 | 5 => 5 | 9 => 9 | n => n, fun | n => n⟩
theorem lays134 : Go.Proofs.Lays.n134 Try.prog lays134_ren := {
  mixed := by kernel_rfl
  f129 := Try.func90.trans (congrArg some (by kernel_rfl))
  f134 := Try.func83.trans (congrArg some (by kernel_rfl))
  t3 := Try.underlying3
  a3 := Try.isAgg3
  z3 := Try.sizeOf3
  v3 := Try.zeroValue3
  t4 := Try.underlying4
  a4 := Try.isAgg4
  z4 := Try.sizeOf4
  v4 := Try.zeroValue4
  t5 := Try.underlying5
  a5 := Try.isAgg5
  z5 := Try.sizeOf5
  v5 := Try.zeroValue5
  t9 := Try.underlying9
  a9 := Try.isAgg9
  z9 := Try.sizeOf9
  v9 := Try.zeroValue9
  t46 := Try.underlying40
  a46 := Try.isAgg40
  z46 := Try.sizeOf40
  v46 := Try.zeroValue40
  t53 := Try.underlying23
  a53 := Try.isAgg23
  z53 := Try.sizeOf23
  v53 := Try.zeroValue23 }
theorem bits_LeadingZeros64 (x : Int) (w : World) (h0 : 0 ≤ x) (h1 : x ≤ 18446744073709551615) :
    Calls Try.prog 83 #[.int .u64 x] w fun e w' => e = .returned (.int .i64 (64 - (Lib.bitLen x.toNat : Int))) ∧ w' = w := Any.bits_LeadingZeros64 lays134 x w h0 h1
def lays129_ren : Go.Shelf.Ren := ⟨fun | 129 => 90 | n => n, fun | 53 => 23 | 3 => 3 | 4 => 4 | 46 => 40 | 5 => 5 | 9 => 9 | n => n, fun | n => n⟩
theorem lays129 : Go.Proofs.Lays.n129 Try.prog lays129_ren := {
  mixed := by kernel_rfl
  f129 := Try.func90.trans (congrArg some (by kernel_rfl))
  t3 := Try.underlying3
  a3 := Try.isAgg3
  z3 := Try.sizeOf3
  v3 := Try.zeroValue3
  t4 := Try.underlying4
  a4 := Try.isAgg4
  z4 := Try.sizeOf4
  v4 := Try.zeroValue4
  t5 := Try.underlying5
  a5 := Try.isAgg5
  z5 := Try.sizeOf5
  v5 := Try.zeroValue5
  t9 := Try.underlying9
  a9 := Try.isAgg9
  z9 := Try.sizeOf9
  v9 := Try.zeroValue9
  t46 := Try.underlying40
  a46 := Try.isAgg40
  z46 := Try.sizeOf40
  v46 := Try.zeroValue40
  t53 := Try.underlying23
  a53 := Try.isAgg23
  z53 := Try.sizeOf23
  v53 := Try.zeroValue23 }
theorem bits_Len64 (x : Int) (w : World) (h0 : 0 ≤ x) (h1 : x ≤ 18446744073709551615) :
    Calls Try.prog 90 #[.int .u64 x] w fun e w' => e = .returned (.int .i64 (Lib.bitLen x.toNat)) ∧ w' = w := Any.bits_Len64 lays129 x w h0 h1
def lays264_ren : Go.Shelf.Ren := ⟨fun | 264 => 64 | n => n, fun | 53 => 23 | 46 => 40 | n => n, fun | n => n⟩
theorem lays264 : Go.Proofs.Lays.n264 Try.prog lays264_ren := {
  mixed := by kernel_rfl
  f264 := Try.func64.trans (congrArg some (by kernel_rfl))
  t46 := Try.underlying40
  a46 := Try.isAgg40
  z46 := Try.sizeOf40
  v46 := Try.zeroValue40
  t53 := Try.underlying23
  a53 := Try.isAgg23
  z53 := Try.sizeOf23
  v53 := Try.zeroValue23 }
open Go.RowKit Go.Lib in
theorem bits_Mul64 (x y : Nat) (hx : x < 18446744073709551616) (hy : y < 18446744073709551616) (w : World) :
    Calls Try.prog 64 #[.int .u64 x, .int .u64 y] w fun e w' => e = .returned (.tuple #[.int .u64 ((x * y / 18446744073709551616 : Nat) : Int), .int .u64 ((x * y % 18446744073709551616 : Nat) : Int)]) ∧ w' = w := Any.bits_Mul64 lays264 x y hx hy w
def sub64E : Array Value → Sem Value := fun args => do
  let (x, y, b) ← Extern.MathBitsCarry.three "Sub64" args
  pure (Extern.MathBitsCarry.pair ((x + Extern.MathBitsCarry.m64 - y - b) % Extern.MathBitsCarry.m64) (if x < y + b then 1 else 0))
theorem add64_run (x y c : Int) (hx : 0 ≤ x) (hy : 0 ≤ y) (hc0 : 0 ≤ c) (hc : c ≤ 1) (w : World) :
    (callFunc 65 #[.int .u64 x, .int .u64 y, .int .u64 c]).run Try.prog w = .ok (.value (.tuple #[.int .u64 ((x + y + c) % 18446744073709551616), .int .u64 ((x + y + c) / 18446744073709551616)])) w := by
  rw [run_callFunc_extern Try.func65 (by kernel_rfl) (by kernel_rfl) (by kernel_rfl) (e := add64Entry) (by kernel_rfl), run_add64 x y c hx hy hc0 hc]
  rfl
theorem sub64_run (x y b : Int) (hx : 0 ≤ x) (hy : 0 ≤ y) (hx1 : x ≤ 18446744073709551615) (hy1 : y ≤ 18446744073709551615) (hb0 : 0 ≤ b) (hb : b ≤ 1) (w : World) :
    (callFunc 70 #[.int .u64 x, .int .u64 y, .int .u64 b]).run Try.prog w = .ok (.value (.tuple #[.int .u64 ((x - y - b) % 18446744073709551616), .int .u64 (-((x - y - b) / 18446744073709551616))])) w := by
  have key : ∀ k : Nat, k ≤ 1 → (sub64E #[.int .u64 x, .int .u64 y, .int .u64 (k : Int)]).run Try.prog w =
      .ok (Extern.MathBitsCarry.pair ((x.toNat + Extern.MathBitsCarry.m64 - y.toNat - k) % Extern.MathBitsCarry.m64) (if x.toNat < y.toNat + k then 1 else 0)) w := by
    intro k hk
    have : k = 0 ∨ k = 1 := by omega
    rcases this with rfl | rfl <;> rfl
  obtain ⟨k, rfl⟩ := Int.eq_ofNat_of_zero_le hb0
  obtain ⟨X, rfl⟩ := Int.eq_ofNat_of_zero_le hx
  obtain ⟨Y, rfl⟩ := Int.eq_ofNat_of_zero_le hy
  rw [run_callFunc_extern Try.func70 (by kernel_rfl) (by kernel_rfl) (by kernel_rfl) (e := sub64E) (by kernel_rfl), key k (by omega)]
  simp only [Extern.MathBitsCarry.pair, Extern.MathBitsCarry.m64, Int.toNat_natCast, Result.andThen]
  congr 5
  · congr 1
    show (((X + 2 ^ 64 - Y - k) % 2 ^ 64 : Nat) : Int) = _
    omega
  · congr 2
    show ((if X < Y + k then 1 else 0 : Nat) : Int) = _
    split <;> omega
end Go.Proofs.Ytejnnghfelpioaa
namespace Go
open Go.RowKit
section
variable {P : Program} {ops : Array Oper} {md : Region.Mode} {C : World → Prop}
def wpAnyLF (P : Program) (md : Region.Mode) (ops : Array Oper) (C : World → Prop) (n : Nat) (L LB : Array Bool → Act → Prop) : Nat → Array Bool → Act → Prop
  | 0, listed, a => L listed a
  | f + 1, listed, a =>
    Region.ready md ops listed ≠ [] ∧ ∀ i ∈ Region.ready md ops listed, (i < n ∧ qOp P ops C i (wpAnyLF P md ops C n L LB f (listed.setIfInBounds i true)) a) ∨ (i = n ∧ f = 0 ∧ LB listed a)
theorem wpAny_of_headF {n g : Nat} {L LB : Array Bool → Act → Prop} {Q' : Exit → Act → World → Prop} (hL : ∀ listed a w, C w → L listed a → wpAny P md ops Q' g listed a w)
    (hLB : ∀ listed a w, C w → LB listed a → wpOp P ops Q' n (wpAny P md ops Q' g (listed.setIfInBounds n true)) a w) :
    ∀ (f : Nat) (listed : Array Bool) (a : Act) (w : World), C w → wpAnyLF P md ops C n L LB f listed a → wpAny P md ops Q' (f + g) listed a w
  | 0, listed, a, w, hw, h => by rw [Nat.zero_add]; exact hL _ _ _ hw h
  | f + 1, listed, a, w, hw, h => by
    rw [show f + 1 + g = (f + g) + 1 by omega]
    refine ⟨fun h0 => absurd h0 h.1, fun i hi => ?_⟩
    rcases h.2 i hi with ⟨h1, h2⟩ | ⟨rfl, rfl, h2⟩
    · exact wpOp_of_qOp hw (fun a' w' hw' h' => wpAny_of_headF hL hLB f _ a' w' hw' h') h2
    · rw [Nat.zero_add]; exact hLB _ _ _ hw h2
def Region.sinkOneB (md : Region.Mode) (ops : Array Oper) (n i : Nat) : Bool :=
  (List.range ops.size).all fun t => decide (t < n) || Region.waitsFor md ops t i
theorem sinkOne_ready {n i : Nat} {listed : Array Bool} (hs : Region.sinkOneB md ops n i = true) (hun : listed.getD i true = false) : ∀ t, n ≤ t → t ∉ Region.ready md ops listed := by
  intro t ht hr
  obtain ⟨_, ot, hot, hall⟩ := mem_ready.1 hr
  have htlt : t < ops.size := (Array.getElem?_eq_some_iff.1 hot).1
  have h0 := List.all_eq_true.1 hs t (List.mem_range.2 htlt)
  simp only [Bool.or_eq_true, decide_eq_true_eq] at h0
  rcases h0 with h0 | h0
  · omega
  · obtain ⟨oj, hoj, e, he, hb, hon⟩ := Region.waitsFor_spec h0
    have : oj = ot := Option.some.inj (hoj.symm.trans hot)
    subst this
    have h2 := hall e he hb
    rw [hon, getD_both hun] at h2
    cases h2
theorem wpAnyLF_first {n i : Nat} {oi : Oper} {v : Value} {L LB : Array Bool → Act → Prop} (hi : ops[i]? = some oi) (hsel : ∀ (j : Nat) (o : Oper) cs b, ops[j]? = some o → o.op ≠ .select cs b)
    (hs : Region.sinkOneB md ops n i = true) (hin : i < n)
    (hdone : ∀ listed a, L listed a → ∀ j ∈ Region.ready md ops listed, n ≤ j) :
    ∀ (f : Nat) (listed : Array Bool) (a : Act), HeadInv md ops n listed →
      (∀ j oj, ops[j]? = some oj → j ≠ i → listed.getD j true = false → (∀ e ∈ oj.after, Region.binds md e = true → e.on ≠ i) → oi.apart ops oj = true) →
      i ∈ Region.ready md ops listed → YieldsIn P ops C oi v a →
      wpAnyLF P md ops C n L LB f (listed.setIfInBounds i true) (a.put oi.dst v) → wpAnyLF P md ops C n L LB (f + 1) listed a := by
  intro f
  induction f with
  | zero =>
    intro listed a inv _ hr hy H
    have hun := (mem_ready.1 hr).1
    refine ⟨fun h => (by rw [h] at hr; cases hr), fun j hj => ?_⟩
    have hjn : j < n := by
      rcases Nat.lt_or_ge j n with h | h
      · exact h
      · exact absurd hj (sinkOne_ready hs hun j h)
    refine .inl ⟨hjn, ?_⟩
    by_cases hji : j = i
    · subst hji; exact hy.qOp hi H
    · have := hdone _ _ H j (ready_mono hj hji)
      omega
  | succ f ih =>
    intro listed a inv hfree hr hy H
    have hun := (mem_ready.1 hr).1
    refine ⟨fun h => (by rw [h] at hr; cases hr), fun j hj => ?_⟩
    have hjn : j < n := by
      rcases Nat.lt_or_ge j n with h | h
      · exact h
      · exact absurd hj (sinkOne_ready hs hun j h)
    refine .inl ⟨hjn, ?_⟩
    by_cases hji : j = i
    · subst hji; exact hy.qOp hi H
    · have h1 := H.2 j (ready_mono hj hji)
      replace h1 := h1.elim (fun h => h.2) (fun h => absurd h.1 (by omega))
      obtain ⟨hjun, oj, hoj, hall⟩ := mem_ready.1 hj
      have hnot : ∀ e ∈ oj.after, Region.binds md e = true → e.on ≠ i := fun e he hb heq => by
        have h1 := hall e he hb
        rw [heq, getD_both hun] at h1
        cases h1
      have h2 := qOp_put hoj (hfree j oj hoj hji hjun hnot) (fun cs b => hsel i oi cs b hi) (fun cs b => hsel j oj cs b hoj) hy h1
      have hfree' : ∀ k ok, ops[k]? = some ok → k ≠ i → (listed.setIfInBounds j true).getD k true = false →
          (∀ e ∈ ok.after, Region.binds md e = true → e.on ≠ i) → oi.apart ops ok = true := fun k ok hk hki hun hno => by
        refine hfree k ok hk hki ?_ hno
        by_cases hjk : j = k
        · subst hjk; exact hjun
        · rw [getD_set_ne true hjk] at hun; exact hun
      refine qOp_mono (fun a' h3 => ih (listed.setIfInBounds j true) a' (inv.set hj hjn) hfree' (ready_mono hr (Ne.symm hji)) h3.1 ?_) h2
      rw [Array.setIfInBounds_comm _ _ hji]
      exact h3.2
def Region.lexHeadI (md : Region.Mode) (ops : Array Oper) (n : Nat) (B : Array Bool → Bool) : List Nat → Array Bool → Bool
  | [], listed => B listed
  | i :: is, listed => decide (i < n) && Region.sinkOneB md ops n i && (Region.ready md ops listed).contains i && Region.free md ops listed i && Region.lexHeadI md ops n B is (listed.setIfInBounds i true)
theorem wpAnyLF_lex {n : Nat} {Lq : Act → Prop} {L LB : Array Bool → Act → Prop} {B : Array Bool → Bool} (hsel : Region.noSelect ops = true) (hdone : ∀ listed a, L listed a → ∀ j ∈ Region.ready md ops listed, n ≤ j)
    (hbase : ∀ listed a, B listed = true → Lq a → wpAnyLF P md ops C n L LB 1 listed a) :
    ∀ (is : List Nat) (l : List Oper) (listed : Array Bool) (a : Act), is.map (fun i => ops[i]?) = l.map some → HeadInv md ops n listed →
    Region.lexHeadI md ops n B is listed = true → wpQuiet P ops C Lq l a →
    wpAnyLF P md ops C n L LB (is.length + 1) listed a
  | [], l, listed, a, hl, _, hB, h => by
    have : l = [] := by simpa using hl.symm
    subst this
    exact hbase _ _ (by simpa [Region.lexHeadI] using hB) h
  | i :: is, l, listed, a, hl, inv, hB, h => by
    match l, hl, h with
    | o :: l, hl, h =>
      simp only [List.map_cons, List.cons.injEq] at hl
      obtain ⟨h0, hl⟩ := hl
      simp only [Region.lexHeadI, Bool.and_eq_true, decide_eq_true_eq] at hB
      obtain ⟨⟨⟨⟨hkn, hs⟩, hr⟩, hf⟩, hB'⟩ := hB
      have hr' : i ∈ Region.ready md ops listed := by simpa using hr
      have hst : qOp P ops C i (wpQuiet P ops C Lq l) a := by unfold qOp; simp only [h0]; exact h
      obtain ⟨v, hy, hK⟩ := yieldsIn_of_qOp h0 hst
      rw [List.length_cons]
      exact wpAnyLF_first h0 (Region.noSelect_spec hsel) hs hkn hdone (is.length + 1) listed a inv (Region.free_spec h0 hf) hr' hy
        (wpAnyLF_lex hsel hdone hbase is l _ _ hl (inv.set hr' hkn) hB' hK)
def Region.floatB (md : Region.Mode) (ops : Array Oper) (n fl : Nat) (listed : Array Bool) : Bool :=
  decide (fl < n) && decide (Region.ready md ops listed = [fl, n]) && decide (Region.ready md ops (listed.setIfInBounds fl true) = [n]) && decide (Region.ready md ops (listed.setIfInBounds n true) = [fl]) &&
    decide (Region.ready md ops ((listed.setIfInBounds fl true).setIfInBounds n true) = [n + 1]) && decide (Region.ready md ops ((listed.setIfInBounds n true).setIfInBounds fl true) = [n + 1]) &&
    (Region.ready md ops (((listed.setIfInBounds fl true).setIfInBounds n true).setIfInBounds (n + 1) true)).isEmpty && (Region.ready md ops (((listed.setIfInBounds n true).setIfInBounds fl true).setIfInBounds (n + 1) true)).isEmpty
def Region.lexFloatB (md : Region.Mode) (ops : Array Oper) (n fl : Nat) (is : List Nat) : Bool :=
  Region.noSelect ops && decide (ops.size = n + 2) && decide (is.length + 1 = n) && Region.lexHeadI md ops n (Region.floatB md ops n fl) is (Array.replicate ops.size false)
theorem wpAny_one {Q' : Exit → Act → World → Prop} {i g : Nat} {o : Oper} {listed : Array Bool} {a : Act} {w : World} {K : Act → World → Prop} (h0 : ops[i]? = some o) (hr : Region.ready md ops listed = [i])
    (h : wpOp P ops Q' i K a w) (hK : ∀ a' w', K a' w' → wpAny P md ops Q' g (listed.setIfInBounds i true) a' w') : wpAny P md ops Q' (g + 1) listed a w := by
  refine ⟨fun h => (by rw [hr] at h; cases h), fun j hj => ?_⟩
  rw [hr] at hj
  simp at hj
  subst hj
  exact wpOp_mono hK h
theorem wp_region_ext_float {id : Nat} {Q : Exit → Act → World → Prop} {a : Act} {w : World} {l : List Oper} (n fl : Nat) (is : List Nat) (l1 : List Oper) (o1 o2 oF : Oper) (hl1 : is.map (fun i => l[i]?) = l1.map some) (h1 : l[n]? = some o1) (h2 : l[n + 1]? = some o2) (hF : l[fl]? = some oF)
    (hm : P.follows .mixedOrders = true) (hB : Region.lexFloatB .any l.toArray n fl is = true)
    (h : wpQuiet P l.toArray (fun w' => ∃ x, w' = w.ext x) (fun a' => wpQuiet P l.toArray (fun w' => ∃ x, w' = w.ext x) (fun a'' => ∀ w', (∃ x, w' = w.ext x) → wpList P l.toArray Q [o1, o2] a'' w') [oF] a' ∧
      ∀ w', (∃ x, w' = w.ext x) → wpList P l.toArray Q [o1, oF, o2] a' w') l1 a) : (Code.region id l.toArray true).wp P Q a w := by
  simp only [Region.lexFloatB, Bool.and_eq_true, decide_eq_true_eq] at hB
  obtain ⟨⟨⟨hsel, hn⟩, hil⟩, hlex⟩ := hB
  have inv0 : HeadInv .any l.toArray n (Array.replicate l.toArray.size false) :=
    ⟨by simp, fun j oj _ hl => (by rw [getD_replicate_false] at hl; cases hl), fun t _ ht => getD_in (by simpa using ht) (getD_replicate_false _ _)⟩
  have g1 : l.toArray[n]? = some o1 := by simpa using h1
  have g2 : l.toArray[n + 1]? = some o2 := by simpa using h2
  have gF : l.toArray[fl]? = some oF := by simpa using hF
  have H := wpAnyLF_lex (P := P) (md := .any) (ops := l.toArray) (C := fun w' => ∃ x, w' = w.ext x) (n := n) (B := Region.floatB .any l.toArray n fl)
    (L := fun listed a => (Region.ready .any l.toArray listed = [n] ∧ Region.ready .any l.toArray (listed.setIfInBounds n true) = [n + 1] ∧ Region.ready .any l.toArray ((listed.setIfInBounds n true).setIfInBounds (n + 1) true) = []) ∧ ∀ w', (∃ x, w' = w.ext x) → wpList P l.toArray Q [o1, o2] a w')
    (LB := fun listed a => (Region.ready .any l.toArray (listed.setIfInBounds n true) = [fl] ∧ Region.ready .any l.toArray ((listed.setIfInBounds n true).setIfInBounds fl true) = [n + 1] ∧ Region.ready .any l.toArray (((listed.setIfInBounds n true).setIfInBounds fl true).setIfInBounds (n + 1) true) = []) ∧ ∀ w', (∃ x, w' = w.ext x) → wpList P l.toArray Q [o1, oF, o2] a w')
    hsel (fun listed a hL j hj => by rw [hL.1.1] at hj; simp at hj; omega) (fun listed a hb hLq => by
      simp only [Region.floatB, Bool.and_eq_true, decide_eq_true_eq, List.isEmpty_iff] at hb
      obtain ⟨⟨⟨⟨⟨⟨⟨b0, b1⟩, b2⟩, b3⟩, b4⟩, b5⟩, b6⟩, b7⟩ := hb
      refine ⟨fun h => (by rw [b1] at h; cases h), fun i hi => ?_⟩
      rw [b1] at hi
      simp at hi
      rcases hi with rfl | rfl
      · refine .inl ⟨b0, ?_⟩
        have hst : qOp P l.toArray (fun w' => ∃ x, w' = w.ext x) i (wpQuiet P l.toArray (fun w' => ∃ x, w' = w.ext x) (fun a'' => ∀ w', (∃ x, w' = w.ext x) → wpList P l.toArray Q [o1, o2] a'' w') []) a := by unfold qOp; simp only [gF]; exact hLq.1
        exact qOp_mono (fun a' h' => ⟨⟨b2, b4, b6⟩, h'⟩) hst
      · exact .inr ⟨rfl, rfl, ⟨b3, b5, b7⟩, hLq.2⟩) is l1 _ a (by simpa using hl1) inv0 hlex h
  refine wp_region_any hm ?_
  have := wpAny_of_headF (C := fun w' => ∃ x, w' = w.ext x) (Q' := Q) (g := 2) (fun listed a' w' hw' hL => by
    obtain ⟨⟨r1, r2, r3⟩, hL⟩ := hL
    have hw : wpOp P l.toArray Q n (wpList P l.toArray Q [o2]) a' w' := by unfold wpOp; simp only [g1]; exact hL w' hw'
    refine wpAny_one g1 r1 hw fun a2 w2 k2 => ?_
    have hw2 : wpOp P l.toArray Q (n + 1) (wpList P l.toArray Q []) a2 w2 := by unfold wpOp; simp only [g2]; exact k2
    exact wpAny_one g2 r2 hw2 fun a3 w3 k3 => ⟨r3, k3⟩) (fun listed a' w' hw' hL => by
    obtain ⟨⟨r1, r2, r3⟩, hL⟩ := hL
    have hw : wpOp P l.toArray Q n (wpList P l.toArray Q [oF, o2]) a' w' := by unfold wpOp; simp only [g1]; exact hL w' hw'
    refine wpOp_mono (fun a2 w2 k2 => ?_) hw
    have hw2 : wpOp P l.toArray Q fl (wpList P l.toArray Q [o2]) a2 w2 := by unfold wpOp; simp only [gF]; exact k2
    refine wpAny_one gF r1 hw2 fun a3 w3 k3 => ?_
    have hw3 : wpOp P l.toArray Q (n + 1) (wpList P l.toArray Q []) a3 w3 := by unfold wpOp; simp only [g2]; exact k3
    exact wpAny_one g2 r2 hw3 fun a4 w4 k4 => ⟨r3, k4⟩) _ _ _ w.drew ⟨_, w.drew_ext⟩ H
  rw [hil, ← hn] at this
  exact this
end
end Go
namespace Go
open Go.RowKit
variable {P : Program}
theorem run_loadVar_part (w : World) (g o : Nat) (t ty : TypeId) (cur cs : Array Value) (fr : Nat × Nat) (d : TypeDesc) (hg : w.heap[g]? = some (.cells cur t fr)) (hcs : ∀ j v, cs[j]? = some v → cur[o + j]? = some v)
    (hu : P.underlying ty = some d) (hd : (match d with | .struct _ | .array _ _ => true | _ => false) = true) (hi : (P.info? ty).map (·.size) = some cs.size) :
    (loadVar ty ⟨g, o, none⟩).run P w = .ok (.agg cs) w := by
  have hl : (loadCells ⟨g, o, none⟩ cs.toList.length).run P w = .ok cs.toList.toArray w :=
    run_loadCells_list (P := P) w ⟨g, o, none⟩ cs.toList (fun j v hv => by
      have hadd : (⟨g, o, none⟩ : Addr).add j = ⟨g, o + j, none⟩ := by unfold Addr.add; split <;> simp_all
      rw [hadd, cell_of_row w g (o + j) cur t fr hg]
      exact hcs j v (by simpa using hv))
  cases hq : P.info? ty with
  | none => simp [hq] at hi
  | some i =>
    have hs : i.size = cs.size := by simpa [hq] using hi
    have hagg : (isAgg ty).run P w = .ok true w := by
      unfold isAgg
      rw [Sem.run_bind, run_underlying hu w]
      cases d <;> simp_all
    simp only [Array.length_toList, Array.toArray_toList] at hl
    simp [loadVar, Sem.run_bind, hagg, sizeOf, typeInfo, hq, hs, hl]
theorem run_load_part {o : Oper} {a : Act} {w : World} (ty : TypeId) (x : Operand) (ho : o.op = .load ty x)
    (g off : Nat) (hx : a.eval x = .pointer (some ⟨g, off, none⟩)) (t : TypeId) (cur cs : Array Value) (fr : Nat × Nat) (d : TypeDesc) (hg : w.heap[g]? = some (.cells cur t fr)) (hcs : ∀ j v, cs[j]? = some v → cur[off + j]? = some v)
    (hu : P.underlying ty = some d) (hd : (match d with | .struct _ | .array _ _ => true | _ => false) = true) (hi : (P.info? ty).map (·.size) = some cs.size) :
    (execOp a.eval o).run P w = .ok (.value (.agg cs)) w := by
  unfold execOp
  simp only [ho, hx, Instr.loadAt, Instr.sureAddr, Sem.run_bind, Sem.run_pure, Result.andThen_ok, run_loadVar_part w g off t ty cur cs fr d hg hcs hu hd hi]
theorem wpList_load_part {ops : Array Oper} {rest : List Oper} {o : Oper} {a : Act} {w : World} {Q : Exit → Act → World → Prop} (hgd : o.guard = none) (ty : TypeId) (x : Operand) (ho : o.op = .load ty x)
    (g off : Nat) (hx : a.eval x = .pointer (some ⟨g, off, none⟩)) (t : TypeId) (cur cs : Array Value) (fr : Nat × Nat) (d : TypeDesc) (hg : w.heap[g]? = some (.cells cur t fr)) (hcs : ∀ j v, cs[j]? = some v → cur[off + j]? = some v)
    (hu : P.underlying ty = some d) (hd : (match d with | .struct _ | .array _ _ => true | _ => false) = true) (hi : (P.info? ty).map (·.size) = some cs.size)
    (h : wpList P ops Q rest (a.put o.dst (.agg cs)) w) : wpList P ops Q (o :: rest) a w :=
  wpList_plain hgd fun _ hK => by unfold Oper.wp; rw [run_load_part ty x ho g off hx t cur cs fr d hg hcs hu hd hi]; exact hK _ _ h
theorem wpQuiet_load_part {ops : Array Oper} {rest : List Oper} {o : Oper} {a : Act} {w : World} {Q : Act → Prop} (hgd : o.guard = none) (ty : TypeId) (x : Operand) (ho : o.op = .load ty x)
    (g off : Nat) (hx : a.eval x = .pointer (some ⟨g, off, none⟩)) (t : TypeId) (cur cs : Array Value) (fr : Nat × Nat) (d : TypeDesc) (hg : w.heap[g]? = some (.cells cur t fr)) (hcs : ∀ j v, cs[j]? = some v → cur[off + j]? = some v)
    (hu : P.underlying ty = some d) (hd : (match d with | .struct _ | .array _ _ => true | _ => false) = true) (hi : (P.info? ty).map (·.size) = some cs.size)
    (h : wpQuiet P ops (fun w' => ∃ x, w' = w.ext x) Q rest (a.put o.dst (.agg cs))) : wpQuiet P ops (fun w' => ∃ x, w' = w.ext x) Q (o :: rest) a :=
  BigFrame.wpQuiet_want (by simp [Region.wanted, hgd]) fun K hK => ⟨.agg cs, fun w' ⟨y, hy⟩ => by
    have hg' : w'.heap[g]? = some (.cells cur t fr) := by rw [hy]; exact (w.heap_ext y g (Array.getElem?_eq_some_iff.1 hg).1).trans hg
    unfold Oper.quietAt
    rw [run_load_part ty x ho g off hx t cur cs fr d hg' hcs hu hd hi]
    exact ⟨rfl, rfl⟩, hK _ h⟩
def setPart (cur : Array Value) (o : Nat) (vs : Array Value) : Array Value := (cur.toList.take o ++ vs.toList ++ cur.toList.drop (o + vs.size)).toArray
theorem run_storeVar_part (w : World) (g o : Nat) (t ty : TypeId) (cur cells : Array Value) (hg : w.heap[g]? = some (.cells cur t (0, 0))) (hi : (P.info? ty).map (·.size) = some cells.size)
    (ho : o + cells.size ≤ cur.size) (h1 : cells.all (·.oneCell') = true) :
    (storeVar ty ⟨g, o, none⟩ (.agg cells)).run P w = .ok () (w.setRow g (setPart cur o cells)) := by
  have := run_storeCells_at P g o t cells.toList 0 cur w hg (by simpa using ho) (fun v hv => (Array.all_eq_true_iff_forall_mem.1 h1) v (by simpa using hv))
  cases hq : P.info? ty with
  | none => simp [hq] at hi
  | some i =>
    have hs : cells.size = i.size := by simp [hq] at hi; omega
    simp only [Nat.add_zero, Array.length_toList] at this
    simp [storeVar, sizeOf, typeInfo, hq, Value.cells, hs, this, setPart]
theorem wpList_store_part {ops : Array Oper} {rest : List Oper} {o : Oper} {a : Act} {w : World} {Q : Exit → Act → World → Prop} (hgd : o.guard = none) (ty : TypeId) (x y : Operand) (ho : o.op = .store ty x y)
    (g off : Nat) (cells : Array Value) (hx : a.eval x = .pointer (some ⟨g, off, none⟩)) (hy : a.eval y = .agg cells)
    (t : TypeId) (cur : Array Value) (hg : w.heap[g]? = some (.cells cur t (0, 0))) (hi : (P.info? ty).map (·.size) = some cells.size)
    (hfit : off + cells.size ≤ cur.size) (h1 : cells.all (·.oneCell') = true)
    (h : wpList P ops Q rest (a.put o.dst undef) (w.setRow g (setPart cur off cells))) : wpList P ops Q (o :: rest) a w :=
  wpList_plain hgd fun _ hK => by
    unfold Oper.wp execOp
    simp only [ho, hx, hy, Instr.storeAt, Instr.sureAddr, Sem.run_bind, Sem.run_pure, Result.andThen_ok, run_storeVar_part w g off t ty cur cells hg hi hfit h1]
    exact hK _ _ h
end Go
namespace Go.Proofs.Ytejnnghfelpioaa
open Go.RowKit
theorem pow64_succ (i : Nat) : 2 ^ (64 * (i + 1)) = 2 ^ (64 * i) * 2 ^ 64 := by rw [← Nat.pow_add]; rfl
theorem lmN_set (x i v j : Nat) (hx : x < 2 ^ (64 * i)) (hv : v < 2 ^ 64) : lmN (x + 2 ^ (64 * i) * v) j = if i = j then v else lmN x j := by
  unfold lmN
  by_cases h : i = j
  · subst h
    rw [if_pos rfl, Nat.add_mul_div_left _ _ (Nat.pow_pos (by omega)), Nat.div_eq_of_lt hx, Nat.zero_add, Nat.mod_eq_of_lt hv]
  · rw [if_neg h]
    rcases Nat.lt_or_ge j i with hlt | hge
    · have e2 : (2 : Nat) ^ (64 * i) * v = 2 ^ (64 * j) * (2 ^ 64 * (2 ^ (64 * i - 64 * j - 64) * v)) := by
        rw [← Nat.mul_assoc, ← Nat.mul_assoc, ← Nat.pow_add, ← Nat.pow_add]; congr 2; omega
      rw [e2, Nat.add_mul_div_left _ _ (Nat.pow_pos (by omega)), Nat.add_mul_mod_self_left]
    · have h4 : 2 ^ (64 * (i + 1)) ≤ 2 ^ (64 * j) := Nat.pow_le_pow_right (by omega) (by omega)
      have h5 : 2 ^ (64 * i) * v ≤ 2 ^ (64 * i) * (2 ^ 64 - 1) := Nat.mul_le_mul_left _ (by omega)
      rw [pow64_succ] at h4
      rw [Nat.div_eq_of_lt (by omega), Nat.div_eq_of_lt (by omega)]
theorem set_lt (x i v : Nat) (hx : x < 2 ^ (64 * i)) (hv : v < 2 ^ 64) : x + 2 ^ (64 * i) * v < 2 ^ (64 * (i + 1)) := by
  have h5 : 2 ^ (64 * i) * v ≤ 2 ^ (64 * i) * (2 ^ 64 - 1) := Nat.mul_le_mul_left _ (by omega)
  rw [pow64_succ]
  omega
theorem cellsW_set (x i v : Nat) (hx : x < 2 ^ (64 * i)) (hv : v < 2 ^ 64) (hi : i < 4) : (cellsW x).setIfInBounds i (.int .u64 (v : Int)) = cellsW (x + 2 ^ (64 * i) * v) := by
  have h := fun j => lmN_set x i v j hx hv
  have hc : i = 0 ∨ i = 1 ∨ i = 2 ∨ i = 3 := by omega
  unfold cellsW lm
  rw [h 0, h 1, h 2, h 3]
  rcases hc with e | e | e | e <;> simp [e]
theorem low_succ (a i : Nat) : a % 2 ^ (64 * (i + 1)) = a % 2 ^ (64 * i) + 2 ^ (64 * i) * lmN a i := by
  rw [pow64_succ, Nat.mod_mul]; rfl
theorem low_full (a : Nat) (h : a < 2 ^ 256) : a % 2 ^ (64 * 4) = a := Nat.mod_eq_of_lt h
theorem sum_step (a b X c i : Nat) (h : X + 2 ^ (64 * i) * c = a % 2 ^ (64 * i) + b % 2 ^ (64 * i)) :
    X + 2 ^ (64 * i) * ((lmN a i + lmN b i + c) % 2 ^ 64) + 2 ^ (64 * (i + 1)) * ((lmN a i + lmN b i + c) / 2 ^ 64) = a % 2 ^ (64 * (i + 1)) + b % 2 ^ (64 * (i + 1)) := by
  rw [low_succ, low_succ, pow64_succ]
  generalize hs : lmN a i + lmN b i + c = s
  have e1 : 2 ^ (64 * i) * (s % 2 ^ 64) + 2 ^ (64 * i) * 2 ^ 64 * (s / 2 ^ 64) = 2 ^ (64 * i) * s := by
    rw [Nat.mul_assoc, ← Nat.mul_add, Nat.mod_add_div]
  have e2 : 2 ^ (64 * i) * s = 2 ^ (64 * i) * lmN a i + 2 ^ (64 * i) * lmN b i + 2 ^ (64 * i) * c := by rw [← hs, Nat.mul_add, Nat.mul_add]
  omega
set_option maxHeartbeats 1000000 in
theorem wsum_any (a b : Nat) (w : World) (ha : a < 2 ^ 256) (hb : b < 2 ^ 256) : Calls Try.prog 62 #[wd a, wd b] w fun e w' => e = .returned (.tuple #[wd ((a + b) % 2 ^ 256), .int .u64 (((a + b) / 2 ^ 256 : Nat) : Int)]) ∧ Below w.heap.size w w' := by
  have HA := hid ha
  have HB := hid hb
  clear ha hb
  unfold wd
  have iA := hid (iW a)
  have hA0 := hid (show ArrW 25 (((w.alloc (.cells (cellsW a) 25)).alloc (.cells (cellsW b) 25)).alloc (.cells (cellsW 0) 25)) w.heap.size a from ((ArrW.new _ w a).alloc _).alloc _)
  have hB0 := hid (show ArrW 25 (((w.alloc (.cells (cellsW a) 25)).alloc (.cells (cellsW b) 25)).alloc (.cells (cellsW 0) 25)) (w.heap.size + 1) b by
    have := ArrW.new 25 (w.alloc (.cells (cellsW a) 25)) b
    rw [World.size_alloc] at this; exact this.alloc _)
  have hC0 := hid (show ArrW 25 (((w.alloc (.cells (cellsW a) 25)).alloc (.cells (cellsW b) 25)).alloc (.cells (cellsW 0) 25)) (w.heap.size + 2) 0 by
    have := ArrW.new 25 ((w.alloc (.cells (cellsW a) 25)).alloc (.cells (cellsW b) 25)) 0
    rw [World.size_alloc, World.size_alloc] at this; exact this)
  have hb0 : Below w.heap.size w (((w.alloc (.cells (cellsW a) 25)).alloc (.cells (cellsW b) 25)).alloc (.cells (cellsW 0) 25)) := (((Below.refl _ _).alloc (Nat.le_refl _) _).alloc (by simp) _).alloc (by simp; omega) _
  go_enter Try.func62, Try.ntmps62
  go_wp2_with (refine wpList_alloc_new rfl 25 rfl (cellsW 0) zWd ?_; simp only [Act.put, pvA, pv0, pv1])
  simp only [World.size_alloc]
  generalize ((w.alloc (.cells (cellsW a) 25)).alloc (.cells (cellsW b) 25)).alloc (.cells (cellsW 0) 25) = w1 at hA0 hB0 hC0 hb0 ⊢
  go_loopw [5, 7] (fun cv iv wr => ∃ i c X : Nat, i ≤ 4 ∧ c ≤ 1 ∧ iv = .int .i64 i ∧ cv = .int .u64 c ∧ Hid (X < 2 ^ (64 * i) ∧ X + 2 ^ (64 * i) * c = a % 2 ^ (64 * i) + b % 2 ^ (64 * i)) ∧ Hid (ArrW 25 wr w.heap.size a) ∧ Hid (ArrW 25 wr (w.heap.size + 1) b) ∧ Hid (ArrW 25 wr (w.heap.size + 2) X) ∧ Below w.heap.size w wr)
    (fun _ iv _ => 4 - (intOf iv).toNat)
  case atStart => exact ⟨0, 0, 0, by omega, by omega, rfl, rfl, hid ⟨by simp, by simp [Nat.mod_one]⟩, hA0, hB0, hC0, hb0⟩
  case round =>
    clear hA0 hB0 hC0 hb0
    obtain ⟨i, c, X, hi, hc, rfl, rfl, hX, hA, hB, hC, hb⟩ := hrel
    by_cases hlt : i < 4
    · have c1 := hA.out.cell i hlt
      have c2 := hB.out.cell i hlt
      have c3 := hC.out.cell i hlt
      have f3 := hC.out.free i
      have l1 := hA.out.lt
      have l2 := hB.out.lt
      have l3 := hC.out.lt
      have hadd := add64_run (lm a i) (lm b i) (c : Int) (lm_nonneg _ _) (lm_nonneg _ _) (by omega) (by omega)
      have q1 : (lm a i + lm b i + (c : Int)) % 18446744073709551616 = (((lmN a i + lmN b i + c) % 2 ^ 64 : Nat) : Int) := by unfold lm; omega
      have q2 : (lm a i + lm b i + (c : Int)) / 18446744073709551616 = (((lmN a i + lmN b i + c) / 2 ^ 64 : Nat) : Int) := by unfold lm; omega
      have g1 := lmN_lt a i
      have g2 := lmN_lt b i
      have hc2 : (lmN a i + lmN b i + c) / 2 ^ 64 ≤ 1 := by omega
      have hst := hid (sum_step a b X c i hX.out.2)
      have hlt2 := hid (set_lt X i ((lmN a i + lmN b i + c) % 2 ^ 64) hX.out.1 (Nat.mod_lt _ (by decide)))
      have hset := hid (cellsW_set X i ((lmN a i + lmN b i + c) % 2 ^ 64) hX.out.1 (Nat.mod_lt _ (by decide)) hlt)
      rw [q1, q2] at hadd
      obtain ⟨u, hu⟩ : ∃ u, u = (lmN a i + lmN b i + c) % 2 ^ 64 := ⟨_, rfl⟩
      obtain ⟨v, hv⟩ : ∃ v, v = (lmN a i + lmN b i + c) / 2 ^ 64 := ⟨_, rfl⟩
      rw [← hu] at hadd hst hlt2 hset
      rw [← hv] at hadd hst hc2
      clear q1 q2 hu hv g1 g2
      go_wp2_with fail
      (refine wp_region_ext_float 13 11 [0, 1, 2, 3, 4, 5, 6, 7, 8, 9, 10, 12] [_, _, _, _, _, _, _, _, _, _, _, _] _ _ _ rfl rfl rfl rfl (by kernel_rfl) (by kernel_rfl) ?_; (repeat (go_big_quiet_step (first | fail))); refine wpQuiet_nil ?_; refine ⟨?_, ?_⟩; rotate_left; rintro _ ⟨xw, rfl⟩; rotate_left; (repeat (go_big_quiet_step (first | fail))); refine wpQuiet_nil ?_; rintro _ ⟨xw, rfl⟩)
      all_goals
        go_wp2
        go_roundw
        case rel =>
          exact ⟨i + 1, v, X + 2 ^ (64 * i) * u, by omega, hc2, by go_num, rfl, hid ⟨hlt2.out, hst.out⟩, hid ((hA.out.ext xw).other (by show w.heap.size ≠ w.heap.size + 2; omega) _), hid ((hB.out.ext xw).other (by show w.heap.size + 1 ≠ w.heap.size + 2; omega) _), hid ((hC.out.ext xw).set i _ hset.out), (World.ext_below_of hb hb.size xw).setCell (p := ⟨w.heap.size + 2, i, none⟩) (by show w.heap.size ≤ w.heap.size + 2; omega) _⟩
        case measure => simp [intOf]; omega
    · obtain rfl : i = 4 := by omega
      obtain ⟨hx1, hx2⟩ := hX.out
      rw [low_full a HA.out, low_full b HB.out] at hx2
      have hXe : X = (a + b) % 2 ^ 256 := by
        rw [← hx2, show 2 ^ (64 * 4) = 2 ^ 256 from rfl, Nat.add_mul_mod_self_left, Nat.mod_eq_of_lt hx1]
      have hce : c = (a + b) / 2 ^ 256 := by
        rw [← hx2, show 2 ^ (64 * 4) = 2 ^ 256 from rfl, Nat.add_mul_div_left _ _ (Nat.pow_pos (by omega)), Nat.div_eq_of_lt hx1, Nat.zero_add]
      have HXE := hid hXe
      have HCE := hid hce
      have iX := hid (iW X)
      have nX := hid (one_cellsW X)
      clear hx1 hx2 hXe hce hX hA hB hlt hi
      go_wp2_with (first | (refine wpList_load_row rfl 25 (.tmp 4) rfl (w.heap.size + 2) rfl 25 _ (0, 0) _ hC.out uWd rfl iX.out ?_; simp only [Act.put, pvA, pv0, pv1]) | (refine wpList_store_row rfl 25 (.tmp 4) (.tmp 24) rfl (w.heap.size + 2) _ rfl rfl 25 _ hC.out iX.out rfl nX.out ?_; simp only [Act.put]))
      refine bodyPost_ret (results_row_tmp rfl _ _ (w.heap.size + 2) 25 (cellsW X) (0, 0) _ rfl (heap_setRow' _ _ _ _ _ hC.out) uWd rfl iX.out) rfl ⟨?_, below_setRow' hb _ (by omega) _⟩
      rw [HXE.out]
      conv => rhs; rw [← HCE.out]
      rfl
def subW (a b : Nat) : Nat := (a + (2 ^ 256 - b)) % 2 ^ 256
theorem sub_step (a b X c d c' i : Nat) (hc : c ≤ 1) (h : X + b % 2 ^ (64 * i) = a % 2 ^ (64 * i) + 2 ^ (64 * i) * c) (hd : ((lmN a i : Int) - (lmN b i : Int) - (c : Int)) % 2 ^ 64 = (d : Int)) (hc' : -(((lmN a i : Int) - (lmN b i : Int) - (c : Int)) / 2 ^ 64) = (c' : Int)) :
    X + 2 ^ (64 * i) * d + b % 2 ^ (64 * (i + 1)) = a % 2 ^ (64 * (i + 1)) + 2 ^ (64 * (i + 1)) * c' := by
  rw [low_succ, low_succ, pow64_succ]
  have e : d + lmN b i + c = lmN a i + 2 ^ 64 * c' := by omega
  have e2 : 2 ^ (64 * i) * d + 2 ^ (64 * i) * lmN b i + 2 ^ (64 * i) * c = 2 ^ (64 * i) * lmN a i + 2 ^ (64 * i) * 2 ^ 64 * c' := by
    rw [Nat.mul_assoc, ← Nat.mul_add, ← Nat.mul_add, ← Nat.mul_add, e]
  omega
set_option maxHeartbeats 1000000 in
theorem wsub_any (a b : Nat) (w : World) (ha : a < 2 ^ 256) (hb : b < 2 ^ 256) : Calls Try.prog 40 #[wd a, wd b] w fun e w' => e = .returned (wd (subW a b)) ∧ Below w.heap.size w w' := by
  have HA := hid ha
  have HB := hid hb
  clear ha hb
  unfold wd
  have hA0 := hid (show ArrW 25 (((w.alloc (.cells (cellsW a) 25)).alloc (.cells (cellsW b) 25)).alloc (.cells (cellsW 0) 25)) w.heap.size a from ((ArrW.new _ w a).alloc _).alloc _)
  have hB0 := hid (show ArrW 25 (((w.alloc (.cells (cellsW a) 25)).alloc (.cells (cellsW b) 25)).alloc (.cells (cellsW 0) 25)) (w.heap.size + 1) b by
    have := ArrW.new 25 (w.alloc (.cells (cellsW a) 25)) b
    rw [World.size_alloc] at this; exact this.alloc _)
  have hC0 := hid (show ArrW 25 (((w.alloc (.cells (cellsW a) 25)).alloc (.cells (cellsW b) 25)).alloc (.cells (cellsW 0) 25)) (w.heap.size + 2) 0 by
    have := ArrW.new 25 ((w.alloc (.cells (cellsW a) 25)).alloc (.cells (cellsW b) 25)) 0
    rw [World.size_alloc, World.size_alloc] at this; exact this)
  have hb0 : Below w.heap.size w (((w.alloc (.cells (cellsW a) 25)).alloc (.cells (cellsW b) 25)).alloc (.cells (cellsW 0) 25)) := (((Below.refl _ _).alloc (Nat.le_refl _) _).alloc (by simp) _).alloc (by simp; omega) _
  go_enter Try.func40, Try.ntmps40
  go_wp2_with (refine wpList_alloc_new rfl 25 rfl (cellsW 0) zWd ?_; simp only [Act.put, pvA, pv0, pv1])
  simp only [World.size_alloc]
  generalize ((w.alloc (.cells (cellsW a) 25)).alloc (.cells (cellsW b) 25)).alloc (.cells (cellsW 0) 25) = w1 at hA0 hB0 hC0 hb0 ⊢
  go_loopw [5, 7] (fun cv iv wr => ∃ i c X : Nat, i ≤ 4 ∧ c ≤ 1 ∧ iv = .int .i64 i ∧ cv = .int .u64 c ∧ Hid (X < 2 ^ (64 * i) ∧ X + b % 2 ^ (64 * i) = a % 2 ^ (64 * i) + 2 ^ (64 * i) * c) ∧ Hid (ArrW 25 wr w.heap.size a) ∧ Hid (ArrW 25 wr (w.heap.size + 1) b) ∧ Hid (ArrW 25 wr (w.heap.size + 2) X) ∧ Below w.heap.size w wr)
    (fun _ iv _ => 4 - (intOf iv).toNat)
  case atStart => exact ⟨0, 0, 0, by omega, by omega, rfl, rfl, hid ⟨by simp, by simp [Nat.mod_one]⟩, hA0, hB0, hC0, hb0⟩
  case round =>
    clear hA0 hB0 hC0 hb0
    obtain ⟨i, c, X, hi, hc, rfl, rfl, hX, hA, hB, hC, hb⟩ := hrel
    by_cases hlt : i < 4
    · have c1 := hA.out.cell i hlt
      have c2 := hB.out.cell i hlt
      have c3 := hC.out.cell i hlt
      have f3 := hC.out.free i
      have l1 := hA.out.lt
      have l2 := hB.out.lt
      have l3 := hC.out.lt
      have hsub := sub64_run (lm a i) (lm b i) (c : Int) (lm_nonneg _ _) (lm_nonneg _ _) (lm_lt _ _) (lm_lt _ _) (by omega) (by omega)
      have g1 := lmN_lt a i
      have g2 := lmN_lt b i
      obtain ⟨u, hu⟩ : ∃ u : Nat, (lm a i - lm b i - (c : Int)) % 18446744073709551616 = (u : Int) := ⟨((lm a i - lm b i - (c : Int)) % 18446744073709551616).toNat, by omega⟩
      obtain ⟨v, hv⟩ : ∃ v : Nat, -((lm a i - lm b i - (c : Int)) / 18446744073709551616) = (v : Int) := ⟨(-((lm a i - lm b i - (c : Int)) / 18446744073709551616)).toNat, by unfold lm; omega⟩
      have hu2 : u < 2 ^ 64 := by omega
      have hv2 : v ≤ 1 := by unfold lm at hv; omega
      have hst := hid (sub_step a b X c u v i hc hX.out.2 hu hv)
      have hlt2 := hid (set_lt X i u hX.out.1 hu2)
      have hset := hid (cellsW_set X i u hX.out.1 hu2 hlt)
      rw [hu, hv] at hsub
      clear hu hv g1 g2
      go_wp2_with fail
      (refine wp_region_ext_float 13 11 [0, 1, 2, 3, 4, 5, 6, 7, 8, 9, 10, 12] [_, _, _, _, _, _, _, _, _, _, _, _] _ _ _ rfl rfl rfl rfl (by kernel_rfl) (by kernel_rfl) ?_; (repeat (go_big_quiet_step (first | fail))); refine wpQuiet_nil ?_; refine ⟨?_, ?_⟩; rotate_left; rintro _ ⟨xw, rfl⟩; rotate_left; (repeat (go_big_quiet_step (first | fail))); refine wpQuiet_nil ?_; rintro _ ⟨xw, rfl⟩)
      all_goals
        go_wp2
        go_roundw
        case rel =>
          exact ⟨i + 1, v, X + 2 ^ (64 * i) * u, by omega, hv2, by go_num, rfl, hid ⟨hlt2.out, hst.out⟩, hid ((hA.out.ext xw).other (by show w.heap.size ≠ w.heap.size + 2; omega) _), hid ((hB.out.ext xw).other (by show w.heap.size + 1 ≠ w.heap.size + 2; omega) _), hid ((hC.out.ext xw).set i _ hset.out), (World.ext_below_of hb hb.size xw).setCell (p := ⟨w.heap.size + 2, i, none⟩) (by show w.heap.size ≤ w.heap.size + 2; omega) _⟩
        case measure => simp [intOf]; omega
    · obtain rfl : i = 4 := by omega
      obtain ⟨hx1, hx2⟩ := hX.out
      rw [low_full a HA.out, low_full b HB.out] at hx2
      have hXe : X = subW a b := by
        have h1 := HA.out
        have h2 := HB.out
        have h3 : X < 2 ^ 256 := hx1
        have h4 : X + b = a + 2 ^ 256 * c := hx2
        unfold subW
        rw [show (2 : Nat) ^ 256 = 115792089237316195423570985008687907853269984665640564039457584007913129639936 from by decide] at *
        omega
      have HXE := hid hXe
      have iX := hid (iW X)
      have nX := hid (one_cellsW X)
      clear hx1 hx2 hXe hX hA hB hlt hi
      go_wp2_with (first | (refine wpList_load_row rfl 25 (.tmp 4) rfl (w.heap.size + 2) rfl 25 _ (0, 0) _ hC.out uWd rfl iX.out ?_; simp only [Act.put, pvA, pv0, pv1]) | (refine wpList_store_row rfl 25 (.tmp 4) (.tmp 24) rfl (w.heap.size + 2) _ rfl rfl 25 _ hC.out iX.out rfl nX.out ?_; simp only [Act.put]))
      refine bodyPost_ret (results_cell_row rfl _ _ (w.heap.size + 2) 25 (cellsW X) (0, 0) _ rfl (heap_setRow' _ _ _ _ _ hC.out) uWd rfl iX.out) rfl ⟨?_, below_setRow' hb _ (by omega) _⟩
      rw [HXE.out]
set_option maxHeartbeats 1000000 in
theorem wadd_any (a b : Nat) (w : World) (ha : a < 2 ^ 256) (hb : b < 2 ^ 256) : Calls Try.prog 69 #[wd a, wd b] w fun e w' => e = .returned (wd ((a + b) % 2 ^ 256)) ∧ Below w.heap.size w w' := by
  have hS := hid (fun w => wsum_any a b w ha hb)
  have iA := hid (iW a)
  have iB := hid (iW b)
  clear ha hb
  unfold wd at *
  obtain ⟨s, hs⟩ : ∃ s, s = (a + b) % 2 ^ 256 := ⟨_, rfl⟩
  rw [← hs] at hS ⊢
  obtain ⟨c, hc⟩ : ∃ c : Int, c = (((a + b) / 2 ^ 256 : Nat) : Int) := ⟨_, rfl⟩
  rw [← hc] at hS
  have iS := hid (iW s)
  have nS := hid (one_cellsW s)
  clear hs hc
  have hA0 := hid (show ArrW 25 (((w.alloc (.cells (cellsW a) 25)).alloc (.cells (cellsW b) 25)).alloc (.cells (cellsW 0) 25)) w.heap.size a from ((ArrW.new _ w a).alloc _).alloc _)
  have hB0 := hid (show ArrW 25 (((w.alloc (.cells (cellsW a) 25)).alloc (.cells (cellsW b) 25)).alloc (.cells (cellsW 0) 25)) (w.heap.size + 1) b by
    have := ArrW.new 25 (w.alloc (.cells (cellsW a) 25)) b
    rw [World.size_alloc] at this; exact this.alloc _)
  have hC0 := hid (show ArrW 25 (((w.alloc (.cells (cellsW a) 25)).alloc (.cells (cellsW b) 25)).alloc (.cells (cellsW 0) 25)) (w.heap.size + 2) 0 by
    have := ArrW.new 25 ((w.alloc (.cells (cellsW a) 25)).alloc (.cells (cellsW b) 25)) 0
    rw [World.size_alloc, World.size_alloc] at this; exact this)
  have hb0 : Below w.heap.size w (((w.alloc (.cells (cellsW a) 25)).alloc (.cells (cellsW b) 25)).alloc (.cells (cellsW 0) 25)) := (((Below.refl _ _).alloc (Nat.le_refl _) _).alloc (by simp) _).alloc (by simp; omega) _
  go_enter Try.func69, Try.ntmps69
  go_wp2_with (first | (refine wpList_alloc_new rfl 25 rfl (cellsW 0) zWd ?_; simp only [Act.put, pvA, pv0, pv1]) | (refine wpList_load_row rfl 25 (.tmp 2) rfl w.heap.size rfl 25 _ (0, 0) _ hA0.out uWd rfl iA.out ?_; simp only [Act.put, pvA, pv0, pv1]) | (refine wpList_load_row rfl 25 (.tmp 3) rfl (w.heap.size + 1) rfl 25 _ (0, 0) _ hB0.out uWd rfl iB.out ?_; simp only [Act.put, pvA, pv0, pv1]))
  refine (hS.out _).mono ?_
  rintro e w1 ⟨rfl, hb1⟩
  have hC1 := hC0.out.below hb1 hC0.out.lt
  have hb2 := hb0.trans (hb1.mono hb0.size)
  have hC2 := hid (hC1.alloc (.cells (cellsW s) 25))
  have hD2 := hid (ArrW.new 25 w1 s)
  have hb3 := hb2.alloc hb2.size (.cells (cellsW s) 25)
  clear hA0 hB0 hC0 hb0 hb1 hC1 iA iB
  go_wp2_with (first | (refine wpList_allocStore 25 11 5 (cellsW s) (cellsW 0) rfl rfl rfl rfl rfl rfl (by decide) (by simp) rfl (by kernel_rfl) rfl iS.out nS.out ?_; simp only [Act.put, pvA, pv0, pv1]) | (refine wpList_load_row rfl 25 (.tmp 5) rfl w1.heap.size rfl 25 _ (0, 0) _ hD2.out uWd rfl iS.out ?_; simp only [Act.put, pvA, pv0, pv1]) | (refine wpList_store_row rfl 25 (.tmp 4) (.tmp 13) rfl (w.heap.size + 2) _ rfl rfl 25 _ hC2.out iS.out rfl nS.out ?_; simp only [Act.put]))
  refine bodyPost_ret (results_cell_row rfl _ _ (w.heap.size + 2) 25 (cellsW s) (0, 0) _ rfl (heap_setRow' _ _ _ _ _ hC2.out) uWd rfl iS.out) rfl ⟨rfl, below_setRow' hb3 _ (by omega) _⟩
end Go.Proofs.Ytejnnghfelpioaa
namespace Go.Proofs.Ytejnnghfelpioaa
open Go.RowKit
def cellsM (n x : Nat) : Array Value := ((List.range n).map fun i => Value.int .u64 ((lmN x i : Nat) : Int)).toArray
theorem size_cellsM (n x : Nat) : (cellsM n x).size = n := by simp [cellsM]
theorem one_cellsM (n x : Nat) : (cellsM n x).all (·.oneCell') = true := by
  rw [Array.all_eq_true_iff_forall_mem]
  intro v hv
  simp [cellsM] at hv
  obtain ⟨i, _, rfl⟩ := hv
  rfl
theorem cellsM_at (n x j : Nat) (h : j < n) : (cellsM n x)[j]? = some (.int .u64 ((lmN x j : Nat) : Int)) := by simp [cellsM, h]
def ArrM (t : TypeId) (n : Nat) (w : World) (b : Nat) (x : Nat) : Prop := w.heap[b]? = some (.cells (cellsM n x) t (0, 0))
theorem ArrM.ofW {t : TypeId} {w : World} {b x : Nat} (h : ArrW t w b x) : ArrM t 4 w b x := h
theorem ArrM.toW {t : TypeId} {w : World} {b x : Nat} (h : ArrM t 4 w b x) : ArrW t w b x := h
theorem ArrM.lt {t : TypeId} {n : Nat} {w : World} {b x : Nat} (h : ArrM t n w b x) : b < w.heap.size := (Array.getElem?_eq_some_iff.1 h).1
theorem ArrM.cell {t : TypeId} {n : Nat} {w : World} {b x : Nat} (h : ArrM t n w b x) (j : Nat) (hj : j < n) : w.cell? ⟨b, j, none⟩ = some (.int .u64 ((lmN x j : Nat) : Int)) := by
  rw [cell_of_row w b j _ _ _ h]; exact cellsM_at n x j hj
theorem ArrM.free {t : TypeId} {n : Nat} {w : World} {b x : Nat} (h : ArrM t n w b x) (j : Nat) : w.frozen? ⟨b, j, none⟩ = false := by
  unfold ArrM at h
  simp [World.frozen?, h]
theorem ArrM.other {t : TypeId} {n : Nat} {w : World} {b x : Nat} (h : ArrM t n w b x) {a : Addr} (ha : b ≠ a.block) (v : Value) : ArrM t n (w.setCell a v) b x := by
  unfold ArrM at *
  rw [Below.heap_setCell _ _ _ _ ha]; exact h
theorem ArrM.below {t : TypeId} {n : Nat} {w w' : World} {b B x : Nat} (h : ArrM t n w b x) (hb : Below B w w') (hB : b < B) : ArrM t n w' b x := by
  unfold ArrM at *
  rw [hb.block b hB]; exact h
theorem ArrM.ext {t : TypeId} {n : Nat} {w : World} {b x : Nat} (h : ArrM t n w b x) (y : World) : ArrM t n (w.ext y) b x := h.below (w.ext_below y) h.lt
theorem ArrM.alloc {t : TypeId} {n : Nat} {w : World} {b x : Nat} (h : ArrM t n w b x) (o : Obj) : ArrM t n (w.alloc o) b x := by
  unfold ArrM at *
  rw [Below.heap_alloc _ _ _ (ArrM.lt h)]; exact h
theorem ArrM.new (t : TypeId) (n : Nat) (w : World) (x : Nat) : ArrM t n (w.alloc (.cells (cellsM n x) t)) w.heap.size x := by
  unfold ArrM
  show (w.heap.push _)[w.heap.size]? = _
  simp
def setL (x j v : Nat) : Nat := x + 2 ^ (64 * j) * v - 2 ^ (64 * j) * lmN x j
theorem lmN_le (x j : Nat) : 2 ^ (64 * j) * lmN x j ≤ x := by
  unfold lmN
  have h1 : x / 2 ^ (64 * j) % 2 ^ 64 ≤ x / 2 ^ (64 * j) := Nat.mod_le _ _
  have h2 := Nat.mul_le_mul_left (2 ^ (64 * j)) h1
  have h3 := Nat.mul_div_le x (2 ^ (64 * j))
  omega
theorem setL_eq (x j v : Nat) : setL x j v + 2 ^ (64 * j) * lmN x j = x + 2 ^ (64 * j) * v := by
  have := lmN_le x j
  unfold setL; omega
theorem setL_parts (x j v : Nat) : setL x j v = x % 2 ^ (64 * j) + 2 ^ (64 * j) * (v + 2 ^ 64 * (x / 2 ^ (64 * j) / 2 ^ 64)) := by
  have h1 := setL_eq x j v
  have h2 := Nat.div_add_mod x (2 ^ (64 * j))
  have h3 := Nat.div_add_mod (x / 2 ^ (64 * j)) (2 ^ 64)
  have h4 : 2 ^ (64 * j) * (x / 2 ^ (64 * j)) = 2 ^ (64 * j) * (2 ^ 64 * (x / 2 ^ (64 * j) / 2 ^ 64)) + 2 ^ (64 * j) * lmN x j := by
    conv => lhs; rw [← h3]
    rw [Nat.mul_add]; rfl
  rw [Nat.mul_add]
  omega
theorem lmN_setL (x j v i : Nat) (hv : v < 2 ^ 64) : lmN (setL x j v) i = if j = i then v else lmN x i := by
  have hp : 0 < 2 ^ (64 * j) := Nat.pow_pos (by omega)
  have hm : x % 2 ^ (64 * j) < 2 ^ (64 * j) := Nat.mod_lt _ hp
  unfold lmN
  by_cases h : j = i
  · subst h
    rw [if_pos rfl, setL_parts, Nat.add_mul_div_left _ _ hp, Nat.div_eq_of_lt hm, Nat.zero_add, Nat.add_mul_mod_self_left, Nat.mod_eq_of_lt hv]
  · rw [if_neg h]
    rcases Nat.lt_or_ge i j with hlt | hge
    · have e1 : setL x j v + 2 ^ (64 * i) * (2 ^ 64 * (2 ^ (64 * j - 64 * i - 64) * lmN x j)) = x + 2 ^ (64 * i) * (2 ^ 64 * (2 ^ (64 * j - 64 * i - 64) * v)) := by
        have := setL_eq x j v
        have e : ∀ z, 2 ^ (64 * i) * (2 ^ 64 * (2 ^ (64 * j - 64 * i - 64) * z)) = 2 ^ (64 * j) * z := fun z => by
          rw [← Nat.mul_assoc, ← Nat.mul_assoc, ← Nat.pow_add, ← Nat.pow_add]; congr 2; omega
        rw [e, e]; exact this
      have hp2 : 0 < 2 ^ (64 * i) := Nat.pow_pos (by omega)
      have e2 := congrArg (fun z => z / 2 ^ (64 * i) % 2 ^ 64) e1
      simp only [Nat.add_mul_div_left _ _ hp2, Nat.add_mul_mod_self_left] at e2
      exact e2
    · have hji : 64 * i = 64 * j + 64 + (64 * i - 64 * j - 64) := by omega
      have e3 : ∀ y, y / 2 ^ (64 * i) = y / 2 ^ (64 * j) / 2 ^ 64 / 2 ^ (64 * i - 64 * j - 64) := fun y => by
        rw [Nat.div_div_eq_div_mul, Nat.div_div_eq_div_mul, ← Nat.pow_add, ← Nat.pow_add]; congr 2; omega
      rw [e3, e3 x, setL_parts, Nat.add_mul_div_left _ _ hp, Nat.div_eq_of_lt hm, Nat.zero_add, Nat.add_mul_div_left _ _ (by decide : 0 < 2 ^ 64), Nat.div_eq_of_lt hv, Nat.zero_add]
theorem setL_lt (x j v n : Nat) (hx : x < 2 ^ (64 * n)) (hv : v < 2 ^ 64) (hj : j < n) : setL x j v < 2 ^ (64 * n) := by
  have hp : 0 < 2 ^ (64 * j) := Nat.pow_pos (by omega)
  have hm : x % 2 ^ (64 * j) < 2 ^ (64 * j) := Nat.mod_lt _ hp
  have e : 2 ^ (64 * n) = 2 ^ (64 * j) * (2 ^ 64 * 2 ^ (64 * n - 64 * j - 64)) := by rw [← Nat.pow_add, ← Nat.pow_add]; congr 1; omega
  have h1 : x / 2 ^ (64 * j) / 2 ^ 64 < 2 ^ (64 * n - 64 * j - 64) := by
    rw [Nat.div_div_eq_div_mul, Nat.div_lt_iff_lt_mul (Nat.mul_pos hp (by decide))]
    rw [e] at hx
    rw [show 2 ^ (64 * n - 64 * j - 64) * (2 ^ (64 * j) * 2 ^ 64) = 2 ^ (64 * j) * (2 ^ 64 * 2 ^ (64 * n - 64 * j - 64)) by rw [Nat.mul_comm, Nat.mul_assoc]]
    exact hx
  rw [setL_parts, e]
  have h2 : v + 2 ^ 64 * (x / 2 ^ (64 * j) / 2 ^ 64) + 1 ≤ 2 ^ 64 * 2 ^ (64 * n - 64 * j - 64) := by
    have := Nat.mul_le_mul_left (2 ^ 64) h1
    rw [Nat.succ_eq_add_one, Nat.mul_add] at this
    omega
  have h3 := Nat.mul_le_mul_left (2 ^ (64 * j)) h2
  rw [Nat.mul_add, Nat.mul_one] at h3
  omega
theorem cellsM_set (n x j v : Nat) (hv : v < 2 ^ 64) : (cellsM n x).setIfInBounds j (.int .u64 (v : Int)) = cellsM n (setL x j v) := by
  apply Array.ext_getElem?
  intro i
  rw [Array.getElem?_setIfInBounds, size_cellsM]
  rcases Nat.lt_or_ge i n with hi | hi
  · rw [cellsM_at n _ i hi, cellsM_at n _ i hi, lmN_setL x j v i hv]
    by_cases h : j = i
    · subst h; rw [if_pos rfl, if_pos rfl, if_pos hi]
    · rw [if_neg h, if_neg h]
  · have e1 : (cellsM n x)[i]? = none := Array.getElem?_eq_none (by rw [size_cellsM]; exact hi)
    have e2 : (cellsM n (setL x j v))[i]? = none := Array.getElem?_eq_none (by rw [size_cellsM]; exact hi)
    rw [e1, e2]
    split
    · rw [if_neg (by omega)]
    · rfl
theorem ArrM.set {t : TypeId} {n : Nat} {w : World} {b x : Nat} (h : ArrM t n w b x) (j v : Nat) (hv : v < 2 ^ 64) : ArrM t n (w.setCell ⟨b, j, none⟩ (.int .u64 (v : Int))) b (setL x j v) := by
  unfold ArrM at *
  simp [World.setCell, Array.getElem?_modify, h, cellsM_set n x j v hv]
theorem setL_top (x j v : Nat) (hx : x < 2 ^ (64 * j)) : setL x j v = x + 2 ^ (64 * j) * v := by
  unfold setL lmN
  rw [Nat.div_eq_of_lt hx]; simp
theorem add64_nat (x y c : Nat) (hx : x < 2 ^ 64) (hy : y < 2 ^ 64) (hc : c ≤ 1) : ∃ u v : Nat, u < 2 ^ 64 ∧ v ≤ 1 ∧ x + y + c = u + 2 ^ 64 * v ∧
    ∀ w, (callFunc 65 #[.int .u64 (x : Int), .int .u64 (y : Int), .int .u64 (c : Int)]).run Try.prog w = .ok (.value (.tuple #[.int .u64 (u : Int), .int .u64 (v : Int)])) w := by
  refine ⟨(x + y + c) % 2 ^ 64, (x + y + c) / 2 ^ 64, Nat.mod_lt _ (by decide), by omega, by omega, fun w => ?_⟩
  rw [add64_run (x : Int) (y : Int) (c : Int) (by omega) (by omega) (by omega) (by omega)]
  congr 5 <;> omega
theorem sub64_nat (x y c : Nat) (hx : x < 2 ^ 64) (hy : y < 2 ^ 64) (hc : c ≤ 1) : ∃ u v : Nat, u < 2 ^ 64 ∧ v ≤ 1 ∧ u + y + c = x + 2 ^ 64 * v ∧
    ∀ w, (callFunc 70 #[.int .u64 (x : Int), .int .u64 (y : Int), .int .u64 (c : Int)]).run Try.prog w = .ok (.value (.tuple #[.int .u64 (u : Int), .int .u64 (v : Int)])) w := by
  obtain ⟨u, hu⟩ : ∃ u : Nat, ((x : Int) - (y : Int) - (c : Int)) % 18446744073709551616 = (u : Int) := ⟨(((x : Int) - (y : Int) - (c : Int)) % 18446744073709551616).toNat, by omega⟩
  obtain ⟨v, hv⟩ : ∃ v : Nat, -(((x : Int) - (y : Int) - (c : Int)) / 18446744073709551616) = (v : Int) := ⟨(-(((x : Int) - (y : Int) - (c : Int)) / 18446744073709551616)).toNat, by omega⟩
  refine ⟨u, v, by omega, by omega, by omega, fun w => ?_⟩
  rw [sub64_run (x : Int) (y : Int) (c : Int) (by omega) (by omega) (by omega) (by omega) (by omega) (by omega), hu, hv]
theorem mul64_any (x y : Nat) (hx : x < 2 ^ 64) (hy : y < 2 ^ 64) (w : World) : Calls Try.prog 64 #[.int .u64 (x : Int), .int .u64 (y : Int)] w fun e w' => e = .returned (.tuple #[.int .u64 ((x * y / 2 ^ 64 : Nat) : Int), .int .u64 ((x * y % 2 ^ 64 : Nat) : Int)]) ∧ Below w.heap.size w w' :=
  (bits_Mul64 x y hx hy w).mono fun e w' ⟨h1, h2⟩ => ⟨h1, by subst h2; exact Below.refl _ _⟩
theorem mul_hi (x y : Nat) (hx : x < 2 ^ 64) (hy : y < 2 ^ 64) : x * y / 2 ^ 64 < 2 ^ 64 := by
  rw [Nat.div_lt_iff_lt_mul (by decide)]
  exact Nat.mul_lt_mul_of_lt_of_le hx (Nat.le_of_lt hy) (by decide)
end Go.Proofs.Ytejnnghfelpioaa
namespace Go.Proofs.Ytejnnghfelpioaa
open Go.RowKit
def bl (x : Nat) : Nat := if x = 0 then 0 else Nat.log2 x + 1
theorem bl_spec (x : Nat) (h : x ≠ 0) : 1 ≤ bl x ∧ 2 ^ (bl x - 1) ≤ x ∧ x < 2 ^ bl x := by
  unfold bl
  rw [if_neg h]
  exact ⟨by omega, by rw [Nat.add_sub_cancel]; exact Nat.log2_self_le h, Nat.lt_log2_self⟩
theorem bl_unique (x k : Nat) (h1 : 1 ≤ k) (h2 : 2 ^ (k - 1) ≤ x) (h3 : x < 2 ^ k) : bl x = k := by
  have h0 : x ≠ 0 := by have : 0 < 2 ^ (k - 1) := Nat.pow_pos (by omega)
                        omega
  obtain ⟨g1, g2, g3⟩ := bl_spec x h0
  rcases Nat.lt_trichotomy (bl x) k with h | h | h
  · have : 2 ^ bl x ≤ 2 ^ (k - 1) := Nat.pow_le_pow_right (by omega) (by omega)
    omega
  · exact h
  · have : 2 ^ k ≤ 2 ^ (bl x - 1) := Nat.pow_le_pow_right (by omega) (by omega)
    omega
theorem bl_le (x k : Nat) (h : x < 2 ^ k) : bl x ≤ k := by
  by_cases h0 : x = 0
  · subst h0; simp [bl]
  · obtain ⟨g1, g2, g3⟩ := bl_spec x h0
    rcases Nat.lt_or_ge k (bl x) with h1 | h1
    · have : 2 ^ k ≤ 2 ^ (bl x - 1) := Nat.pow_le_pow_right (by omega) (by omega)
      omega
    · exact h1
theorem bl_lib (x : Nat) (h : x < 2 ^ 64) : Lib.bitLen x = bl x := by
  by_cases h0 : x = 0
  · subst h0; rfl
  · obtain ⟨g1, g2, g3⟩ := Lib.bitLenAux_bounds 64 x h h0
    exact (bl_unique x _ g1 g2 g3).symm
theorem bl_top (x i : Nat) (h : x < 2 ^ (64 * (i + 1))) (hn : lmN x i ≠ 0) : 64 * i + bl (lmN x i) = bl x := by
  have hp : 0 < 2 ^ (64 * i) := Nat.pow_pos (by omega)
  have he : lmN x i = x / 2 ^ (64 * i) := by
    unfold lmN
    rw [pow64_succ, Nat.mul_comm] at h
    exact Nat.mod_eq_of_lt (by rw [Nat.div_lt_iff_lt_mul hp]; exact h)
  obtain ⟨g1, g2, g3⟩ := bl_spec _ hn
  symm
  apply bl_unique x _ (by omega)
  · rw [show 64 * i + bl (lmN x i) - 1 = 64 * i + (bl (lmN x i) - 1) by omega, Nat.pow_add]
    rw [he] at g2 ⊢
    exact Nat.le_trans (Nat.mul_le_mul_left _ g2) (Nat.mul_div_le _ _)
  · rw [Nat.pow_add]
    rw [he] at g3 ⊢
    have h1 : 2 ^ (64 * i) * (x / 2 ^ (64 * i) + 1) ≤ 2 ^ (64 * i) * 2 ^ bl (x / 2 ^ (64 * i)) := Nat.mul_le_mul_left _ g3
    have h2 := Nat.div_add_mod x (2 ^ (64 * i))
    have h3 := Nat.mod_lt x hp
    rw [Nat.mul_add, Nat.mul_one] at h1
    omega
def RdM (w : World) (v : Value) (n x : Nat) : Prop :=
  ∃ a cap, v = .slice a n cap ∧ n ≤ cap ∧ (0 < n → ∃ b off, a = some ⟨b, off, none⟩ ∧ b < w.heap.size ∧ ∀ j, j < n → w.cell? ⟨b, off + j, none⟩ = some (.int .u64 ((lmN x j : Nat) : Int)))
theorem RdM.below {w w' : World} {v : Value} {n x : Nat} (h : RdM w v n x) (hb : Below w.heap.size w w') : RdM w' v n x := by
  obtain ⟨a, cap, e, hc, h⟩ := h
  refine ⟨a, cap, e, hc, fun hx => ?_⟩
  obtain ⟨b, off, e2, h2, h3⟩ := h hx
  exact ⟨b, off, e2, Nat.lt_of_lt_of_le h2 hb.size, fun j hj => by rw [hb.cell (p := ⟨b, off + j, none⟩) h2]; exact h3 j hj⟩
theorem ArrM.rd {t : TypeId} {n : Nat} {w : World} {b x : Nat} (h : ArrM t n w b x) (cap : Nat) (hc : n ≤ cap) : RdM w (.slice (some ⟨b, 0, none⟩) n cap) n x :=
  ⟨_, cap, rfl, hc, fun _ => ⟨b, 0, rfl, h.lt, fun j hj => by rw [Nat.zero_add]; exact h.cell j hj⟩⟩
theorem len64_same (x : Nat) (h : x < 2 ^ 64) (w : World) : Calls Try.prog 90 #[.int .u64 (x : Int)] w fun e w' => e = .returned (.int .i64 ((bl x : Nat) : Int)) ∧ w = w' :=
  (bits_Len64 (x : Int) w (by omega) (by omega)).mono fun e w' ⟨h1, h2⟩ => ⟨by rw [h1, Int.toNat_natCast, bl_lib x h], h2.symm⟩
set_option maxHeartbeats 1000000 in
theorem width_any (n x : Nat) (v : Value) (w : World) (hr : RdM w v n x) (hx : x < 2 ^ (64 * n)) (hn : n ≤ 1048576) : Calls Try.prog 80 #[v] w fun e w' => e = .returned (.int .i64 ((bl x : Nat) : Int)) ∧ w = w' := by
  obtain ⟨a, cap, rfl, hc, hr⟩ := hr
  have HX := hid hx
  have HR := hid hr
  clear hx hr
  go_enter Try.func80, Try.ntmps80
  go_wp2
  go_loop [3] (fun iv => ∃ i : Nat, i ≤ n ∧ iv = .int .i64 ((i : Int) - 1) ∧ Hid (x < 2 ^ (64 * i))) (fun iv => (intOf iv + 1).toNat)
  case atStart => exact ⟨n, Nat.le_refl _, rfl, HX⟩
  case round =>
    obtain ⟨i, hi, rfl, hxi⟩ := hrel
    by_cases h0 : i = 0
    · subst h0
      have hz : x = 0 := by have := hxi.out; simpa using this
      have HZ := hid (show bl x = 0 by rw [hz]; rfl)
      clear hz
      go_wp2
      go_ret
      exact ⟨by rw [HZ.out]; rfl, rfl⟩
    · obtain ⟨k, rfl⟩ : ∃ k, i = k + 1 := ⟨i - 1, by omega⟩
      obtain ⟨b, off, rfl, hbl, hcell⟩ := HR.out (by omega)
      have c1 := hcell k (by omega)
      have g1 := lmN_lt x k
      have e1 : (((k + 1 : Nat) : Int) - 1) = (k : Int) := by omega
      rw [e1]
      clear e1 h0 hcell
      by_cases hz : lmN x k = 0
      · have hxk : x < 2 ^ (64 * k) := by
          have h1 := hxi.out
          have hp : 0 < 2 ^ (64 * k) := Nat.pow_pos (by omega)
          rw [pow64_succ, Nat.mul_comm] at h1
          have h2 : x / 2 ^ (64 * k) < 2 ^ 64 := by rw [Nat.div_lt_iff_lt_mul hp]; exact h1
          unfold lmN at hz
          rw [Nat.mod_eq_of_lt h2] at hz
          exact (Nat.div_eq_zero_iff_lt hp).1 hz
        have HK := hid hxk
        rw [hz] at c1
        clear hz hxk
        go_wp2
        go_round
        case rel => exact ⟨k, by omega, rfl, HK⟩
        case measure => simp [intOf]
      · have HT := hid (bl_top x k hxi.out hz)
        have hb64 := bl_le (lmN x k) 64 g1
        have HL := hid (fun w => len64_same (lmN x k) g1 w)
        go_wp2_with (go_at_call 90; (with_reducible refine (HL.out _).mono ?_); rintro e w' ⟨rfl, rfl⟩)
        go_ret
        refine ⟨?_, rfl⟩
        rw [← HT.out]
        go_num
theorem eq_wd (x y : Nat) (hx : x < 2 ^ 256) (hy : y < 2 ^ 256) (w : World) : (Op.equalIn 10000 25 (.agg (cellsW x)) (.agg (cellsW y))).run Try.prog w = .ok (decide (x = y)) w := by
  have := run_equalIn_four (P := Try.prog) w (t := 25) (k := .u64) uWd (by kernel_rfl) (by kernel_rfl) (by kernel_rfl) (lm x 0) (lm x 1) (lm x 2) (lm x 3) (lm y 0) (lm y 1) (lm y 2) (lm y 3)
  have h2 : weq [lm x 0, lm x 1, lm x 2, lm x 3] [lm y 0, lm y 1, lm y 2, lm y 3] = decide (x = y) := by
    unfold weq
    congr 1
    apply propext
    constructor
    · intro h
      apply wd_inj hx hy
      simp only [List.cons.injEq, and_true] at h
      unfold cellsW
      rw [h.1, h.2.1, h.2.2.1, h.2.2.2]
    · intro h; rw [h]
  rw [← h2]; exact this
theorem cellsW_one (x : Nat) (h : x < 2 ^ 64) : cellsW x = #[.int .u64 (x : Int), .int .u64 0, .int .u64 0, .int .u64 0] := by
  have := cellsW_mk4 x 0 0 0 h (by decide) (by decide) (by decide)
  rw [show mk4 x 0 0 0 = x by unfold mk4; omega] at this
  exact this
theorem lmN_zero' (x : Nat) : lmN x 0 = x % 2 ^ 64 := by unfold lmN; simp
theorem wzero_any (x : Nat) (hx : x < 2 ^ 256) (w : World) : Calls Try.prog 61 #[wd x] w fun e w' => e = .returned (.bool (decide (x = 0))) ∧ Below w.heap.size w w' := by
  have he := eq_wd x 0 hx (by decide)
  unfold wd
  have iX := hid (iW x)
  have hA := hid (ArrW.new 25 w x)
  have hb : Below w.heap.size w (w.alloc (.cells (cellsW x) 25)) := (Below.refl _ _).alloc (Nat.le_refl _) _
  have he2 : ∀ w, (Op.equalIn 10000 25 (.agg (cellsW x)) (.agg #[.int .u64 0, .int .u64 0, .int .u64 0, .int .u64 0])).run Try.prog w = .ok (decide (x = 0)) w := he
  obtain ⟨r, hr⟩ : ∃ r, r = decide (x = 0) := ⟨_, rfl⟩
  rw [← hr] at he2 ⊢
  clear he hr hx
  go_enter Try.func61, Try.ntmps61
  go_wp2_with (refine wpList_load_row rfl 25 (.tmp 1) rfl w.heap.size rfl 25 _ (0, 0) _ hA.out uWd rfl iX.out ?_; simp only [Act.put, pvA, pv0, pv1])
  go_ret
  exact ⟨rfl, hb⟩
theorem wof_any (x : Nat) (hx : x < 2 ^ 64) (w : World) : Calls Try.prog 82 #[.int .u64 (x : Int)] w fun e w' => e = .returned (wd x) ∧ Below w.heap.size w w' := by
  have hc := hid (cellsW_one x hx)
  clear hx
  go_enter Try.func82, Try.ntmps82
  go_wp2
  refine bodyPost_ret (results_cell_row rfl _ _ w.heap.size 25 #[.int .u64 (x : Int), .int .u64 0, .int .u64 0, .int .u64 0] (0, 0) _ rfl (by show (w.heap.push _)[w.heap.size]? = _; simp) uWd rfl iWd) rfl ⟨?_, (Below.refl _ _).alloc (Nat.le_refl _) _⟩
  unfold wd
  rw [hc.out]
theorem wuint_any (x : Nat) (hx : x < 2 ^ 256) (w : World) : Calls Try.prog 91 #[wd x] w fun e w' => e = .returned (.tuple #[.int .u64 ((if x < 2 ^ 64 then x else 0 : Nat) : Int), .bool (decide (x < 2 ^ 64))]) ∧ Below w.heap.size w w' := by
  have h0 : lmN x 0 < 2 ^ 64 := lmN_lt x 0
  have he := eq_wd x (lmN x 0) hx (Nat.lt_of_lt_of_le h0 (by decide))
  rw [cellsW_one (lmN x 0) h0] at he
  have hd : decide (x = lmN x 0) = decide (x < 2 ^ 64) := by
    congr 1
    apply propext
    rw [lmN_zero']
    constructor
    · intro h; have := Nat.mod_lt x (by decide : 0 < 2 ^ 64); omega
    · intro h; exact (Nat.mod_eq_of_lt h).symm
  rw [hd] at he
  have hl : x < 2 ^ 64 → lmN x 0 = x := fun h => by rw [lmN_zero', Nat.mod_eq_of_lt h]
  unfold wd
  have iX := hid (iW x)
  have hA := ArrM.ofW (ArrW.new 25 w x)
  have c0 := hA.cell 0 (by omega)
  have HA := hid (ArrM.toW hA)
  have hb : Below w.heap.size w (w.alloc (.cells (cellsW x) 25)) := (Below.refl _ _).alloc (Nat.le_refl _) _
  clear hd hA
  by_cases hlt : x < 2 ^ 64
  · have hlx := hl hlt
    rw [hlx] at he c0
    rw [decide_eq_true hlt] at he ⊢
    rw [if_pos hlt]
    clear hl hlx hlt hx h0
    go_enter Try.func91, Try.ntmps91
    go_wp2_with (refine wpList_load_row rfl 25 (.tmp 1) rfl w.heap.size rfl 25 _ (0, 0) _ HA.out uWd rfl iX.out ?_; simp only [Act.put, pvA, pv0, pv1])
    go_ret2
    exact ⟨rfl, hb⟩
  · rw [decide_eq_false hlt] at he ⊢
    rw [if_neg hlt]
    clear hl hlt hx h0
    go_enter Try.func91, Try.ntmps91
    go_wp2_with (refine wpList_load_row rfl 25 (.tmp 1) rfl w.heap.size rfl 25 _ (0, 0) _ HA.out uWd rfl iX.out ?_; simp only [Act.put, pvA, pv0, pv1])
    go_ret2
    exact ⟨rfl, hb⟩
def upT (x m : Nat) : Nat := if x < m then x else m
theorem upto_any (x m : Nat) (hx : x < 2 ^ 256) (hm : m ≤ 65536) (w : World) : Calls Try.prog 86 #[wd x, .int .u64 (m : Int)] w fun e w' => e = .returned (.int .i64 ((upT x m : Nat) : Int)) ∧ Below w.heap.size w w' := by
  have hU := hid (fun w => wuint_any x hx w)
  unfold wd at *
  have iX := hid (iW x)
  have hA := hid (ArrW.new 25 w x)
  have hb : Below w.heap.size w (w.alloc (.cells (cellsW x) 25)) := (Below.refl _ _).alloc (Nat.le_refl _) _
  clear hx
  by_cases h1 : x < 2 ^ 64
  · rw [decide_eq_true h1, if_pos h1] at hU
    by_cases h2 : x ≤ m
    · have HU := hid (show upT x m = x by unfold upT; split <;> omega)
      have h3 : ¬ (m < x) := by omega
      clear h1
      go_enter Try.func86, Try.ntmps86
      go_wp2_with (refine wpList_load_row rfl 25 (.tmp 2) rfl w.heap.size rfl 25 _ (0, 0) _ hA.out uWd rfl iX.out ?_; simp only [Act.put, pvA, pv0, pv1])
      refine (hU.out _).mono ?_
      rintro e w1 ⟨rfl, hb1⟩
      go_wp2
      go_ret
      exact ⟨by rw [HU.out]; rfl, hb.trans (hb1.mono hb.size)⟩
    · have HU := hid (show upT x m = m by unfold upT; split <;> omega)
      have h3 : m < x := by omega
      clear h1 h2
      go_enter Try.func86, Try.ntmps86
      go_wp2_with (refine wpList_load_row rfl 25 (.tmp 2) rfl w.heap.size rfl 25 _ (0, 0) _ hA.out uWd rfl iX.out ?_; simp only [Act.put, pvA, pv0, pv1])
      refine (hU.out _).mono ?_
      rintro e w1 ⟨rfl, hb1⟩
      go_wp2
      go_ret
      exact ⟨by rw [HU.out]; rfl, hb.trans (hb1.mono hb.size)⟩
  · rw [decide_eq_false h1, if_neg h1] at hU
    have HU := hid (show upT x m = m by unfold upT; split <;> omega)
    clear h1
    go_enter Try.func86, Try.ntmps86
    go_wp2_with (refine wpList_load_row rfl 25 (.tmp 2) rfl w.heap.size rfl 25 _ (0, 0) _ hA.out uWd rfl iX.out ?_; simp only [Act.put, pvA, pv0, pv1])
    refine (hU.out _).mono ?_
    rintro e w1 ⟨rfl, hb1⟩
    go_wp2
    go_ret
    exact ⟨by rw [HU.out]; rfl, hb.trans (hb1.mono hb.size)⟩
end Go.Proofs.Ytejnnghfelpioaa
namespace Go.Proofs.Ytejnnghfelpioaa
open Go.RowKit
theorem uM8 : Try.prog.underlying 102 = some (.array 8 23) := by kernel_rfl
theorem iM8' : (Try.prog.info? 102).map (·.size) = some 8 := by kernel_rfl
theorem zM8 : (Try.prog.info? 102).bind (·.zero) = some (.agg (cellsM 8 0)) := by kernel_rfl
theorem iM8 (x : Nat) : (Try.prog.info? 102).map (·.size) = some (cellsM 8 x).size := by rw [size_cellsM]; exact iM8'
theorem mul64_nat (x y : Nat) (hx : x < 2 ^ 64) (hy : y < 2 ^ 64) : ∃ hi lo : Nat, hi < 2 ^ 64 ∧ lo < 2 ^ 64 ∧ x * y = lo + 2 ^ 64 * hi ∧
    ∀ w, Calls Try.prog 64 #[.int .u64 (x : Int), .int .u64 (y : Int)] w fun e w' => e = .returned (.tuple #[.int .u64 (hi : Int), .int .u64 (lo : Int)]) ∧ Below w.heap.size w w' :=
  ⟨x * y / 2 ^ 64, x * y % 2 ^ 64, mul_hi x y hx hy, Nat.mod_lt _ (by decide), (Nat.mod_add_div _ _).symm, fun w => mul64_any x y hx hy w⟩
theorem add64_nat0 (x y : Nat) (hx : x < 2 ^ 64) (hy : y < 2 ^ 64) : ∃ u v : Nat, u < 2 ^ 64 ∧ v ≤ 1 ∧ x + y = u + 2 ^ 64 * v ∧
    ∀ w, (callFunc 65 #[.int .u64 (x : Int), .int .u64 (y : Int), .int .u64 0]).run Try.prog w = .ok (.value (.tuple #[.int .u64 (u : Int), .int .u64 (v : Int)])) w := add64_nat x y 0 hx hy (by omega)
theorem mul64_le (x y : Nat) (hx : x < 2 ^ 64) (hy : y < 2 ^ 64) : x * y ≤ 340282366920938463426481119284349108225 := by
  have h := Nat.mul_le_mul (show x ≤ 2 ^ 64 - 1 by omega) (show y ≤ 2 ^ 64 - 1 by omega)
  exact Nat.le_trans h (by decide)
theorem full_step (a b P c i k hi lo u1 v1 u2 v2 : Nat) (hP : P < 2 ^ (64 * (i + 4))) (hk : k < 4) (hc : c < 2 ^ 64) (hu2 : u2 < 2 ^ 64)
    (hm : lmN a i * lmN b k = lo + 2 ^ 64 * hi) (h1 : lo + lmN P (i + k) = u1 + 2 ^ 64 * v1) (h2 : u1 + c = u2 + 2 ^ 64 * v2)
    (hinv : P + 2 ^ (64 * (i + k)) * c = a % 2 ^ (64 * i) * b + 2 ^ (64 * i) * (lmN a i * (b % 2 ^ (64 * k)))) :
    hi + v1 + v2 < 2 ^ 64 ∧ setL P (i + k) u2 < 2 ^ (64 * (i + 4)) ∧
    setL P (i + k) u2 + 2 ^ (64 * (i + (k + 1))) * (hi + v1 + v2) = a % 2 ^ (64 * i) * b + 2 ^ (64 * i) * (lmN a i * (b % 2 ^ (64 * (k + 1)))) := by
  have ga := lmN_lt a i
  have gb := lmN_lt b k
  have gp := lmN_lt P (i + k)
  have hle := mul64_le (lmN a i) (lmN b k) ga gb
  refine ⟨by clear hinv hP; omega, setL_lt _ _ _ _ hP hu2 (by omega), ?_⟩
  have h3 := setL_eq P (i + k) u2
  have e1 : 2 ^ (64 * (i + (k + 1))) = 2 ^ (64 * (i + k)) * 2 ^ 64 := pow64_succ (i + k)
  have e2 : 2 ^ (64 * (i + k)) = 2 ^ (64 * i) * 2 ^ (64 * k) := by rw [Nat.mul_add, Nat.pow_add]
  have e3 : u2 + 2 ^ 64 * (hi + v1 + v2) = lmN a i * lmN b k + lmN P (i + k) + c := by omega
  have e4 : 2 ^ (64 * (i + k)) * u2 + 2 ^ (64 * (i + k)) * 2 ^ 64 * (hi + v1 + v2) = 2 ^ (64 * (i + k)) * (lmN a i * lmN b k) + 2 ^ (64 * (i + k)) * lmN P (i + k) + 2 ^ (64 * (i + k)) * c := by
    rw [Nat.mul_assoc, ← Nat.mul_add, ← Nat.mul_add, ← Nat.mul_add, e3]
  have e5 : 2 ^ (64 * i) * (lmN a i * (b % 2 ^ (64 * (k + 1)))) = 2 ^ (64 * i) * (lmN a i * (b % 2 ^ (64 * k))) + 2 ^ (64 * (i + k)) * (lmN a i * lmN b k) := by
    rw [low_succ, e2, Nat.mul_add, Nat.mul_add, Nat.mul_assoc, Nat.mul_left_comm (lmN a i) (2 ^ (64 * k))]
  rw [e5, e1]
  omega
theorem full_end (a b P c i : Nat) (hb : b < 2 ^ 256) (hP : P < 2 ^ (64 * (i + 4)))
    (hinv : P + 2 ^ (64 * (i + 4)) * c = a % 2 ^ (64 * i) * b + 2 ^ (64 * i) * (lmN a i * (b % 2 ^ (64 * 4)))) :
    setL P (i + 4) c = a % 2 ^ (64 * (i + 1)) * b := by
  rw [setL_top _ _ _ hP, hinv, low_full b hb, low_succ, Nat.add_mul, Nat.mul_assoc]
set_option maxHeartbeats 2000000 in
set_option maxRecDepth 100000 in
theorem wfull_any (a b : Nat) (w : World) (ha : a < 2 ^ 256) (hb : b < 2 ^ 256) : Calls Try.prog 78 #[wd a, wd b] w fun e w' => e = .returned (.agg (cellsM 8 (a * b))) ∧ Below w.heap.size w w' := by
  have HA := hid ha
  have HB := hid hb
  clear ha hb
  unfold wd
  have hA0 := hid (show ArrW 25 (((w.alloc (.cells (cellsW a) 25)).alloc (.cells (cellsW b) 25)).alloc (.cells (cellsM 8 0) 102)) w.heap.size a from ((ArrW.new _ w a).alloc _).alloc _)
  have hB0 := hid (show ArrW 25 (((w.alloc (.cells (cellsW a) 25)).alloc (.cells (cellsW b) 25)).alloc (.cells (cellsM 8 0) 102)) (w.heap.size + 1) b by
    have := ArrW.new 25 (w.alloc (.cells (cellsW a) 25)) b
    rw [World.size_alloc] at this; exact this.alloc _)
  have hC0 := hid (show ArrM 102 8 (((w.alloc (.cells (cellsW a) 25)).alloc (.cells (cellsW b) 25)).alloc (.cells (cellsM 8 0) 102)) (w.heap.size + 1 + 1) 0 by
    have := ArrM.new 102 8 ((w.alloc (.cells (cellsW a) 25)).alloc (.cells (cellsW b) 25)) 0
    rw [World.size_alloc, World.size_alloc] at this; exact this)
  have hb0 : Below w.heap.size w (((w.alloc (.cells (cellsW a) 25)).alloc (.cells (cellsW b) 25)).alloc (.cells (cellsM 8 0) 102)) := (((Below.refl _ _).alloc (Nat.le_refl _) _).alloc (by simp) _).alloc (by simp; omega) _
  go_enter Try.func78, Try.ntmps78
  go_wp2_with (refine wpList_alloc_new rfl 102 rfl (cellsM 8 0) zM8 ?_; simp only [Act.put, pvA, pv0, pv1])
  simp only [World.size_alloc]
  generalize ((w.alloc (.cells (cellsW a) 25)).alloc (.cells (cellsW b) 25)).alloc (.cells (cellsM 8 0) 102) = w1 at hA0 hB0 hC0 hb0 ⊢
  go_loopw [11] (fun iv wr => ∃ i P : Nat, i ≤ 4 ∧ iv = .int .i64 i ∧ Hid (P < 2 ^ (64 * (i + 4)) ∧ P = a % 2 ^ (64 * i) * b) ∧ Hid (ArrW 25 wr w.heap.size a) ∧ Hid (ArrW 25 wr (w.heap.size + 1) b) ∧ Hid (ArrM 102 8 wr (w.heap.size + 1 + 1) P) ∧ Below w.heap.size w wr)
    (fun iv _ => 4 - (intOf iv).toNat)
  case atStart => exact ⟨0, 0, by omega, rfl, hid ⟨by exact Nat.pow_pos (by omega), by simp [Nat.mod_one]⟩, hA0, hB0, hC0, hb0⟩
  case round =>
    clear hA0 hB0 hC0 hb0
    obtain ⟨i, P0, hi, rfl, hX, hA0, hB0, hC0, hb0⟩ := hrel
    by_cases hlt : i < 4
    · go_wp2
      go_loopw [6, 14] (fun cv kv wr => ∃ k c P : Nat, k ≤ 4 ∧ c < 18446744073709551616 ∧ kv = .int .i64 k ∧ cv = .int .u64 c ∧ Hid (P < 2 ^ (64 * (i + 4)) ∧ P + 2 ^ (64 * (i + k)) * c = a % 2 ^ (64 * i) * b + 2 ^ (64 * i) * (lmN a i * (b % 2 ^ (64 * k)))) ∧ Hid (ArrW 25 wr w.heap.size a) ∧ Hid (ArrW 25 wr (w.heap.size + 1) b) ∧ Hid (ArrM 102 8 wr (w.heap.size + 1 + 1) P) ∧ Below w.heap.size w wr)
        (fun _ kv _ => 4 - (intOf kv).toNat)
      case atStart => exact ⟨0, 0, P0, by omega, by omega, rfl, rfl, hid ⟨hX.out.1, by rw [hX.out.2]; simp [Nat.mod_one]⟩, hA0, hB0, hC0, hb0⟩
      case round =>
        clear hA0 hB0 hC0 hb0 hX
        obtain ⟨k, c, P, hk, hc, rfl, rfl, hX, hA, hB, hC, hb⟩ := hrel
        by_cases hklt : k < 4
        · have c1 := hA.out.cell i hlt
          have c2 := hB.out.cell k hklt
          have l1 := hA.out.lt
          have l2 := hB.out.lt
          obtain ⟨mhi, mlo, m1, m2, m3, m4⟩ := mul64_nat (lmN a i) (lmN b k) (lmN_lt _ _) (lmN_lt _ _)
          obtain ⟨u1, v1, p1, p2, p3, p4⟩ := add64_nat0 mlo (lmN P (i + k)) m2 (lmN_lt _ _)
          obtain ⟨u2, v2, r1, r2, r3, r4⟩ := add64_nat0 u1 c p1 hc
          obtain ⟨s1, s2, s3⟩ := full_step a b P c i k mhi mlo u1 v1 u2 v2 hX.out.1 hklt hc r1 m3 p3 r3 hX.out.2
          have M4 := hid m4
          have S2 := hid s2
          have S3 := hid s3
          have lP := lmN_lt P (i + k)
          clear m3 p3 r3 s2 s3 m4
          unfold lm at c1 c2
          go_wp2_with fail
          (refine wp_region_ext (by kernel_rfl) (by kernel_rfl) ?_; (repeat (go_big_quiet_step (first | (go_at_call 64; with_reducible refine Calls.ext_of (M4.out _))))); refine wpQuiet_nil ?_; rintro _ ⟨xw, rfl⟩)
          have hA' := hid (hA.out.ext xw)
          have hB' := hid (hB.out.ext xw)
          have hC' := hid (hC.out.ext xw)
          have hb' := World.ext_below_of hb hb.size xw
          clear hA hB hC hb c1 c2 l1 l2
          generalize wr.ext xw = wr at *
          have c3 := hC'.out.cell (i + k) (by omega)
          have f3 := hC'.out.free (i + k)
          have l3 := hC'.out.lt
          go_wp2
          go_roundw
          case rel =>
            refine ⟨k + 1, mhi + v1 + v2, setL P (i + k) u2, by omega, s1, by go_num, ?_, hid ⟨S2.out, S3.out⟩, hid (hA'.out.other (by show w.heap.size ≠ w.heap.size + 1 + 1; omega) _), hid (hB'.out.other (by show w.heap.size + 1 ≠ w.heap.size + 1 + 1; omega) _), hid (hC'.out.set (i + k) u2 r1), hb'.setCell (p := ⟨w.heap.size + 1 + 1, i + k, none⟩) (by show w.heap.size ≤ w.heap.size + 1 + 1; omega) _⟩
            go_num
          case measure => simp [intOf]; omega
        · obtain rfl : k = 4 := by omega
          have c3 := hC.out.cell (i + 4) (by omega)
          have f3 := hC.out.free (i + 4)
          have l3 := hC.out.lt
          have HE := hid (full_end a b P c i HB.out hX.out.1 hX.out.2)
          have HL := hid (show setL P (i + 4) c < 2 ^ (64 * (i + 1 + 4)) by
            rw [setL_top _ _ _ hX.out.1, show i + 1 + 4 = (i + 4) + 1 by omega]
            exact set_lt P (i + 4) c hX.out.1 hc)
          go_wp2
          go_roundw
          case rel =>
            exact ⟨i + 1, setL P (i + 4) c, by omega, by go_num, hid ⟨HL.out, HE.out⟩, hid (hA.out.other (by show w.heap.size ≠ w.heap.size + 1 + 1; omega) _), hid (hB.out.other (by show w.heap.size + 1 ≠ w.heap.size + 1 + 1; omega) _), hid (hC.out.set (i + 4) c hc), hb.setCell (p := ⟨w.heap.size + 1 + 1, i + 4, none⟩) (by show w.heap.size ≤ w.heap.size + 1 + 1; omega) _⟩
          case measure => simp [intOf]; omega
    · obtain rfl : i = 4 := by omega
      have hP : P0 = a * b := by rw [hX.out.2, low_full a HA.out]
      subst hP
      have iX := hid (iM8 (a * b))
      have nX := hid (one_cellsM 8 (a * b))
      clear hX hA0 hB0 hlt hi
      go_wp2_with (first | (refine wpList_load_row rfl 102 (.tmp 4) rfl (w.heap.size + 1 + 1) rfl 102 _ (0, 0) _ hC0.out uM8 rfl iX.out ?_; simp only [Act.put, pvA, pv0, pv1]) | (refine wpList_store_row rfl 102 (.tmp 4) (.tmp 60) rfl (w.heap.size + 1 + 1) _ rfl rfl 102 _ hC0.out iX.out rfl nX.out ?_; simp only [Act.put]))
      refine bodyPost_ret (results_cell_row rfl _ _ (w.heap.size + 1 + 1) 102 (cellsM 8 (a * b)) (0, 0) _ rfl (heap_setRow' _ _ _ _ _ hC0.out) uM8 rfl iX.out) rfl ⟨rfl, below_setRow' hb0 _ (by omega) _⟩
end Go.Proofs.Ytejnnghfelpioaa
namespace Go.Proofs.Ytejnnghfelpioaa
open Go.RowKit
theorem heap_new_at (w : World) (o : Obj) (n : Nat) (h : n = w.heap.size) : (w.alloc o).heap[n]? = some o := by
  subst h
  show (w.heap.push _)[w.heap.size]? = _
  simp
def notW (x : Nat) : Nat := 2 ^ 256 - 1 - x
theorem lmN_not (x i : Nat) (h : x < 2 ^ 256) (hi : i < 4) : lmN (notW x) i = 18446744073709551615 - lmN x i := by
  have h1 : notW x = mk4 (18446744073709551615 - lmN x 0) (18446744073709551615 - lmN x 1) (18446744073709551615 - lmN x 2) (18446744073709551615 - lmN x 3) := by
    have h2 := limbs_sum x h
    have l0 := lmN_lt x 0
    have l1 := lmN_lt x 1
    have l2 := lmN_lt x 2
    have l3 := lmN_lt x 3
    unfold notW mk4
    rw [show (2 : Nat) ^ 256 = 115792089237316195423570985008687907853269984665640564039457584007913129639936 from by decide]
    omega
  have h4 := lmN_mk4 (18446744073709551615 - lmN x 0) (18446744073709551615 - lmN x 1) (18446744073709551615 - lmN x 2) (18446744073709551615 - lmN x 3) (by omega) (by omega) (by omega) (by omega)
  rw [h1]
  have hc : i = 0 ∨ i = 1 ∨ i = 2 ∨ i = 3 := by omega
  rcases hc with rfl | rfl | rfl | rfl
  · exact h4.1
  · exact h4.2.1
  · exact h4.2.2.1
  · exact h4.2.2.2
theorem lm_not (x i : Nat) (h : x < 2 ^ 256) (hi : i < 4) : bits .xor .u64 IntKind.u64.max (lm x i) = lm (notW x) i := by
  have := lmN_lt x i
  unfold lm
  rw [lmN_not x i h hi, show IntKind.u64.max = ((2 ^ 64 - 1 : Nat) : Int) from rfl, u64_xor_nat _ _ (by decide) (lmN_lt x i)]
  congr 1
  rw [Nat.xor_comm]
  apply Nat.eq_of_testBit_eq
  intro j
  have e := Nat.testBit_two_pow_sub_succ (show lmN x i < 2 ^ 64 from lmN_lt x i) j
  rw [show 18446744073709551615 - lmN x i = 2 ^ 64 - (lmN x i + 1) by omega, e, Nat.testBit_xor, Nat.testBit_two_pow_sub_one]
  rcases Nat.lt_or_ge j 64 with hj | hj
  · simp [hj]
  · rw [Nat.testBit_lt_two_pow (Nat.lt_of_lt_of_le (lmN_lt x i) (show 2 ^ 64 ≤ 2 ^ j from Nat.pow_le_pow_right (by decide) hj))]
    simp [Nat.not_lt.2 hj]
set_option maxHeartbeats 1000000 in
theorem wnot_any (a : Nat) (w : World) (h : a < 2 ^ 256) : Calls Try.prog 77 #[wd a] w fun e w' => e = .returned (wd (notW a)) ∧ Below w.heap.size w w' := by
  have e0 := lm_not a 0 h (by omega)
  have e1 := lm_not a 1 h (by omega)
  have e2 := lm_not a 2 h (by omega)
  have e3 := lm_not a 3 h (by omega)
  clear h
  unfold wd cellsW
  go_enter Try.func77, Try.ntmps77
  go_wp2
  refine bodyPost_ret (results_cell_row rfl _ _ (w.heap.size + 1) 25 (cellsW (notW a)) (0, 0) _ rfl (heap_new_at _ _ _ (by simp only [World.size_alloc])) uWd rfl iWd) rfl ⟨rfl, (by repeat (first | (with_reducible first | exact Below.refl _ _ | assumption | refine World.ext_below_of ?_ ?_ _ | refine Below.setCell ?_ ?_ _ | refine Below.alloc ?_ ?_ _ | refine Below.drew ?_ | refine World.size_le_ext _ _ _ ?_) | (solve | simp [go_sem] | (simp [go_sem]; omega) | omega)))⟩
theorem div_succ (x i : Nat) : x / 2 ^ (64 * i) = x / 2 ^ (64 * (i + 1)) * 2 ^ 64 + lmN x i := by
  rw [pow64_succ, ← Nat.div_div_eq_div_mul]
  unfold lmN
  generalize x / 2 ^ (64 * i) = y
  omega
theorem cmp_hi (a b i : Nat) (h : a / 2 ^ (64 * (i + 1)) = b / 2 ^ (64 * (i + 1))) (hl : lmN a i < lmN b i) : a < b := by
  have h1 := div_succ a i
  have h2 := div_succ b i
  have : a / 2 ^ (64 * i) < b / 2 ^ (64 * i) := by omega
  exact Nat.lt_of_not_le fun hle => by have := Nat.div_le_div_right (c := 2 ^ (64 * i)) hle; omega
set_option maxHeartbeats 1000000 in
theorem wcmp_any (a b : Nat) (w : World) (ha : a < 2 ^ 256) (hb : b < 2 ^ 256) : Calls Try.prog 60 #[wd a, wd b] w fun e w' => e = .returned (.int .i64 (cmpI a b)) ∧ Below w.heap.size w w' := by
  have HD := hid (show a / 2 ^ (64 * 4) = b / 2 ^ (64 * 4) by rw [Nat.div_eq_of_lt ha, Nat.div_eq_of_lt hb])
  clear ha hb
  unfold wd
  have hA0 := hid (show ArrW 25 ((w.alloc (.cells (cellsW a) 25)).alloc (.cells (cellsW b) 25)) w.heap.size a from (ArrW.new _ w a).alloc _)
  have hB0 := hid (show ArrW 25 ((w.alloc (.cells (cellsW a) 25)).alloc (.cells (cellsW b) 25)) (w.heap.size + 1) b by
    have := ArrW.new 25 (w.alloc (.cells (cellsW a) 25)) b
    rw [World.size_alloc] at this; exact this)
  have hb0 : Below w.heap.size w ((w.alloc (.cells (cellsW a) 25)).alloc (.cells (cellsW b) 25)) := ((Below.refl _ _).alloc (Nat.le_refl _) _).alloc (by simp) _
  go_enter Try.func60, Try.ntmps60
  go_wp2_with fail
  generalize (w.alloc (.cells (cellsW a) 25)).alloc (.cells (cellsW b) 25) = w1 at hA0 hB0 hb0 ⊢
  go_loopw [5] (fun iv wr => ∃ i : Nat, i ≤ 4 ∧ iv = .int .i64 ((i : Int) - 1) ∧ Hid (a / 2 ^ (64 * i) = b / 2 ^ (64 * i)) ∧ Hid (ArrW 25 wr w.heap.size a) ∧ Hid (ArrW 25 wr (w.heap.size + 1) b) ∧ Below w.heap.size w wr)
    (fun iv _ => (intOf iv + 1).toNat)
  case atStart => exact ⟨4, by omega, rfl, HD, hA0, hB0, hb0⟩
  case round =>
    clear hA0 hB0 hb0
    obtain ⟨i, hi, rfl, hX, hA, hB, hb⟩ := hrel
    by_cases h0 : i = 0
    · subst h0
      have he : a = b := by simpa using hX.out
      have HE := hid (show cmpI a b = 0 from cmpI_eq he)
      clear he hX
      go_wp2
      go_ret
      exact ⟨by rw [HE.out]; rfl, hb⟩
    · obtain ⟨k, rfl⟩ : ∃ k, i = k + 1 := ⟨i - 1, by omega⟩
      have c1 := hA.out.cell k (by omega)
      have c2 := hB.out.cell k (by omega)
      have l1 := hA.out.lt
      have l2 := hB.out.lt
      have e1 : (((k + 1 : Nat) : Int) - 1) = (k : Int) := by omega
      rw [e1]
      clear e1 h0
      have hdec : (lm a k < lm b k ∧ Hid (cmpI a b = -1)) ∨ (lm b k < lm a k ∧ Hid (cmpI a b = 1)) ∨ (lm a k = lm b k ∧ Hid (a / 2 ^ (64 * k) = b / 2 ^ (64 * k))) := by
        unfold lm
        rcases Nat.lt_trichotomy (lmN a k) (lmN b k) with h | h | h
        · exact Or.inl ⟨by omega, hid (cmpI_lt (cmp_hi a b k hX.out h))⟩
        · exact Or.inr (Or.inr ⟨by omega, hid (by rw [div_succ a k, div_succ b k, hX.out, h])⟩)
        · exact Or.inr (Or.inl ⟨by omega, hid (cmpI_gt (cmp_hi b a k hX.out.symm h))⟩)
      clear hX
      rcases hdec with ⟨h, hc⟩ | ⟨h, hc⟩ | ⟨h, hc⟩
      · have h1 : ¬ lm b k ≤ lm a k := by omega
        go_wp2_with fail
        (refine wp_region_ext (by kernel_rfl) (by kernel_rfl) ?_; (repeat (go_big_quiet_step (first | fail))); refine wpQuiet_nil ?_; rintro _ ⟨xw, rfl⟩)
        go_wp2
        go_ret
        exact ⟨by rw [hc.out]; rfl, World.ext_below_of hb hb.size xw⟩
      · have h1 : ¬ lm a k < lm b k := by omega
        have h2 : ¬ lm a k ≤ lm b k := by omega
        go_wp2_with fail
        (refine wp_region_ext (by kernel_rfl) (by kernel_rfl) ?_; (repeat (go_big_quiet_step (first | fail))); refine wpQuiet_nil ?_; rintro _ ⟨xw, rfl⟩)
        go_wp2_with (refine wp_region_ext (by kernel_rfl) (by kernel_rfl) ?_; (repeat (go_big_quiet_step (first | fail))); refine wpQuiet_nil ?_; rintro _ ⟨xw, rfl⟩)
        go_ret
        exact ⟨by rw [hc.out]; rfl, (by repeat (first | (with_reducible first | exact Below.refl _ _ | assumption | refine World.ext_below_of ?_ ?_ _ | refine Below.setCell ?_ ?_ _ | refine Below.alloc ?_ ?_ _ | refine Below.drew ?_ | refine World.size_le_ext _ _ _ ?_) | (solve | simp [go_sem] | (simp [go_sem]; omega) | omega)))⟩
      · have h1 : ¬ lm a k < lm b k := by omega
        have h2 : ¬ lm b k < lm a k := by omega
        go_wp2_with (refine wp_region_ext (by kernel_rfl) (by kernel_rfl) ?_; (repeat (go_big_quiet_step (first | fail))); refine wpQuiet_nil ?_; rintro _ ⟨xw, rfl⟩)
        go_roundw
        case rel => exact ⟨k, by omega, rfl, hc, hid ((hA.out.ext _).ext _), hid ((hB.out.ext _).ext _), (by repeat (first | (with_reducible first | exact Below.refl _ _ | assumption | refine World.ext_below_of ?_ ?_ _ | refine Below.setCell ?_ ?_ _ | refine Below.alloc ?_ ?_ _ | refine Below.drew ?_ | refine World.size_le_ext _ _ _ ?_) | (solve | simp [go_sem] | (simp [go_sem]; omega) | omega)))⟩
        case measure => simp [intOf]
end Go.Proofs.Ytejnnghfelpioaa
namespace Go.Proofs.Ytejnnghfelpioaa
open Go.RowKit
theorem shift_split (y r : Nat) (hr : r ≤ 64) : y / 2 ^ r % 2 ^ 64 = y % 2 ^ 64 / 2 ^ r + 2 ^ (64 - r) * (y / 2 ^ 64 % 2 ^ 64 % 2 ^ r) := by
  have e : (2 : Nat) ^ 64 = 2 ^ (64 - r) * 2 ^ r := by rw [← Nat.pow_add]; congr 1; omega
  have e1 : y / 2 ^ r % 2 ^ 64 = y / 2 ^ r % 2 ^ (64 - r) + 2 ^ (64 - r) * (y / 2 ^ r / 2 ^ (64 - r) % 2 ^ r) := by rw [e, Nat.mod_mul]
  have e2 : y % 2 ^ 64 / 2 ^ r = y / 2 ^ r % 2 ^ (64 - r) := by rw [e, Nat.mul_comm, Nat.mod_mul_right_div_self]
  have e3 : y / 2 ^ r / 2 ^ (64 - r) = y / 2 ^ 64 := by rw [Nat.div_div_eq_div_mul, ← Nat.pow_add]; congr 2; omega
  have e4 : y / 2 ^ 64 % 2 ^ 64 % 2 ^ r = y / 2 ^ 64 % 2 ^ r := Nat.mod_mod_of_dvd _ ⟨2 ^ (64 - r), by rw [← Nat.pow_add]; congr 1; omega⟩
  rw [e1, e2, e3, e4]
theorem shl_mod (z r : Nat) (hr : r ≤ 64) : z * 2 ^ (64 - r) % 2 ^ 64 = 2 ^ (64 - r) * (z % 2 ^ r) := by
  have e : (2 : Nat) ^ 64 = 2 ^ (64 - r) * 2 ^ r := by rw [← Nat.pow_add]; congr 1; omega
  rw [e, Nat.mul_comm z, Nat.mul_mod_mul_left]
theorem lmN_shr (W k i : Nat) (hr : 0 < k % 64) : lmN (W / 2 ^ k) i = lmN W (i + k / 64) / 2 ^ (k % 64) ||| lmN W (i + k / 64 + 1) * 2 ^ (64 - k % 64) % 2 ^ 64 := by
  have e0 : W / 2 ^ k / 2 ^ (64 * i) = W / 2 ^ (64 * (i + k / 64)) / 2 ^ (k % 64) := by
    rw [Nat.div_div_eq_div_mul, Nat.div_div_eq_div_mul, ← Nat.pow_add, ← Nat.pow_add]; congr 2; omega
  have e1 : lmN W (i + k / 64 + 1) = W / 2 ^ (64 * (i + k / 64)) / 2 ^ 64 % 2 ^ 64 := by
    unfold lmN; rw [pow64_succ, Nat.div_div_eq_div_mul]
  have hlt : W / 2 ^ (64 * (i + k / 64)) % 2 ^ 64 / 2 ^ (k % 64) < 2 ^ (64 - k % 64) := by
    rw [Nat.div_lt_iff_lt_mul (Nat.pow_pos (by omega)), ← Nat.pow_add, show 64 - k % 64 + k % 64 = 64 by omega]
    exact Nat.mod_lt _ (by decide)
  unfold lmN at *
  rw [e0, shift_split _ _ (by omega), e1, shl_mod _ _ (by omega), Nat.mul_comm (2 ^ (64 - k % 64)), or_add _ _ _ hlt]
theorem lmN_shr0 (W k i : Nat) (hr : k % 64 = 0) : lmN (W / 2 ^ k) i = lmN W (i + k / 64) := by
  unfold lmN
  rw [Nat.div_div_eq_div_mul, ← Nat.pow_add]; congr 3; omega
theorem setL_twice (X i v u : Nat) (hX : X < 2 ^ (64 * i)) (hv : v < 2 ^ 64) : setL (setL X i v) i u = X + 2 ^ (64 * i) * u := by
  have h1 := setL_eq (setL X i v) i u
  rw [lmN_setL _ _ _ _ hv, if_pos rfl, setL_top X i v hX] at h1
  rw [setL_top X i v hX]; omega
theorem low_lt (x i : Nat) : x % 2 ^ (64 * i) < 2 ^ (64 * i) := Nat.mod_lt _ (Nat.pow_pos (by omega))
theorem ArrW.toM {t : TypeId} {w : World} {b x : Nat} (h : ArrW t w b x) : ArrM t 4 w b x := h
set_option maxHeartbeats 2000000 in
theorem down_any (k x f W : Nat) (w : World) (hk : k ≤ 256) (hf : f < 2 ^ 64) (hW : cellsM 9 W = #[.int .u64 (lm x 0), .int .u64 (lm x 1), .int .u64 (lm x 2), .int .u64 (lm x 3), .int .u64 (f : Int), .int .u64 (f : Int), .int .u64 (f : Int), .int .u64 (f : Int), .int .u64 (f : Int)]) :
    Calls Try.prog 85 #[.int .i64 (k : Int), wd x, .int .u64 (f : Int)] w fun e w' => e = .returned (wd (W / 2 ^ k % 2 ^ 256)) ∧ Below w.heap.size w w' := by
  have HW := hid hW
  clear hW
  rw [show W / 2 ^ k % 2 ^ 256 = W / 2 ^ k % 2 ^ (64 * 4) from rfl]
  unfold wd
  have hA0 := hid (show ArrW 25 (((w.alloc (.cells (cellsW x) 25)).alloc (.cells (cellsW 0) 25)).alloc (.cells (cellsM 9 W) 130)) (w.heap.size + 1) 0 by
    have := ArrW.new 25 (w.alloc (.cells (cellsW x) 25)) 0
    rw [World.size_alloc] at this; exact this.alloc _)
  have hC0 := hid (show ArrM 130 9 (((w.alloc (.cells (cellsW x) 25)).alloc (.cells (cellsW 0) 25)).alloc (.cells (cellsM 9 W) 130)) (w.heap.size + 2) W by
    have := ArrM.new 130 9 ((w.alloc (.cells (cellsW x) 25)).alloc (.cells (cellsW 0) 25)) W
    rw [World.size_alloc, World.size_alloc] at this; exact this)
  have hb0 : Below w.heap.size w (((w.alloc (.cells (cellsW x) 25)).alloc (.cells (cellsW 0) 25)).alloc (.cells (cellsM 9 W) 130)) := (((Below.refl _ _).alloc (Nat.le_refl _) _).alloc (by simp) _).alloc (by simp; omega) _
  have q0 := cellsW_at x 0 (by omega)
  have q1 := cellsW_at x 1 (by omega)
  have q2 := cellsW_at x 2 (by omega)
  have q3 := cellsW_at x 3 (by omega)
  go_enter Try.func85, Try.ntmps85
  go_wp2_with (refine wpList_alloc_new rfl 25 rfl (cellsW 0) zWd ?_; simp only [Act.put, pvA, pv0, pv1])
  rw [← HW.out]
  simp only [World.size_alloc]
  generalize ((w.alloc (.cells (cellsW x) 25)).alloc (.cells (cellsW 0) 25)).alloc (.cells (cellsM 9 W) 130) = w1 at hA0 hC0 hb0 ⊢
  clear q0 q1 q2 q3 HW hf
  go_loopw [23] (fun iv wr => ∃ i : Nat, i ≤ 4 ∧ iv = .int .i64 i ∧ Hid (ArrM 25 4 wr (w.heap.size + 1) (W / 2 ^ k % 2 ^ (64 * i))) ∧ Hid (ArrM 130 9 wr (w.heap.size + 2) W) ∧ Below w.heap.size w wr)
    (fun iv _ => 4 - (intOf iv).toNat)
  case atStart => exact ⟨0, by omega, rfl, hid (by have := hA0.out.toM; rw [Nat.mul_zero, Nat.pow_zero, Nat.mod_one]; exact this), hC0, hb0⟩
  case round =>
    clear hA0 hC0 hb0
    obtain ⟨i, hi, rfl, hA, hC, hb⟩ := hrel
    by_cases hlt : i < 4
    · have c1 := hC.out.cell (i + k / 64) (by omega)
      have c2 := hA.out.cell i hlt
      have f1 := hA.out.free i
      have l1 := hA.out.lt
      have l2 := hC.out.lt
      have g0 := lmN_lt W (i + k / 64)
      have hX := low_lt (W / 2 ^ k) i
      have HS := hid (low_succ (W / 2 ^ k) i)
      by_cases hr : k % 64 = 0
      · have HO := hid (setL_top (W / 2 ^ k % 2 ^ (64 * i)) i (lmN W (i + k / 64)) hX)
        have H0 := hid (lmN_shr0 W k i hr)
        clear hX
        go_wp2
        go_roundw
        case rel =>
          refine ⟨i + 1, by omega, by go_num, hid ?_, hid (hC.out.other (by show w.heap.size + 2 ≠ w.heap.size + 1; omega) _), hb.setCell (p := ⟨w.heap.size + 1, i, none⟩) (by show w.heap.size ≤ w.heap.size + 1; omega) _⟩
          rw [HS.out, H0.out, ← HO.out]
          exact hA.out.set i _ g0
        case measure => simp [intOf]; omega
      · have c3 := hC.out.cell (i + k / 64 + 1) (by omega)
        have g3 := lmN_lt W (i + k / 64 + 1)
        have H0 := hid (lmN_shr W k i (by omega))
        have EN := hid (show ((lmN W (i + k / 64) / 2 ^ (k % 64) : Nat) : Int) = ((lmN W (i + k / 64) : Nat) : Int) / 2 ^ (k % 64) by rw [Int.natCast_ediv, Int.natCast_pow]; rfl)
        have hv1 : lmN W (i + k / 64) / 2 ^ (k % 64) < 2 ^ 64 := Nat.lt_of_le_of_lt (Nat.div_le_self _ _) g0
        obtain ⟨v1, hq⟩ : ∃ v1, v1 = lmN W (i + k / 64) / 2 ^ (k % 64) := ⟨_, rfl⟩
        rw [← hq] at EN hv1 H0
        have hV : bits .or .u64 (v1 : Int) (IntKind.u64.wrap (((lmN W (i + k / 64 + 1) : Nat) : Int) * 2 ^ (64 - k % 64))) = ((lmN (W / 2 ^ k) i : Nat) : Int) := by
          rw [H0.out, show ((lmN W (i + k / 64 + 1) : Nat) : Int) * 2 ^ (64 - k % 64) = ((lmN W (i + k / 64 + 1) * 2 ^ (64 - k % 64) : Nat) : Int) by rw [Int.natCast_mul, Int.natCast_pow]; rfl]
          rw [show IntKind.u64.wrap ((lmN W (i + k / 64 + 1) * 2 ^ (64 - k % 64) : Nat) : Int) = ((lmN W (i + k / 64 + 1) * 2 ^ (64 - k % 64) % 2 ^ 64 : Nat) : Int) by rw [IntKind.wrap_u64]; omega]
          exact u64_or_nat _ _ hv1 (Nat.mod_lt _ (by decide))
        have HV := hid hV
        have HT := hid (setL_twice (W / 2 ^ k % 2 ^ (64 * i)) i _ (lmN (W / 2 ^ k) i) hX hv1)
        have hA1 := hid (hA.out.set i _ hv1)
        have hC1 := hid (hC.out.other (a := ⟨w.heap.size + 1, i, none⟩) (by show w.heap.size + 2 ≠ w.heap.size + 1; omega) (.int .u64 (v1 : Int)))
        have hb1 := hb.setCell (p := ⟨w.heap.size + 1, i, none⟩) (by show w.heap.size ≤ w.heap.size + 1; omega) (.int .u64 (v1 : Int))
        have h64 : (64 - (k : Int) % 64).toNat = 64 - k % 64 := by omega
        clear hX hV hq H0
        go_wp2_with fail
        rw [← EN.out]
        clear c1 c2 c3 f1 l1 l2 hA hC hb
        generalize wr.setCell ⟨w.heap.size + 1, i, none⟩ (.int .u64 (v1 : Int)) = wr at hA1 hC1 hb1 ⊢
        have c2 := hA1.out.cell i hlt
        rw [lmN_setL _ _ _ _ hv1, if_pos rfl] at c2
        have c3 := hC1.out.cell (i + k / 64 + 1) (by omega)
        have f1 := hA1.out.free i
        have l1 := hA1.out.lt
        have l2 := hC1.out.lt
        (refine wp_region_ext_tail 16 (by kernel_rfl) (by kernel_rfl) ?_; simp only [List.take_succ_cons, List.take_zero, List.drop_succ_cons, List.drop_zero]; (repeat (go_big_quiet_step (first | fail))); refine wpQuiet_nil ?_; rintro _ ⟨xw, rfl⟩)
        go_wp2
        go_roundw
        case rel =>
          rw [HV.out]
          refine ⟨i + 1, by omega, by go_num, hid ?_, hid ((hC1.out.ext xw).other (by show w.heap.size + 2 ≠ w.heap.size + 1; omega) _), (World.ext_below_of hb1 hb1.size xw).setCell (p := ⟨w.heap.size + 1, i, none⟩) (by show w.heap.size ≤ w.heap.size + 1; omega) _⟩
          rw [HS.out, ← HT.out]
          exact (hA1.out.ext xw).set _ _ (lmN_lt _ _)
        case measure => simp [intOf]; omega
    · obtain rfl : i = 4 := by omega
      obtain ⟨y, hy⟩ : ∃ y, y = W / 2 ^ k % 2 ^ (64 * 4) := ⟨_, rfl⟩
      rw [← hy] at hA
      have HY := hid hy
      have hA' := hid hA.out.toW
      have iY := hid (iW y)
      have nY := hid (one_cellsW y)
      clear hy hA hC hlt hi
      go_wp2_with (first | (refine wpList_load_row rfl 25 (.tmp 6) rfl (w.heap.size + 1) rfl 25 _ (0, 0) _ hA'.out uWd rfl iY.out ?_; simp only [Act.put, pvA, pv0, pv1]) | (refine wpList_store_row rfl 25 (.tmp 6) (.tmp 57) rfl (w.heap.size + 1) _ rfl rfl 25 _ hA'.out iY.out rfl nY.out ?_; simp only [Act.put]))
      refine bodyPost_ret (results_cell_row rfl _ _ (w.heap.size + 1) 25 (cellsW y) (0, 0) _ rfl (heap_setRow' _ _ _ _ _ hA'.out) uWd rfl iY.out) rfl ⟨by rw [HY.out], below_setRow' hb _ (by omega) _⟩
theorem lmN_hi (x i : Nat) (h : x < 2 ^ (64 * i)) : lmN x i = 0 := by unfold lmN; rw [Nat.div_eq_of_lt h]
theorem wide0 (x : Nat) (h : x < 2 ^ 256) : cellsM 9 x = #[.int .u64 (lm x 0), .int .u64 (lm x 1), .int .u64 (lm x 2), .int .u64 (lm x 3), .int .u64 ((0 : Nat) : Int), .int .u64 ((0 : Nat) : Int), .int .u64 ((0 : Nat) : Int), .int .u64 ((0 : Nat) : Int), .int .u64 ((0 : Nat) : Int)] := by
  have e : ∀ i, 4 ≤ i → lmN x i = 0 := fun i hi => lmN_hi x i (Nat.lt_of_lt_of_le h (Nat.pow_le_pow_right (by omega) (by omega)))
  show (#[.int .u64 (lm x 0), .int .u64 (lm x 1), .int .u64 (lm x 2), .int .u64 (lm x 3), .int .u64 ((lmN x 4 : Nat) : Int), .int .u64 ((lmN x 5 : Nat) : Int), .int .u64 ((lmN x 6 : Nat) : Int), .int .u64 ((lmN x 7 : Nat) : Int), .int .u64 ((lmN x 8 : Nat) : Int)] : Array Value) = _
  rw [e 4 (by omega), e 5 (by omega), e 6 (by omega), e 7 (by omega), e 8 (by omega)]
theorem lmN_shl (x k i : Nat) : (i < k / 64 → lmN (x * 2 ^ k) i = 0) ∧ (i = k / 64 → lmN (x * 2 ^ k) i = lmN x 0 * 2 ^ (k % 64) % 2 ^ 64) ∧
    (k / 64 < i → lmN (x * 2 ^ k) i = if k % 64 = 0 then lmN x (i - k / 64) else lmN x (i - k / 64) * 2 ^ (k % 64) % 2 ^ 64 ||| lmN x (i - k / 64 - 1) / 2 ^ (64 - k % 64)) := by
  refine ⟨fun h => ?_, fun h => ?_, fun h => ?_⟩
  · unfold lmN
    rw [show x * 2 ^ k = 2 ^ (64 * i) * (2 ^ 64 * (x * 2 ^ (k - 64 * i - 64))) by
      rw [← Nat.mul_assoc, ← Nat.pow_add, Nat.mul_left_comm, ← Nat.pow_add]; congr 2; omega]
    rw [Nat.mul_div_cancel_left _ (Nat.pow_pos (by omega)), Nat.mul_mod_right]
  · unfold lmN
    rw [show x * 2 ^ k = 2 ^ (64 * i) * (x * 2 ^ (k % 64)) by rw [Nat.mul_left_comm, ← Nat.pow_add]; congr 2; omega]
    rw [Nat.mul_div_cancel_left _ (Nat.pow_pos (by omega)), Nat.mul_zero, Nat.pow_zero, Nat.div_one]
    conv => lhs; rw [Nat.mul_mod]
    conv => rhs; rw [Nat.mul_mod, Nat.mod_mod]
  · split
    · unfold lmN
      rw [show x * 2 ^ k = x * 2 ^ (64 * (k / 64)) by congr 2; omega, show 64 * i = 64 * (k / 64) + 64 * (i - k / 64) by omega, Nat.pow_add, ← Nat.div_div_eq_div_mul, Nat.mul_div_cancel _ (Nat.pow_pos (by omega))]
    · rename_i hr
      have e : x * 2 ^ k = x * 2 ^ (64 * (k / 64)) * 2 ^ (k % 64) := by rw [Nat.mul_assoc, ← Nat.pow_add]; congr 2; omega
      have e1 : x * 2 ^ k / 2 ^ (64 * i) = x / 2 ^ (64 * (i - k / 64 - 1)) / 2 ^ (64 - k % 64) := by
        rw [show x * 2 ^ k = 2 ^ k * x from Nat.mul_comm _ _, show 64 * i = k + (64 * (i - k / 64 - 1) + (64 - k % 64)) by omega, Nat.pow_add, ← Nat.div_div_eq_div_mul, Nat.mul_div_cancel_left _ (Nat.pow_pos (by omega)), Nat.pow_add, Nat.div_div_eq_div_mul]
      have e2 : x / 2 ^ (64 * (i - k / 64 - 1)) / 2 ^ 64 = x / 2 ^ (64 * (i - k / 64)) := by
        rw [Nat.div_div_eq_div_mul, ← Nat.pow_add]; congr 2; omega
      have hlt : x / 2 ^ (64 * (i - k / 64 - 1)) % 2 ^ 64 / 2 ^ (64 - k % 64) < 2 ^ (k % 64) := by
        rw [Nat.div_lt_iff_lt_mul (Nat.pow_pos (by omega)), ← Nat.pow_add, show k % 64 + (64 - k % 64) = 64 by omega]
        exact Nat.mod_lt _ (by decide)
      have e3 := shl_mod (x / 2 ^ (64 * (i - k / 64)) % 2 ^ 64) (64 - k % 64) (by omega)
      rw [show 64 - (64 - k % 64) = k % 64 by omega] at e3
      unfold lmN
      rw [e1, shift_split _ _ (by omega), e2, show 64 - (64 - k % 64) = k % 64 by omega, Nat.or_comm, ← e3]
      rw [e3, Nat.mul_comm (2 ^ (k % 64)), or_add _ _ _ hlt]
def ShlI (k x N : Nat) (w wr : World) (i : Nat) : Prop := ArrM 25 4 wr (N + 2) (x * 2 ^ k % 2 ^ (64 * i)) ∧ ArrW 25 wr (N + 1) x ∧ Below N w wr
theorem ShlI.skip {k x N i : Nat} {w wr : World} (h : ShlI k x N w wr i) (hz : lmN (x * 2 ^ k) i = 0) : ShlI k x N w wr (i + 1) := by
  refine ⟨?_, h.2⟩
  rw [low_succ, hz, Nat.mul_zero, Nat.add_zero]; exact h.1
theorem ShlI.set {k x N i v : Nat} {w wr : World} (h : ShlI k x N w wr i) (hz : lmN (x * 2 ^ k) i = v) : ShlI k x N w (wr.setCell ⟨N + 2, i, none⟩ (.int .u64 (v : Int))) (i + 1) := by
  refine ⟨?_, h.2.1.other (by show N + 1 ≠ N + 2; omega) _, h.2.2.setCell (p := ⟨N + 2, i, none⟩) (by show N ≤ N + 2; omega) _⟩
  rw [low_succ, ← setL_top _ _ _ (low_lt _ _), hz]
  exact h.1.set i v (by rw [← hz]; exact lmN_lt _ _)
theorem ShlI.ext {k x N i : Nat} {w wr : World} (h : ShlI k x N w wr i) (hN : N ≤ w.heap.size) (y : World) : ShlI k x N w (wr.ext y) i :=
  ⟨h.1.ext y, h.2.1.ext y, World.ext_below_of h.2.2 (Nat.le_trans hN h.2.2.size) y⟩
end Go.Proofs.Ytejnnghfelpioaa
namespace Go.Proofs.Ytejnnghfelpioaa
open Go.RowKit
theorem upT_le (n m : Nat) : upT n m ≤ m := by unfold upT; split <;> omega
set_option maxHeartbeats 1000000 in
theorem wshr_any (n x : Nat) (w : World) (hn : n < 2 ^ 256) (hx : x < 2 ^ 256) : Calls Try.prog 68 #[wd n, wd x] w fun e w' => e = .returned (wd (x / 2 ^ upT n 256)) ∧ Below w.heap.size w w' := by
  have hU := hid (fun w => upto_any n 256 hn (by omega) w)
  have hk := upT_le n 256
  obtain ⟨k, hk2⟩ : ∃ k, k = upT n 256 := ⟨_, rfl⟩
  rw [← hk2] at hU hk ⊢
  have hD := hid (fun w => down_any k x 0 x w hk (by omega) (wide0 x hx))
  have hlt : x / 2 ^ k < 2 ^ 256 := Nat.lt_of_le_of_lt (Nat.div_le_self _ _) hx
  rw [Nat.mod_eq_of_lt hlt] at hD
  clear hn hk2 hx hlt hk
  obtain ⟨y, hy⟩ : ∃ y, y = x / 2 ^ k := ⟨_, rfl⟩
  rw [← hy] at hD ⊢
  clear hy
  unfold wd at *
  have iN := hid (iW n)
  have iX := hid (iW x)
  have iY := hid (iW y)
  have nY := hid (one_cellsW y)
  have hA0 := hid (show ArrW 25 (((w.alloc (.cells (cellsW n) 25)).alloc (.cells (cellsW x) 25)).alloc (.cells (cellsW 0) 25)) w.heap.size n from ((ArrW.new _ w n).alloc _).alloc _)
  have hB0 := hid (show ArrW 25 (((w.alloc (.cells (cellsW n) 25)).alloc (.cells (cellsW x) 25)).alloc (.cells (cellsW 0) 25)) (w.heap.size + 1) x by
    have := ArrW.new 25 (w.alloc (.cells (cellsW n) 25)) x
    rw [World.size_alloc] at this; exact this.alloc _)
  have hC0 := hid (show ArrW 25 (((w.alloc (.cells (cellsW n) 25)).alloc (.cells (cellsW x) 25)).alloc (.cells (cellsW 0) 25)) (w.heap.size + 2) 0 by
    have := ArrW.new 25 ((w.alloc (.cells (cellsW n) 25)).alloc (.cells (cellsW x) 25)) 0
    rw [World.size_alloc, World.size_alloc] at this; exact this)
  have hb0 : Below w.heap.size w (((w.alloc (.cells (cellsW n) 25)).alloc (.cells (cellsW x) 25)).alloc (.cells (cellsW 0) 25)) := (((Below.refl _ _).alloc (Nat.le_refl _) _).alloc (by simp) _).alloc (by simp; omega) _
  go_enter Try.func68, Try.ntmps68
  go_wp2_with (refine wpList_alloc_new rfl 25 rfl (cellsW 0) zWd ?_; simp only [Act.put, pvA, pv0, pv1])
  ((try simp only [World.size_alloc]); refine wp_region_ext_tail 4 (by kernel_rfl) (by kernel_rfl) ?_; simp only [List.take_succ_cons, List.take_zero, List.drop_succ_cons, List.drop_zero]; (repeat (first | (refine wpQuiet_load_part rfl 25 (.tmp 2) rfl w.heap.size 0 rfl 25 _ (cellsW _) (0, 0) _ hA0.out (fun j v h => by rw [Nat.zero_add]; exact h) uWd rfl iN.out ?_; simp only [Act.put, pvA, pv0, pv1]) | (refine wpQuiet_load_part rfl 25 (.tmp 3) rfl (w.heap.size + 1) 0 rfl 25 _ (cellsW _) (0, 0) _ hB0.out (fun j v h => by rw [Nat.zero_add]; exact h) uWd rfl iX.out ?_; simp only [Act.put, pvA, pv0, pv1]) | go_big_quiet_step (first | (go_at_call 86; with_reducible refine Calls.ext_of (hU.out _)) | (go_at_call 85; with_reducible refine Calls.ext_of (hD.out _))))); refine wpQuiet_nil ?_; rintro _ ⟨xw, rfl⟩)
  go_wp2_with (refine wpList_store_row rfl 25 (.tmp 4) (.tmp 8) rfl (w.heap.size + 2) _ rfl rfl 25 _ (hC0.out.ext _) iY.out rfl nY.out ?_; simp only [Act.put])
  refine bodyPost_ret (results_cell_row rfl _ _ (w.heap.size + 2) 25 (cellsW y) (0, 0) _ rfl (heap_setRow' _ _ _ _ _ (hC0.out.ext _)) uWd rfl iY.out) rfl ⟨rfl, below_setRow' (World.ext_below_of hb0 hb0.size _) _ (by omega) _⟩
end Go.Proofs.Ytejnnghfelpioaa
namespace Go.Proofs.Ytejnnghfelpioaa
open Go.RowKit
theorem ArrW.row {t : TypeId} {w : World} {b x : Nat} (h : ArrW t w b x) (y : Nat) : ArrW t (w.setRow b (cellsW y)) b y := heap_setRow' _ _ _ _ _ h
theorem ArrW.otherRow {t : TypeId} {w : World} {b x g : Nat} (h : ArrW t w b x) (hg : b ≠ g) (cs : Array Value) : ArrW t (w.setRow g cs) b x := by
  unfold ArrW at *
  simp only [World.setRow, Array.getElem?_modify]
  rw [if_neg (fun e => hg e.symm)]; exact h
theorem lmN_bit (b i : Nat) : lmN b (i / 64) / 2 ^ (i % 64) % 2 = b / 2 ^ i % 2 := by
  have e : 2 ^ i = 2 ^ (64 * (i / 64)) * 2 ^ (i % 64) := by rw [← Nat.pow_add]; congr 1; omega
  have e2 : (2 : Nat) ^ 64 = 2 ^ (i % 64) * (2 * 2 ^ (63 - i % 64)) := by rw [← Nat.mul_assoc, ← Nat.pow_succ, ← Nat.pow_add]; congr 1; omega
  unfold lmN
  rw [e, ← Nat.div_div_eq_div_mul]
  generalize b / 2 ^ (64 * (i / 64)) = y
  rw [e2, Nat.mod_mul_right_div_self, Nat.mod_mul_right_mod]
theorem lm_bit (b i : Nat) : bits .and .u64 (lm b (i / 64) / 2 ^ (i % 64)) 1 = ((b / 2 ^ i % 2 : Nat) : Int) := by
  unfold lm
  rw [show (((lmN b (i / 64) : Nat) : Int)) / 2 ^ (i % 64) = ((lmN b (i / 64) / 2 ^ (i % 64) : Nat) : Int) by rw [Int.natCast_ediv, Int.natCast_pow]; rfl]
  rw [show (1 : Int) = ((1 : Nat) : Int) from rfl, u64_and_nat _ _ (Nat.lt_of_le_of_lt (Nat.div_le_self _ _) (lmN_lt _ _)) (by decide)]
  rw [show (1 : Nat) = 2 ^ 1 - 1 from rfl, Nat.and_two_pow_sub_one_eq_mod, Nat.pow_one, lmN_bit]
end Go.Proofs.Ytejnnghfelpioaa
