import Derived.Test.YtfidbiabgmioaaaRows
import Derived.WalkKit
import Derived.ProofKit
import Derived.OpenShut
import Derived.ShutString
import Derived.ChangeOld
import Derived.Below
import Derived.Deep.Slices
import Derived.Test.YtfidbiabgmioaaaRead
/-! Opening the arguments of a law. -/
set_option maxRecDepth 4000
set_option linter.unusedVariables false
set_option linter.unusedSimpArgs false
namespace Go.Proofs.Ytfidbiabgmioaaa
open Go.ChangeShapes Go.WideShapes Go.ChangeAt Go.RowKit

theorem wf_u64 {a : Int} (h : (Lit.int .u64 a).wf = true) : 0 ≤ a ∧ a ≤ 18446744073709551615 := bounds_u64 h
theorem wf_i64 {a : Int} (h : (Lit.int .i64 a).wf = true) : -9223372036854775808 ≤ a ∧ a ≤ 9223372036854775807 := bounds_i64 h
theorem wf_u8 {a : Int} (h : (Lit.int .u8 a).wf = true) : 0 ≤ a ∧ a ≤ 255 := bounds_u8 h
theorem mapM_some_get {α β : Type} {f : α → Option β} : ∀ {l : List α} {l' : List β}, l.mapM f = some l' → ∀ i, (h : i < l.length) → f l[i] = l'[i]?
  | [], _, _, i, h => by simp at h
  | a :: l, l', h, i, hi => by
    rw [List.mapM_cons] at h
    simp only [bind, Option.bind_eq_some_iff, pure, Option.some.injEq] at h
    obtain ⟨b, h1, bs, h2, rfl⟩ := h
    cases i with
    | zero => simpa using h1
    | succ i => simpa using mapM_some_get h2 i (by simpa using hi)

section
variable {H : Type} {enc : TypeId × Value → H} {P : Program} {W : World} {base : Nat} {r : Reach} {sp : Nat → Bool} {held : Bool}

/-- An int argument: its value, and that it fits. -/
theorem arg_int {b0 : Nat} {t : TypeId} {k : IntKind} {v : Value} {d : DataW H} {p : List MemPlace} (hu : P.underlying t = some (.int k)) (hval : Value.okWide P W r base t v) (h : DataW.Trod enc P W b0 sp held t v d p) :
    ∃ a, v = .int k a ∧ (Lit.int k a).wf = true := by
  obtain ⟨a, h1, _, _, h4⟩ := open_int hu hval h
  exact ⟨a, h1, h4⟩
theorem arg_bool {b0 : Nat} {t : TypeId} {v : Value} {d : DataW H} {p : List MemPlace} (hu : P.underlying t = some .bool) (hval : Value.okWide P W r base t v) (h : DataW.Trod enc P W b0 sp held t v d p) :
    ∃ a, v = .bool a := by
  obtain ⟨a, h1, _, _⟩ := open_bool hu hval h
  exact ⟨a, h1⟩
/-- The cells of an array of one-cell integers. -/
theorem cells_arr {b0 : Nat} {t e : TypeId} {n fuel : Nat} {k : IntKind} {cs : List Value} {x : DataW H × List MemPlace} (hu : P.underlying t = some (.array n e)) (he : P.underlying e = some (.int k)) (hc : P.cellsOf e = 1) (hct : P.cellsOf t = n)
    (h : DataW.trod enc P W b0 sp held fuel t cs = some x) : ∃ xs : List Int, cs = xs.map (Value.int k) ∧ xs.length = n ∧ ∀ y ∈ xs, (Lit.int k y).wf = true := by
  obtain ⟨ys, m, _, _, hl, hn, hel⟩ := DataW.trod_array hu h
  have hlen : cs.length = n := by rw [hl, hct]
  have each : ∀ i, (hi : i < cs.length) → ∃ a, cs[i] = .int k a ∧ (Lit.int k a).wf = true := fun i hi => by
    have h1 := hel i (by omega)
    rw [hc, Nat.mul_one, show List.take 1 (cs.drop i) = [cs[i]] from by rw [List.drop_eq_getElem_cons hi]; rfl] at h1
    have : i < ys.length := by omega
    rw [List.getElem?_eq_getElem this] at h1
    obtain ⟨a, h2, _, h4⟩ := DataW.trod_int he h1
    exact ⟨a, by simpa using h2, h4⟩
  refine ⟨cs.map fun | .int _ a => a | _ => 0, ?_, by simpa using hlen, ?_⟩
  · apply List.ext_getElem (by simp)
    intro i h1 h2
    obtain ⟨a, h3, _⟩ := each i h1
    simp [h3]
  · intro y hy
    rw [List.mem_map] at hy
    obtain ⟨c, hc1, rfl⟩ := hy
    obtain ⟨i, hi, rfl⟩ := List.getElem_of_mem hc1
    obtain ⟨a, h3, h4⟩ := each i hi
    rw [h3]; exact h4
theorem arg_arr {b0 : Nat} {t e : TypeId} {n : Nat} {k : IntKind} {v : Value} {d : DataW H} {p : List MemPlace} (hu : P.underlying t = some (.array n e)) (he : P.underlying e = some (.int k)) (hc : P.cellsOf e = 1) (hct : P.cellsOf t = n)
    (hval : Value.okWide P W r base t v) (h : DataW.Trod enc P W b0 sp held t v d p) : ∃ xs : List Int, v = .agg (xs.map (Value.int k)).toArray ∧ xs.length = n ∧ ∀ y ∈ xs, (Lit.int k y).wf = true := by
  simp only [Value.okWide, hu] at hval
  obtain ⟨cs, rfl, _, _⟩ := hval
  obtain ⟨fuel, hf⟩ := h
  obtain ⟨xs, h1, h2, h3⟩ := cells_arr hu he hc hct hf
  refine ⟨xs, ?_, h2, h3⟩
  have : cs = (xs.map (Value.int k)).toArray := by rw [← h1]; simp [Value.cells]
  rw [this]
theorem arg_rd {b0 : Nat} {t e : TypeId} {k : IntKind} {v : Value} {d : DataW H} {p : List MemPlace} (hu : P.underlying t = some (.slice e)) (he : P.underlying e = some (.int k)) (hc : P.cellsOf e = 1)
    (hval : Value.okWide P W r base t v) (h : DataW.Trod enc P W b0 sp held t v d p) : ∃ xs : List Int, Rd k W v xs ∧ xs.length ≤ maxLen ∧ ∀ y ∈ xs, (Lit.int k y).wf = true := by
  obtain ⟨a0, len, cap, rfl⟩ := okWide_slice hu hval
  obtain ⟨fuel, hf⟩ := h
  rcases open_ints hu he hc hf with ⟨hcs, _⟩ | ⟨x, l, c, zs, hcs, _, hl, hm, hz, hx, hcell, hwz⟩
  · simp [Value.cells] at hcs
    obtain ⟨rfl, rfl, rfl⟩ := hcs
    exact ⟨[], Rd.nil k W _ _, by simp, by simp⟩
  · simp [Value.cells] at hcs
    obtain ⟨rfl, rfl, rfl⟩ := hcs
    have hlz : len ≤ zs.length := by rw [hz]; split <;> omega
    have htl : (zs.take len).length = len := by rw [List.length_take]; omega
    refine ⟨zs.take len, ⟨_, cap, by rw [htl], fun hne => ?_⟩, by rw [htl]; omega, fun y hy => hwz y (List.mem_of_mem_take hy)⟩
    obtain ⟨b, off, spot⟩ := x
    have hpos : 0 < len := by
      rcases Nat.eq_zero_or_pos len with h0 | h0
      · subst h0; simp at hne
      · exact h0
    have hc0 := hcell 0 (by omega)
    have hspot : spot = none := by simpa [Addr.add] using World.cell?_spot hc0
    subst hspot
    refine ⟨b, off, rfl, ?_, fun j hj => ?_⟩
    · rcases Nat.lt_or_ge b W.heap.size with h' | h'
      · exact h'
      · simp [World.cell?, Addr.add, Array.getElem?_eq_none h'] at hc0
    · simp at hj
      have := hcell j (by omega)
      have ha : (⟨b, off, none⟩ : Addr).add j = ⟨b, off + j, none⟩ := by unfold Addr.add; split <;> simp_all
      rw [ha] at this
      rw [this]
      simp [List.getD_eq_getElem?_getD, show j < len by omega]
theorem arg_rda {b0 : Nat} {t e1 e : TypeId} {n : Nat} {k : IntKind} {v : Value} {d : DataW H} {p : List MemPlace} (hu : P.underlying t = some (.slice e1)) (hu1 : P.underlying e1 = some (.array n e)) (he : P.underlying e = some (.int k)) (hc : P.cellsOf e = 1) (hct : P.cellsOf e1 = n) (hn : 0 < n)
    (hval : Value.okWide P W r base t v) (h : DataW.Trod enc P W b0 sp held t v d p) : ∃ xss : List (List Int), RdA k n W v xss ∧ xss.length ≤ maxLen ∧ ∀ xs ∈ xss, xs.length = n ∧ ∀ y ∈ xs, (Lit.int k y).wf = true := by
  obtain ⟨a0, len, cap, rfl⟩ := okWide_slice hu hval
  obtain ⟨fuel, hf⟩ := h
  rcases Go.Deep.open_slice hu hf with ⟨hcs, _⟩ | ⟨x, l, c, m, n', D, Pl, hcs, _, hl, hm, hmm, _, hx⟩
  · simp [Value.cells] at hcs
    obtain ⟨rfl, rfl, rfl⟩ := hcs
    exact ⟨[], ⟨_, _, rfl, fun h => absurd rfl h⟩, by simp, by simp⟩
  · simp [Value.cells] at hcs
    obtain ⟨rfl, rfl, rfl⟩ := hcs
    have hlm : len ≤ m := by rw [hmm]; split <;> omega
    have each : ∀ i, i < len → ∃ xs : List Int, W.cells? b0 (x.add (i * n)) n = some (xs.map (Value.int k)) ∧ xs.length = n ∧ ∀ y ∈ xs, (Lit.int k y).wf = true := fun i hi => by
      obtain ⟨cs', h1, h2⟩ := hx i (by omega)
      obtain ⟨xs, h3, h4, h5⟩ := cells_arr hu1 he hc hct h2
      rw [hct, h3] at h1
      exact ⟨xs, h1, h4, h5⟩
    obtain ⟨F, hF⟩ : ∃ F : Nat → List Int, ∀ i, i < len → W.cells? b0 (x.add (i * n)) n = some ((F i).map (Value.int k)) ∧ (F i).length = n ∧ ∀ y ∈ F i, (Lit.int k y).wf = true :=
      ⟨fun i => if hi : i < len then (each i hi).choose else [], fun i hi => by simp only [hi, dif_pos]; exact (each i hi).choose_spec⟩
    have cell : ∀ i, i < len → ∀ j, j < n → W.cell? ((x.add (i * n)).add j) = some (.int k ((F i).getD j 0)) := fun i hi j hj => by
      obtain ⟨h1, h2, _⟩ := hF i hi
      unfold World.cells? at h1
      split at h1
      · have h3 := Go.Proofs.Ytfidbiabgmioaaa.mapM_some_get h1 j (by simpa using hj)
        simp at h3
        rw [h3]; simp [show j < (F i).length by omega]
      · cases h1
    refine ⟨(List.range len).map F, ⟨some x, cap, by simp, fun hne => ?_⟩, by simp; omega, fun xs hxs => ?_⟩
    · obtain ⟨b, off, spot⟩ := x
      have hpos : 0 < len := by
        rcases Nat.eq_zero_or_pos len with h0 | h0
        · subst h0; simp at hne
        · exact h0
      have hc0 := cell 0 hpos 0 hn
      have hspot : spot = none := by simpa [Addr.add] using World.cell?_spot hc0
      subst hspot
      refine ⟨b, off, rfl, ?_, fun i hi j hj => ?_⟩
      · rcases Nat.lt_or_ge b W.heap.size with h' | h'
        · exact h'
        · simp [World.cell?, Addr.add, Array.getElem?_eq_none h'] at hc0
      · simp at hi
        have := cell i hi j hj
        have ha : ((⟨b, off, none⟩ : Addr).add (i * n)).add j = ⟨b, off + i * n + j, none⟩ := by
          unfold Addr.add; split <;> split <;> simp_all
        rw [ha] at this
        rw [this]; simp [hi]
    · simp at hxs
      obtain ⟨i, hi, rfl⟩ := hxs
      exact (hF i hi).2
end
end Go.Proofs.Ytfidbiabgmioaaa
