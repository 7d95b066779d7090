import Derived.Test.YthfolbamidmmiaaFrameY
/-! Opening an argument of parts of bytes; its bulk. -/
set_option maxRecDepth 4000
set_option linter.unusedVariables false
set_option linter.unusedSimpArgs false
namespace Go.Proofs.Ythfolbamidmmiaa
open Go.ChangeShapes Go.WideShapes Go.ChangeAt Go.RowKit

/-- The slice v has, in w, these parts. -/
def RdYY (w : World) (v : Value) (yss : List (List (BitVec 8))) : Prop :=
  ∃ a cap, v = .slice a yss.length cap ∧ yss.length ≤ cap ∧ (yss ≠ [] → ∃ b off, a = some ⟨b, off, none⟩ ∧ b < w.heap.size ∧ ∀ i, i < yss.length → ∃ u, w.cell? ⟨b, off + i, none⟩ = some u ∧ RdY w u (yss.getD i []))

theorem bulk_one {H : Type} (d : DataW H) : 1 ≤ Rows.uptoBulk d := by
  cases d with
  | lit l => cases l <;> simp [Rows.uptoBulk]
  | nil => simp [Rows.uptoBulk]
  | ptr d => simp [Rows.uptoBulk]
  | slice elems spare => simp [Rows.uptoBulk]
  | agg parts => simp [Rows.uptoBulk]
  | iface t d => simp [Rows.uptoBulk]
  | map entries => simp [Rows.uptoBulk]
  | held h => simp [Rows.uptoBulk]
theorem bulk_len {H : Type} (l : List (DataW H)) : l.length ≤ Rows.uptoBulkAll l := by
  induction l with
  | nil => simp [Rows.uptoBulkAll]
  | cons x r ih => have := bulk_one x; simp only [Rows.uptoBulkAll, List.length_cons]; omega
theorem bulk_slice {H : Type} (el sp : List (DataW H)) : Rows.uptoBulkAll el + 1 ≤ Rows.uptoBulk (.slice el sp) := by
  simp only [Rows.uptoBulk]; omega
theorem bulk_small {H : Type} {ds : List (DataW H)} (hk : Rows.uptoSmall H ds = true) : Rows.uptoBulkAll ds ≤ 1048576 := of_decide_eq_true hk
theorem bulk_at {H : Type} {ds : List (DataW H)} (hk : Rows.uptoSmall H ds = true) (j : Nat) {d : DataW H} (hd : ds[j]? = some d) : Rows.uptoBulk d ≤ 1048576 := by
  refine Nat.le_trans ?_ (bulk_small hk)
  clear hk
  induction ds generalizing j with
  | nil => simp at hd
  | cons x l ih =>
    cases j with
    | zero => simp at hd; subst hd; simp only [Rows.uptoBulkAll]; omega
    | succ j => have := ih j (by simpa using hd); simp only [Rows.uptoBulkAll]; omega
theorem bulk_flat {H : Type} (F : Nat → List (BitVec 8)) (D : Nat → DataW H) : ∀ (l : List Nat), (∀ i ∈ l, (F i).length + 1 ≤ Rows.uptoBulk (D i)) → (l.map F).flatten.length + l.length ≤ Rows.uptoBulkAll (l.map D)
  | [], _ => by simp [Rows.uptoBulkAll]
  | i :: l, h => by
    have h1 := h i (by simp)
    have h2 := bulk_flat F D l (fun j hj => h j (by simp [hj]))
    simp only [List.map_cons, List.flatten_cons, List.length_append, List.length_cons, Rows.uptoBulkAll]
    omega

section
variable {H : Type} {enc : TypeId × Value → H} {P : Program} {W : World} {base : Nat} {r : Reach} {sp : Nat → Bool} {held : Bool}
theorem trod_rdy {b0 : Nat} {t e : TypeId} {u : Value} {fuel : Nat} {x : DataW H × List MemPlace} (hu : P.underlying t = some (.slice e)) (he : P.underlying e = some (.int .u8)) (hc : P.cellsOf e = 1)
    (hf : DataW.trod enc P W b0 sp held fuel t [u] = some x) : ∃ ys : List (BitVec 8), RdY W u ys ∧ ys.length + 1 ≤ Rows.uptoBulk x.1 := by
  rcases open_ints hu he hc hf with ⟨hcs, hx⟩ | ⟨x0, l, c, zs, hcs, _, hl, hm, hz, hx, hcell, hwz⟩
  · simp at hcs
    subst hcs
    exact ⟨[], RdY.nil W _ _, by rw [hx]; simp [Rows.uptoBulk]⟩
  · simp at hcs
    subst hcs
    have hlz : l ≤ zs.length := by rw [hz]; split <;> omega
    have htl : (zs.take l).length = l := by rw [List.length_take]; omega
    obtain ⟨ys, hys⟩ := bytes_of (zs.take l) (fun y hy => wf_u8 (hwz y (List.mem_of_mem_take hy)))
    have hyl : ys.length = l := by rw [hys] at htl; simpa using htl
    refine ⟨ys, ⟨_, c, by rw [hyl], by omega, fun hne => ?_⟩, ?_⟩
    · obtain ⟨b, off, spot⟩ := x0
      have hpos : 0 < l := by
        rcases Nat.eq_zero_or_pos l with h0 | h0
        · subst h0; cases ys <;> simp_all
        · exact h0
      have hc0 := hcell 0 (by omega)
      have hspot : spot = none := by simpa [Addr.add] using World.cell?_spot hc0
      subst hspot
      refine ⟨b, off, rfl, ?_, fun j hj => ?_⟩
      · rcases Nat.lt_or_ge b W.heap.size with h' | h'
        · exact h'
        · simp [World.cell?, Addr.add, Array.getElem?_eq_none h'] at hc0
      · have := hcell j (by omega)
        have ha : (⟨b, off, none⟩ : Addr).add j = ⟨b, off + j, none⟩ := by unfold Addr.add; split <;> simp_all
        rw [ha] at this
        rw [this]
        have h1 : zs.getD j 0 = (ys.map yv).getD j 0 := by
          rw [← hys]
          simp [List.getD_eq_getElem?_getD, show j < l by omega]
        rw [h1]
        simp [ny, show j < ys.length by omega]
    · rw [hx]
      show _ ≤ Rows.uptoBulk (DataW.slice _ _)
      have h1 := bulk_slice (lits (H := H) .u8 (zs.take l)) (lits .u8 (zs.drop l))
      have h2 := bulk_len (lits (H := H) .u8 (zs.take l))
      have h3 : (lits (H := H) .u8 (zs.take l)).length = l := by simp [lits]; omega
      omega
theorem arg_rdyU {b0 : Nat} {t e : TypeId} {v : Value} {d : DataW H} {p : List MemPlace} (hu : P.underlying t = some (.slice e)) (he : P.underlying e = some (.int .u8)) (hc : P.cellsOf e = 1)
    (hval : Value.okWide P W r base t v) (h : DataW.Trod enc P W b0 sp held t v d p) : ∃ ys : List (BitVec 8), RdY W v ys ∧ ys.length + 1 ≤ Rows.uptoBulk d := by
  obtain ⟨a0, len, cap, rfl⟩ := okWide_slice hu hval
  obtain ⟨fuel, hf⟩ := h
  exact trod_rdy hu he hc hf
theorem arg_ryy {b0 : Nat} {t t1 e : TypeId} {v : Value} {d : DataW H} {p : List MemPlace} (hu : P.underlying t = some (.slice t1)) (hu1 : P.underlying t1 = some (.slice e)) (he : P.underlying e = some (.int .u8)) (hc : P.cellsOf e = 1) (hc1 : P.cellsOf t1 = 1)
    (hval : Value.okWide P W r base t v) (h : DataW.Trod enc P W b0 sp held t v d p) : ∃ yss : List (List (BitVec 8)), RdYY W v yss ∧ yss.flatten.length + yss.length + 1 ≤ Rows.uptoBulk d := by
  obtain ⟨a0, len, cap, rfl⟩ := okWide_slice hu hval
  obtain ⟨fuel, hf⟩ := h
  rcases Go.Deep.open_slice1 hu hc1 hf with ⟨hcs, hx⟩ | ⟨x, l, c, m, n', V, D, Pl, hcs, _, hl, hm, hmm, hx, hel⟩
  · simp [Value.cells] at hcs
    obtain ⟨rfl, rfl, rfl⟩ := hcs
    simp at hx
    exact ⟨[], ⟨_, _, rfl, by simp, fun h => absurd rfl h⟩, by rw [hx.1]; simp [Rows.uptoBulk]⟩
  · simp [Value.cells] at hcs
    obtain ⟨rfl, rfl, rfl⟩ := hcs
    simp at hx
    have hlm : len ≤ m := by rw [hmm]; split <;> omega
    have each : ∀ i, i < len → ∃ ys : List (BitVec 8), RdY W (V i) ys ∧ ys.length + 1 ≤ Rows.uptoBulk (D i) := fun i hi => trod_rdy hu1 he hc (hel i (by omega)).2
    obtain ⟨F, hF⟩ : ∃ F : Nat → List (BitVec 8), ∀ i, i < len → RdY W (V i) (F i) ∧ (F i).length + 1 ≤ Rows.uptoBulk (D i) :=
      ⟨fun i => if hi : i < len then (each i hi).choose else [], fun i hi => by simp only [hi, dif_pos]; exact (each i hi).choose_spec⟩
    refine ⟨(List.range len).map F, ⟨some x, cap, by simp, by simp; omega, fun hne => ?_⟩, ?_⟩
    · obtain ⟨b, off, spot⟩ := x
      have hpos : 0 < len := by
        rcases Nat.eq_zero_or_pos len with h0 | h0
        · subst h0; simp at hne
        · exact h0
      have hc0 := (hel 0 (by omega)).1
      have hspot : spot = none := by simpa [Addr.add] using World.cell?_spot hc0
      subst hspot
      refine ⟨b, off, rfl, ?_, fun i hi => ?_⟩
      · rcases Nat.lt_or_ge b W.heap.size with h' | h'
        · exact h'
        · simp [World.cell?, Addr.add, Array.getElem?_eq_none h'] at hc0
      · simp at hi
        have := (hel i (by omega)).1
        have ha : (⟨b, off, none⟩ : Addr).add i = ⟨b, off + i, none⟩ := by unfold Addr.add; split <;> simp_all
        rw [ha] at this
        refine ⟨V i, this, ?_⟩
        have h1 : ((List.range len).map F).getD i [] = F i := by simp [List.getD_eq_getElem?_getD, hi]
        rw [h1]; exact (hF i hi).1
    · rw [hx.1]
      have h1 := bulk_slice ((List.range len).map D) ((List.range (m - len)).map fun j => D (len + j))
      have h2 := bulk_flat F D (List.range len) (fun i hi => (hF i (by simpa using hi)).2)
      simp only [List.length_map]
      omega
end
end Go.Proofs.Ythfolbamidmmiaa
