import Derived.Test.YtfidbiabgmioaaaFrame
import Derived.Test.YtfidbiabgmioaaaByt
import Derived.SizedLaws
/-! Opening an argument of bytes. -/
set_option maxRecDepth 4000
set_option linter.unusedVariables false
set_option linter.unusedSimpArgs false
namespace Go.Proofs.Ytfidbiabgmioaaa
open Go.ChangeShapes Go.WideShapes Go.ChangeAt Go.RowKit

section
variable {H : Type} {enc : TypeId × Value → H} {P : Program} {W : World} {base : Nat} {r : Reach} {sp : Nat → Bool} {held : Bool}
theorem arg_rdy {b0 : Nat} {t e : TypeId} {v : Value} {d : DataW H} {p : List MemPlace} (hu : P.underlying t = some (.slice e)) (he : P.underlying e = some (.int .u8)) (hc : P.cellsOf e = 1)
    (hval : Value.okWide P W r base t v) (h : DataW.Trod enc P W b0 sp held t v d p) : ∃ ys : List (BitVec 8), RdY W v ys ∧ ((d = .nil ∧ ys = []) ∨ ∃ el sp, d = .slice el sp ∧ el.length = ys.length) := by
  obtain ⟨a0, len, cap, rfl⟩ := okWide_slice hu hval
  obtain ⟨fuel, hf⟩ := h
  rcases open_ints hu he hc hf with ⟨hcs, hx⟩ | ⟨x, l, c, zs, hcs, _, hl, hm, hz, hx, hcell, hwz⟩
  · simp [Value.cells] at hcs
    obtain ⟨rfl, rfl, rfl⟩ := hcs
    simp at hx
    exact ⟨[], RdY.nil W _ _, .inl ⟨hx.1, rfl⟩⟩
  · simp [Value.cells] at hcs
    obtain ⟨rfl, rfl, rfl⟩ := hcs
    simp at hx
    have hlz : len ≤ zs.length := by rw [hz]; split <;> omega
    have htl : (zs.take len).length = len := by rw [List.length_take]; omega
    obtain ⟨ys, hys⟩ := bytes_of (zs.take len) (fun y hy => wf_u8 (hwz y (List.mem_of_mem_take hy)))
    have hyl : ys.length = len := by rw [hys] at htl; simpa using htl
    refine ⟨ys, ⟨_, cap, by rw [hyl], by omega, fun hne => ?_⟩, .inr ⟨_, _, hx.1, by simp [lits]; omega⟩⟩
    obtain ⟨b, off, spot⟩ := x
    have hpos : 0 < len := by
      rcases Nat.eq_zero_or_pos len with h0 | h0
      · subst h0; cases ys <;> simp_all
      · exact h0
    have hc0 := hcell 0 (by omega)
    have hspot : spot = none := by simpa [Addr.add] using World.cell?_spot hc0
    subst hspot
    refine ⟨b, off, rfl, ?_, fun j hj => ?_⟩
    · rcases Nat.lt_or_ge b W.heap.size with h' | h'
      · exact h'
      · simp [World.cell?, Addr.add, Array.getElem?_eq_none h'] at hc0
    · have := hcell j (by omega)
      have ha : (⟨b, off, none⟩ : Addr).add j = ⟨b, off + j, none⟩ := by unfold Addr.add; split <;> simp_all
      rw [ha] at this
      rw [this]
      have h1 : zs.getD j 0 = (ys.map yv).getD j 0 := by
        rw [← hys]
        simp [List.getD_eq_getElem?_getD, show j < len by omega]
      rw [h1]
      simp [ny, show j < ys.length by omega]
/-- Its reach. -/
theorem reach_y {ts : List TypeId} {ds : List (DataW H)} {j : Nat} {t e : TypeId} {d : DataW H} {ys : List (BitVec 8)} (h : (DataW.weightsEach P ts ds).all (· ≤ reachBytes) = true) (ht : ts[j]? = some t) (hd : ds[j]? = some d)
    (hu : P.underlying t = some (.slice e)) (hb : P.bytesOf e = 1) (hs : (d = .nil ∧ ys = []) ∨ ∃ el sp, d = .slice el sp ∧ el.length = ys.length) : ys.length ≤ 140737488351232 := by
  rcases hs with ⟨_, rfl⟩ | ⟨el, sp, rfl, h2⟩
  · simp
  · have := sized_slice h ht hd hu
    rw [hb] at this
    simp only [reachBytes] at this
    omega
end
end Go.Proofs.Ytfidbiabgmioaaa
