import Derived.Test.YtfidbiabgmioaaaWd
import Derived.Test.YtfidbiabgmioaaaFrame
import Derived.Test.YtfidbiabgmioaaaAliveW
import Derived.Test.YtfidbiabgmioaaaWordI
import Derived.Laws.IdiomStrings
/-! An argument that is a word. -/
set_option maxRecDepth 4000
set_option linter.unusedVariables false
set_option linter.unusedSimpArgs false
namespace Go.Proofs.Ytfidbiabgmioaaa
open Go.RowKit

theorem word_arg (xs : List Int) (hl : xs.length = 4) (hw : ∀ y ∈ xs, (Lit.int .u64 y).wf = true) : ∃ x, x < 2 ^ 256 ∧ (.agg (xs.map (Value.int .u64)).toArray : Value) = wd x := by
  obtain ⟨a, b, c, d, rfl⟩ := len4 hl
  have ha := wf_u64 (hw a (by simp))
  have hb := wf_u64 (hw b (by simp))
  have hc := wf_u64 (hw c (by simp))
  have hd := wf_u64 (hw d (by simp))
  refine ⟨mk4 a.toNat b.toNat c.toNat d.toNat, mk4_lt _ _ _ _ (by omega) (by omega) (by omega) (by omega), ?_⟩
  unfold wd
  rw [cellsW_mk4 _ _ _ _ (by omega) (by omega) (by omega) (by omega), show ((a.toNat : Nat) : Int) = a by omega, show ((b.toNat : Nat) : Int) = b by omega, show ((c.toNat : Nat) : Int) = c by omega, show ((d.toNat : Nat) : Int) = d by omega]
  rfl
end Go.Proofs.Ytfidbiabgmioaaa

/-! What the laws on words share. -/
namespace Go.Proofs.Ytfidbiabgmioaaa
open Go.RowKit

end Go.Proofs.Ytfidbiabgmioaaa

/-! conclavelaw01.Same: two lists of bytes as strings. -/
namespace Go.Proofs.Ytfidbiabgmioaaa
open Go.RowKit

theorem uStr : Try.prog.underlying 9 = some .string := by kernel_rfl
theorem uY8 : Try.prog.underlying 5 = some (.int .u8) := by kernel_rfl
/-- The string that bytes are. -/
def strY (ys : List (BitVec 8)) : ByteArray := ⟨(ys.map fun y => UInt8.ofNat y.toNat).toArray⟩
theorem run_str (w : World) (v : Value) (ys : List (BitVec 8)) (h : RdY w v ys) : (convert 30 9 v).run Try.prog w = .ok (.string (strY ys)) w := by
  obtain ⟨a, cap, rfl, hc, hx⟩ := h
  cases ys with
  | nil =>
    rw [run_convert_bytes_string w _ _ 5 a _ cap uYs uY8 uStr]
    cases a with
    | none => rfl
    | some p =>
      have hl : (loadCells p 0).run Try.prog w = .ok (([] : List Int).map (Value.int .u8)).toArray w := by rfl
      exact run_bytesToString w p 0 cap [] hl
  | cons y ys =>
    obtain ⟨b, off, rfl, _, hcell⟩ := hx (by simp)
    have := run_convert_bytes_back (P := Try.prog) w 30 9 5 ⟨b, off, none⟩ cap ((y :: ys).map fun y => UInt8.ofNat y.toNat) uYs uY8 uStr (fun j hj => by
      have hj2 : j < (y :: ys).length := by simpa using hj
      have ha : (⟨b, off, none⟩ : Addr).add j = ⟨b, off + j, none⟩ := by unfold Addr.add; split <;> simp_all
      rw [ha, hcell j hj2]
      unfold yv ny
      rw [List.getD_eq_getElem?_getD, List.getElem?_eq_getElem hj2]
      simp only [List.getElem_map, Option.getD_some]
      congr 3
      have := ((y :: ys)[j]).isLt
      rw [UInt8.toNat_ofNat']
      omega)
    rw [List.length_map] at this
    exact this

theorem same_any (ys : List (BitVec 8)) (v1 v2 : Value) (w : World) (h1 : RdY w v1 ys) (h2 : RdY w v2 ys) : Calls Try.prog 23 #[v1, v2] w fun e w' => e = .returned (.bool true) ∧ Below w.heap.size w w' := by
  have c1 := fun x => run_str (w.ext x) v1 ys (h1.below (w.ext_below x))
  have c2 := fun x => run_str (w.ext x) v2 ys (h2.below (w.ext_below x))
  have c3 := run_str w v1 ys h1
  have c4 := run_str w v2 ys h2
  clear h1 h2
  go_enter Try.func23, Try.ntmps23
  go_wp2_with (refine wp_region_ext (by kernel_rfl) (by kernel_rfl) ?_; (repeat (go_big_quiet_step (first | fail))); refine wpQuiet_nil ?_; rintro _ ⟨xw, rfl⟩)
  go_ret
  exact ⟨rfl, (by repeat (first | (with_reducible first | exact Below.refl _ _ | assumption | refine World.ext_below_of ?_ ?_ _ | refine Below.setCell ?_ ?_ _ | refine Below.alloc ?_ ?_ _ | refine Below.drew ?_ | refine World.size_le_ext _ _ _ ?_) | (solve | simp [go_sem] | (simp [go_sem]; omega) | omega)))⟩
end Go.Proofs.Ytfidbiabgmioaaa
