import Derived.Test.YthfolbamidmmiaaPart
/-! A load of a whole block in a region, guarded or not. -/
set_option maxRecDepth 4000
set_option linter.unusedVariables false
set_option linter.unusedSimpArgs false
namespace Go
open Go.RowKit
/-- A load among operations that only read or make blocks, wanted or not asked for. -/
theorem wpQuiet_load_want {P : Program} {ops : Array Oper} {rest : List Oper} {o : Oper} {a : Act} {w : World} {Q : Act → Prop} (ty : TypeId) (x : Operand) (ho : o.op = .load ty x)
    (g : Nat) (hx : a.eval x = .pointer (some ⟨g, 0, none⟩)) (t : TypeId) (cs : Array Value) (d : TypeDesc) (hg : w.heap[g]? = some (.cells cs t (0, 0)))
    (hu : P.underlying ty = some d) (hd : (match d with | .struct _ | .array _ _ => true | _ => false) = true) (hi : (P.info? ty).map (·.size) = some cs.size) (hw : Region.wanted o (yielded ops a.tmps) = true)
    (h : wpQuiet P ops (fun w' => ∃ x, w' = w.ext x) Q rest (a.put o.dst (.agg cs))) : wpQuiet P ops (fun w' => ∃ x, w' = w.ext x) Q (o :: rest) a :=
  BigFrame.wpQuiet_want hw fun K hK => ⟨.agg cs, fun w' ⟨y, hy⟩ => by
    have hg' : w'.heap[g]? = some (.cells cs t (0, 0)) := by rw [hy]; exact (w.heap_ext y g (Array.getElem?_eq_some_iff.1 hg).1).trans hg
    unfold Oper.quietAt
    rw [run_load_part ty x ho g 0 hx t cs cs (0, 0) d hg' (fun j v h => by rw [Nat.zero_add]; exact h) hu hd hi]
    exact ⟨rfl, rfl⟩, hK _ h⟩
end Go
