import Derived.Test.YtfidbiabgmioaaaBase
/-! 'x := [n]T{..}': a new array, its cells behind a name. -/
set_option maxRecDepth 4000
set_option linter.unusedVariables false
set_option linter.unusedSimpArgs false
namespace Go
open Go.RowKit

theorem World.setRow_alloc (w : World) (zs cs : Array Value) (t : TypeId) : (w.alloc (.cells zs t)).setRow w.heap.size cs = w.alloc (.cells cs t) := by
  unfold World.setRow World.alloc
  congr 1
  apply Array.ext_getElem?
  intro i
  rw [Array.getElem?_modify, Array.getElem?_push, Array.getElem?_push]
  by_cases h : w.heap.size = i
  · subst h; simp
  · rw [if_neg h, if_neg (fun e => h e.symm), if_neg (fun e => h e.symm)]

theorem wp_alloc_new {P : Program} {o : Oper} {a : Act} {w : World} {K : Act → World → Prop} {Q : Exit → Act → World → Prop} (T : TypeId) (ho : o.op = .alloc T) (zs : Array Value)
    (hz : (P.info? T).bind (·.zero) = some (.agg zs))
    (h : K (a.put o.dst (.pointer (some ⟨w.heap.size, 0, none⟩))) (w.alloc (.cells zs T))) : o.wp P a w K Q := by
  cases hq : P.info? T with
  | none => simp [hq] at hz
  | some i =>
    have hz' : i.zero = some (.agg zs) := by simpa [hq] using hz
    unfold Oper.wp execOp
    simp only [ho, Instr.alloc, zeroValue, typeInfo, hq, hz', newVar, newRow, Sem.run_bind, Result.andThen_ok, Value.cells]
    simp [hq, hz', Sem.run, Oper.upon]
    exact h

theorem wpList_newArr {P : Program} {rest : List Oper} {ops' : Array Oper} {o1 o2 o3 : Oper} {a : Act} {w : World} {Q : Exit → Act → World → Prop} (T : TypeId) (parts : Array (Nat × Operand)) (d1 d2 : Tmp) (cells zs : Array Value)
    (g1 : o1.guard = none) (g2 : o2.guard = none) (g3 : o3.guard = none) (h1 : o1.op = .build T parts) (e1 : o1.dst = some d1) (h2 : o2.op = .alloc T) (e2 : o2.dst = some d2) (h3 : o3.op = .store T (.tmp d2) (.tmp d1)) (e3 : o3.dst = none)
    (hne : d1 ≠ d2) (hd1 : d1 < a.tmps.size) (hd2 : d2 < a.tmps.size)
    (hb : P.built T (parts.map fun (i, x) => (i, a.eval x)).toList = some cells)
    (hz : (P.info? T).bind (·.zero) = some (.agg zs)) (hzs : zs.size = cells.size) (hi : (P.info? T).map (·.size) = some cells.size) (hc : cells.all (·.oneCell') = true)
    (h : wpList P ops' Q rest ((a.put (some d1) (.agg cells)).put (some d2) (.pointer (some ⟨w.heap.size, 0, none⟩))) (w.alloc (.cells cells T))) : wpList P ops' Q (o1 :: o2 :: o3 :: rest) a w := by
  refine wpList_build g1 T parts h1 (by rw [hb]; rfl) ?_
  rw [hb, e1]
  simp only [Option.getD_some]
  refine wpList_plain g2 fun K2 hK2 => wp_alloc_new T h2 zs hz (hK2 _ _ ?_)
  rw [e2]
  refine wpList_store_row g3 T (.tmp d2) (.tmp d1) h3 w.heap.size cells ?_ ?_ T zs ?_ hi hzs hc ?_
  · simp [Act.eval, Act.put, Array.getD, hd2, hd1]
  · simp [Act.eval, Act.put, Array.getD, hd2, hd1, Ne.symm hne]
  · show (w.heap.push _)[w.heap.size]? = _
    simp
  · rw [World.setRow_alloc, e3]
    exact h
/-- 'x := v', v an array that is a value: a new block with its cells. -/
theorem wpList_allocStore {P : Program} {rest : List Oper} {ops' : Array Oper} {o2 o3 : Oper} {a : Act} {w : World} {Q : Exit → Act → World → Prop} (T : TypeId) (d1 d2 : Tmp) (cells zs : Array Value)
    (g2 : o2.guard = none) (g3 : o3.guard = none) (h2 : o2.op = .alloc T) (e2 : o2.dst = some d2) (h3 : o3.op = .store T (.tmp d2) (.tmp d1)) (e3 : o3.dst = none)
    (hne : d1 ≠ d2) (hd2 : d2 < a.tmps.size) (hv : a.eval (.tmp d1) = .agg cells)
    (hz : (P.info? T).bind (·.zero) = some (.agg zs)) (hzs : zs.size = cells.size) (hi : (P.info? T).map (·.size) = some cells.size) (hc : cells.all (·.oneCell') = true)
    (h : wpList P ops' Q rest (a.put (some d2) (.pointer (some ⟨w.heap.size, 0, none⟩))) (w.alloc (.cells cells T))) : wpList P ops' Q (o2 :: o3 :: rest) a w := by
  refine wpList_plain g2 fun K2 hK2 => wp_alloc_new T h2 zs hz (hK2 _ _ ?_)
  rw [e2]
  refine wpList_store_row g3 T (.tmp d2) (.tmp d1) h3 w.heap.size cells ?_ ?_ T zs ?_ hi hzs hc ?_
  · simp [Act.eval, Act.put, Array.getD, hd2]
  · rw [← hv]; simp [Act.eval, Act.put, Array.getElem?_setIfInBounds, hne, Ne.symm hne]
  · show (w.heap.push _)[w.heap.size]? = _
    simp
  · rw [World.setRow_alloc, e3]
    exact h
theorem wpList_alloc_new {P : Program} {ops : Array Oper} {rest : List Oper} {o : Oper} {a : Act} {w : World} {Q : Exit → Act → World → Prop} (hgd : o.guard = none) (T : TypeId) (ho : o.op = .alloc T) (zs : Array Value)
    (hz : (P.info? T).bind (·.zero) = some (.agg zs))
    (h : wpList P ops Q rest (a.put o.dst (.pointer (some ⟨w.heap.size, 0, none⟩))) (w.alloc (.cells zs T))) : wpList P ops Q (o :: rest) a w :=
  wpList_plain hgd fun _ hK => wp_alloc_new T ho zs hz (hK _ _ h)
/-- A table written out, stored into a block that is there. -/
theorem wpList_buildStore {P : Program} {rest : List Oper} {ops' : Array Oper} {o1 o3 : Oper} {a : Act} {w : World} {Q : Exit → Act → World → Prop} (T : TypeId) (parts : Array (Nat × Operand)) (x : Operand) (d1 : Tmp) (cells : Array Value) (g : Nat)
    (g1 : o1.guard = none) (g3 : o3.guard = none) (h1 : o1.op = .build T parts) (e1 : o1.dst = some d1) (h3 : o3.op = .store T x (.tmp d1)) (e3 : o3.dst = none) (hd1 : d1 < a.tmps.size)
    (hb : P.built T (parts.map fun (i, x) => (i, a.eval x)).toList = some cells)
    (hx : (a.put (some d1) (.agg cells)).eval x = .pointer (some ⟨g, 0, none⟩)) (t : TypeId) (old : Array Value) (hg : w.heap[g]? = some (.cells old t (0, 0)))
    (hi : (P.info? T).map (·.size) = some cells.size) (hold : old.size = cells.size) (hc : cells.all (·.oneCell') = true)
    (h : wpList P ops' Q rest (a.put (some d1) (.agg cells)) (w.setRow g cells)) : wpList P ops' Q (o1 :: o3 :: rest) a w := by
  refine wpList_build g1 T parts h1 (by rw [hb]; rfl) ?_
  rw [hb, e1]
  simp only [Option.getD_some]
  refine wpList_store_row g3 T x (.tmp d1) h3 g cells hx ?_ t old hg hi hold hc ?_
  · simp [Act.eval, Act.put, Array.getD, hd1]
  · rw [e3]; exact h
end Go
