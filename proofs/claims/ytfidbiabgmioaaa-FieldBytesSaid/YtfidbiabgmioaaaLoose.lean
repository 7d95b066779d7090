import Derived.Test.YtfidbiabgmioaaaTail
import Derived.Orders
import Derived.Test.YtfidbiabgmioaaaPart
/-! A region that draws its order and makes new blocks, walked once, each result known or known by what it reads. -/
set_option maxRecDepth 4000
set_option linter.unusedVariables false
set_option linter.unusedSimpArgs false
namespace Go
open Go.RowKit

/-- What is known of an operation's result: its value, or what holds of it. -/
structure Ent where
  known : Option Value
  rel : Value → World → Prop
def Ent.kn (V : Value) : Ent := ⟨some V, fun _ _ => True⟩
def Ent.lo (R : Value → World → Prop) : Ent := ⟨none, R⟩
def Ent.phi (e : Ent) (v : Value) (w : World) : Prop := match e.known with
  | some V => v = V
  | none => e.rel v w
def Ent.may (e : Ent) (v : Value) : Prop := match e.known with
  | some V => v = V
  | none => True
def Ent.keeps (e : Ent) : Prop := match e.known with
  | some _ => True
  | none => ∀ v w w', e.rel v w → Below w.heap.size w w' → e.rel v w'
def phiOf (es : List Ent) (i : Nat) (v : Value) (w : World) : Prop := match es[i]? with
  | some e => e.phi v w
  | none => True
def mayOf (es : List Ent) (i : Nat) (v : Value) : Prop := match es[i]? with
  | some e => e.may v
  | none => True
def keepsAll : List Ent → Prop
  | [] => True
  | e :: es => e.keeps ∧ keepsAll es
theorem keepsAll_kn {V : Value} {es : List Ent} (h : keepsAll es) : keepsAll (Ent.kn V :: es) := ⟨trivial, h⟩
theorem keepsAll_lo {R : Value → World → Prop} {es : List Ent} (h0 : ∀ v w w', R v w → Below w.heap.size w w' → R v w') (h : keepsAll es) : keepsAll (Ent.lo R :: es) := ⟨h0, h⟩
theorem phiOf_keeps : ∀ (es : List Ent), keepsAll es → ∀ i v w w', phiOf es i v w → Below w.heap.size w w' → phiOf es i v w'
  | [], _, _, _, _, _, h, _ => h
  | e :: es, hk, 0, v, w, w', h, hb => by
    obtain ⟨h1, _⟩ := hk
    unfold phiOf at *
    simp only [List.getElem?_cons_zero] at *
    unfold Ent.phi Ent.keeps at *
    cases hq : e.known with
    | some V => rw [hq] at h; exact h
    | none => rw [hq] at h h1; exact h1 _ _ _ h hb
  | e :: es, hk, i + 1, v, w, w', h, hb => by
    have := phiOf_keeps es hk.2 i v w w'
    unfold phiOf at *
    simp only [List.getElem?_cons_succ] at *
    exact this h hb
theorem may_of_phi (es : List Ent) (i : Nat) (v : Value) (w : World) (h : phiOf es i v w) : mayOf es i v := by
  unfold phiOf at h; unfold mayOf
  cases he : es[i]? with
  | none => trivial
  | some e =>
    rw [he] at h
    simp only at h ⊢
    unfold Ent.phi at h; unfold Ent.may
    cases hV : e.known with
    | none => trivial
    | some V => rw [hV] at h; exact h
theorem may_some (es : List Ent) (i : Nat) : ∃ v, mayOf es i v := by
  unfold mayOf
  split
  · unfold Ent.may
    split
    · exact ⟨_, rfl⟩
    · exact ⟨undef, trivial⟩
  · exact ⟨undef, trivial⟩

def Oper.loose (P : Program) (o : Oper) (a : Act) (w : World) (Φ : Value → World → Prop) : Prop :=
  ∀ K : Act → World → Prop, (∀ v w', Below w.heap.size w w' → Φ v w' → K (a.put o.dst v) w') → o.wp P a w K (fun _ _ _ => False)

/-- The walk in the listed order. -/
def looseL (P : Program) (l0 : List Oper) (es : List Ent) (w0 : World) (n : Nat) (Fin : Act → World → Prop) : Nat → List Oper → Act → Prop
  | _, [], a => ∀ w, Below w0.heap.size w0 w → (∀ (i : Nat) (o : Oper) (d : Nat), i < n → l0[i]? = some o → o.dst = some d → d < a.tmps.size → phiOf es i (a.tmps.getD d undef) w) → Fin a w
  | i, o :: rest, a => ((Region.wanted o (yielded l0.toArray a.tmps) = true ∧ (∀ w, Below w0.heap.size w0 w → (∀ e ∈ o.after, Region.binds .any e = true → ∀ (o' : Oper) (d : Nat), l0[e.on]? = some o' → o'.dst = some d → d < a.tmps.size → phiOf es e.on (a.tmps.getD d undef) w) → o.loose P a w (phiOf es i))) ∨
      (Region.wanted o (yielded l0.toArray a.tmps) = false ∧ ∀ w, phiOf es i undef w)) ∧
    ∀ v, mayOf es i v → looseL P l0 es w0 n Fin (i + 1) rest (a.put o.dst v)

section
variable {P : Program} {l0 : List Oper} {es : List Ent} {w0 : World} {n : Nat} {Fin : Act → World → Prop}

/-- One operation. -/
theorem loose_step {i : Nat} {o : Oper} {rest : List Oper} {a : Act} (hg : o.guard = none)
    (h1 : ∀ w, Below w0.heap.size w0 w → (∀ e ∈ o.after, Region.binds .any e = true → ∀ (o' : Oper) (d : Nat), l0[e.on]? = some o' → o'.dst = some d → d < a.tmps.size → phiOf es e.on (a.tmps.getD d undef) w) → ∀ K : Act → World → Prop, (∀ v w', Below w.heap.size w w' → phiOf es i v w' → K (a.put o.dst v) w') → o.wp P a w K (fun _ _ _ => False))
    (h2 : ∀ v, mayOf es i v → looseL P l0 es w0 n Fin (i + 1) rest (a.put o.dst v)) : looseL P l0 es w0 n Fin i (o :: rest) a := ⟨.inl ⟨by simp [Region.wanted, hg], h1⟩, h2⟩
/-- One operation that is guarded, and wanted. -/
theorem loose_step_on {i : Nat} {o : Oper} {rest : List Oper} {a : Act} (hg : Region.wanted o (yielded l0.toArray a.tmps) = true)
    (h1 : ∀ w, Below w0.heap.size w0 w → (∀ e ∈ o.after, Region.binds .any e = true → ∀ (o' : Oper) (d : Nat), l0[e.on]? = some o' → o'.dst = some d → d < a.tmps.size → phiOf es e.on (a.tmps.getD d undef) w) → ∀ K : Act → World → Prop, (∀ v w', Below w.heap.size w w' → phiOf es i v w' → K (a.put o.dst v) w') → o.wp P a w K (fun _ _ _ => False))
    (h2 : ∀ v, mayOf es i v → looseL P l0 es w0 n Fin (i + 1) rest (a.put o.dst v)) : looseL P l0 es w0 n Fin i (o :: rest) a := ⟨.inl ⟨hg, h1⟩, h2⟩
/-- One operation that is not wanted. -/
theorem loose_step_off {i : Nat} {o : Oper} {rest : List Oper} {a : Act} (hg : Region.wanted o (yielded l0.toArray a.tmps) = false) (h1 : ∀ w, phiOf es i undef w)
    (h2 : ∀ v, mayOf es i v → looseL P l0 es w0 n Fin (i + 1) rest (a.put o.dst v)) : looseL P l0 es w0 n Fin i (o :: rest) a := ⟨.inr ⟨hg, h1⟩, h2⟩

theorem put_out {a : Act} {t : Tmp} (ht : ¬ t < a.tmps.size) (x : Value) : a.put (some t) x = a := by
  have e1 : a.tmps.setIfInBounds t x = a.tmps := Array.ext_getElem? fun k => by
    rw [Array.getElem?_setIfInBounds]
    by_cases hk : t = k
    · subst hk
      rw [if_pos rfl, Array.getElem?_eq_none (Nat.le_of_not_lt ht)]
      first | rfl | exact if_neg ht
    · rw [if_neg hk]
  simp only [Act.put]
  rw [e1]
theorem put_same {a a' : Act} (hs : a.tmps.size = a'.tmps.size) {d : Option Tmp} {v u : Value} (h : a.put d v = a.put d u) : a'.put d v = a'.put d u := by
  cases d with
  | none => rfl
  | some t =>
    by_cases ht : t < a.tmps.size
    · have h1 := congrArg (fun b : Act => b.tmps[t]?) h
      simp [Act.put, ht] at h1
      rw [h1]
    · rw [put_out (fun h => ht (by rw [hs]; exact h)), put_out (fun h => ht (by rw [hs]; exact h))]
theorem loose_moves {o : Oper} {a a' : Act} {w : World} {Φ : Value → World → Prop} {Q : Exit → Act → World → Prop} (hs : a.tmps.size = a'.tmps.size) (he : execOp a.eval o = execOp a'.eval o) (h : o.loose P a w Φ) :
    o.wp P a' w (fun a'' w' => ∃ v, a'' = a'.put o.dst v ∧ Below w.heap.size w w' ∧ Φ v w') Q := by
  have h1 := h (fun a'' w' => ∃ v, a'' = a.put o.dst v ∧ Below w.heap.size w w' ∧ Φ v w') (fun v w' hb hv => ⟨v, rfl, hb, hv⟩)
  unfold Oper.wp at *
  rw [← he]
  generalize (execOp a.eval o).run P w = r at *
  cases r with
  | ok x w' =>
    cases x <;> simp only [Oper.upon] at h1 ⊢
    case value v => obtain ⟨u, e, hb, hu⟩ := h1; exact ⟨u, put_same hs e, hb, hu⟩
    case skip => obtain ⟨u, e, hb, hu⟩ := h1; exact ⟨u, put_same hs e, hb, hu⟩
    case defer d =>
      obtain ⟨u, e, _⟩ := h1
      have := congrArg (fun b : Act => b.defers.length) e
      simp only [Act.putd_defers, List.length_cons] at this
      omega
    case enter f args =>
      refine h1.mono fun e w'' hx => ?_
      cases e with
      | returned v => obtain ⟨u, e, hb, hu⟩ := hx; exact ⟨u, put_same hs e, hb, hu⟩
      | panicked c => exact hx.elim
      | outgrown => obtain ⟨_, _, hf⟩ := hx; exact hf.elim
    case row f args =>
      exact Rows.mono h1 fun v w'' ⟨u, e, hb, hu⟩ => ⟨u, put_same hs e, hb, hu⟩
  | halt x w' => cases x <;> simp only [Oper.upon] at h1

/-- Reading a frame that was put together. -/
theorem putAll_other : ∀ (l : List Oper) (f : Nat → Value) (k : Nat) (a : Act) (d : Nat), (∀ o ∈ l, o.dst ≠ some d) → (putAll l f k a).tmps[d]? = a.tmps[d]?
  | [], _, _, _, _, _ => rfl
  | o :: l, f, k, a, d, h => by
    rw [putAll, putAll_other l f (k + 1) _ d (fun o' ho' => h o' (List.mem_cons_of_mem _ ho')), Act.putd_get_ne _ _ _ _ (h o (by simp))]
theorem putAll_tsize : ∀ (l : List Oper) (f : Nat → Value) (k : Nat) (a : Act), (putAll l f k a).tmps.size = a.tmps.size
  | [], _, _, _ => rfl
  | o :: l, f, k, a => by rw [putAll, putAll_tsize l f (k + 1), Act.putd_size]
theorem putAll_at : ∀ (l : List Oper) (f : Nat → Value) (k : Nat) (a : Act) (j : Nat) (o : Oper) (d : Nat), (l.filterMap (·.dst)).Nodup → l[j]? = some o → o.dst = some d → d < a.tmps.size → (putAll l f k a).tmps[d]? = some (f (k + j)) := by
  intro l
  induction l with
  | nil => intro f k a j o d hn h; simp at h
  | cons o l ih =>
    intro f k a j o' d hn h hd hs
    cases j with
    | zero =>
      simp at h; subst h
      rw [List.filterMap_cons, hd] at hn
      have hnd := (List.nodup_cons.1 hn).1
      rw [putAll, putAll_other l f (k + 1) _ d (fun o' ho' e => hnd (List.mem_filterMap.2 ⟨o', ho', e⟩)), hd, Act.putd_get_eq, if_pos hs]; rfl
    | succ j =>
      have hn' : (l.filterMap (·.dst)).Nodup := by
        rw [List.filterMap_cons] at hn
        split at hn
        · exact hn
        · exact (List.nodup_cons.1 hn).2
      have := ih f (k + 1) (a.put o.dst (f k)) j o' d hn' (by simpa using h) hd (by rw [Act.putd_size]; exact hs)
      rw [putAll, this, show k + 1 + j = k + (j + 1) by omega]
theorem putAll_congr {f g : Nat → Value} : ∀ (l : List Oper) (k : Nat) (a : Act), (∀ (j : Nat) (o : Oper) (d : Nat), l[j]? = some o → o.dst = some d → d < a.tmps.size → f (k + j) = g (k + j)) → putAll l f k a = putAll l g k a := by
  intro l
  induction l with
  | nil => intro k a _; rfl
  | cons o l ih =>
    intro k a h
    have h0 : a.put o.dst (f k) = a.put o.dst (g k) := by
      cases hd : o.dst with
      | none => rfl
      | some d =>
        by_cases hs : d < a.tmps.size
        · have e : f k = g k := h 0 o d (by simp) hd hs
          rw [e]
        · rw [put_out hs, put_out hs]
    rw [putAll, putAll, h0]
    exact ih (k + 1) _ fun j o' d hj hd hs => by
      have := h (j + 1) o' d (by simpa using hj) hd (by rw [Act.putd_size] at hs; exact hs)
      rw [show k + 1 + j = k + (j + 1) by omega]; exact this

theorem looseL_at (f : Nat → Value) : ∀ (l : List Oper) (k : Nat) (a : Act), looseL P l0 es w0 n Fin k l a → ∀ i, i ≤ l.length → (∀ j, j < i → mayOf es (k + j) (f (k + j))) →
    looseL P l0 es w0 n Fin (k + i) (l.drop i) (putAll (l.take i) f k a)
  | l, k, a, h, 0, _, _ => by simpa [putAll] using h
  | [], k, a, h, i + 1, hi, _ => by simp at hi
  | o :: l, k, a, h, i + 1, hi, hf => by
    have h1 := h.2 (f k) (hf 0 (by omega))
    have := looseL_at f l (k + 1) _ h1 i (by simpa using hi) (fun j hj => by have := hf (j + 1) (by omega); rw [show k + 1 + j = k + (j + 1) by omega]; exact this)
    rw [show k + (i + 1) = k + 1 + i by omega]
    simpa [putAll] using this

/-- Each operand that the region writes stands in 'after'. -/
def leansB (l : List Oper) (n : Nat) : Bool :=
  (l.take n).all fun o => (o.op.operands.toList.all fun x => match x with
    | .tmp t => l.zipIdx.all fun (o', j) => !(o'.dst == some t) || o.after.any fun e => e.on == j && Region.binds .any e
    | _ => true) && (match o.guard with
    | some (j, _) => o.after.any fun e => e.on == j && Region.binds .any e
    | none => true)
def looseB (l : List Oper) (n : Nat) : Bool := leansB l n && Region.noSelect l.toArray

theorem loose_each {a0 : Act} {l : List Oper} (hB : looseB l n = true) (hS : specB l = true) (hn : n ≤ l.length) (hL : looseL P l es w0 n Fin 0 (l.take n) a0) (i : Nat) (o : Oper) (hi : i < n) (ho : l[i]? = some o) (a : Act) (w : World)
    (h : Leans l (phiOf es) w0 a0 o a w) {Q : Exit → Act → World → Prop} :
    if Region.wanted o (yielded l.toArray a.tmps) then o.wp P a w (fun a' w' => ∃ v, a' = a.put o.dst v ∧ Below w.heap.size w w' ∧ phiOf es i v w') Q else phiOf es i undef w := by
  simp only [looseB, leansB, Bool.and_eq_true, List.all_eq_true] at hB
  obtain ⟨hB, hsel⟩ := hB
  have hS' := hS
  simp only [specB, Bool.and_eq_true, decide_eq_true_eq] at hS
  obtain ⟨hS, hnd⟩ := hS
  have back : ∀ e ∈ o.after, Region.binds .any e = true → e.on < i := fun e he hb => by
    have h1 := (List.all_eq_true.1 hS) (o, i) (by rw [List.mem_zipIdx_iff_getElem?]; exact ho)
    simp only [Array.all_eq_true_iff_forall_mem] at h1
    have h2 := h1 e he
    rw [hb] at h2
    simpa using h2
  let Dep : Nat → Prop := fun j => ∃ e ∈ o.after, e.on = j ∧ Region.binds .any e = true ∧ ∃ o' d, l[j]? = some o' ∧ o'.dst = some d ∧ d < a0.tmps.size
  have depV : ∀ j, Dep j → ∃ v, mayOf es j v ∧ ∀ o' d, l[j]? = some o' → o'.dst = some d → v = a.tmps.getD d undef := by
    rintro j ⟨e, he, rfl, hb, o', d, h1, h2, h3⟩
    refine ⟨a.tmps.getD d undef, may_of_phi _ _ _ w (h.made e he hb o' d h1 h2 h3), fun o2 d2 g1 g2 => ?_⟩
    rw [h1] at g1; cases g1; rw [h2] at g2; cases g2; rfl
  have ex : ∀ j, ∃ v, mayOf es j v ∧ (Dep j → ∀ o' d, l[j]? = some o' → o'.dst = some d → v = a.tmps.getD d undef) := fun j => by
    by_cases hd : Dep j
    · obtain ⟨v, h1, h2⟩ := depV j hd; exact ⟨v, h1, fun _ => h2⟩
    · obtain ⟨v, h1⟩ := may_some es j; exact ⟨v, h1, fun hx => absurd hx hd⟩
  let f : Nat → Value := fun j => Classical.choose (ex j)
  have f1 : ∀ j, mayOf es j (f j) := fun j => (Classical.choose_spec (ex j)).1
  have f2 : ∀ j, Dep j → ∀ o' d, l[j]? = some o' → o'.dst = some d → f j = a.tmps.getD d undef := fun j => (Classical.choose_spec (ex j)).2
  have hlt : (l.take n).length = n := by rw [List.length_take]; omega
  have h1 := looseL_at f (l.take n) 0 a0 hL i (by omega) (fun j _ => by rw [Nat.zero_add]; exact f1 j)
  have ho2 : (l.take n)[i]? = some o := by rw [List.getElem?_take, if_pos hi]; exact ho
  have hd : (l.take n).drop i = o :: (l.take n).drop (i + 1) := by
    have hi2 : i < (l.take n).length := by omega
    rw [List.drop_eq_getElem_cons hi2]
    rw [List.getElem?_eq_getElem hi2] at ho2
    rw [Option.some.inj ho2]
  rw [hd, Nat.zero_add, List.take_take, Nat.min_eq_left (Nat.le_of_lt hi)] at h1
  obtain ⟨h1, _⟩ := h1
  have hts : (putAll (l.take i) f 0 a0).tmps.size = a0.tmps.size := putAll_tsize _ _ _ _
  have hndi : ((l.take i).filterMap (·.dst)).Nodup := by
    have e : l.filterMap (·.dst) = (l.take i).filterMap (·.dst) ++ (l.drop i).filterMap (·.dst) := by rw [← List.filterMap_append, List.take_append_drop]
    rw [e] at hnd
    exact (List.nodup_append.1 hnd).1
  have key : ∀ (j : Nat) (o' : Oper) (d : Nat), Dep j → j < i → l[j]? = some o' → o'.dst = some d → d < a0.tmps.size → (putAll (l.take i) f 0 a0).tmps.getD d undef = a.tmps.getD d undef := fun j o' d hdep hj g1 g2 g3 => by
    have := putAll_at (l.take i) f 0 a0 j o' d hndi (by rw [List.getElem?_take, if_pos hj]; exact g1) g2 g3
    rw [Array.getD_eq_getD_getElem?, this, Nat.zero_add, f2 j hdep o' d g1 g2]; rfl
  have hB2 := hB o (List.mem_of_getElem? ho2)
  have hwant : Region.wanted o (yielded l.toArray (putAll (l.take i) f 0 a0).tmps) = Region.wanted o (yielded l.toArray a.tmps) := by
    unfold Region.wanted
    cases hgd : o.guard with
    | none => rfl
    | some gw =>
      obtain ⟨g, want⟩ := gw
      have h3 := hB2.2
      rw [hgd] at h3
      simp only [Array.any_eq_true, Bool.and_eq_true, beq_iff_eq] at h3
      obtain ⟨q, hq, he3, hb⟩ := h3
      have he : o.after[q] ∈ o.after := Array.getElem_mem hq
      obtain ⟨e, hqe⟩ : ∃ e, e = o.after[q] := ⟨_, rfl⟩
      rw [← hqe] at he3 hb he
      subst he3
      have hy : yielded l.toArray (putAll (l.take i) f 0 a0).tmps e.on = yielded l.toArray a.tmps e.on := by
        unfold yielded
        rw [List.getElem?_toArray]
        cases hoe : l[e.on]? with
        | none => rfl
        | some oe =>
          simp only [Option.bind_some]
          cases hde : oe.dst with
          | none => rfl
          | some d =>
            simp only [Option.bind_some]
            have hdd : (putAll (l.take i) f 0 a0).tmps[d]? = a.tmps[d]? := by
              by_cases hds : d < a0.tmps.size
              · have hk := key e.on oe d ⟨e, he, rfl, hb, oe, d, hoe, hde, hds⟩ (back e he hb) hoe hde hds
                rw [Array.getD_eq_getD_getElem?, Array.getD_eq_getD_getElem?] at hk
                have l1 : d < (putAll (l.take i) f 0 a0).tmps.size := by rw [hts]; exact hds
                have l2 : d < a.tmps.size := by rw [h.tsize]; exact hds
                rw [Array.getElem?_eq_getElem l1, Array.getElem?_eq_getElem l2] at hk ⊢
                simpa using hk
              · rw [Array.getElem?_eq_none (by rw [hts]; exact Nat.le_of_not_lt hds), Array.getElem?_eq_none (by rw [h.tsize]; exact Nat.le_of_not_lt hds)]
            rw [hdd]
      simp only [hy]
  rw [← hwant]
  rcases h1 with ⟨hw1, h1⟩ | ⟨hw1, h1⟩
  case inr => rw [if_neg (by rw [hw1]; decide)]; exact h1 w
  rw [if_pos hw1]
  refine loose_moves (by rw [hts, h.tsize]) (execOp_congr o (fun cs b => Region.noSelect_spec hsel i o cs b (by simpa using ho)) fun x hx => ?_) (h1 w h.below fun e he hb o' d g1 g2 g3 => ?_)
  · cases x with
    | tmp t =>
      show (putAll (l.take i) f 0 a0).tmps.getD t undef = a.tmps.getD t undef
      have hx2 := hB2.1 (.tmp t) (by simpa using hx)
      simp only [List.all_eq_true] at hx2
      by_cases hw : ∃ o' ∈ l, o'.dst = some t
      · obtain ⟨o', hm, hd'⟩ := hw
        obtain ⟨j, hj⟩ := List.mem_iff_getElem?.1 hm
        have h3 := hx2 (o', j) (by rw [List.mem_zipIdx_iff_getElem?]; exact hj)
        simp only [hd', beq_self_eq_true, Bool.not_true, Bool.false_or, Array.any_eq_true, Bool.and_eq_true, beq_iff_eq] at h3
        obtain ⟨q, hq, he3, hb⟩ := h3
        have he : o.after[q] ∈ o.after := Array.getElem_mem hq
        obtain ⟨e, hqe⟩ : ∃ e, e = o.after[q] := ⟨_, rfl⟩
        rw [← hqe] at he3 hb he
        subst he3
        by_cases hts2 : t < a0.tmps.size
        · exact key e.on o' t ⟨e, he, rfl, hb, o', t, hj, hd', hts2⟩ (back e he hb) hj hd' hts2
        · rw [Array.getD_eq_getD_getElem?, Array.getD_eq_getD_getElem?, Array.getElem?_eq_none (by rw [hts]; exact Nat.le_of_not_lt hts2), Array.getElem?_eq_none (by rw [h.tsize]; exact Nat.le_of_not_lt hts2)]
      · have hn1 : ∀ o' ∈ l, o'.dst ≠ some t := fun o' hm e => hw ⟨o', hm, e⟩
        rw [Array.getD_eq_getD_getElem?, Array.getD_eq_getD_getElem?, h.same t hn1, putAll_other _ _ _ _ _ fun o' hm => hn1 o' (List.mem_of_mem_take hm)]
    | _ => rfl
  · rw [hts] at g3
    rw [key e.on o' d ⟨e, he, rfl, hb, o', d, g1, g2, g3⟩ (back e he hb) g1 g2 g3]
    exact h.made e he hb o' d g1 g2 g3

open Classical in
theorem loose_fin {a0 : Act} {l : List Oper} (hS : specB l = true) (hn : n ≤ l.length) (hL : looseL P l es w0 n Fin 0 (l.take n) a0) (f : Nat → Value) (w : World) (hb : Below w0.heap.size w0 w)
    (hf : ∀ (i : Nat) (o : Oper) (d : Nat), i < n → l[i]? = some o → o.dst = some d → d < a0.tmps.size → phiOf es i (f i) w) : Fin (putAll (l.take n) f 0 a0) w := by
  simp only [specB, Bool.and_eq_true, decide_eq_true_eq] at hS
  obtain ⟨hS, hnd⟩ := hS
  have hndn : ((l.take n).filterMap (·.dst)).Nodup := by
    have e : l.filterMap (·.dst) = (l.take n).filterMap (·.dst) ++ (l.drop n).filterMap (·.dst) := by rw [← List.filterMap_append, List.take_append_drop]
    rw [e] at hnd
    exact (List.nodup_append.1 hnd).1
  -- what is not read at all may be taken as if it were known
  let g : Nat → Value := fun j => if j < n ∧ ∃ o d, l[j]? = some o ∧ o.dst = some d ∧ d < a0.tmps.size then f j else Classical.choose (may_some es j)
  have hlt : (l.take n).length = n := by rw [List.length_take]; omega
  have gf : putAll (l.take n) g 0 a0 = putAll (l.take n) f 0 a0 := by
    refine putAll_congr _ _ _ fun j o d hj hd hs => ?_
    have hjn : j < n := by
      rcases Nat.lt_or_ge j n with h1 | h1
      · exact h1
      · rw [List.getElem?_eq_none (by omega)] at hj; cases hj
    rw [List.getElem?_take, if_pos hjn] at hj
    rw [Nat.zero_add]
    show (if _ then _ else _) = _
    rw [if_pos ⟨hjn, o, d, hj, hd, hs⟩]
  have hg : ∀ j, mayOf es j (g j) := fun j => by
    show mayOf es j (if _ then _ else _)
    split
    · rename_i hc; obtain ⟨h1, o, d, h2, h3, h4⟩ := hc; exact may_of_phi _ _ _ w (hf j o d h1 h2 h3 h4)
    · exact Classical.choose_spec (may_some es j)
  have h1 := looseL_at g (l.take n) 0 a0 hL n (by omega) (fun j _ => by rw [Nat.zero_add]; exact hg j)
  rw [List.drop_eq_nil_of_le (by omega), List.take_of_length_le (by omega), gf] at h1
  refine h1 w hb fun i o d hi ho hd hs => ?_
  rw [putAll_tsize] at hs
  have := putAll_at (l.take n) f 0 a0 i o d hndn (by rw [List.getElem?_take, if_pos hi]; exact ho) hd hs
  rw [Array.getD_eq_getD_getElem?, this, Nat.zero_add]
  exact hf i o d hi ho hd hs

/-- **n operations in whatever order, each result by what is known of it; then the others, in theirs.** -/
theorem wp_region_loose_tail {id : Nat} {Q : Exit → Act → World → Prop} {a0 : Act} {l : List Oper} (n : Nat) (es : List Ent) (hm : P.follows .mixedOrders = true) (hB : looseB l n = true) (hS : specTailB l n = true) (hk : keepsAll es)
    (h : looseL P l es w0 n (wpList P l.toArray Q (l.drop n)) 0 (l.take n) a0) : (Code.region id l.toArray true).wp P Q a0 w0 := by
  have hS2 := hS
  simp only [specTailB, Bool.and_eq_true, decide_eq_true_eq] at hS2
  have hn : n ≤ l.length := Nat.le_of_lt hS2.1.1.1.2
  exact wp_region_spec_tail n hm (phiOf es) hS (phiOf_keeps es hk) (fun i o hi ho a w hl => loose_each hB hS2.1.1.1.1 hn h i o hi ho a w hl) (fun f w hb hf => loose_fin hS2.1.1.1.1 hn h f w hb hf)
/-- All of them. -/
theorem wp_region_loose {id : Nat} {Q : Exit → Act → World → Prop} {a0 : Act} {l : List Oper} (es : List Ent) (hm : P.follows .mixedOrders = true) (hB : looseB l l.length = true) (hS : specB l = true) (hk : keepsAll es)
    (h : looseL P l es w0 l.length (fun a w => Q .normal a w) 0 l a0) : (Code.region id l.toArray true).wp P Q a0 w0 := by
  have h' : looseL P l es w0 l.length (fun a w => Q .normal a w) 0 (l.take l.length) a0 := by rw [List.take_length]; exact h
  refine wp_region_spec hm (phiOf es) hS (phiOf_keeps es hk) (fun i o ho a w hl => ?_) (fun f w hb hf => ?_)
  · have hi : i < l.length := by
      rcases Nat.lt_or_ge i l.length with h1 | h1
      · exact h1
      · rw [List.getElem?_eq_none h1] at ho; cases ho
    exact loose_each hB hS (Nat.le_refl _) h' i o hi ho a w hl
  · have := loose_fin hS (Nat.le_refl _) h' f w hb (fun i o d _ h1 h2 h3 => hf i o d h1 h2 h3)
    rw [List.take_length] at this
    exact this
end
end Go
namespace Go
open Go.RowKit
theorem wp_load_block {P : Program} {o : Oper} {a : Act} {w : World} {K : Act → World → Prop} {Q : Exit → Act → World → Prop} (ty : TypeId) (x : Operand) (ho : o.op = .load ty x) (g : Nat) (hx : a.eval x = .pointer (some ⟨g, 0, none⟩))
    (t : TypeId) (cs : Array Value) (fr : Nat × Nat) {d : TypeDesc} (hg : w.heap[g]? = some (.cells cs t fr)) (hu : P.underlying ty = some d) (hd : (match d with | .struct _ | .array _ _ => true | _ => false) = true) (hi : (P.info? ty).map (·.size) = some cs.size)
    (h : K (a.put o.dst (.agg cs)) w) : o.wp P a w K Q := by
  unfold Oper.wp
  rw [run_load_part ty x ho g 0 hx t cs cs fr d hg (fun j v hv => by rw [Nat.zero_add]; exact hv) hu hd hi]
  exact h
end Go
