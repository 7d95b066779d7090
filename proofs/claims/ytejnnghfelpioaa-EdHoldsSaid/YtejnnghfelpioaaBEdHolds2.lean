import Derived.Orders
import Derived.Test.YtejnnghfelpioaaBEdHolds1
set_option maxRecDepth 4000
set_option linter.unusedVariables false
set_option linter.unusedSimpArgs false
namespace Go
open Go.RowKit
structure Ent where
  known : Option Value
  rel : Value → World → Prop
def Ent.kn (V : Value) : Ent := ⟨some V, fun _ _ => True⟩
def Ent.lo (R : Value → World → Prop) : Ent := ⟨none, R⟩
def Ent.phi (e : Ent) (v : Value) (w : World) : Prop := match e.known with
  | some V => v = V
  | none => e.rel v w
def Ent.may (e : Ent) (v : Value) : Prop := match e.known with
  | some V => v = V
  | none => True
def Ent.keeps (e : Ent) : Prop := match e.known with
  | some _ => True
  | none => ∀ v w w', e.rel v w → Below w.heap.size w w' → e.rel v w'
def phiOf (es : List Ent) (i : Nat) (v : Value) (w : World) : Prop := match es[i]? with
  | some e => e.phi v w
  | none => True
def mayOf (es : List Ent) (i : Nat) (v : Value) : Prop := match es[i]? with
  | some e => e.may v
  | none => True
def keepsAll : List Ent → Prop
  | [] => True
  | e :: es => e.keeps ∧ keepsAll es
theorem keepsAll_kn {V : Value} {es : List Ent} (h : keepsAll es) : keepsAll (Ent.kn V :: es) := ⟨trivial, h⟩
theorem keepsAll_lo {R : Value → World → Prop} {es : List Ent} (h0 : ∀ v w w', R v w → Below w.heap.size w w' → R v w') (h : keepsAll es) : keepsAll (Ent.lo R :: es) := ⟨h0, h⟩
theorem phiOf_keeps : ∀ (es : List Ent), keepsAll es → ∀ i v w w', phiOf es i v w → Below w.heap.size w w' → phiOf es i v w'
  | [], _, _, _, _, _, h, _ => h
  | e :: es, hk, 0, v, w, w', h, hb => by
    obtain ⟨h1, _⟩ := hk
    unfold phiOf at *
    simp only [List.getElem?_cons_zero] at *
    unfold Ent.phi Ent.keeps at *
    cases hq : e.known with
    | some V => rw [hq] at h; exact h
    | none => rw [hq] at h h1; exact h1 _ _ _ h hb
  | e :: es, hk, i + 1, v, w, w', h, hb => by
    have := phiOf_keeps es hk.2 i v w w'
    unfold phiOf at *
    simp only [List.getElem?_cons_succ] at *
    exact this h hb
theorem may_of_phi (es : List Ent) (i : Nat) (v : Value) (w : World) (h : phiOf es i v w) : mayOf es i v := by
  unfold phiOf at h; unfold mayOf
  cases he : es[i]? with
  | none => trivial
  | some e =>
    rw [he] at h
    simp only at h ⊢
    unfold Ent.phi at h; unfold Ent.may
    cases hV : e.known with
    | none => trivial
    | some V => rw [hV] at h; exact h
theorem may_some (es : List Ent) (i : Nat) : ∃ v, mayOf es i v := by
  unfold mayOf
  split
  · unfold Ent.may
    split
    · exact ⟨_, rfl⟩
    · exact ⟨undef, trivial⟩
  · exact ⟨undef, trivial⟩
def Oper.loose (P : Program) (o : Oper) (a : Act) (w : World) (Φ : Value → World → Prop) : Prop :=
  ∀ K : Act → World → Prop, (∀ v w', Below w.heap.size w w' → Φ v w' → K (a.put o.dst v) w') → o.wp P a w K (fun _ _ _ => False)
def looseL (P : Program) (l0 : List Oper) (es : List Ent) (w0 : World) (n : Nat) (Fin : Act → World → Prop) : Nat → List Oper → Act → Prop
  | _, [], a => ∀ w, Below w0.heap.size w0 w → (∀ (i : Nat) (o : Oper) (d : Nat), i < n → l0[i]? = some o → o.dst = some d → d < a.tmps.size → phiOf es i (a.tmps.getD d undef) w) → Fin a w
  | i, o :: rest, a => ((Region.wanted o (yielded l0.toArray a.tmps) = true ∧ (∀ w, Below w0.heap.size w0 w → (∀ e ∈ o.after, Region.binds .any e = true → ∀ (o' : Oper) (d : Nat), l0[e.on]? = some o' → o'.dst = some d → d < a.tmps.size → phiOf es e.on (a.tmps.getD d undef) w) → o.loose P a w (phiOf es i))) ∨
      (Region.wanted o (yielded l0.toArray a.tmps) = false ∧ ∀ w, phiOf es i undef w)) ∧
    ∀ v, mayOf es i v → looseL P l0 es w0 n Fin (i + 1) rest (a.put o.dst v)
section
variable {P : Program} {l0 : List Oper} {es : List Ent} {w0 : World} {n : Nat} {Fin : Act → World → Prop}
theorem loose_step {i : Nat} {o : Oper} {rest : List Oper} {a : Act} (hg : o.guard = none)
    (h1 : ∀ w, Below w0.heap.size w0 w → (∀ e ∈ o.after, Region.binds .any e = true → ∀ (o' : Oper) (d : Nat), l0[e.on]? = some o' → o'.dst = some d → d < a.tmps.size → phiOf es e.on (a.tmps.getD d undef) w) → ∀ K : Act → World → Prop, (∀ v w', Below w.heap.size w w' → phiOf es i v w' → K (a.put o.dst v) w') → o.wp P a w K (fun _ _ _ => False))
    (h2 : ∀ v, mayOf es i v → looseL P l0 es w0 n Fin (i + 1) rest (a.put o.dst v)) : looseL P l0 es w0 n Fin i (o :: rest) a := ⟨.inl ⟨by simp [Region.wanted, hg], h1⟩, h2⟩
theorem loose_step_on {i : Nat} {o : Oper} {rest : List Oper} {a : Act} (hg : Region.wanted o (yielded l0.toArray a.tmps) = true)
    (h1 : ∀ w, Below w0.heap.size w0 w → (∀ e ∈ o.after, Region.binds .any e = true → ∀ (o' : Oper) (d : Nat), l0[e.on]? = some o' → o'.dst = some d → d < a.tmps.size → phiOf es e.on (a.tmps.getD d undef) w) → ∀ K : Act → World → Prop, (∀ v w', Below w.heap.size w w' → phiOf es i v w' → K (a.put o.dst v) w') → o.wp P a w K (fun _ _ _ => False))
    (h2 : ∀ v, mayOf es i v → looseL P l0 es w0 n Fin (i + 1) rest (a.put o.dst v)) : looseL P l0 es w0 n Fin i (o :: rest) a := ⟨.inl ⟨hg, h1⟩, h2⟩
theorem put_out {a : Act} {t : Tmp} (ht : ¬ t < a.tmps.size) (x : Value) : a.put (some t) x = a := by
  have e1 : a.tmps.setIfInBounds t x = a.tmps := Array.ext_getElem? fun k => by
    rw [Array.getElem?_setIfInBounds]
    by_cases hk : t = k
    · subst hk
      rw [if_pos rfl, Array.getElem?_eq_none (Nat.le_of_not_lt ht)]
      first | rfl | exact if_neg ht
    · rw [if_neg hk]
  simp only [Act.put]
  rw [e1]
theorem put_same {a a' : Act} (hs : a.tmps.size = a'.tmps.size) {d : Option Tmp} {v u : Value} (h : a.put d v = a.put d u) : a'.put d v = a'.put d u := by
  cases d with
  | none => rfl
  | some t =>
    by_cases ht : t < a.tmps.size
    · have h1 := congrArg (fun b : Act => b.tmps[t]?) h
      simp [Act.put, ht] at h1
      rw [h1]
    · rw [put_out (fun h => ht (by rw [hs]; exact h)), put_out (fun h => ht (by rw [hs]; exact h))]
theorem loose_moves {o : Oper} {a a' : Act} {w : World} {Φ : Value → World → Prop} {Q : Exit → Act → World → Prop} (hs : a.tmps.size = a'.tmps.size) (he : execOp a.eval o = execOp a'.eval o) (h : o.loose P a w Φ) :
    o.wp P a' w (fun a'' w' => ∃ v, a'' = a'.put o.dst v ∧ Below w.heap.size w w' ∧ Φ v w') Q := by
  have h1 := h (fun a'' w' => ∃ v, a'' = a.put o.dst v ∧ Below w.heap.size w w' ∧ Φ v w') (fun v w' hb hv => ⟨v, rfl, hb, hv⟩)
  unfold Oper.wp at *
  rw [← he]
  generalize (execOp a.eval o).run P w = r at *
  cases r with
  | ok x w' =>
    cases x <;> simp only [Oper.upon] at h1 ⊢
    case value v => obtain ⟨u, e, hb, hu⟩ := h1; exact ⟨u, put_same hs e, hb, hu⟩
    case skip => obtain ⟨u, e, hb, hu⟩ := h1; exact ⟨u, put_same hs e, hb, hu⟩
    case defer d =>
      obtain ⟨u, e, _⟩ := h1
      have := congrArg (fun b : Act => b.defers.length) e
      simp only [Act.putd_defers, List.length_cons] at this
      omega
    case enter f args =>
      refine h1.mono fun e w'' hx => ?_
      cases e with
      | returned v => obtain ⟨u, e, hb, hu⟩ := hx; exact ⟨u, put_same hs e, hb, hu⟩
      | panicked c => exact hx.elim
      | outgrown => obtain ⟨_, _, hf⟩ := hx; exact hf.elim
    case row f args =>
      exact Rows.mono h1 fun v w'' ⟨u, e, hb, hu⟩ => ⟨u, put_same hs e, hb, hu⟩
  | halt x w' => cases x <;> simp only [Oper.upon] at h1
theorem putAll_other : ∀ (l : List Oper) (f : Nat → Value) (k : Nat) (a : Act) (d : Nat), (∀ o ∈ l, o.dst ≠ some d) → (putAll l f k a).tmps[d]? = a.tmps[d]?
  | [], _, _, _, _, _ => rfl
  | o :: l, f, k, a, d, h => by
    rw [putAll, putAll_other l f (k + 1) _ d (fun o' ho' => h o' (List.mem_cons_of_mem _ ho')), Act.putd_get_ne _ _ _ _ (h o (by simp))]
theorem putAll_tsize : ∀ (l : List Oper) (f : Nat → Value) (k : Nat) (a : Act), (putAll l f k a).tmps.size = a.tmps.size
  | [], _, _, _ => rfl
  | o :: l, f, k, a => by rw [putAll, putAll_tsize l f (k + 1), Act.putd_size]
theorem putAll_at : ∀ (l : List Oper) (f : Nat → Value) (k : Nat) (a : Act) (j : Nat) (o : Oper) (d : Nat), (l.filterMap (·.dst)).Nodup → l[j]? = some o → o.dst = some d → d < a.tmps.size → (putAll l f k a).tmps[d]? = some (f (k + j)) := by
  intro l
  induction l with
  | nil => intro f k a j o d hn h; simp at h
  | cons o l ih =>
    intro f k a j o' d hn h hd hs
    cases j with
    | zero =>
      simp at h; subst h
      rw [List.filterMap_cons, hd] at hn
      have hnd := (List.nodup_cons.1 hn).1
      rw [putAll, putAll_other l f (k + 1) _ d (fun o' ho' e => hnd (List.mem_filterMap.2 ⟨o', ho', e⟩)), hd, Act.putd_get_eq, if_pos hs]; rfl
    | succ j =>
      have hn' : (l.filterMap (·.dst)).Nodup := by
        rw [List.filterMap_cons] at hn
        split at hn
        · exact hn
        · exact (List.nodup_cons.1 hn).2
      have := ih f (k + 1) (a.put o.dst (f k)) j o' d hn' (by simpa using h) hd (by rw [Act.putd_size]; exact hs)
      rw [putAll, this, show k + 1 + j = k + (j + 1) by omega]
theorem putAll_congr {f g : Nat → Value} : ∀ (l : List Oper) (k : Nat) (a : Act), (∀ (j : Nat) (o : Oper) (d : Nat), l[j]? = some o → o.dst = some d → d < a.tmps.size → f (k + j) = g (k + j)) → putAll l f k a = putAll l g k a := by
  intro l
  induction l with
  | nil => intro k a _; rfl
  | cons o l ih =>
    intro k a h
    have h0 : a.put o.dst (f k) = a.put o.dst (g k) := by
      cases hd : o.dst with
      | none => rfl
      | some d =>
        by_cases hs : d < a.tmps.size
        · have e : f k = g k := h 0 o d (by simp) hd hs
          rw [e]
        · rw [put_out hs, put_out hs]
    rw [putAll, putAll, h0]
    exact ih (k + 1) _ fun j o' d hj hd hs => by
      have := h (j + 1) o' d (by simpa using hj) hd (by rw [Act.putd_size] at hs; exact hs)
      rw [show k + 1 + j = k + (j + 1) by omega]; exact this
theorem looseL_at (f : Nat → Value) : ∀ (l : List Oper) (k : Nat) (a : Act), looseL P l0 es w0 n Fin k l a → ∀ i, i ≤ l.length → (∀ j, j < i → mayOf es (k + j) (f (k + j))) →
    looseL P l0 es w0 n Fin (k + i) (l.drop i) (putAll (l.take i) f k a)
  | l, k, a, h, 0, _, _ => by simpa [putAll] using h
  | [], k, a, h, i + 1, hi, _ => by simp at hi
  | o :: l, k, a, h, i + 1, hi, hf => by
    have h1 := h.2 (f k) (hf 0 (by omega))
    have := looseL_at f l (k + 1) _ h1 i (by simpa using hi) (fun j hj => by have := hf (j + 1) (by omega); rw [show k + 1 + j = k + (j + 1) by omega]; exact this)
    rw [show k + (i + 1) = k + 1 + i by omega]
    simpa [putAll] using this
def leansB (l : List Oper) (n : Nat) : Bool :=
  (l.take n).all fun o => (o.op.operands.toList.all fun x => match x with
    | .tmp t => l.zipIdx.all fun (o', j) => !(o'.dst == some t) || o.after.any fun e => e.on == j && Region.binds .any e
    | _ => true) && (match o.guard with
    | some (j, _) => o.after.any fun e => e.on == j && Region.binds .any e
    | none => true)
def looseB (l : List Oper) (n : Nat) : Bool := leansB l n && Region.noSelect l.toArray
theorem loose_each {a0 : Act} {l : List Oper} (hB : looseB l n = true) (hS : specB l = true) (hn : n ≤ l.length) (hL : looseL P l es w0 n Fin 0 (l.take n) a0) (i : Nat) (o : Oper) (hi : i < n) (ho : l[i]? = some o) (a : Act) (w : World)
    (h : Leans l (phiOf es) w0 a0 o a w) {Q : Exit → Act → World → Prop} :
    if Region.wanted o (yielded l.toArray a.tmps) then o.wp P a w (fun a' w' => ∃ v, a' = a.put o.dst v ∧ Below w.heap.size w w' ∧ phiOf es i v w') Q else phiOf es i undef w := by
  simp only [looseB, leansB, Bool.and_eq_true, List.all_eq_true] at hB
  obtain ⟨hB, hsel⟩ := hB
  have hS' := hS
  simp only [specB, Bool.and_eq_true, decide_eq_true_eq] at hS
  obtain ⟨hS, hnd⟩ := hS
  have back : ∀ e ∈ o.after, Region.binds .any e = true → e.on < i := fun e he hb => by
    have h1 := (List.all_eq_true.1 hS) (o, i) (by rw [List.mem_zipIdx_iff_getElem?]; exact ho)
    simp only [Array.all_eq_true_iff_forall_mem] at h1
    have h2 := h1 e he
    rw [hb] at h2
    simpa using h2
  let Dep : Nat → Prop := fun j => ∃ e ∈ o.after, e.on = j ∧ Region.binds .any e = true ∧ ∃ o' d, l[j]? = some o' ∧ o'.dst = some d ∧ d < a0.tmps.size
  have depV : ∀ j, Dep j → ∃ v, mayOf es j v ∧ ∀ o' d, l[j]? = some o' → o'.dst = some d → v = a.tmps.getD d undef := by
    rintro j ⟨e, he, rfl, hb, o', d, h1, h2, h3⟩
    refine ⟨a.tmps.getD d undef, may_of_phi _ _ _ w (h.made e he hb o' d h1 h2 h3), fun o2 d2 g1 g2 => ?_⟩
    rw [h1] at g1; cases g1; rw [h2] at g2; cases g2; rfl
  have ex : ∀ j, ∃ v, mayOf es j v ∧ (Dep j → ∀ o' d, l[j]? = some o' → o'.dst = some d → v = a.tmps.getD d undef) := fun j => by
    by_cases hd : Dep j
    · obtain ⟨v, h1, h2⟩ := depV j hd; exact ⟨v, h1, fun _ => h2⟩
    · obtain ⟨v, h1⟩ := may_some es j; exact ⟨v, h1, fun hx => absurd hx hd⟩
  let f : Nat → Value := fun j => Classical.choose (ex j)
  have f1 : ∀ j, mayOf es j (f j) := fun j => (Classical.choose_spec (ex j)).1
  have f2 : ∀ j, Dep j → ∀ o' d, l[j]? = some o' → o'.dst = some d → f j = a.tmps.getD d undef := fun j => (Classical.choose_spec (ex j)).2
  have hlt : (l.take n).length = n := by rw [List.length_take]; omega
  have h1 := looseL_at f (l.take n) 0 a0 hL i (by omega) (fun j _ => by rw [Nat.zero_add]; exact f1 j)
  have ho2 : (l.take n)[i]? = some o := by rw [List.getElem?_take, if_pos hi]; exact ho
  have hd : (l.take n).drop i = o :: (l.take n).drop (i + 1) := by
    have hi2 : i < (l.take n).length := by omega
    rw [List.drop_eq_getElem_cons hi2]
    rw [List.getElem?_eq_getElem hi2] at ho2
    rw [Option.some.inj ho2]
  rw [hd, Nat.zero_add, List.take_take, Nat.min_eq_left (Nat.le_of_lt hi)] at h1
  obtain ⟨h1, _⟩ := h1
  have hts : (putAll (l.take i) f 0 a0).tmps.size = a0.tmps.size := putAll_tsize _ _ _ _
  have hndi : ((l.take i).filterMap (·.dst)).Nodup := by
    have e : l.filterMap (·.dst) = (l.take i).filterMap (·.dst) ++ (l.drop i).filterMap (·.dst) := by rw [← List.filterMap_append, List.take_append_drop]
    rw [e] at hnd
    exact (List.nodup_append.1 hnd).1
  have key : ∀ (j : Nat) (o' : Oper) (d : Nat), Dep j → j < i → l[j]? = some o' → o'.dst = some d → d < a0.tmps.size → (putAll (l.take i) f 0 a0).tmps.getD d undef = a.tmps.getD d undef := fun j o' d hdep hj g1 g2 g3 => by
    have := putAll_at (l.take i) f 0 a0 j o' d hndi (by rw [List.getElem?_take, if_pos hj]; exact g1) g2 g3
    rw [Array.getD_eq_getD_getElem?, this, Nat.zero_add, f2 j hdep o' d g1 g2]; rfl
  have hB2 := hB o (List.mem_of_getElem? ho2)
  have hwant : Region.wanted o (yielded l.toArray (putAll (l.take i) f 0 a0).tmps) = Region.wanted o (yielded l.toArray a.tmps) := by
    unfold Region.wanted
    cases hgd : o.guard with
    | none => rfl
    | some gw =>
      obtain ⟨g, want⟩ := gw
      have h3 := hB2.2
      rw [hgd] at h3
      simp only [Array.any_eq_true, Bool.and_eq_true, beq_iff_eq] at h3
      obtain ⟨q, hq, he3, hb⟩ := h3
      have he : o.after[q] ∈ o.after := Array.getElem_mem hq
      obtain ⟨e, hqe⟩ : ∃ e, e = o.after[q] := ⟨_, rfl⟩
      rw [← hqe] at he3 hb he
      subst he3
      have hy : yielded l.toArray (putAll (l.take i) f 0 a0).tmps e.on = yielded l.toArray a.tmps e.on := by
        unfold yielded
        rw [List.getElem?_toArray]
        cases hoe : l[e.on]? with
        | none => rfl
        | some oe =>
          simp only [Option.bind_some]
          cases hde : oe.dst with
          | none => rfl
          | some d =>
            simp only [Option.bind_some]
            have hdd : (putAll (l.take i) f 0 a0).tmps[d]? = a.tmps[d]? := by
              by_cases hds : d < a0.tmps.size
              · have hk := key e.on oe d ⟨e, he, rfl, hb, oe, d, hoe, hde, hds⟩ (back e he hb) hoe hde hds
                rw [Array.getD_eq_getD_getElem?, Array.getD_eq_getD_getElem?] at hk
                have l1 : d < (putAll (l.take i) f 0 a0).tmps.size := by rw [hts]; exact hds
                have l2 : d < a.tmps.size := by rw [h.tsize]; exact hds
                rw [Array.getElem?_eq_getElem l1, Array.getElem?_eq_getElem l2] at hk ⊢
                simpa using hk
              · rw [Array.getElem?_eq_none (by rw [hts]; exact Nat.le_of_not_lt hds), Array.getElem?_eq_none (by rw [h.tsize]; exact Nat.le_of_not_lt hds)]
            rw [hdd]
      simp only [hy]
  rw [← hwant]
  rcases h1 with ⟨hw1, h1⟩ | ⟨hw1, h1⟩
  case inr => rw [if_neg (by rw [hw1]; decide)]; exact h1 w
  rw [if_pos hw1]
  refine loose_moves (by rw [hts, h.tsize]) (execOp_congr o (fun cs b => Region.noSelect_spec hsel i o cs b (by simpa using ho)) fun x hx => ?_) (h1 w h.below fun e he hb o' d g1 g2 g3 => ?_)
  · cases x with
    | tmp t =>
      show (putAll (l.take i) f 0 a0).tmps.getD t undef = a.tmps.getD t undef
      have hx2 := hB2.1 (.tmp t) (by simpa using hx)
      simp only [List.all_eq_true] at hx2
      by_cases hw : ∃ o' ∈ l, o'.dst = some t
      · obtain ⟨o', hm, hd'⟩ := hw
        obtain ⟨j, hj⟩ := List.mem_iff_getElem?.1 hm
        have h3 := hx2 (o', j) (by rw [List.mem_zipIdx_iff_getElem?]; exact hj)
        simp only [hd', beq_self_eq_true, Bool.not_true, Bool.false_or, Array.any_eq_true, Bool.and_eq_true, beq_iff_eq] at h3
        obtain ⟨q, hq, he3, hb⟩ := h3
        have he : o.after[q] ∈ o.after := Array.getElem_mem hq
        obtain ⟨e, hqe⟩ : ∃ e, e = o.after[q] := ⟨_, rfl⟩
        rw [← hqe] at he3 hb he
        subst he3
        by_cases hts2 : t < a0.tmps.size
        · exact key e.on o' t ⟨e, he, rfl, hb, o', t, hj, hd', hts2⟩ (back e he hb) hj hd' hts2
        · rw [Array.getD_eq_getD_getElem?, Array.getD_eq_getD_getElem?, Array.getElem?_eq_none (by rw [hts]; exact Nat.le_of_not_lt hts2), Array.getElem?_eq_none (by rw [h.tsize]; exact Nat.le_of_not_lt hts2)]
      · have hn1 : ∀ o' ∈ l, o'.dst ≠ some t := fun o' hm e => hw ⟨o', hm, e⟩
        rw [Array.getD_eq_getD_getElem?, Array.getD_eq_getD_getElem?, h.same t hn1, putAll_other _ _ _ _ _ fun o' hm => hn1 o' (List.mem_of_mem_take hm)]
    | _ => rfl
  · rw [hts] at g3
    rw [key e.on o' d ⟨e, he, rfl, hb, o', d, g1, g2, g3⟩ (back e he hb) g1 g2 g3]
    exact h.made e he hb o' d g1 g2 g3
open Classical in
theorem loose_fin {a0 : Act} {l : List Oper} (hS : specB l = true) (hn : n ≤ l.length) (hL : looseL P l es w0 n Fin 0 (l.take n) a0) (f : Nat → Value) (w : World) (hb : Below w0.heap.size w0 w)
    (hf : ∀ (i : Nat) (o : Oper) (d : Nat), i < n → l[i]? = some o → o.dst = some d → d < a0.tmps.size → phiOf es i (f i) w) : Fin (putAll (l.take n) f 0 a0) w := by
  simp only [specB, Bool.and_eq_true, decide_eq_true_eq] at hS
  obtain ⟨hS, hnd⟩ := hS
  have hndn : ((l.take n).filterMap (·.dst)).Nodup := by
    have e : l.filterMap (·.dst) = (l.take n).filterMap (·.dst) ++ (l.drop n).filterMap (·.dst) := by rw [← List.filterMap_append, List.take_append_drop]
    rw [e] at hnd
    exact (List.nodup_append.1 hnd).1
  let g : Nat → Value := fun j => if j < n ∧ ∃ o d, l[j]? = some o ∧ o.dst = some d ∧ d < a0.tmps.size then f j else Classical.choose (may_some es j)
  have hlt : (l.take n).length = n := by rw [List.length_take]; omega
  have gf : putAll (l.take n) g 0 a0 = putAll (l.take n) f 0 a0 := by
    refine putAll_congr _ _ _ fun j o d hj hd hs => ?_
    have hjn : j < n := by
      rcases Nat.lt_or_ge j n with h1 | h1
      · exact h1
      · rw [List.getElem?_eq_none (by omega)] at hj; cases hj
    rw [List.getElem?_take, if_pos hjn] at hj
    rw [Nat.zero_add]
    show (if _ then _ else _) = _
    rw [if_pos ⟨hjn, o, d, hj, hd, hs⟩]
  have hg : ∀ j, mayOf es j (g j) := fun j => by
    show mayOf es j (if _ then _ else _)
    split
    · rename_i hc; obtain ⟨h1, o, d, h2, h3, h4⟩ := hc; exact may_of_phi _ _ _ w (hf j o d h1 h2 h3 h4)
    · exact Classical.choose_spec (may_some es j)
  have h1 := looseL_at g (l.take n) 0 a0 hL n (by omega) (fun j _ => by rw [Nat.zero_add]; exact hg j)
  rw [List.drop_eq_nil_of_le (by omega), List.take_of_length_le (by omega), gf] at h1
  refine h1 w hb fun i o d hi ho hd hs => ?_
  rw [putAll_tsize] at hs
  have := putAll_at (l.take n) f 0 a0 i o d hndn (by rw [List.getElem?_take, if_pos hi]; exact ho) hd hs
  rw [Array.getD_eq_getD_getElem?, this, Nat.zero_add]
  exact hf i o d hi ho hd hs
theorem wp_region_loose_tail {id : Nat} {Q : Exit → Act → World → Prop} {a0 : Act} {l : List Oper} (n : Nat) (es : List Ent) (hm : P.follows .mixedOrders = true) (hB : looseB l n = true) (hS : specTailB l n = true) (hk : keepsAll es)
    (h : looseL P l es w0 n (wpList P l.toArray Q (l.drop n)) 0 (l.take n) a0) : (Code.region id l.toArray true).wp P Q a0 w0 := by
  have hS2 := hS
  simp only [specTailB, Bool.and_eq_true, decide_eq_true_eq] at hS2
  have hn : n ≤ l.length := Nat.le_of_lt hS2.1.1.1.2
  exact wp_region_spec_tail n hm (phiOf es) hS (phiOf_keeps es hk) (fun i o hi ho a w hl => loose_each hB hS2.1.1.1.1 hn h i o hi ho a w hl) (fun f w hb hf => loose_fin hS2.1.1.1.1 hn h f w hb hf)
theorem wp_region_loose {id : Nat} {Q : Exit → Act → World → Prop} {a0 : Act} {l : List Oper} (es : List Ent) (hm : P.follows .mixedOrders = true) (hB : looseB l l.length = true) (hS : specB l = true) (hk : keepsAll es)
    (h : looseL P l es w0 l.length (fun a w => Q .normal a w) 0 l a0) : (Code.region id l.toArray true).wp P Q a0 w0 := by
  have h' : looseL P l es w0 l.length (fun a w => Q .normal a w) 0 (l.take l.length) a0 := by rw [List.take_length]; exact h
  refine wp_region_spec hm (phiOf es) hS (phiOf_keeps es hk) (fun i o ho a w hl => ?_) (fun f w hb hf => ?_)
  · have hi : i < l.length := by
      rcases Nat.lt_or_ge i l.length with h1 | h1
      · exact h1
      · rw [List.getElem?_eq_none h1] at ho; cases ho
    exact loose_each hB hS (Nat.le_refl _) h' i o hi ho a w hl
  · have := loose_fin hS (Nat.le_refl _) h' f w hb (fun i o d _ h1 h2 h3 => hf i o d h1 h2 h3)
    rw [List.take_length] at this
    exact this
end
end Go
namespace Go
open Go.RowKit
theorem wp_load_block {P : Program} {o : Oper} {a : Act} {w : World} {K : Act → World → Prop} {Q : Exit → Act → World → Prop} (ty : TypeId) (x : Operand) (ho : o.op = .load ty x) (g : Nat) (hx : a.eval x = .pointer (some ⟨g, 0, none⟩))
    (t : TypeId) (cs : Array Value) (fr : Nat × Nat) {d : TypeDesc} (hg : w.heap[g]? = some (.cells cs t fr)) (hu : P.underlying ty = some d) (hd : (match d with | .struct _ | .array _ _ => true | _ => false) = true) (hi : (P.info? ty).map (·.size) = some cs.size)
    (h : K (a.put o.dst (.agg cs)) w) : o.wp P a w K Q := by
  unfold Oper.wp
  rw [run_load_part ty x ho g 0 hx t cs cs fr d hg (fun j v hv => by rw [Nat.zero_add]; exact hv) hu hd hi]
  exact h
end Go
namespace Go.Proofs.Ytejnnghfelpioaa
open Go.RowKit
end Go.Proofs.Ytejnnghfelpioaa
namespace Go.Proofs.Ytejnnghfelpioaa
open Go.RowKit
def modW (a b : Nat) : Nat := if b = 0 then 0 else a % b
end Go.Proofs.Ytejnnghfelpioaa
namespace Go.Proofs.Ytejnnghfelpioaa
open Go.RowKit
end Go.Proofs.Ytejnnghfelpioaa
namespace Go.Proofs.Ytejnnghfelpioaa
open Go.RowKit
theorem ArrW.step {t : TypeId} {w w' : World} {b x : Nat} (h : ArrW t w b x) (hb : Below w.heap.size w w') : ArrW t w' b x := h.below hb h.lt
end Go.Proofs.Ytejnnghfelpioaa
namespace Go.Proofs.Ytejnnghfelpioaa
open Go.RowKit
end Go.Proofs.Ytejnnghfelpioaa
namespace Go.Proofs.Ytejnnghfelpioaa
open Go.RowKit
def b8 (n : Nat) : BitVec 8 := BitVec.ofNat 8 n
theorem yv_b8 (n : Nat) : yv (b8 n) = ((n % 256 : Nat) : Int) := by unfold yv b8; rw [BitVec.toNat_ofNat]
def be (n x : Nat) : List (BitVec 8) := (List.range n).map fun i => b8 (x / 256 ^ (n - 1 - i))
theorem pow256_32 : (256 : Nat) ^ 32 = 2 ^ 256 := by rw [show (256 : Nat) = 2 ^ 8 from rfl, ← Nat.pow_mul]
theorem infoY8 : (Try.prog.info? 5).map (fun i => (i.zero, i.size, i.bytes)) = some (some (.int .u8 0), 1, 1) := by kernel_rfl
theorem uYs : Try.prog.underlying 22 = some (.slice 5) := by kernel_rfl
theorem mkY (N : Nat) (hN : N ≤ 1048576) (w : World) : (Instr.makeSlice 22 (.int .i64 (N : Int)) (.int .i64 (N : Int))).run Try.prog w = .ok (.slice (some ⟨w.heap.size, 0, none⟩) N N) (w.alloc (.cells (cellsY (List.replicate N 0)) 5)) := by
  obtain ⟨i0, hi0, hz0, hz1, hz2⟩ := info_parts infoY8
  have h := run_make (P := Try.prog) w 22 5 i0 (.int .u8 0) uYs hi0 hz0 .i64 .i64 (N : Int) (N : Int) (by omega) (Int.le_refl _) (by rw [hz2]; omega) (by omega)
  rw [h, Int.toNat_natCast, hz1, Nat.mul_one]
  congr 3
  apply Array.ext
  · simp [madeCells, cellsY]
  · intro j h1 h2
    simp [madeCells, Value.cells, Nat.mod_one, cellsY, yv]
theorem lm_b8 (x i : Nat) (hi : i < 32) : lm x (i / 8) / 2 ^ (8 * (i % 8)) % 256 = yv (b8 (x / 256 ^ i)) := by
  rw [yv_b8, ← lmN_byte x i hi]
  unfold lm
  rw [Int.natCast_emod, Int.natCast_ediv, Int.natCast_pow]; rfl
end Go.Proofs.Ytejnnghfelpioaa
namespace Go
open Go.RowKit
theorem wpQuiet_load_want {P : Program} {ops : Array Oper} {rest : List Oper} {o : Oper} {a : Act} {w : World} {Q : Act → Prop} (ty : TypeId) (x : Operand) (ho : o.op = .load ty x)
    (g : Nat) (hx : a.eval x = .pointer (some ⟨g, 0, none⟩)) (t : TypeId) (cs : Array Value) (d : TypeDesc) (hg : w.heap[g]? = some (.cells cs t (0, 0)))
    (hu : P.underlying ty = some d) (hd : (match d with | .struct _ | .array _ _ => true | _ => false) = true) (hi : (P.info? ty).map (·.size) = some cs.size) (hw : Region.wanted o (yielded ops a.tmps) = true)
    (h : wpQuiet P ops (fun w' => ∃ x, w' = w.ext x) Q rest (a.put o.dst (.agg cs))) : wpQuiet P ops (fun w' => ∃ x, w' = w.ext x) Q (o :: rest) a :=
  BigFrame.wpQuiet_want hw fun K hK => ⟨.agg cs, fun w' ⟨y, hy⟩ => by
    have hg' : w'.heap[g]? = some (.cells cs t (0, 0)) := by rw [hy]; exact (w.heap_ext y g (Array.getElem?_eq_some_iff.1 hg).1).trans hg
    unfold Oper.quietAt
    rw [run_load_part ty x ho g 0 hx t cs cs (0, 0) d hg' (fun j v h => by rw [Nat.zero_add]; exact h) hu hd hi]
    exact ⟨rfl, rfl⟩, hK _ h⟩
theorem wpQuiet_build_want {P : Program} {ops : Array Oper} {rest : List Oper} {o : Oper} {a : Act} {C : World → Prop} {Q : Act → Prop} (T : TypeId) (parts : Array (Nat × Operand)) (ho : o.op = .build T parts) (cells : Array Value)
    (hb : P.built T (parts.map fun (i, x) => (i, a.eval x)).toList = some cells) (hw : Region.wanted o (yielded ops a.tmps) = true)
    (h : wpQuiet P ops C Q rest (a.put o.dst (.agg cells))) : wpQuiet P ops C Q (o :: rest) a :=
  BigFrame.wpQuiet_want hw fun K hK => ⟨.agg cells, fun w' _ => by
    unfold Oper.quietAt execOp
    simp only [ho, Sem.run_bind, run_build w' T _ cells hb, Result.andThen_ok]
    exact ⟨rfl, rfl⟩, hK _ h⟩
theorem wpList_build_cells {P : Program} {ops : Array Oper} {rest : List Oper} {o : Oper} {a : Act} {w : World} {Q : Exit → Act → World → Prop} (hg : o.guard = none) (T : TypeId) (parts : Array (Nat × Operand)) (ho : o.op = .build T parts) (cells : Array Value)
    (hb : P.built T (parts.map fun (i, x) => (i, a.eval x)).toList = some cells) (h : wpList P ops Q rest (a.put o.dst (.agg cells)) w) : wpList P ops Q (o :: rest) a w :=
  wpList_build hg T parts ho (by rw [hb]; rfl) (by rw [hb]; exact h)
end Go
namespace Go.Proofs.Ytejnnghfelpioaa
open Go.RowKit
def pN : Nat := 57896044618658097711785492504343953926634992332820282019728792003956564819949
def lN : Nat := 7237005577332262213973186563042994240857116359379907606001950938285454250989
theorem pN_lt : pN < 2 ^ 256 := by decide +kernel
theorem lN_lt : lN < 2 ^ 256 := by decide +kernel
theorem pN_pos : 0 < pN := by decide +kernel
theorem lN_pos : 0 < lN := by decide +kernel
theorem pN_two : 2 ^ 256 = 2 * pN + 38 := by decide +kernel
theorem p_cells : cellsW pN = #[.int .u64 18446744073709551597, .int .u64 18446744073709551615, .int .u64 18446744073709551615, .int .u64 9223372036854775807] := by
  rw [show pN = mk4 18446744073709551597 18446744073709551615 18446744073709551615 9223372036854775807 from by decide +kernel, cellsW_mk4 _ _ _ _ (by decide) (by decide) (by decide) (by decide)]; rfl
theorem l_cells : cellsW lN = #[.int .u64 6346243789798364141, .int .u64 1503914060200516822, .int .u64 0, .int .u64 1152921504606846976] := by
  rw [show lN = mk4 6346243789798364141 1503914060200516822 0 1152921504606846976 from by decide +kernel, cellsW_mk4 _ _ _ _ (by decide) (by decide) (by decide) (by decide)]; rfl
theorem p_built : Try.prog.built 25 [(0, .int .u64 18446744073709551597), (1, .int .u64 18446744073709551615), (2, .int .u64 18446744073709551615), (3, .int .u64 9223372036854775807)] = some (cellsW pN) := by rw [p_cells]; kernel_rfl
theorem l_built : Try.prog.built 25 [(0, .int .u64 6346243789798364141), (1, .int .u64 1503914060200516822), (2, .int .u64 0), (3, .int .u64 1152921504606846976)] = some (cellsW lN) := by rw [l_cells]; kernel_rfl
set_option maxHeartbeats 1000000 in
theorem fP_any (w : World) : Calls Try.prog 41 #[] w fun e w' => e = .returned (wd pN) ∧ Below w.heap.size w w' := by
  have hB := hid p_built
  have iP := hid (iW pN)
  have nP := hid (one_cellsW pN)
  have hA0 := hid (ArrW.new 25 w 0)
  have hb0 : Below w.heap.size w (w.alloc (.cells (cellsW 0) 25)) := (Below.refl _ _).alloc (Nat.le_refl _) _
  unfold wd
  generalize pN = p at *
  go_enter Try.func41, Try.ntmps41
  go_wp2_with (first | (refine wpList_alloc_new rfl 25 rfl (cellsW 0) zWd ?_; simp only [Act.put, pvA, pv0, pv1, World.size_alloc]) | (refine wpList_buildStore 25 _ (.tmp 0) 1 (cellsW p) _ rfl rfl rfl rfl rfl rfl (by simp) (by first | exact hB.out | (simp only [List.map_toArray, List.map_cons, List.map_nil]; exact hB.out)) rfl 25 _ hA0.out iP.out rfl nP.out ?_; simp only [Act.put, pvA, pv0, pv1]))
  refine bodyPost_ret (results_cell_row rfl _ _ w.heap.size 25 (cellsW p) (0, 0) _ rfl (heap_setRow' _ _ _ _ _ hA0.out) uWd rfl iP.out) rfl ⟨rfl, below_setRow' hb0 _ (Nat.le_refl _) _⟩
set_option maxHeartbeats 1000000 in
theorem fL_any (w : World) : Calls Try.prog 19 #[] w fun e w' => e = .returned (wd lN) ∧ Below w.heap.size w w' := by
  have hB := hid l_built
  have iP := hid (iW lN)
  have nP := hid (one_cellsW lN)
  have hA0 := hid (ArrW.new 25 w 0)
  have hb0 : Below w.heap.size w (w.alloc (.cells (cellsW 0) 25)) := (Below.refl _ _).alloc (Nat.le_refl _) _
  unfold wd
  generalize lN = p at *
  go_enter Try.func19, Try.ntmps19
  go_wp2_with (first | (refine wpList_alloc_new rfl 25 rfl (cellsW 0) zWd ?_; simp only [Act.put, pvA, pv0, pv1, World.size_alloc]) | (refine wpList_buildStore 25 _ (.tmp 0) 1 (cellsW p) _ rfl rfl rfl rfl rfl rfl (by simp) (by first | exact hB.out | (simp only [List.map_toArray, List.map_cons, List.map_nil]; exact hB.out)) rfl 25 _ hA0.out iP.out rfl nP.out ?_; simp only [Act.put, pvA, pv0, pv1]))
  refine bodyPost_ret (results_cell_row rfl _ _ w.heap.size 25 (cellsW p) (0, 0) _ rfl (heap_setRow' _ _ _ _ _ hA0.out) uWd rfl iP.out) rfl ⟨rfl, below_setRow' hb0 _ (Nat.le_refl _) _⟩
set_option maxHeartbeats 2000000 in
theorem below_any (x : Nat) (w : World) (hx : x < 2 ^ 256) : Calls Try.prog 42 #[wd x] w fun e w' => e = .returned (wd (x % pN)) ∧ Below w.heap.size w w' := by
  have hP := hid fP_any
  have hC := hid (fun y w (hy : y < 2 ^ 256) => wcmp_any y pN w hy pN_lt)
  have hS := hid (fun y w (hy : y < 2 ^ 256) => wsub_any y pN w hy pN_lt)
  have hpos := hid pN_pos
  have hplt := hid pN_lt
  have HX := hid hx
  clear hx
  generalize pN = p at *
  unfold wd at *
  have hA0 := hid (show ArrW 25 ((w.alloc (.cells (cellsW x) 25)).alloc (.cells (cellsW 0) 25)) w.heap.size x from (ArrW.new _ w x).alloc _)
  have hC0 := hid (show ArrW 25 ((w.alloc (.cells (cellsW x) 25)).alloc (.cells (cellsW 0) 25)) (w.heap.size + 1) 0 by
    have := ArrW.new 25 (w.alloc (.cells (cellsW x) 25)) 0
    rw [World.size_alloc] at this; exact this)
  have hb0 : Below w.heap.size w ((w.alloc (.cells (cellsW x) 25)).alloc (.cells (cellsW 0) 25)) := ((Below.refl _ _).alloc (Nat.le_refl _) _).alloc (by simp) _
  go_enter Try.func42, Try.ntmps42
  go_wp2_with (refine wpList_alloc_new rfl 25 rfl (cellsW 0) zWd ?_; simp only [Act.put, pvA, pv0, pv1, World.size_alloc])
  generalize (w.alloc (.cells (cellsW x) 25)).alloc (.cells (cellsW 0) 25) = w1 at hA0 hC0 hb0 ⊢
  go_loopg [6] x (fun k _ wr => k < 2 ^ 256 ∧ Hid (k % p = x % p) ∧ Hid (ArrW 25 wr w.heap.size k) ∧ Hid (ArrW 25 wr (w.heap.size + 1) 0) ∧ Below w.heap.size w wr)
  case atStart => exact ⟨HX.out, hid rfl, hA0, hC0, hb0⟩
  case round =>
    clear hA0 hC0 hb0
    obtain ⟨hk, hm, hA, hC0, hb⟩ := hrel
    have iK := hid (iW gk)
    have hC1 := hid (fun w => hC.out gk w hk)
    have hS1 := hid (fun w => hS.out gk w hk)
    by_cases hle : p ≤ gk
    · have hge : 0 ≤ cmpI gk p := by unfold cmpI; split <;> (try split) <;> omega
      have HK := hid hk
      obtain ⟨c, hc⟩ : ∃ c, c = cmpI gk p := ⟨_, rfl⟩
      rw [← hc] at hC1 hge
      obtain ⟨d, hd⟩ : ∃ d, d = subW gk p := ⟨_, rfl⟩
      rw [← hd] at hS1
      have hd2 : d = gk - p := by
        rw [hd]; unfold subW
        have h1 := HK.out
        have h2 := hplt.out
        generalize 2 ^ 256 = T at *
        rw [show gk + (T - p) = (gk - p) + T by omega, Nat.add_mod_right, Nat.mod_eq_of_lt (by omega)]
      have HD := hid hd2
      have iD := hid (iW d)
      have nD := hid (one_cellsW d)
      have HLE := hid hle
      clear hc hd hd2 hk hle
      go_wp2_with fail
      ((try simp only [World.size_alloc]); refine wp_region_ext (by kernel_rfl) (by kernel_rfl) ?_; (try simp only [List.append_eq, List.cons_append, List.nil_append]); (repeat (first | (refine wpQuiet_load_want 25 (.tmp 1) rfl w.heap.size rfl 25 (cellsW _) _ hA.out uWd rfl iK.out rfl ?_; simp only [Act.put, pvA, pv0, pv1]) | go_big_quiet_step (first | (go_at_call 41; with_reducible refine Calls.ext_of (hP.out _)) | (go_at_call 60; with_reducible refine Calls.ext_of (hC1.out _))))); refine wpQuiet_nil ?_; rintro _ ⟨xw, rfl⟩)
      have hA1 := hid (hA.out.ext xw)
      have hC01 := hid (hC0.out.ext xw)
      have hb1 := World.ext_below_of hb hb.size xw
      generalize wr.ext xw = w2 at hA1 hC01 hb1 ⊢
      clear hA hC0 hb hC1
      go_wp2_with fail
      ((try simp only [World.size_alloc]); refine wp_region_ext_tail 3 (by kernel_rfl) (by kernel_rfl) ?_; simp only [List.take_succ_cons, List.take_zero, List.drop_succ_cons, List.drop_zero]; (repeat (first | (refine wpQuiet_load_want 25 (.tmp 1) rfl w.heap.size rfl 25 (cellsW _) _ hA1.out uWd rfl iK.out rfl ?_; simp only [Act.put, pvA, pv0, pv1]) | go_big_quiet_step (first | (go_at_call 41; with_reducible refine Calls.ext_of (hP.out _)) | (go_at_call 40; with_reducible refine Calls.ext_of (hS1.out _))))); refine wpQuiet_nil ?_; rintro _ ⟨xw, rfl⟩)
      have hA2 := hid (hA1.out.ext xw)
      have hC2 := hid (hC01.out.ext xw)
      have hb2 := World.ext_below_of hb1 hb1.size xw
      generalize w2.ext xw = w3 at hA2 hC2 hb2 ⊢
      clear hA1 hC01 hb1
      (refine wpList_store_row rfl 25 (.tmp 1) (.tmp 9) rfl w.heap.size _ rfl rfl 25 _ hA2.out iD.out rfl nD.out ?_; simp only [Act.put])
      have hA3 := hid (hA2.out.row d)
      have hC3 := hid (hC2.out.otherRow (show w.heap.size + 1 ≠ w.heap.size by omega) (cellsW d))
      have hb3 := below_setRow' hb2 w.heap.size (Nat.le_refl _) (cellsW d)
      generalize w3.setRow w.heap.size (cellsW d) = w4 at hA3 hC3 hb3 ⊢
      clear hA2 hC2 hb2
      go_wp2
      go_roundg d
      case measure => have := HD.out; have := hpos.out; have := HLE.out; omega
      case rel =>
        have e1 := HD.out
        have e2 := HLE.out
        refine ⟨by have := HK.out; omega, hid ?_, hA3, hC3, hb3⟩
        rw [e1, ← hm.out, Nat.mod_eq_sub_mod e2]
    · have hge : ¬ 0 ≤ cmpI gk p := by unfold cmpI; split <;> (try split) <;> omega
      have hfin := hid (show gk = x % p by rw [← hm.out, Nat.mod_eq_of_lt (by omega)])
      obtain ⟨c, hc⟩ : ∃ c, c = cmpI gk p := ⟨_, rfl⟩
      rw [← hc] at hC1 hge
      have nK := hid (one_cellsW gk)
      clear hc hle hk hm
      go_wp2_with fail
      ((try simp only [World.size_alloc]); refine wp_region_ext (by kernel_rfl) (by kernel_rfl) ?_; (try simp only [List.append_eq, List.cons_append, List.nil_append]); (repeat (first | (refine wpQuiet_load_want 25 (.tmp 1) rfl w.heap.size rfl 25 (cellsW _) _ hA.out uWd rfl iK.out rfl ?_; simp only [Act.put, pvA, pv0, pv1]) | go_big_quiet_step (first | (go_at_call 41; with_reducible refine Calls.ext_of (hP.out _)) | (go_at_call 60; with_reducible refine Calls.ext_of (hC1.out _))))); refine wpQuiet_nil ?_; rintro _ ⟨xw, rfl⟩)
      have hA1 := hid (hA.out.ext xw)
      have hC01 := hid (hC0.out.ext xw)
      have hb1 := World.ext_below_of hb hb.size xw
      generalize wr.ext xw = w2 at hA1 hC01 hb1 ⊢
      clear hA hC0 hb hC1
      go_wp2_with (first | (refine wpList_load_row rfl 25 (.tmp 1) rfl w.heap.size rfl 25 _ (0, 0) _ hA1.out uWd rfl iK.out ?_; simp only [Act.put, pvA, pv0, pv1]) | (refine wpList_store_row rfl 25 (.tmp 2) (.tmp 10) rfl (w.heap.size + 1) _ rfl rfl 25 _ hC01.out iK.out rfl nK.out ?_; simp only [Act.put]))
      refine bodyPost_ret (results_cell_row rfl _ _ (w.heap.size + 1) 25 (cellsW gk) (0, 0) _ rfl (heap_setRow' _ _ _ _ _ hC01.out) uWd rfl iK.out) rfl ⟨by rw [hfin.out], below_setRow' hb1 _ (by omega) _⟩
end Go.Proofs.Ytejnnghfelpioaa
namespace Go.Proofs.Ytejnnghfelpioaa
open Go.RowKit
theorem high_limb (N i : Nat) : lmN (N / 2 ^ 256) i = lmN N (i + 4) := by
  unfold lmN
  rw [Nat.div_div_eq_div_mul, ← Nat.pow_add, show 256 + 64 * i = 64 * (i + 4) by omega]
theorem fold_step (N X c i hi lo u1 v1 u2 v2 : Nat) (hc : c ≤ 39) (hu2 : u2 < 2 ^ 64) (hX : X < 2 ^ (64 * i))
    (hm : lmN N (i + 4) * 38 = lo + 2 ^ 64 * hi) (h1 : lo + c = u1 + 2 ^ 64 * v1) (h2 : lmN N i + u1 = u2 + 2 ^ 64 * v2)
    (hinv : X + 2 ^ (64 * i) * c = N % 2 ^ (64 * i) + 38 * (N / 2 ^ 256 % 2 ^ (64 * i))) :
    hi + v1 + v2 ≤ 39 ∧ X + 2 ^ (64 * i) * u2 < 2 ^ (64 * (i + 1)) ∧
    X + 2 ^ (64 * i) * u2 + 2 ^ (64 * (i + 1)) * (hi + v1 + v2) = N % 2 ^ (64 * (i + 1)) + 38 * (N / 2 ^ 256 % 2 ^ (64 * (i + 1))) := by
  have g1 := lmN_lt N i
  have g2 := lmN_lt N (i + 4)
  refine ⟨by clear hinv hX; omega, set_lt X i u2 hX hu2, ?_⟩
  rw [low_succ, low_succ, high_limb, pow64_succ]
  have e3 : u2 + 2 ^ 64 * (hi + v1 + v2) = lmN N i + 38 * lmN N (i + 4) + c := by omega
  have e4 : 2 ^ (64 * i) * u2 + 2 ^ (64 * i) * 2 ^ 64 * (hi + v1 + v2) = 2 ^ (64 * i) * lmN N i + 38 * (2 ^ (64 * i) * lmN N (i + 4)) + 2 ^ (64 * i) * c := by
    rw [Nat.mul_assoc, ← Nat.mul_add, e3, Nat.mul_add, Nat.mul_add, Nat.mul_left_comm]
  omega
theorem fold_mod (N X c : Nat) (hN : N < 2 ^ (64 * 8)) (h : X + 2 ^ (64 * 4) * c = N % 2 ^ (64 * 4) + 38 * (N / 2 ^ 256 % 2 ^ (64 * 4))) : (X + 2 ^ 256 * c) % pN = N % pN := by
  rw [show 64 * 4 = 256 from rfl, Nat.mod_eq_of_lt (show N / 2 ^ 256 < 2 ^ 256 from Nat.div_lt_of_lt_mul (by rw [← Nat.pow_add, show 256 + 256 = 64 * 8 from rfl]; exact hN))] at h
  rw [h]
  have h2 := Nat.mod_add_div N (2 ^ 256)
  have h3 := pN_two
  generalize N / 2 ^ 256 = q at *
  generalize N % 2 ^ 256 = r at *
  generalize 2 ^ 256 = T at *
  subst h3
  rw [← h2, show r + (2 * pN + 38) * q = r + 38 * q + pN * (2 * q) by rw [Nat.add_mul]; rw [Nat.mul_left_comm, ← Nat.mul_assoc 2 pN q]; omega]
  rw [Nat.add_mul_mod_self_left]
theorem wrap_mod (X c Y e : Nat) (h : Y + 2 ^ 256 * e = X + 38 * c) : (Y + 2 ^ 256 * e) % pN = (X + 2 ^ 256 * c) % pN := by
  rw [h]
  have h3 := pN_two
  generalize 2 ^ 256 = T at *
  subst h3
  rw [show X + (2 * pN + 38) * c = X + 38 * c + pN * (2 * c) by rw [Nat.add_mul]; rw [Nat.mul_left_comm, ← Nat.mul_assoc 2 pN c]; omega]
  rw [Nat.add_mul_mod_self_left]
set_option maxHeartbeats 4000000 in
set_option maxRecDepth 100000 in
theorem fold_any (N : Nat) (w : World) (hN : N < 2 ^ (64 * 8)) : Calls Try.prog 66 #[.agg (cellsM 8 N)] w fun e w' => e = .returned (wd (N % pN)) ∧ Below w.heap.size w w' := by
  have HN := hid hN
  have hB := hid (fun x w (hx : x < 2 ^ 256) => below_any x w hx)
  clear hN
  unfold wd at *
  have iN := hid (iM8 N)
  obtain ⟨W0, hW0⟩ : ∃ W0, W0 = ((w.alloc (.cells (cellsM 8 N) 102)).alloc (.cells (cellsW 0) 25)).alloc (.cells (cellsW 0) 25) := ⟨_, rfl⟩
  have hA0 := hid (show ArrM 102 8 W0 w.heap.size N by rw [hW0]; exact ((ArrM.new _ 8 w N).alloc _).alloc _)
  have hR0 := hid (show ArrW 25 W0 (w.heap.size + 1) 0 by
    have := ArrW.new 25 (w.alloc (.cells (cellsM 8 N) 102)) 0
    rw [World.size_alloc] at this; rw [hW0]; exact this.alloc _)
  have hX0 := hid (show ArrW 25 W0 (w.heap.size + 2) 0 by
    have := ArrW.new 25 ((w.alloc (.cells (cellsM 8 N) 102)).alloc (.cells (cellsW 0) 25)) 0
    rw [World.size_alloc, World.size_alloc] at this; rw [hW0]; exact this)
  have hb0 : Below w.heap.size w W0 := by rw [hW0]; exact (((Below.refl _ _).alloc (Nat.le_refl _) _).alloc (by simp) _).alloc (by simp; omega) _
  go_enter Try.func66, Try.ntmps66
  go_wp2_with (refine wpList_alloc_new rfl 25 rfl (cellsW 0) zWd ?_; simp only [Act.put, pvA, pv0, pv1, World.size_alloc])
  rw [← hW0]
  clear hW0
  go_loopw [4, 11] (fun cv iv wr => ∃ i c X : Nat, i ≤ 4 ∧ c ≤ 39 ∧ iv = .int .i64 (i : Int) ∧ cv = .int .u64 (c : Int) ∧ Hid (X < 2 ^ (64 * i) ∧ X + 2 ^ (64 * i) * c = N % 2 ^ (64 * i) + 38 * (N / 2 ^ 256 % 2 ^ (64 * i))) ∧ Hid (ArrM 102 8 wr w.heap.size N) ∧ Hid (ArrW 25 wr (w.heap.size + 1) 0) ∧ Hid (ArrW 25 wr (w.heap.size + 2) X) ∧ Below w.heap.size w wr)
    (fun _ iv _ => 4 - (intOf iv).toNat)
  case atStart => exact ⟨0, 0, 0, by omega, by omega, rfl, rfl, hid ⟨by simp, by simp [Nat.mod_one]⟩, hA0, hR0, hX0, hb0⟩
  case round =>
    clear hA0 hR0 hX0 hb0
    obtain ⟨i, c, X, hi, hc, rfl, rfl, hX, hA, hR, hW, hb⟩ := hrel
    by_cases hlt : i < 4
    · have c1 := hA.out.cell (i + 4) (by omega)
      have l1 := hA.out.lt
      obtain ⟨mhi, mlo, m1, m2, m3, m4⟩ := mul64_nat (lmN N (i + 4)) 38 (lmN_lt _ _) (by omega)
      obtain ⟨u1, v1, p1, p2, p3, p4⟩ := add64_nat0 mlo c m2 (by omega)
      obtain ⟨u2, v2, r1, r2, r3, r4⟩ := add64_nat0 (lmN N i) u1 (lmN_lt _ _) p1
      obtain ⟨s1, s2, s3⟩ := fold_step N X c i mhi mlo u1 v1 u2 v2 hc r1 hX.out.1 m3 p3 r3 hX.out.2
      have hset := hid (cellsW_set X i u2 hX.out.1 r1 hlt)
      have M4 := hid m4
      have S2 := hid s2
      have S3 := hid s3
      have hmhi : mhi ≤ 37 := by have := lmN_lt N (i + 4); omega
      clear m3 p3 r3 s2 s3 m4 hX
      go_wp2_with fail
      refine (M4.out _).mono ?_
      rintro e w2 ⟨rfl, hb2⟩
      have hA2 := hid (hA.out.below hb2 hA.out.lt)
      have hR2 := hid (hR.out.below hb2 hR.out.lt)
      have hW2 := hid (hW.out.below hb2 hW.out.lt)
      have hb3 := hb.trans (hb2.mono hb.size)
      clear hA hR hW hb hb2 c1 l1 M4
      have c1 := hA2.out.cell i (by omega)
      have l1 := hA2.out.lt
      have c3 := hW2.out.cell i hlt
      have f3 := hW2.out.free i
      have l3 := hW2.out.lt
      go_wp2
      go_roundw
      case rel =>
        refine ⟨i + 1, mhi + v1 + v2, X + 2 ^ (64 * i) * u2, by omega, s1, by go_num, by go_num, hid ⟨S2.out, S3.out⟩, hid (hA2.out.other (by show w.heap.size ≠ w.heap.size + 2; omega) _), hid (hR2.out.other (by show w.heap.size + 1 ≠ w.heap.size + 2; omega) _), hid (hW2.out.set i _ hset.out), hb3.setCell (p := ⟨w.heap.size + 2, i, none⟩) (by show w.heap.size ≤ w.heap.size + 2; omega) _⟩
      case measure => simp [intOf]; omega
    · obtain rfl : i = 4 := by omega
      have hmod := hid (fold_mod N X c HN.out hX.out.2)
      have HXl := hid (show X < 2 ^ 256 from hX.out.1)
      clear hX hlt hi hA iN HN
      go_wp2
      go_loopg [4] (X + 2 ^ 256 * c) (fun k cv wr => ∃ c X : Nat, c ≤ 39 ∧ cv = .int .u64 (c : Int) ∧ Hid (k = X + 2 ^ 256 * c ∧ X < 2 ^ 256 ∧ (X + 2 ^ 256 * c) % pN = N % pN) ∧ Hid (ArrW 25 wr (w.heap.size + 1) 0) ∧ Hid (ArrW 25 wr (w.heap.size + 2) X) ∧ Below w.heap.size w wr)
      case atStart => exact ⟨c, X, hc, rfl, hid ⟨rfl, HXl.out, hmod.out⟩, hR, hW, hb⟩
      case round =>
        clear hmod HXl hR hW hb
        obtain ⟨c, X, hc, rfl, hK, hR, hW, hb⟩ := hrel
        by_cases hc0 : 0 < c
        · have hX := hid (And.intro hK.out.2.1 hK.out.2.2)
          have HK := hid hK.out.1
          have a38 : c * 38 ≤ 1482 := by omega
          obtain ⟨u, v, p1, p2, p3, p4⟩ := add64_nat0 (lmN X 0) (c * 38) (lmN_lt _ _) (by omega)
          have c3 := hW.out.cell 0 (by omega)
          have f3 := hW.out.free 0
          have l3 := hW.out.lt
          unfold lm at c3
          have hci : (0 : Int) < (c : Int) := by omega
          have e38 : (c : Int) * 38 = ((c * 38 : Nat) : Int) := by omega
          have p4' : ∀ w, (callFunc 65 #[.int .u64 ((lmN X 0 : Nat) : Int), .int .u64 ((c : Int) * 38), .int .u64 0]).run Try.prog w = .ok (.value (.tuple #[.int .u64 (u : Int), .int .u64 (v : Int)])) w := by rw [e38]; exact p4
          have hset := hid (cellsM_set 4 X 0 u p1)
          have HS := hid (show setL X 0 u + 2 ^ (64 * 1) * v = X + 38 * c by
            have := setL_eq X 0 u
            rw [show 2 ^ (64 * 0) = 1 from rfl, Nat.one_mul, Nat.one_mul] at this
            rw [show 2 ^ (64 * 1) = 2 ^ 64 from rfl]
            omega)
          have HL := hid (show setL X 0 u < 2 ^ 256 from setL_lt X 0 u 4 hX.out.1 p1 (by omega))
          clear p3 p4 e38 hK
          go_wp2
          have hW2 := hid (show ArrW 25 (wr.setCell ⟨w.heap.size + 2, 0, none⟩ (.int .u64 (u : Int))) (w.heap.size + 2) (setL X 0 u) from (ArrM.toW (hW.out |> fun h => (ArrM.ofW h).set 0 u p1)))
          have hR2 := hid (hR.out.other (show w.heap.size + 1 ≠ (⟨w.heap.size + 2, 0, none⟩ : Addr).block by show w.heap.size + 1 ≠ w.heap.size + 2; omega) (.int .u64 (u : Int)))
          have hb2 : Below w.heap.size w (wr.setCell ⟨w.heap.size + 2, 0, none⟩ (.int .u64 (u : Int))) := hb.setCell (p := ⟨w.heap.size + 2, 0, none⟩) (by show w.heap.size ≤ w.heap.size + 2; omega) _
          generalize wr.setCell ⟨w.heap.size + 2, 0, none⟩ (.int .u64 (u : Int)) = w2 at hW2 hR2 hb2 ⊢
          clear hW hR hb c3 f3 l3 p4' hset
          go_loopw [4, 10] (fun ev iv wr => ∃ i e Y : Nat, 1 ≤ i ∧ i ≤ 4 ∧ e ≤ 1 ∧ ev = .int .u64 (e : Int) ∧ iv = .int .i64 (i : Int) ∧ Hid (Y < 2 ^ 256 ∧ Y + 2 ^ (64 * i) * e = X + 38 * c) ∧ Hid (ArrW 25 wr (w.heap.size + 1) 0) ∧ Hid (ArrW 25 wr (w.heap.size + 2) Y) ∧ Below w.heap.size w wr)
            (fun _ iv _ => 4 - (intOf iv).toNat)
          case atStart => exact ⟨1, v, setL X 0 u, by omega, by omega, p2, rfl, rfl, hid ⟨HL.out, HS.out⟩, hR2, hW2, hb2⟩
          case round =>
            clear hW2 hR2 hb2
            obtain ⟨i, e, Y, hi1, hi4, he, rfl, rfl, hY, hR, hW, hb⟩ := hrel
            by_cases hlt : i < 4
            · obtain ⟨u, v, p1, p2, p3, p4⟩ := add64_nat (lmN Y i) 0 e (lmN_lt _ _) (by omega) he
              have p4' : ∀ w, (callFunc 65 #[.int .u64 ((lmN Y i : Nat) : Int), .int .u64 0, .int .u64 (e : Int)]).run Try.prog w = .ok (.value (.tuple #[.int .u64 (u : Int), .int .u64 (v : Int)])) w := p4
              have c3 := hW.out.cell i hlt
              have f3 := hW.out.free i
              have l3 := hW.out.lt
              unfold lm at c3
              have HL := hid (show setL Y i u < 2 ^ 256 from setL_lt Y i u 4 hY.out.1 p1 hlt)
              have HS := hid (show setL Y i u + 2 ^ (64 * (i + 1)) * v = X + 38 * c by
                have h1 := setL_eq Y i u
                have h2 := hY.out.2
                rw [pow64_succ]
                have h3 : 2 ^ (64 * i) * u + 2 ^ (64 * i) * 2 ^ 64 * v = 2 ^ (64 * i) * lmN Y i + 2 ^ (64 * i) * e := by
                  rw [Nat.mul_assoc, ← Nat.mul_add, ← Nat.mul_add]; congr 1; omega
                omega)
              clear p3 p4 hY
              go_wp2
              go_roundw
              case rel =>
                exact ⟨i + 1, v, setL Y i u, by omega, by omega, p2, rfl, by go_num, hid ⟨HL.out, HS.out⟩, hid (hR.out.other (by show w.heap.size + 1 ≠ w.heap.size + 2; omega) _), hid (ArrM.toW ((ArrM.ofW hW.out).set i u p1)), hb.setCell (p := ⟨w.heap.size + 2, i, none⟩) (by show w.heap.size ≤ w.heap.size + 2; omega) _⟩
              case measure => simp [intOf]; omega
            · obtain rfl : i = 4 := by omega
              have HM := hid (wrap_mod X c Y e hY.out.2)
              have HD := hid (show Y + 2 ^ 256 * e < X + 2 ^ 256 * c by
                have h2 : Y + 2 ^ 256 * e = X + 38 * c := hY.out.2
                rw [h2]
                have h3 : (38 : Nat) < 2 ^ 256 := by decide
                generalize 2 ^ 256 = T at *
                have := Nat.mul_lt_mul_of_pos_right h3 hc0
                omega)
              have HY := hid hY.out.1
              clear hY hlt
              go_wp2
              go_roundg (Y + 2 ^ 256 * e)
              case measure => rw [HK.out]; exact HD.out
              case rel => exact ⟨e, Y, by omega, rfl, hid ⟨rfl, HY.out, HM.out.trans hX.out.2⟩, hR, hW, hb⟩
        · obtain rfl : c = 0 := by omega
          have hX := hid hK.out.2
          have hB1 := hid (fun w => hB.out X w hX.out.1)
          have hXm := hid (show X % pN = N % pN by have := hX.out.2; rwa [Nat.mul_zero, Nat.add_zero] at this)
          rw [hXm.out] at hB1
          have HXl := hid hX.out.1
          clear hK hX hB
          obtain ⟨r, hr⟩ : ∃ r, r = N % pN := ⟨_, rfl⟩
          rw [← hr] at hB1
          have HR := hid hr
          have iX := hid (iW X)
          have iR := hid (iW r)
          have nR := hid (one_cellsW r)
          clear hr hc0 hXm
          go_wp2_with (refine wpList_load_row rfl 25 (.tmp 3) rfl (w.heap.size + 2) rfl 25 _ (0, 0) _ hW.out uWd rfl iX.out ?_; simp only [Act.put, pvA, pv0, pv1])
          refine (hB1.out _).mono ?_
          rintro e w2 ⟨rfl, hb2⟩
          have hR2 := hid (hR.out.below hb2 hR.out.lt)
          have hb3 := hb.trans (hb2.mono hb.size)
          clear hR hW hb hb2
          go_wp2_with (refine wpList_store_row rfl 25 (.tmp 2) (.tmp 72) rfl (w.heap.size + 1) _ rfl rfl 25 _ hR2.out iR.out rfl nR.out ?_; simp only [Act.put])
          refine bodyPost_ret (results_cell_row rfl _ _ (w.heap.size + 1) 25 (cellsW r) (0, 0) _ rfl (heap_setRow' _ _ _ _ _ hR2.out) uWd rfl iR.out) rfl ⟨by rw [HR.out], below_setRow' hb3 _ (by omega) _⟩
end Go.Proofs.Ytejnnghfelpioaa
namespace Go.Proofs.Ytejnnghfelpioaa
open Go.RowKit
theorem p_mod_lt (a : Nat) : a % pN < 2 ^ 256 := Nat.lt_trans (Nat.mod_lt _ pN_pos) pN_lt
set_option maxHeartbeats 2000000 in
theorem fadd_any (a b : Nat) (w : World) (ha : a < 2 ^ 256) (hb : b < 2 ^ 256) : Calls Try.prog 37 #[wd a, wd b] w fun e w' => e = .returned (wd ((a + b) % pN)) ∧ Below w.heap.size w w' := by
  have hBA := hid (fun w => below_any a w ha)
  have hBB := hid (fun w => below_any b w hb)
  have hB := hid (fun x w (hx : x < 2 ^ 256) => below_any x w hx)
  obtain ⟨a', ha'⟩ : ∃ a', a' = a % pN := ⟨_, rfl⟩
  obtain ⟨b', hb'⟩ : ∃ b', b' = b % pN := ⟨_, rfl⟩
  have hlt := hid (show a' + b' < 2 ^ 256 by
    have h1 := Nat.mod_lt a pN_pos
    have h2 := Nat.mod_lt b pN_pos
    have h3 := pN_two
    omega)
  have ha2 := hid (show a' < 2 ^ 256 by rw [ha']; exact p_mod_lt a)
  have hb2 := hid (show b' < 2 ^ 256 by rw [hb']; exact p_mod_lt b)
  have HE := hid (show (a + b) % pN = (a' + b') % pN by rw [ha', hb', Nat.add_mod])
  rw [← ha'] at hBA
  rw [← hb'] at hBB
  clear ha hb ha' hb'
  unfold wd at *
  have iA := hid (iW a)
  have iB := hid (iW b)
  have iA' := hid (iW a')
  have nA' := hid (one_cellsW a')
  have iB' := hid (iW b')
  have nB' := hid (one_cellsW b')
  have hA0 := hid (show ArrW 25 (((w.alloc (.cells (cellsW a) 25)).alloc (.cells (cellsW b) 25)).alloc (.cells (cellsW 0) 25)) w.heap.size a from ((ArrW.new _ w a).alloc _).alloc _)
  have hB0 := hid (show ArrW 25 (((w.alloc (.cells (cellsW a) 25)).alloc (.cells (cellsW b) 25)).alloc (.cells (cellsW 0) 25)) (w.heap.size + 1) b by
    have := ArrW.new 25 (w.alloc (.cells (cellsW a) 25)) b
    rw [World.size_alloc] at this; exact this.alloc _)
  have hC0 := hid (show ArrW 25 (((w.alloc (.cells (cellsW a) 25)).alloc (.cells (cellsW b) 25)).alloc (.cells (cellsW 0) 25)) (w.heap.size + 2) 0 by
    have := ArrW.new 25 ((w.alloc (.cells (cellsW a) 25)).alloc (.cells (cellsW b) 25)) 0
    rw [World.size_alloc, World.size_alloc] at this; exact this)
  have hb0 : Below w.heap.size w (((w.alloc (.cells (cellsW a) 25)).alloc (.cells (cellsW b) 25)).alloc (.cells (cellsW 0) 25)) := (((Below.refl _ _).alloc (Nat.le_refl _) _).alloc (by simp) _).alloc (by simp; omega) _
  go_enter Try.func37, Try.ntmps37
  go_wp2_with (first | (refine wpList_alloc_new rfl 25 rfl (cellsW 0) zWd ?_; simp only [Act.put, pvA, pv0, pv1, World.size_alloc]) | (refine wpList_load_row rfl 25 (.tmp 2) rfl w.heap.size rfl 25 _ (0, 0) _ hA0.out uWd rfl iA.out ?_; simp only [Act.put, pvA, pv0, pv1]))
  refine (hBA.out _).mono ?_
  rintro e w1 ⟨rfl, hb1⟩
  have hB1 := hid ((hB0.out.below hb1 hB0.out.lt).alloc (.cells (cellsW a') 25))
  have hC1 := hid ((hC0.out.below hb1 hC0.out.lt).alloc (.cells (cellsW a') 25))
  have hX1 := hid (ArrW.new 25 w1 a')
  have hb3 := hb0.trans (hb1.mono hb0.size)
  have hb4 := hb3.alloc hb3.size (.cells (cellsW a') 25)
  have hsz : w.heap.size + 3 ≤ w1.heap.size := by have := (hC0.out.below hb1 hC0.out.lt).lt; omega
  clear hA0 hB0 hC0 hb0 hb1 hb3
  obtain ⟨G, hG⟩ : ∃ G, G = w1.heap.size := ⟨_, rfl⟩
  go_wp2_with (first | (refine wpList_allocStore 25 9 5 (cellsW a') (cellsW 0) rfl rfl rfl rfl rfl rfl (by decide) (by simp) rfl (by kernel_rfl) rfl iA'.out nA'.out ?_; simp only [Act.put, pvA, pv0, pv1]) | (refine wpList_load_row rfl 25 (.tmp 3) rfl (w.heap.size + 1) rfl 25 _ (0, 0) _ hB1.out uWd rfl iB.out ?_; simp only [Act.put, pvA, pv0, pv1]))
  rw [← hG] at hX1 hsz ⊢
  generalize w1.alloc (.cells (cellsW a') 25) = w2 at hB1 hC1 hX1 hb4 ⊢
  clear hG
  refine (hBB.out _).mono ?_
  rintro e w3 ⟨rfl, hb5⟩
  have hB2 := hid (hB1.out.below hb5 hB1.out.lt)
  have hC2 := hid (hC1.out.below hb5 hC1.out.lt)
  have hX2 := hid (hX1.out.below hb5 hX1.out.lt)
  have hb6 := hb4.trans (hb5.mono hb4.size)
  clear hB1 hC1 hX1 hb4 hb5
  go_wp2_with (refine wpList_store_row rfl 25 (.tmp 3) (.tmp 11) rfl (w.heap.size + 1) _ rfl rfl 25 _ hB2.out iB'.out rfl nB'.out ?_; simp only [Act.put])
  have hB3 := hid (hB2.out.row b')
  have hC3 := hid (hC2.out.otherRow (show w.heap.size + 2 ≠ w.heap.size + 1 by omega) (cellsW b'))
  have hX3 := hid (hX2.out.otherRow (show G ≠ w.heap.size + 1 by omega) (cellsW b'))
  have hb7 := below_setRow' hb6 (w.heap.size + 1) (by omega) (cellsW b')
  generalize w3.setRow (w.heap.size + 1) (cellsW b') = w4 at hB3 hC3 hX3 hb7 ⊢
  clear hB2 hC2 hX2 hb6 hBA hBB
  go_loopw [6, 12] (fun cv iv wr => ∃ i c Y : Nat, i ≤ 4 ∧ c ≤ 1 ∧ iv = .int .i64 (i : Int) ∧ cv = .int .u64 (c : Int) ∧ Hid (Y < 2 ^ 256 ∧ Y + 2 ^ (64 * i) * c = a' + b' % 2 ^ (64 * i)) ∧ Hid (ArrW 25 wr (w.heap.size + 1) b') ∧ Hid (ArrW 25 wr (w.heap.size + 2) 0) ∧ Hid (ArrW 25 wr G Y) ∧ Below w.heap.size w wr)
    (fun _ iv _ => 4 - (intOf iv).toNat)
  case atStart => exact ⟨0, 0, a', by omega, by omega, rfl, rfl, hid ⟨ha2.out, by simp [Nat.mod_one]⟩, hB3, hC3, hX3, hb7⟩
  case round =>
    clear hB3 hC3 hX3 hb7
    obtain ⟨i, c, Y, hi, hc, rfl, rfl, hY, hBb, hC, hX, hb⟩ := hrel
    by_cases hlt4 : i < 4
    · obtain ⟨u, v, p1, p2, p3, p4⟩ := add64_nat (lmN Y i) (lmN b' i) c (lmN_lt _ _) (lmN_lt _ _) hc
      have c1 := hX.out.cell i hlt4
      have f1 := hX.out.free i
      have l1 := hX.out.lt
      have c2 := hBb.out.cell i hlt4
      have l2 := hBb.out.lt
      unfold lm at c1 c2
      have HL := hid (show setL Y i u < 2 ^ 256 from setL_lt Y i u 4 hY.out.1 p1 hlt4)
      have HS := hid (show setL Y i u + 2 ^ (64 * (i + 1)) * v = a' + b' % 2 ^ (64 * (i + 1)) by
        have h1 := setL_eq Y i u
        have h2 := hY.out.2
        rw [low_succ, pow64_succ]
        have h3 : 2 ^ (64 * i) * u + 2 ^ (64 * i) * 2 ^ 64 * v = 2 ^ (64 * i) * lmN Y i + 2 ^ (64 * i) * lmN b' i + 2 ^ (64 * i) * c := by
          rw [Nat.mul_assoc, ← Nat.mul_add, ← Nat.mul_add, ← Nat.mul_add]; congr 1; omega
        omega)
      clear p3 hY
      go_wp2_with fail
      (refine wp_region_ext_float 13 11 [0, 1, 2, 3, 4, 5, 6, 7, 8, 9, 10, 12] [_, _, _, _, _, _, _, _, _, _, _, _] _ _ _ rfl rfl rfl rfl (by kernel_rfl) (by kernel_rfl) ?_; (repeat (go_big_quiet_step (first | fail))); refine wpQuiet_nil ?_; refine ⟨?_, ?_⟩; rotate_left; rintro _ ⟨xw, rfl⟩; rotate_left; (repeat (go_big_quiet_step (first | fail))); refine wpQuiet_nil ?_; rintro _ ⟨xw, rfl⟩)
      all_goals
        go_wp2
        go_roundw
        case rel =>
          exact ⟨i + 1, v, setL Y i u, by omega, p2, by go_num, rfl, hid ⟨HL.out, HS.out⟩, hid ((hBb.out.ext xw).other (by show w.heap.size + 1 ≠ G; omega) _), hid ((hC.out.ext xw).other (by show w.heap.size + 2 ≠ G; omega) _), hid (ArrM.toW ((ArrM.ofW (hX.out.ext xw)).set i u p1)), (World.ext_below_of hb hb.size xw).setCell (p := ⟨G, i, none⟩) (by show w.heap.size ≤ G; omega) _⟩
        case measure => simp [intOf]; omega
    · obtain rfl : i = 4 := by omega
      have hYe : Y = a' + b' := by
        have h1 := hY.out
        rw [low_full b' hb2.out] at h1
        have h2 := hlt.out
        have h3 : 2 ^ (64 * 4) = 2 ^ 256 := rfl
        rw [h3] at h1
        generalize 2 ^ 256 = T at *
        have h4 : c = 0 ∨ c = 1 := by omega
        rcases h4 with rfl | rfl
        · omega
        · omega
      have hB1 := hid (fun w => hB.out Y w hY.out.1)
      have HR := hid (show Y % pN = (a + b) % pN by rw [hYe, HE.out])
      obtain ⟨r, hr⟩ : ∃ r, r = Y % pN := ⟨_, rfl⟩
      rw [← hr] at hB1 HR
      have iY := hid (iW Y)
      have iR := hid (iW r)
      have nR := hid (one_cellsW r)
      clear hY hYe hB hr hlt4 hi
      go_wp2_with (refine wpList_load_row rfl 25 (.tmp 5) rfl G rfl 25 _ (0, 0) _ hX.out uWd rfl iY.out ?_; simp only [Act.put, pvA, pv0, pv1])
      refine (hB1.out _).mono ?_
      rintro e w2 ⟨rfl, hb2⟩
      have hR2 := hid (hC.out.below hb2 hC.out.lt)
      have hb3 := hb.trans (hb2.mono hb.size)
      clear hBb hC hX hb hb2
      go_wp2_with (refine wpList_store_row rfl 25 (.tmp 4) (.tmp 30) rfl (w.heap.size + 2) _ rfl rfl 25 _ hR2.out iR.out rfl nR.out ?_; simp only [Act.put])
      refine bodyPost_ret (results_cell_row rfl _ _ (w.heap.size + 2) 25 (cellsW r) (0, 0) _ rfl (heap_setRow' _ _ _ _ _ hR2.out) uWd rfl iR.out) rfl ⟨by rw [HR.out], below_setRow' hb3 _ (by omega) _⟩
def subP (a b : Nat) : Nat := (a + (pN - b % pN)) % pN
set_option maxHeartbeats 2000000 in
theorem fsub_any (a b : Nat) (w : World) (ha : a < 2 ^ 256) (hb : b < 2 ^ 256) : Calls Try.prog 16 #[wd a, wd b] w fun e w' => e = .returned (wd (subP a b)) ∧ Below w.heap.size w w' := by
  have hP := hid fP_any
  have hBB := hid (fun w => below_any b w hb)
  have hS := hid (fun w => wsub_any pN (b % pN) w pN_lt (p_mod_lt b))
  have hb1 := Nat.mod_lt b pN_pos
  have hsub : subW pN (b % pN) = pN - b % pN := by
    unfold subW
    have h1 := pN_lt
    have h2 : b % pN < 2 ^ 256 := p_mod_lt b
    generalize b % pN = y at *
    generalize pN = p at *
    generalize 2 ^ 256 = T at *
    rw [show p + (T - y) = (p - y) + T by omega, Nat.add_mod_right, Nat.mod_eq_of_lt (by omega)]
  rw [hsub] at hS
  have hdl : pN - b % pN < 2 ^ 256 := Nat.lt_of_le_of_lt (Nat.sub_le _ _) pN_lt
  have hA := hid (fun w => fadd_any a (pN - b % pN) w ha hdl)
  rw [show (a + (pN - b % pN)) % pN = subP a b from rfl] at hA
  obtain ⟨d, hd⟩ : ∃ d, d = pN - b % pN := ⟨_, rfl⟩
  obtain ⟨b', hb'⟩ : ∃ b', b' = b % pN := ⟨_, rfl⟩
  obtain ⟨r, hr⟩ : ∃ r, r = subP a b := ⟨_, rfl⟩
  rw [← hd] at hS hA
  rw [← hb'] at hBB hS
  rw [← hr] at hA ⊢
  generalize pN = p at *
  clear ha hb hb1 hsub hdl hd hb' hr
  unfold wd at *
  have iA := hid (iW a)
  have iB := hid (iW b)
  have iR := hid (iW r)
  have nR := hid (one_cellsW r)
  have hA0 := hid (show ArrW 25 (((w.alloc (.cells (cellsW a) 25)).alloc (.cells (cellsW b) 25)).alloc (.cells (cellsW 0) 25)) w.heap.size a from ((ArrW.new _ w a).alloc _).alloc _)
  have hB0 := hid (show ArrW 25 (((w.alloc (.cells (cellsW a) 25)).alloc (.cells (cellsW b) 25)).alloc (.cells (cellsW 0) 25)) (w.heap.size + 1) b by
    have := ArrW.new 25 (w.alloc (.cells (cellsW a) 25)) b
    rw [World.size_alloc] at this; exact this.alloc _)
  have hC0 := hid (show ArrW 25 (((w.alloc (.cells (cellsW a) 25)).alloc (.cells (cellsW b) 25)).alloc (.cells (cellsW 0) 25)) (w.heap.size + 2) 0 by
    have := ArrW.new 25 ((w.alloc (.cells (cellsW a) 25)).alloc (.cells (cellsW b) 25)) 0
    rw [World.size_alloc, World.size_alloc] at this; exact this)
  have hb0 : Below w.heap.size w (((w.alloc (.cells (cellsW a) 25)).alloc (.cells (cellsW b) 25)).alloc (.cells (cellsW 0) 25)) := (((Below.refl _ _).alloc (Nat.le_refl _) _).alloc (by simp) _).alloc (by simp; omega) _
  go_enter Try.func16, Try.ntmps16
  go_wp2_with (refine wpList_alloc_new rfl 25 rfl (cellsW 0) zWd ?_; simp only [Act.put, pvA, pv0, pv1, World.size_alloc])
  generalize ((w.alloc (.cells (cellsW a) 25)).alloc (.cells (cellsW b) 25)).alloc (.cells (cellsW 0) 25) = w1 at hA0 hB0 hC0 hb0 ⊢
  ((try simp only [World.size_alloc]); refine wp_region_ext_tail 6 (by kernel_rfl) (by kernel_rfl) ?_; simp only [List.take_succ_cons, List.take_zero, List.drop_succ_cons, List.drop_zero]; (repeat (first | (refine wpQuiet_load_want 25 (.tmp 2) rfl w.heap.size rfl 25 (cellsW _) _ hA0.out uWd rfl iA.out rfl ?_; simp only [Act.put, pvA, pv0, pv1]) | (refine wpQuiet_load_want 25 (.tmp 3) rfl (w.heap.size + 1) rfl 25 (cellsW _) _ hB0.out uWd rfl iB.out rfl ?_; simp only [Act.put, pvA, pv0, pv1]) | go_big_quiet_step (first | (go_at_call 41; with_reducible refine Calls.ext_of (hP.out _)) | (go_at_call 42; with_reducible refine Calls.ext_of (hBB.out _)) | (go_at_call 40; with_reducible refine Calls.ext_of (hS.out _)) | (go_at_call 37; with_reducible refine Calls.ext_of (hA.out _))))); refine wpQuiet_nil ?_; rintro _ ⟨xw, rfl⟩)
  have hC1 := hid (hC0.out.ext xw)
  have hb1 := World.ext_below_of hb0 hb0.size xw
  generalize w1.ext xw = w2 at hC1 hb1 ⊢
  clear hA0 hB0 hC0 hb0
  (refine wpList_store_row rfl 25 (.tmp 4) (.tmp 10) rfl (w.heap.size + 2) _ rfl rfl 25 _ hC1.out iR.out rfl nR.out ?_; simp only [Act.put])
  go_wp2
  refine bodyPost_ret (results_cell_row rfl _ _ (w.heap.size + 2) 25 (cellsW r) (0, 0) _ rfl (heap_setRow' _ _ _ _ _ hC1.out) uWd rfl iR.out) rfl ⟨rfl, below_setRow' hb1 _ (by omega) _⟩
set_option maxHeartbeats 4000000 in
set_option maxRecDepth 100000 in
theorem fmul_any (a b : Nat) (w : World) (ha : a < 2 ^ 256) (hb : b < 2 ^ 256) : Calls Try.prog 34 #[wd a, wd b] w fun e w' => e = .returned (wd (a * b % pN)) ∧ Below w.heap.size w w' := by
  have HA := hid ha
  have HB := hid hb
  have hF := hid (fun w => fold_any (a * b) w (by
    have := Nat.mul_lt_mul'' ha hb
    rw [← Nat.pow_add, show 256 + 256 = 64 * 8 from rfl] at this; exact this))
  obtain ⟨r, hr⟩ : ∃ r, r = a * b % pN := ⟨_, rfl⟩
  rw [← hr] at hF ⊢
  clear ha hb hr
  unfold wd at *
  have iR := hid (iW r)
  have nR := hid (one_cellsW r)
  obtain ⟨W0, hW0⟩ : ∃ W0, W0 = (((w.alloc (.cells (cellsW a) 25)).alloc (.cells (cellsW b) 25)).alloc (.cells (cellsW 0) 25)).alloc (.cells (cellsM 8 0) 102) := ⟨_, rfl⟩
  have hA0 := hid (show ArrW 25 W0 w.heap.size a by rw [hW0]; exact (((ArrW.new _ w a).alloc _).alloc _).alloc _)
  have hB0 := hid (show ArrW 25 W0 (w.heap.size + 1) b by
    have := ArrW.new 25 (w.alloc (.cells (cellsW a) 25)) b
    rw [World.size_alloc] at this; rw [hW0]; exact (this.alloc _).alloc _)
  have hR0 := hid (show ArrW 25 W0 (w.heap.size + 2) 0 by
    have := ArrW.new 25 ((w.alloc (.cells (cellsW a) 25)).alloc (.cells (cellsW b) 25)) 0
    rw [World.size_alloc, World.size_alloc] at this; rw [hW0]; exact this.alloc _)
  have hC0 := hid (show ArrM 102 8 W0 (w.heap.size + 3) 0 by
    have := ArrM.new 102 8 (((w.alloc (.cells (cellsW a) 25)).alloc (.cells (cellsW b) 25)).alloc (.cells (cellsW 0) 25)) 0
    rw [World.size_alloc, World.size_alloc, World.size_alloc] at this; rw [hW0]; exact this)
  have hb0 : Below w.heap.size w W0 := by rw [hW0]; exact ((((Below.refl _ _).alloc (Nat.le_refl _) _).alloc (by simp) _).alloc (by simp; omega) _).alloc (by simp; omega) _
  go_enter Try.func34, Try.ntmps34
  go_wp2_with (first | (refine wpList_alloc_new rfl 25 rfl (cellsW 0) zWd ?_; simp only [Act.put, pvA, pv0, pv1, World.size_alloc]) | (refine wpList_alloc_new rfl 102 rfl (cellsM 8 0) zM8 ?_; simp only [Act.put, pvA, pv0, pv1, World.size_alloc]))
  rw [← hW0]
  clear hW0
  go_loopw [12] (fun iv wr => ∃ i P : Nat, i ≤ 4 ∧ iv = .int .i64 (i : Int) ∧ Hid (P < 2 ^ (64 * (i + 4)) ∧ P = a % 2 ^ (64 * i) * b) ∧ Hid (ArrW 25 wr w.heap.size a) ∧ Hid (ArrW 25 wr (w.heap.size + 1) b) ∧ Hid (ArrW 25 wr (w.heap.size + 2) 0) ∧ Hid (ArrM 102 8 wr (w.heap.size + 3) P) ∧ Below w.heap.size w wr)
    (fun iv _ => 4 - (intOf iv).toNat)
  case atStart => exact ⟨0, 0, by omega, rfl, hid ⟨by exact Nat.pow_pos (by omega), by simp [Nat.mod_one]⟩, hA0, hB0, hR0, hC0, hb0⟩
  case round =>
    clear hA0 hB0 hR0 hC0 hb0
    obtain ⟨i, P0, hi, rfl, hX, hA0, hB0, hR0, hC0, hb0⟩ := hrel
    by_cases hlt : i < 4
    · go_wp2
      go_loopw [7, 15] (fun cv kv wr => ∃ k c P : Nat, k ≤ 4 ∧ c < 18446744073709551616 ∧ kv = .int .i64 (k : Int) ∧ cv = .int .u64 (c : Int) ∧ Hid (P < 2 ^ (64 * (i + 4)) ∧ P + 2 ^ (64 * (i + k)) * c = a % 2 ^ (64 * i) * b + 2 ^ (64 * i) * (lmN a i * (b % 2 ^ (64 * k)))) ∧ Hid (ArrW 25 wr w.heap.size a) ∧ Hid (ArrW 25 wr (w.heap.size + 1) b) ∧ Hid (ArrW 25 wr (w.heap.size + 2) 0) ∧ Hid (ArrM 102 8 wr (w.heap.size + 3) P) ∧ Below w.heap.size w wr)
        (fun _ kv _ => 4 - (intOf kv).toNat)
      case atStart => exact ⟨0, 0, P0, by omega, by omega, rfl, rfl, hid ⟨hX.out.1, by rw [hX.out.2]; simp [Nat.mod_one]⟩, hA0, hB0, hR0, hC0, hb0⟩
      case round =>
        clear hA0 hB0 hR0 hC0 hb0 hX
        obtain ⟨k, c, P, hk, hc, rfl, rfl, hX, hA, hB, hR, hC, hb⟩ := hrel
        by_cases hklt : k < 4
        · have c1 := hA.out.cell i hlt
          have c2 := hB.out.cell k hklt
          have l1 := hA.out.lt
          have l2 := hB.out.lt
          obtain ⟨mhi, mlo, m1, m2, m3, m4⟩ := mul64_nat (lmN a i) (lmN b k) (lmN_lt _ _) (lmN_lt _ _)
          obtain ⟨u1, v1, p1, p2, p3, p4⟩ := add64_nat0 mlo (lmN P (i + k)) m2 (lmN_lt _ _)
          obtain ⟨u2, v2, r1, r2, r3, r4⟩ := add64_nat0 u1 c p1 hc
          obtain ⟨s1, s2, s3⟩ := full_step a b P c i k mhi mlo u1 v1 u2 v2 hX.out.1 hklt hc r1 m3 p3 r3 hX.out.2
          have M4 := hid m4
          have S2 := hid s2
          have S3 := hid s3
          have lP := lmN_lt P (i + k)
          clear m3 p3 r3 s2 s3 m4
          unfold lm at c1 c2
          go_wp2_with fail
          (refine wp_region_ext (by kernel_rfl) (by kernel_rfl) ?_; (repeat (go_big_quiet_step (first | (go_at_call 64; with_reducible refine Calls.ext_of (M4.out _))))); refine wpQuiet_nil ?_; rintro _ ⟨xw, rfl⟩)
          have hA' := hid (hA.out.ext xw)
          have hB' := hid (hB.out.ext xw)
          have hR' := hid (hR.out.ext xw)
          have hC' := hid (hC.out.ext xw)
          have hb' := World.ext_below_of hb hb.size xw
          clear hA hB hR hC hb c1 c2 l1 l2
          generalize wr.ext xw = wr at *
          have c3 := hC'.out.cell (i + k) (by omega)
          have f3 := hC'.out.free (i + k)
          have l3 := hC'.out.lt
          go_wp2
          go_roundw
          case rel =>
            refine ⟨k + 1, mhi + v1 + v2, setL P (i + k) u2, by omega, s1, by go_num, ?_, hid ⟨S2.out, S3.out⟩, hid (hA'.out.other (by show w.heap.size ≠ w.heap.size + 3; omega) _), hid (hB'.out.other (by show w.heap.size + 1 ≠ w.heap.size + 3; omega) _), hid (hR'.out.other (by show w.heap.size + 2 ≠ w.heap.size + 3; omega) _), hid (hC'.out.set (i + k) u2 r1), hb'.setCell (p := ⟨w.heap.size + 3, i + k, none⟩) (by show w.heap.size ≤ w.heap.size + 3; omega) _⟩
            go_num
          case measure => simp [intOf]; omega
        · obtain rfl : k = 4 := by omega
          have c3 := hC.out.cell (i + 4) (by omega)
          have f3 := hC.out.free (i + 4)
          have l3 := hC.out.lt
          have HE := hid (full_end a b P c i HB.out hX.out.1 hX.out.2)
          have HL := hid (show setL P (i + 4) c < 2 ^ (64 * (i + 1 + 4)) by
            rw [setL_top _ _ _ hX.out.1, show i + 1 + 4 = (i + 4) + 1 by omega]
            exact set_lt P (i + 4) c hX.out.1 hc)
          go_wp2
          go_roundw
          case rel =>
            exact ⟨i + 1, setL P (i + 4) c, by omega, by go_num, hid ⟨HL.out, HE.out⟩, hid (hA.out.other (by show w.heap.size ≠ w.heap.size + 3; omega) _), hid (hB.out.other (by show w.heap.size + 1 ≠ w.heap.size + 3; omega) _), hid (hR.out.other (by show w.heap.size + 2 ≠ w.heap.size + 3; omega) _), hid (hC.out.set (i + 4) c hc), hb.setCell (p := ⟨w.heap.size + 3, i + 4, none⟩) (by show w.heap.size ≤ w.heap.size + 3; omega) _⟩
          case measure => simp [intOf]; omega
    · obtain rfl : i = 4 := by omega
      have hP : P0 = a * b := by rw [hX.out.2, low_full a HA.out]
      subst hP
      have iX := hid (iM8 (a * b))
      clear hX hA0 hB0 hlt hi
      go_wp2_with (refine wpList_load_row rfl 102 (.tmp 5) rfl (w.heap.size + 3) rfl 102 _ (0, 0) _ hC0.out uM8 rfl iX.out ?_; simp only [Act.put, pvA, pv0, pv1])
      refine (hF.out _).mono ?_
      rintro e w2 ⟨rfl, hb2⟩
      have hR2 := hid (hR0.out.below hb2 hR0.out.lt)
      have hb3 := hb0.trans (hb2.mono hb0.size)
      clear hR0 hC0 hb0 hb2
      go_wp2_with (refine wpList_store_row rfl 25 (.tmp 4) (.tmp 62) rfl (w.heap.size + 2) _ rfl rfl 25 _ hR2.out iR.out rfl nR.out ?_; simp only [Act.put])
      refine bodyPost_ret (results_cell_row rfl _ _ (w.heap.size + 2) 25 (cellsW r) (0, 0) _ rfl (heap_setRow' _ _ _ _ _ hR2.out) uWd rfl iR.out) rfl ⟨rfl, below_setRow' hb3 _ (by omega) _⟩
end Go.Proofs.Ytejnnghfelpioaa
namespace Go.Proofs.Ytejnnghfelpioaa
open Go.RowKit
def powP (a e : Nat) : Nat := a ^ e % pN
theorem powP_lt (a e : Nat) : powP a e < 2 ^ 256 := p_mod_lt _
theorem powP_zero (a : Nat) : powP a 0 = 1 := by unfold powP; rw [Nat.pow_zero]; decide +kernel
theorem powP_double (a e : Nat) : powP a e * powP a e % pN = powP a (2 * e) := by
  unfold powP; rw [← Nat.mul_mod, ← Nat.pow_add, Nat.two_mul]
theorem powP_succ (a e : Nat) : powP a e * a % pN = powP a (e + 1) := by
  unfold powP; rw [Nat.mod_mul_mod, ← Nat.pow_succ]
theorem one_built : Try.prog.built 25 [(0, .int .u64 1)] = some (cellsW 1) := by kernel_rfl
theorem bit_down (e k : Nat) : e / 2 ^ k = 2 * (e / 2 ^ (k + 1)) + e / 2 ^ k % 2 := by
  rw [Nat.pow_succ, ← Nat.div_div_eq_div_mul]; omega
set_option maxHeartbeats 4000000 in
theorem fpow_any (a e : Nat) (w : World) (ha : a < 2 ^ 256) (he : e < 2 ^ 256) : Calls Try.prog 67 #[wd a, wd e] w fun en w' => en = .returned (wd (powP a e)) ∧ Below w.heap.size w w' := by
  have HE := hid he
  have hM := hid (fun x y w (hx : x < 2 ^ 256) (hy : y < 2 ^ 256) => fmul_any x y w hx hy)
  have HA := hid ha
  clear ha he
  have hB1 := hid one_built
  unfold wd at *
  have iA := hid (iW a)
  have i1 := hid (iW 1)
  have n1 := hid (one_cellsW 1)
  obtain ⟨W0, hW0⟩ : ∃ W0, W0 = (((w.alloc (.cells (cellsW a) 25)).alloc (.cells (cellsW e) 25)).alloc (.cells (cellsW 0) 25)).alloc (.cells (cellsW 1) 25) := ⟨_, rfl⟩
  have hA0 := hid (show ArrW 25 W0 w.heap.size a by rw [hW0]; exact (((ArrW.new _ w a).alloc _).alloc _).alloc _)
  have hE0 := hid (show ArrW 25 W0 (w.heap.size + 1) e by
    have := ArrW.new 25 (w.alloc (.cells (cellsW a) 25)) e
    rw [World.size_alloc] at this; rw [hW0]; exact (this.alloc _).alloc _)
  have hR0 := hid (show ArrW 25 W0 (w.heap.size + 2) 0 by
    have := ArrW.new 25 ((w.alloc (.cells (cellsW a) 25)).alloc (.cells (cellsW e) 25)) 0
    rw [World.size_alloc, World.size_alloc] at this; rw [hW0]; exact this.alloc _)
  have hO0 := hid (show ArrW 25 W0 (w.heap.size + 3) 1 by
    have := ArrW.new 25 (((w.alloc (.cells (cellsW a) 25)).alloc (.cells (cellsW e) 25)).alloc (.cells (cellsW 0) 25)) 1
    rw [World.size_alloc, World.size_alloc, World.size_alloc] at this; rw [hW0]; exact this)
  have hb0 : Below w.heap.size w W0 := by rw [hW0]; exact ((((Below.refl _ _).alloc (Nat.le_refl _) _).alloc (by simp) _).alloc (by simp; omega) _).alloc (by simp; omega) _
  go_enter Try.func67, Try.ntmps67
  go_wp2_with (first | (refine wpList_alloc_new rfl 25 rfl (cellsW 0) zWd ?_; simp only [Act.put, pvA, pv0, pv1, World.size_alloc]) | (refine wpList_newArr 25 _ 8 5 (cellsW 1) (cellsW 0) rfl rfl rfl rfl rfl rfl rfl rfl rfl (by decide) (by simp) (by simp) (by kernel_rfl) (by kernel_rfl) (by kernel_rfl) (by kernel_rfl) (by kernel_rfl) ?_; simp only [Act.put, pvA, pv0, pv1]))
  (try simp only [World.size_alloc])
  rw [← hW0]
  clear hW0
  go_loopw [9] (fun iv wr => ∃ i : Nat, i ≤ 256 ∧ iv = .int .i64 (i : Int) ∧ Hid (ArrW 25 wr w.heap.size a) ∧ Hid (ArrW 25 wr (w.heap.size + 1) e) ∧ Hid (ArrW 25 wr (w.heap.size + 2) 0) ∧ Hid (ArrW 25 wr (w.heap.size + 3) (powP a (e / 2 ^ (256 - i)))) ∧ Below w.heap.size w wr)
    (fun iv _ => 256 - (intOf iv).toNat)
  case atStart =>
    refine ⟨0, by omega, rfl, hA0, hE0, hR0, ?_, hb0⟩
    rw [show e / 2 ^ (256 - 0) = 0 from Nat.div_eq_of_lt HE.out, powP_zero]
    exact hO0
  case round =>
    clear hA0 hE0 hR0 hO0 hb0
    obtain ⟨i, hi, rfl, hA, hE, hR, hO, hb⟩ := hrel
    by_cases hlt : i < 256
    · obtain ⟨k, hk⟩ : ∃ k, i + k = 255 := ⟨255 - i, by omega⟩
      have hki : (255 : Int) - (i : Int) = (k : Int) := by omega
      rw [show 256 - i = k + 1 by omega] at hO
      have hbit := lm_bit e k
      have HD := hid (bit_down e k)
      obtain ⟨y, hy⟩ : ∃ y, y = powP a (e / 2 ^ (k + 1)) := ⟨_, rfl⟩
      have hyl : y < 2 ^ 256 := by rw [hy]; exact powP_lt _ _
      have hM1 := hid (fun w => hM.out y y w hyl hyl)
      have H2 := hid (show y * y % pN = powP a (2 * (e / 2 ^ (k + 1))) by rw [hy]; exact powP_double _ _)
      obtain ⟨z, hz⟩ : ∃ z, z = y * y % pN := ⟨_, rfl⟩
      rw [← hz] at hM1 H2
      have hzl : z < 2 ^ 256 := by rw [hz]; exact p_mod_lt _
      rw [← hy] at hO
      have iY := hid (iW y)
      have iZ := hid (iW z)
      have nZ := hid (one_cellsW z)
      clear hy hyl hz
      have HZL := hid hzl
      clear hzl
      go_wp2_with (refine wpList_load_row rfl 25 (.tmp 5) rfl (w.heap.size + 3) rfl 25 _ (0, 0) _ hO.out uWd rfl iY.out ?_; simp only [Act.put, pvA, pv0, pv1])
      refine (hM1.out _).mono ?_
      rintro en w2 ⟨rfl, hb2⟩
      have hA2 := hid (hA.out.below hb2 hA.out.lt)
      have hE2 := hid (hE.out.below hb2 hE.out.lt)
      have hR2 := hid (hR.out.below hb2 hR.out.lt)
      have hO2 := hid (hO.out.below hb2 hO.out.lt)
      have hb3 := hb.trans (hb2.mono hb.size)
      clear hA hE hR hO hb hb2 hM1
      have hA3 := hid (hA2.out.otherRow (show w.heap.size ≠ w.heap.size + 3 by omega) (cellsW z))
      have hE3 := hid (hE2.out.otherRow (show w.heap.size + 1 ≠ w.heap.size + 3 by omega) (cellsW z))
      have hR3 := hid (hR2.out.otherRow (show w.heap.size + 2 ≠ w.heap.size + 3 by omega) (cellsW z))
      have hO3 := hid (hO2.out.row z)
      have hb4 := below_setRow' hb3 (w.heap.size + 3) (by omega) (cellsW z)
      have cE := hE3.out.cell (k / 64) (by omega)
      have lE := hE3.out.lt
      rcases (show e / 2 ^ k % 2 = 0 ∨ e / 2 ^ k % 2 = 1 by omega) with hb0 | hb1
      · rw [hb0] at hbit HD
        have H3 := hid (show z = powP a (e / 2 ^ k) by rw [H2.out, HD.out]; rfl)
        clear hb0
        go_wp2_with (refine wpList_store_row rfl 25 (.tmp 5) (.tmp 14) rfl (w.heap.size + 3) _ rfl rfl 25 _ hO2.out iZ.out rfl nZ.out ?_; simp only [Act.put])
        go_roundw
        case rel =>
          refine ⟨i + 1, by omega, by go_num, hA3, hE3, hR3, ?_, hb4⟩
          rw [show 256 - (i + 1) = k by omega, ← H3.out]; exact hO3
        case measure => simp [intOf]; omega
      · rw [hb1] at hbit HD
        have hM2 := hid (fun w => hM.out z a w HZL.out HA.out)
        have H3 := hid (show z * a % pN = powP a (e / 2 ^ k) by rw [H2.out, HD.out, powP_succ])
        obtain ⟨u, hu⟩ : ∃ u, u = z * a % pN := ⟨_, rfl⟩
        rw [← hu] at hM2 H3
        have iU := hid (iW u)
        have nU := hid (one_cellsW u)
        clear hb1 hu
        go_wp2_with (first | (refine wpList_store_row rfl 25 (.tmp 5) (.tmp 14) rfl (w.heap.size + 3) _ rfl rfl 25 _ hO2.out iZ.out rfl nZ.out ?_; simp only [Act.put]) | (refine wpList_load_row rfl 25 (.tmp 5) rfl (w.heap.size + 3) rfl 25 _ (0, 0) _ hO3.out uWd rfl iZ.out ?_; simp only [Act.put, pvA, pv0, pv1]) | (refine wpList_load_row rfl 25 (.tmp 2) rfl w.heap.size rfl 25 _ (0, 0) _ hA3.out uWd rfl iA.out ?_; simp only [Act.put, pvA, pv0, pv1]))
        refine (hM2.out _).mono ?_
        rintro en w5 ⟨rfl, hb5⟩
        have hA5 := hid (hA3.out.below hb5 hA3.out.lt)
        have hE5 := hid (hE3.out.below hb5 hE3.out.lt)
        have hR5 := hid (hR3.out.below hb5 hR3.out.lt)
        have hO5 := hid (hO3.out.below hb5 hO3.out.lt)
        have hb6 := hb4.trans (hb5.mono hb4.size)
        clear hA2 hE2 hR2 hO2 hb3 hA3 hE3 hR3 hO3 hb4 hb5 cE lE hM2
        have hA7 := hid (hA5.out.otherRow (show w.heap.size ≠ w.heap.size + 3 by omega) (cellsW u))
        have hE7 := hid (hE5.out.otherRow (show w.heap.size + 1 ≠ w.heap.size + 3 by omega) (cellsW u))
        have hR7 := hid (hR5.out.otherRow (show w.heap.size + 2 ≠ w.heap.size + 3 by omega) (cellsW u))
        have hO7 := hid (hO5.out.row u)
        have hb7 := below_setRow' hb6 (w.heap.size + 3) (by omega) (cellsW u)
        go_wp2_with (refine wpList_store_row rfl 25 (.tmp 5) (.tmp 28) rfl (w.heap.size + 3) _ rfl rfl 25 _ hO5.out iU.out rfl nU.out ?_; simp only [Act.put])
        go_roundw
        case rel =>
          refine ⟨i + 1, by omega, by go_num, hA7, hE7, hR7, ?_, hb7⟩
          rw [show 256 - (i + 1) = k by omega, ← H3.out]; exact hO7
        case measure => simp [intOf]; omega
    · obtain rfl : i = 256 := by omega
      rw [show e / 2 ^ (256 - 256) = e from Nat.div_one e] at hO
      obtain ⟨r, hr⟩ : ∃ r, r = powP a e := ⟨_, rfl⟩
      rw [← hr] at hO
      have HR := hid hr
      have iR := hid (iW r)
      have nR := hid (one_cellsW r)
      clear hr hlt hi hA hE
      go_wp2_with (first | (refine wpList_load_row rfl 25 (.tmp 5) rfl (w.heap.size + 3) rfl 25 _ (0, 0) _ hO.out uWd rfl iR.out ?_; simp only [Act.put, pvA, pv0, pv1]) | (refine wpList_store_row rfl 25 (.tmp 4) (.tmp 30) rfl (w.heap.size + 2) _ rfl rfl 25 _ hR.out iR.out rfl nR.out ?_; simp only [Act.put]))
      refine bodyPost_ret (results_cell_row rfl _ _ (w.heap.size + 2) 25 (cellsW r) (0, 0) _ rfl (heap_setRow' _ _ _ _ _ hR.out) uWd rfl iR.out) rfl ⟨by rw [HR.out], below_setRow' hb _ (by omega) _⟩
end Go.Proofs.Ytejnnghfelpioaa
namespace Go.Proofs.Ytejnnghfelpioaa
open Go.RowKit
theorem two_built : Try.prog.built 25 [(0, .int .u64 2)] = some (cellsW 2) := by kernel_rfl
theorem three_built : Try.prog.built 25 [(0, .int .u64 3)] = some (cellsW 3) := by kernel_rfl
theorem nil_built : Try.prog.built 25 [] = some (cellsW 0) := by kernel_rfl
theorem subW_le (a b : Nat) (ha : a < 2 ^ 256) (h : b ≤ a) : subW a b = a - b := by
  unfold subW
  generalize 2 ^ 256 = T at *
  rw [show a + (T - b) = (a - b) + T by omega, Nat.add_mod_right, Nat.mod_eq_of_lt (by omega)]
set_option maxHeartbeats 2000000 in
theorem finv_any (a : Nat) (w : World) (ha : a < 2 ^ 256) : Calls Try.prog 36 #[wd a] w fun e w' => e = .returned (wd (powP a (pN - 2))) ∧ Below w.heap.size w w' := by
  have hP := hid fP_any
  have hS := hid (fun w => wsub_any pN 2 w pN_lt (by decide))
  rw [subW_le pN 2 pN_lt (by decide +kernel)] at hS
  have hW := hid (fun w => fpow_any a (pN - 2) w ha (Nat.lt_of_le_of_lt (Nat.sub_le _ _) pN_lt))
  obtain ⟨d, hd⟩ : ∃ d, d = pN - 2 := ⟨_, rfl⟩
  rw [← hd] at hS hW ⊢
  obtain ⟨r, hr⟩ : ∃ r, r = powP a d := ⟨_, rfl⟩
  rw [← hr] at hW ⊢
  generalize pN = p at *
  have hB2 := hid two_built
  clear ha hd hr
  unfold wd at *
  have iA := hid (iW a)
  have iR := hid (iW r)
  have nR := hid (one_cellsW r)
  have hA0 := hid (show ArrW 25 ((w.alloc (.cells (cellsW a) 25)).alloc (.cells (cellsW 0) 25)) w.heap.size a from (ArrW.new _ w a).alloc _)
  have hC0 := hid (show ArrW 25 ((w.alloc (.cells (cellsW a) 25)).alloc (.cells (cellsW 0) 25)) (w.heap.size + 1) 0 by
    have := ArrW.new 25 (w.alloc (.cells (cellsW a) 25)) 0
    rw [World.size_alloc] at this; exact this)
  have hb0 : Below w.heap.size w ((w.alloc (.cells (cellsW a) 25)).alloc (.cells (cellsW 0) 25)) := ((Below.refl _ _).alloc (Nat.le_refl _) _).alloc (by simp) _
  go_enter Try.func36, Try.ntmps36
  go_wp2_with (refine wpList_alloc_new rfl 25 rfl (cellsW 0) zWd ?_; simp only [Act.put, pvA, pv0, pv1, World.size_alloc])
  generalize (w.alloc (.cells (cellsW a) 25)).alloc (.cells (cellsW 0) 25) = w1 at hA0 hC0 hb0 ⊢
  ((try simp only [World.size_alloc]); refine wp_region_ext_tail 5 (by kernel_rfl) (by kernel_rfl) ?_; simp only [List.take_succ_cons, List.take_zero, List.drop_succ_cons, List.drop_zero]; (repeat (first | (refine wpQuiet_load_want 25 (.tmp 1) rfl w.heap.size rfl 25 (cellsW _) _ hA0.out uWd rfl iA.out rfl ?_; simp only [Act.put, pvA, pv0, pv1]) | (refine wpQuiet_build_want 25 _ rfl (cellsW 2) (by first | exact hB2.out | (simp only [List.map_toArray, List.map_cons, List.map_nil]; exact hB2.out)) rfl ?_; simp only [Act.put, pvA, pv0, pv1]) | go_big_quiet_step (first | (go_at_call 41; with_reducible refine Calls.ext_of (hP.out _)) | (go_at_call 40; with_reducible refine Calls.ext_of (hS.out _)) | (go_at_call 67; with_reducible refine Calls.ext_of (hW.out _))))); refine wpQuiet_nil ?_; rintro _ ⟨xw, rfl⟩)
  have hC1 := hid (hC0.out.ext xw)
  have hb1 := World.ext_below_of hb0 hb0.size xw
  generalize w1.ext xw = w2 at hC1 hb1 ⊢
  clear hA0 hC0 hb0
  (refine wpList_store_row rfl 25 (.tmp 2) (.tmp 7) rfl (w.heap.size + 1) _ rfl rfl 25 _ hC1.out iR.out rfl nR.out ?_; simp only [Act.put])
  go_wp2
  refine bodyPost_ret (results_cell_row rfl _ _ (w.heap.size + 1) 25 (cellsW r) (0, 0) _ rfl (heap_setRow' _ _ _ _ _ hC1.out) uWd rfl iR.out) rfl ⟨rfl, below_setRow' hb1 _ (by omega) _⟩
def sq0 (a : Nat) : Nat := powP (a % pN) ((pN + 3) / 8)
def sq1 (a : Nat) : Nat := if sq0 a * sq0 a % pN = a % pN then sq0 a else sq0 a * powP 2 (pN / 4) % pN
def sqOk (a : Nat) : Bool := decide (sq1 a * sq1 a % pN = a % pN)
def sqX (a : Nat) : Nat := if sqOk a then (if sq1 a % 2 = 1 then pN - sq1 a else sq1 a) else 0
theorem sq1_lt (a : Nat) : sq1 a < pN := by
  unfold sq1; split
  · exact Nat.mod_lt _ pN_pos
  · exact Nat.mod_lt _ pN_pos
set_option maxHeartbeats 8000000 in
theorem fsqrt_any (a : Nat) (w : World) (ha : a < 2 ^ 256) : Calls Try.prog 35 #[wd a] w fun e w' => e = .returned (.tuple #[wd (sqX a), .bool (sqOk a)]) ∧ Below w.heap.size w w' := by
  have hP := hid fP_any
  have hBl := hid (fun w => below_any a w ha)
  have hAd := hid (fun w => wadd_any pN 3 w pN_lt (by decide))
  rw [Nat.mod_eq_of_lt (show pN + 3 < 2 ^ 256 by decide +kernel)] at hAd
  have hS3 := hid (fun w => wshr_any 3 (pN + 3) w (by decide) (by decide +kernel))
  rw [show upT 3 256 = 3 from rfl, show (2 : Nat) ^ 3 = 8 from rfl] at hS3
  have hS2 := hid (fun w => wshr_any 2 pN w (by decide) pN_lt)
  rw [show upT 2 256 = 2 from rfl, show (2 : Nat) ^ 2 = 4 from rfl] at hS2
  have hal := p_mod_lt a
  have hW0 := hid (fun w => fpow_any (a % pN) ((pN + 3) / 8) w hal (by decide +kernel))
  rw [show powP (a % pN) ((pN + 3) / 8) = sq0 a from rfl] at hW0
  have h0l : sq0 a < 2 ^ 256 := powP_lt _ _
  have hM0 := hid (fun w => fmul_any (sq0 a) (sq0 a) w h0l h0l)
  have hW2 := hid (fun w => fpow_any 2 (pN / 4) w (by decide) (by decide +kernel))
  have h2l : powP 2 (pN / 4) < 2 ^ 256 := powP_lt _ _
  have hM2 := hid (fun w => fmul_any (sq0 a) (powP 2 (pN / 4)) w h0l h2l)
  have h1p := sq1_lt a
  have h1l : sq1 a < 2 ^ 256 := Nat.lt_trans h1p pN_lt
  have hM1 := hid (fun w => fmul_any (sq1 a) (sq1 a) w h1l h1l)
  have hSb := hid (fun w => wsub_any pN (sq1 a) w pN_lt h1l)
  rw [subW_le pN (sq1 a) pN_lt (Nat.le_of_lt h1p)] at hSb
  have he0 : ∀ w, (Op.equalIn 10000 25 (.agg (cellsW (sq0 a * sq0 a % pN))) (.agg (cellsW (a % pN)))).run Try.prog w = .ok (decide (sq0 a * sq0 a % pN = a % pN)) w := eq_wd _ _ (p_mod_lt _) hal
  have he1 : ∀ w, (Op.equalIn 10000 25 (.agg (cellsW (sq1 a * sq1 a % pN))) (.agg (cellsW (a % pN)))).run Try.prog w = .ok (sqOk a) w := eq_wd _ _ (p_mod_lt _) hal
  have hX0 : sq0 a * sq0 a % pN = a % pN → sq1 a = sq0 a := fun h => by unfold sq1; rw [if_pos h]
  have hX1 : ¬ sq0 a * sq0 a % pN = a % pN → sq1 a = sq0 a * powP 2 (pN / 4) % pN := fun h => by unfold sq1; rw [if_neg h]
  have hbit := lm_bit (sq1 a) 0
  rw [show 0 / 64 = 0 from rfl, show 0 % 64 = 0 from rfl, Nat.pow_zero, Nat.div_one] at hbit
  have hpar : bits .and .u64 (lm (sq1 a) 0) 1 = ((sq1 a % 2 : Nat) : Int) := by
    rw [← hbit]; congr 1; rw [show ((2 : Int) ^ 0) = 1 from rfl, Int.ediv_one]
  have hRX : sqX a = if sqOk a then (if sq1 a % 2 = 1 then pN - sq1 a else sq1 a) else 0 := rfl
  obtain ⟨X, hX⟩ : ∃ X, X = sqX a := ⟨_, rfl⟩
  rw [← hX] at hRX ⊢
  obtain ⟨ok, hok⟩ : ∃ ok, ok = sqOk a := ⟨_, rfl⟩
  rw [← hok] at he1 hRX ⊢
  obtain ⟨x1, hx1⟩ : ∃ x, x = sq1 a := ⟨_, rfl⟩
  rw [← hx1] at hM1 hSb he1 hX0 hX1 hpar hRX
  obtain ⟨m1, hm1⟩ : ∃ m, m = x1 * x1 % pN := ⟨_, rfl⟩
  rw [← hm1] at hM1 he1
  obtain ⟨x0, hx0⟩ : ∃ x, x = sq0 a := ⟨_, rfl⟩
  rw [← hx0] at hW0 hM0 hM2 he0 hX0 hX1
  obtain ⟨t, ht⟩ : ∃ t, t = powP 2 (pN / 4) := ⟨_, rfl⟩
  rw [← ht] at hW2 hM2 hX1
  obtain ⟨y1, hy1⟩ : ∃ y, y = x0 * t % pN := ⟨_, rfl⟩
  rw [← hy1] at hM2 hX1
  obtain ⟨m0, hm0⟩ : ∃ m, m = x0 * x0 % pN := ⟨_, rfl⟩
  rw [← hm0] at hM0 he0 hX0 hX1
  obtain ⟨e0, hE0⟩ : ∃ e, e = (pN + 3) / 8 := ⟨_, rfl⟩
  rw [← hE0] at hS3 hW0
  obtain ⟨e1, hE1⟩ : ∃ e, e = pN / 4 := ⟨_, rfl⟩
  rw [← hE1] at hS2 hW2
  obtain ⟨q3, hq3⟩ : ∃ q, q = pN + 3 := ⟨_, rfl⟩
  rw [← hq3] at hAd hS3
  obtain ⟨n1, hn1⟩ : ∃ n, n = pN - x1 := ⟨_, rfl⟩
  rw [← hn1] at hSb hRX
  obtain ⟨a', ha'⟩ : ∃ a', a' = a % pN := ⟨_, rfl⟩
  rw [← ha'] at hBl hW0 he0 he1 hX0 hX1
  have HX0 := hid hX0
  have HX1 := hid hX1
  have HRX := hid hRX
  have Hpar := hid hpar
  have He1 := hid he1
  have hB2 := two_built
  have hB3 := three_built
  have hBn := hid nil_built
  clear ha hal h0l h2l h1p h1l hbit hpar hX hok hx1 hm1 hx0 ht hy1 hm0 hE0 hE1 hq3 hn1 ha' hX0 hX1 hRX he1
  generalize pN = p at *
  unfold wd at *
  have iA := hid (iW a)
  have iA' := hid (iW a')
  have nA' := hid (one_cellsW a')
  have iX0 := hid (iW x0)
  have nX0 := hid (one_cellsW x0)
  have iX1 := hid (iW x1)
  have nX1 := hid (one_cellsW x1)
  have iN1 := hid (iW n1)
  have nN1 := hid (one_cellsW n1)
  have iZ := hid (iW 0)
  have nZ := hid (one_cellsW 0)
  have hA0 := hid (show ArrW 25 ((w.alloc (.cells (cellsW a) 25)).alloc (.cells (cellsW 0) 25)) w.heap.size a from (ArrW.new _ w a).alloc _)
  have hC0 := hid (show ArrW 25 ((w.alloc (.cells (cellsW a) 25)).alloc (.cells (cellsW 0) 25)) (w.heap.size + 1) 0 by
    have := ArrW.new 25 (w.alloc (.cells (cellsW a) 25)) 0
    rw [World.size_alloc] at this; exact this)
  have hb0 : Below w.heap.size w ((w.alloc (.cells (cellsW a) 25)).alloc (.cells (cellsW 0) 25)) := ((Below.refl _ _).alloc (Nat.le_refl _) _).alloc (by simp) _
  go_enter Try.func35, Try.ntmps35
  go_wp2_with (first | (refine wpList_alloc_new rfl 25 rfl (cellsW 0) zWd ?_; simp only [Act.put, pvA, pv0, pv1, World.size_alloc]) | (refine wpList_load_row rfl 25 (.tmp 1) rfl w.heap.size rfl 25 _ (0, 0) _ hA0.out uWd rfl iA.out ?_; simp only [Act.put, pvA, pv0, pv1]))
  refine (hBl.out _).mono ?_
  rintro e w1 ⟨rfl, hb1⟩
  have hA1 := hid (hA0.out.below hb1 hA0.out.lt)
  have hC1 := hid ((hC0.out.below hb1 hC0.out.lt).otherRow (show w.heap.size + 1 ≠ w.heap.size by omega) (cellsW a'))
  have hA2 := hid (hA1.out.row a')
  have hb2 := hb0.trans (hb1.mono hb0.size)
  have hb3 := below_setRow' hb2 w.heap.size (Nat.le_refl _) (cellsW a')
  clear hA0 hC0 hb0 hb1 hBl
  go_wp2_with (refine wpList_store_row rfl 25 (.tmp 1) (.tmp 6) rfl w.heap.size _ rfl rfl 25 _ hA1.out iA'.out rfl nA'.out ?_; simp only [Act.put])
  generalize w1.setRow w.heap.size (cellsW a') = w2 at hA2 hC1 hb3 ⊢
  clear hA1 hb2
  have hs2 : w.heap.size + 2 ≤ w2.heap.size := by have := hC1.out.lt; omega
  refine wp_region_loose_tail 8 [.kn (.agg (cellsW (a'))), .kn (.agg (cellsW (3))), .kn (.agg (cellsW (p))), .kn (.agg (cellsW (3))), .kn (.agg (cellsW (q3))), .kn (.agg (cellsW (e0))), .kn (.agg (cellsW (x0))), .lo (fun v w => ∃ b, v = .pointer (some ⟨b, 0, none⟩) ∧ ArrW 25 w b 0 ∧ w2.heap.size ≤ b)] (by kernel_rfl) (by kernel_rfl) (by kernel_rfl) ?_ ?_
  · refine keepsAll_kn (keepsAll_kn (keepsAll_kn (keepsAll_kn (keepsAll_kn (keepsAll_kn (keepsAll_kn (keepsAll_lo ?_ trivial)))))))
    rintro v w w' ⟨b, h1, h2, h3⟩ hb
    exact ⟨b, h1, h2.below hb h2.lt, h3⟩
  simp only [List.take_succ_cons, List.take_zero, List.drop_succ_cons, List.drop_zero]
  (refine loose_step_on rfl (fun W' hB' hd K hK => wp_load_block 25 (.tmp 1) rfl w.heap.size rfl 25 _ _ (ArrW.below hA2.out hB' (ArrW.lt hA2.out)) uWd rfl iA'.out (hK _ _ (Below.refl _ _) rfl)) ?_; rintro _ rfl; simp only [Act.put, pvA, pv0, pv1])
  (refine loose_step_on rfl (fun W' hB' hd K hK => ?_) ?_; (focus (clear hd; go_simp; exact hK _ _ (Below.refl _ _) rfl)); rintro _ rfl; simp only [Act.put, pvA, pv0, pv1])
  (refine loose_step_on rfl (fun W' hB' hd K hK => ?_) ?_; (focus (skip; clear hd; go_simp; refine (hP.out _).mono ?_; rintro _ _ ⟨rfl, hb'⟩; exact hK _ _ hb' rfl)); rintro _ rfl; simp only [Act.put, pvA, pv0, pv1])
  (refine loose_step_on rfl (fun W' hB' hd K hK => ?_) ?_; (focus (clear hd; go_simp; exact hK _ _ (Below.refl _ _) rfl)); rintro _ rfl; simp only [Act.put, pvA, pv0, pv1])
  (refine loose_step_on rfl (fun W' hB' hd K hK => ?_) ?_; (focus (skip; clear hd; go_simp; refine (hAd.out _).mono ?_; rintro _ _ ⟨rfl, hb'⟩; exact hK _ _ hb' rfl)); rintro _ rfl; simp only [Act.put, pvA, pv0, pv1])
  (refine loose_step_on rfl (fun W' hB' hd K hK => ?_) ?_; (focus (skip; clear hd; go_simp; refine (hS3.out _).mono ?_; rintro _ _ ⟨rfl, hb'⟩; exact hK _ _ hb' rfl)); rintro _ rfl; simp only [Act.put, pvA, pv0, pv1])
  (refine loose_step_on rfl (fun W' hB' hd K hK => ?_) ?_; (focus (skip; clear hd; go_simp; refine (hW0.out _).mono ?_; rintro _ _ ⟨rfl, hb'⟩; exact hK _ _ hb' rfl)); rintro _ rfl; simp only [Act.put, pvA, pv0, pv1])
  (refine loose_step rfl (fun W' hB' hd K hK => wp_alloc_new 25 rfl (cellsW 0) zWd (hK _ _ ((Below.refl _ _).alloc (Nat.le_refl _) _) ⟨_, rfl, ArrW.new _ _ _, hB'.size⟩)) ?_; intro v4 _; simp only [Act.put, pvA, pv0, pv1])
  intro w6 hb6 hf
  have g4 : ∃ b, v4 = .pointer (some ⟨b, 0, none⟩) ∧ ArrW 25 w6 b 0 ∧ w2.heap.size ≤ b := hf 7 _ 4 (by first | omega | simp) rfl rfl (by simp)
  clear hf
  obtain ⟨G, rfl, hG6, hle⟩ := g4
  have hsG : w.heap.size + 2 ≤ G := by omega
  have HG6 := hid hG6
  have hX7 := hid (hG6.row x0)
  have hA7 := hid ((hA2.out.below hb6 hA2.out.lt).otherRow (show w.heap.size ≠ G by omega) (cellsW x0))
  have hC7 := hid ((hC1.out.below hb6 hC1.out.lt).otherRow (show w.heap.size + 1 ≠ G by omega) (cellsW x0))
  have hb7 := below_setRow' (hb3.trans (hb6.mono hb3.size)) G (by omega) (cellsW x0)
  clear hG6 hle hA2 hC1 hb3 hb6 hs2
  go_wp2_with (refine wpList_store_row rfl 25 (.tmp 4) (.tmp 13) rfl G _ rfl rfl 25 _ HG6.out iX0.out rfl nX0.out ?_; simp only [Act.put])
  generalize w6.setRow G (cellsW x0) = w7 at hX7 hA7 hC7 hb7 ⊢
  clear HG6
  have HB2 := hid hB2
  clear hB2 hB3
  by_cases h0 : m0 = a'
  · have hxe := HX0.out h0
    rw [decide_eq_true h0] at he0
    subst hxe
    clear h0 HX0 HX1 hM2 hW2 hS2
    go_wp2_with fail
    ((try simp only [World.size_alloc]); refine wp_region_ext (by kernel_rfl) (by kernel_rfl) ?_; (try simp only [List.append_eq, List.cons_append, List.nil_append]); (repeat (first | (refine wpQuiet_load_want 25 (.tmp 4) rfl G rfl 25 (cellsW _) _ hX7.out uWd rfl iX1.out rfl ?_; simp only [Act.put, pvA, pv0, pv1]) | (refine wpQuiet_load_want 25 (.tmp 1) rfl w.heap.size rfl 25 (cellsW _) _ hA7.out uWd rfl iA'.out rfl ?_; simp only [Act.put, pvA, pv0, pv1]) | go_big_quiet_step (first | (go_at_call 34; with_reducible refine Calls.ext_of (hM0.out _))))); refine wpQuiet_nil ?_; rintro _ ⟨xw, rfl⟩)
    have hX8 := hid (hX7.out.ext xw)
    have hA8 := hid (hA7.out.ext xw)
    have hC8 := hid (hC7.out.ext xw)
    have hb8 := World.ext_below_of hb7 hb7.size xw
    generalize w7.ext xw = w8 at hX8 hA8 hC8 hb8 ⊢
    clear hX7 hA7 hC7 hb7 hM0 he0
    have he1 := He1.out
    go_wp2_with fail
    ((try simp only [World.size_alloc]); refine wp_region_ext (by kernel_rfl) (by kernel_rfl) ?_; (try simp only [List.append_eq, List.cons_append, List.nil_append]); (repeat (first | (refine wpQuiet_load_want 25 (.tmp 4) rfl G rfl 25 (cellsW _) _ hX8.out uWd rfl iX1.out rfl ?_; simp only [Act.put, pvA, pv0, pv1]) | (refine wpQuiet_load_want 25 (.tmp 1) rfl w.heap.size rfl 25 (cellsW _) _ hA8.out uWd rfl iA'.out rfl ?_; simp only [Act.put, pvA, pv0, pv1]) | go_big_quiet_step (first | (go_at_call 34; with_reducible refine Calls.ext_of (hM1.out _))))); refine wpQuiet_nil ?_; rintro _ ⟨xw, rfl⟩)
    have hXa := hid (hX8.out.ext xw)
    have hCa := hid (hC8.out.ext xw)
    have hba := World.ext_below_of hb8 hb8.size xw
    generalize w8.ext xw = wa at hXa hCa hba ⊢
    clear hX8 hA8 hC8 hb8 hM1 he1
    cases ok
    · have HR0 := hid (show X = 0 from HRX.out)
      go_wp2_with (refine wpList_buildStore 25 _ (.tmp 2) 32 (cellsW 0) _ rfl rfl rfl rfl rfl rfl (by simp) (by first | exact hBn.out | (simp only [List.map_toArray, List.map_cons, List.map_nil]; exact hBn.out)) rfl 25 _ hCa.out iZ.out rfl nZ.out ?_; simp only [Act.put, pvA, pv0, pv1])
      refine bodyPost_ret (results_row_tmp rfl _ _ (w.heap.size + 1) 25 (cellsW 0) (0, 0) _ rfl (heap_setRow' _ _ _ _ _ hCa.out) uWd rfl iZ.out) rfl ⟨by rw [HR0.out]; rfl, below_setRow' hba _ (by omega) _⟩
    · have cX := hXa.out.cell 0 (by omega)
      have lX := hXa.out.lt
      have hpar := Hpar.out
      rcases (show x1 % 2 = 0 ∨ x1 % 2 = 1 by omega) with hp0 | hp1
      · have HR0 := hid (show X = x1 by have := HRX.out; rw [if_pos rfl, if_neg (by omega)] at this; exact this)
        rw [hp0] at hpar
        clear hp0
        go_wp2_with (first | (refine wpList_load_row rfl 25 (.tmp 4) rfl G rfl 25 _ (0, 0) _ hXa.out uWd rfl iX1.out ?_; simp only [Act.put, pvA, pv0, pv1]) | (refine wpList_store_row rfl 25 (.tmp 2) (.tmp 41) rfl (w.heap.size + 1) _ rfl rfl 25 _ hCa.out iX1.out rfl nX1.out ?_; simp only [Act.put]))
        refine bodyPost_ret (results_row_tmp rfl _ _ (w.heap.size + 1) 25 (cellsW x1) (0, 0) _ rfl (heap_setRow' _ _ _ _ _ hCa.out) uWd rfl iX1.out) rfl ⟨by rw [HR0.out]; rfl, below_setRow' hba _ (by omega) _⟩
      · have HR0 := hid (show X = n1 by have := HRX.out; rw [if_pos rfl, if_pos hp1] at this; exact this)
        rw [hp1] at hpar
        clear hp1
        go_wp2_with fail
        ((try simp only [World.size_alloc]); refine wp_region_ext_tail 3 (by kernel_rfl) (by kernel_rfl) ?_; simp only [List.take_succ_cons, List.take_zero, List.drop_succ_cons, List.drop_zero]; (repeat (first | (refine wpQuiet_load_want 25 (.tmp 4) rfl G rfl 25 (cellsW _) _ hXa.out uWd rfl iX1.out rfl ?_; simp only [Act.put, pvA, pv0, pv1]) | go_big_quiet_step (first | (go_at_call 41; with_reducible refine Calls.ext_of (hP.out _)) | (go_at_call 40; with_reducible refine Calls.ext_of (hSb.out _))))); refine wpQuiet_nil ?_; rintro _ ⟨xw, rfl⟩)
        have hXb := hid (hXa.out.ext xw)
        have hCb := hid ((hCa.out.ext xw).otherRow (show w.heap.size + 1 ≠ G by omega) (cellsW n1))
        have hbb := World.ext_below_of hba hba.size xw
        have hXc := hid (hXb.out.row n1)
        have hbc := below_setRow' hbb G (by omega) (cellsW n1)
        clear hXa hCa hba
        go_wp2_with (first | (refine wpList_store_row rfl 25 (.tmp 4) (.tmp 40) rfl G _ rfl rfl 25 _ hXb.out iN1.out rfl nN1.out ?_; simp only [Act.put]) | (refine wpList_load_row rfl 25 (.tmp 4) rfl G rfl 25 _ (0, 0) _ hXc.out uWd rfl iN1.out ?_; simp only [Act.put, pvA, pv0, pv1]) | (refine wpList_store_row rfl 25 (.tmp 2) (.tmp 41) rfl (w.heap.size + 1) _ rfl rfl 25 _ hCb.out iN1.out rfl nN1.out ?_; simp only [Act.put]))
        refine bodyPost_ret (results_row_tmp rfl _ _ (w.heap.size + 1) 25 (cellsW n1) (0, 0) _ rfl (heap_setRow' _ _ _ _ _ hCb.out) uWd rfl iN1.out) rfl ⟨by rw [HR0.out]; rfl, below_setRow' hbc _ (by omega) _⟩
  · have hxe := HX1.out h0
    rw [decide_eq_false h0] at he0
    subst hxe
    clear h0 HX0 HX1
    go_wp2_with fail
    ((try simp only [World.size_alloc]); refine wp_region_ext (by kernel_rfl) (by kernel_rfl) ?_; (try simp only [List.append_eq, List.cons_append, List.nil_append]); (repeat (first | (refine wpQuiet_load_want 25 (.tmp 4) rfl G rfl 25 (cellsW _) _ hX7.out uWd rfl iX0.out rfl ?_; simp only [Act.put, pvA, pv0, pv1]) | (refine wpQuiet_load_want 25 (.tmp 1) rfl w.heap.size rfl 25 (cellsW _) _ hA7.out uWd rfl iA'.out rfl ?_; simp only [Act.put, pvA, pv0, pv1]) | go_big_quiet_step (first | (go_at_call 34; with_reducible refine Calls.ext_of (hM0.out _))))); refine wpQuiet_nil ?_; rintro _ ⟨xw, rfl⟩)
    have hX8 := hid (hX7.out.ext xw)
    have hA8 := hid (hA7.out.ext xw)
    have hC8 := hid (hC7.out.ext xw)
    have hb8 := World.ext_below_of hb7 hb7.size xw
    generalize w7.ext xw = w8 at hX8 hA8 hC8 hb8 ⊢
    clear hX7 hA7 hC7 hb7 hM0 he0
    go_wp2_with fail
    ((try simp only [World.size_alloc]); refine wp_region_ext_tail 7 (by kernel_rfl) (by kernel_rfl) ?_; simp only [List.take_succ_cons, List.take_zero, List.drop_succ_cons, List.drop_zero]; (repeat (first | (refine wpQuiet_load_want 25 (.tmp 4) rfl G rfl 25 (cellsW _) _ hX8.out uWd rfl iX0.out rfl ?_; simp only [Act.put, pvA, pv0, pv1]) | (refine wpQuiet_build_want 25 _ rfl (cellsW 2) (by first | exact HB2.out | (simp only [List.map_toArray, List.map_cons, List.map_nil]; exact HB2.out)) rfl ?_; simp only [Act.put, pvA, pv0, pv1]) | go_big_quiet_step (first | (go_at_call 41; with_reducible refine Calls.ext_of (hP.out _)) | (go_at_call 68; with_reducible refine Calls.ext_of (hS2.out _)) | (go_at_call 67; with_reducible refine Calls.ext_of (hW2.out _)) | (go_at_call 34; with_reducible refine Calls.ext_of (hM2.out _))))); refine wpQuiet_nil ?_; rintro _ ⟨xw, rfl⟩)
    have hX9 := hid (hX8.out.ext xw)
    have hA9 := hid (hA8.out.ext xw)
    have hC9 := hid (hC8.out.ext xw)
    have hb9 := World.ext_below_of hb8 hb8.size xw
    generalize w8.ext xw = w9 at hX9 hA9 hC9 hb9 ⊢
    clear hX8 hA8 hC8 hb8 hM2 hW2 hS2
    (refine wpList_store_row rfl 25 (.tmp 4) (.tmp 25) rfl G _ rfl rfl 25 _ hX9.out iX1.out rfl nX1.out ?_; simp only [Act.put])
    have hX8 := hid (hX9.out.row x1)
    have hA8 := hid (hA9.out.otherRow (show w.heap.size ≠ G by omega) (cellsW x1))
    have hC8 := hid (hC9.out.otherRow (show w.heap.size + 1 ≠ G by omega) (cellsW x1))
    have hb8 := below_setRow' hb9 G (by omega) (cellsW x1)
    generalize w9.setRow G (cellsW x1) = w8 at hX8 hA8 hC8 hb8 ⊢
    clear hX9 hA9 hC9 hb9
    have he1 := He1.out
    go_wp2_with fail
    ((try simp only [World.size_alloc]); refine wp_region_ext (by kernel_rfl) (by kernel_rfl) ?_; (try simp only [List.append_eq, List.cons_append, List.nil_append]); (repeat (first | (refine wpQuiet_load_want 25 (.tmp 4) rfl G rfl 25 (cellsW _) _ hX8.out uWd rfl iX1.out rfl ?_; simp only [Act.put, pvA, pv0, pv1]) | (refine wpQuiet_load_want 25 (.tmp 1) rfl w.heap.size rfl 25 (cellsW _) _ hA8.out uWd rfl iA'.out rfl ?_; simp only [Act.put, pvA, pv0, pv1]) | go_big_quiet_step (first | (go_at_call 34; with_reducible refine Calls.ext_of (hM1.out _))))); refine wpQuiet_nil ?_; rintro _ ⟨xw, rfl⟩)
    have hXa := hid (hX8.out.ext xw)
    have hCa := hid (hC8.out.ext xw)
    have hba := World.ext_below_of hb8 hb8.size xw
    generalize w8.ext xw = wa at hXa hCa hba ⊢
    clear hX8 hA8 hC8 hb8 hM1 he1
    cases ok
    · have HR0 := hid (show X = 0 from HRX.out)
      go_wp2_with (refine wpList_buildStore 25 _ (.tmp 2) 32 (cellsW 0) _ rfl rfl rfl rfl rfl rfl (by simp) (by first | exact hBn.out | (simp only [List.map_toArray, List.map_cons, List.map_nil]; exact hBn.out)) rfl 25 _ hCa.out iZ.out rfl nZ.out ?_; simp only [Act.put, pvA, pv0, pv1])
      refine bodyPost_ret (results_row_tmp rfl _ _ (w.heap.size + 1) 25 (cellsW 0) (0, 0) _ rfl (heap_setRow' _ _ _ _ _ hCa.out) uWd rfl iZ.out) rfl ⟨by rw [HR0.out]; rfl, below_setRow' hba _ (by omega) _⟩
    · have cX := hXa.out.cell 0 (by omega)
      have lX := hXa.out.lt
      have hpar := Hpar.out
      rcases (show x1 % 2 = 0 ∨ x1 % 2 = 1 by omega) with hp0 | hp1
      · have HR0 := hid (show X = x1 by have := HRX.out; rw [if_pos rfl, if_neg (by omega)] at this; exact this)
        rw [hp0] at hpar
        clear hp0
        go_wp2_with (first | (refine wpList_load_row rfl 25 (.tmp 4) rfl G rfl 25 _ (0, 0) _ hXa.out uWd rfl iX1.out ?_; simp only [Act.put, pvA, pv0, pv1]) | (refine wpList_store_row rfl 25 (.tmp 2) (.tmp 41) rfl (w.heap.size + 1) _ rfl rfl 25 _ hCa.out iX1.out rfl nX1.out ?_; simp only [Act.put]))
        refine bodyPost_ret (results_row_tmp rfl _ _ (w.heap.size + 1) 25 (cellsW x1) (0, 0) _ rfl (heap_setRow' _ _ _ _ _ hCa.out) uWd rfl iX1.out) rfl ⟨by rw [HR0.out]; rfl, below_setRow' hba _ (by omega) _⟩
      · have HR0 := hid (show X = n1 by have := HRX.out; rw [if_pos rfl, if_pos hp1] at this; exact this)
        rw [hp1] at hpar
        clear hp1
        go_wp2_with fail
        ((try simp only [World.size_alloc]); refine wp_region_ext_tail 3 (by kernel_rfl) (by kernel_rfl) ?_; simp only [List.take_succ_cons, List.take_zero, List.drop_succ_cons, List.drop_zero]; (repeat (first | (refine wpQuiet_load_want 25 (.tmp 4) rfl G rfl 25 (cellsW _) _ hXa.out uWd rfl iX1.out rfl ?_; simp only [Act.put, pvA, pv0, pv1]) | go_big_quiet_step (first | (go_at_call 41; with_reducible refine Calls.ext_of (hP.out _)) | (go_at_call 40; with_reducible refine Calls.ext_of (hSb.out _))))); refine wpQuiet_nil ?_; rintro _ ⟨xw, rfl⟩)
        have hXb := hid (hXa.out.ext xw)
        have hCb := hid ((hCa.out.ext xw).otherRow (show w.heap.size + 1 ≠ G by omega) (cellsW n1))
        have hbb := World.ext_below_of hba hba.size xw
        have hXc := hid (hXb.out.row n1)
        have hbc := below_setRow' hbb G (by omega) (cellsW n1)
        clear hXa hCa hba
        go_wp2_with (first | (refine wpList_store_row rfl 25 (.tmp 4) (.tmp 40) rfl G _ rfl rfl 25 _ hXb.out iN1.out rfl nN1.out ?_; simp only [Act.put]) | (refine wpList_load_row rfl 25 (.tmp 4) rfl G rfl 25 _ (0, 0) _ hXc.out uWd rfl iN1.out ?_; simp only [Act.put, pvA, pv0, pv1]) | (refine wpList_store_row rfl 25 (.tmp 2) (.tmp 41) rfl (w.heap.size + 1) _ rfl rfl 25 _ hCb.out iN1.out rfl nN1.out ?_; simp only [Act.put]))
        refine bodyPost_ret (results_row_tmp rfl _ _ (w.heap.size + 1) 25 (cellsW n1) (0, 0) _ rfl (heap_setRow' _ _ _ _ _ hCb.out) uWd rfl iN1.out) rfl ⟨by rw [HR0.out]; rfl, below_setRow' hbc _ (by omega) _⟩
end Go.Proofs.Ytejnnghfelpioaa
