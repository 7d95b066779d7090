import Derived.Test.YtfidbiabgmioaaaTail
/-! Regions that draw their order: operations that read or make blocks, and behind them two in whatever order (a store and an assignment). -/
set_option maxRecDepth 4000
set_option linter.unusedVariables false
set_option linter.unusedSimpArgs false
namespace Go
open Go.RowKit

section
variable {P : Program} {ops : Array Oper} {md : Region.Mode} {C : World → Prop}

/-- Every operation of the tail waits for the whole head. -/
def Region.sinkAllB (md : Region.Mode) (ops : Array Oper) (n : Nat) : Bool :=
  (List.range ops.size).all fun t => decide (t < n) || (List.range n).all fun i => Region.waitsFor md ops t i || (List.range n).any fun j => decide (i < j) && Region.waitsFor md ops j i

theorem tail_waits_all {n : Nat} {listed : Array Bool} (hs : Region.sinkAllB md ops n = true) (inv : HeadInv md ops n listed) :
    ∀ (d i : Nat), n - i = d → i < n → listed.getD i true = false → ∀ t, n ≤ t → t ∉ Region.ready md ops listed := by
  intro d
  induction d using Nat.strongRecOn with
  | _ d ih =>
    intro i hd hi hun t ht hr
    obtain ⟨_, ot, hot, hall⟩ := mem_ready.1 hr
    have htlt : t < ops.size := (Array.getElem?_eq_some_iff.1 hot).1
    have h0 := List.all_eq_true.1 hs t (List.mem_range.2 htlt)
    simp only [Bool.or_eq_true, decide_eq_true_eq] at h0
    rcases h0 with h0 | h0
    · omega
    have h1 := List.all_eq_true.1 h0 i (List.mem_range.2 hi)
    simp only [Bool.or_eq_true] at h1
    rcases h1 with h1 | h1
    · obtain ⟨oj, hoj, e, he, hb, hon⟩ := Region.waitsFor_spec h1
      have : oj = ot := Option.some.inj (hoj.symm.trans hot)
      subst this
      have h2 := hall e he hb
      rw [hon, getD_both hun] at h2
      cases h2
    · obtain ⟨j, hj, hj2⟩ := List.any_eq_true.1 h1
      simp only [Bool.and_eq_true, decide_eq_true_eq] at hj2
      obtain ⟨oj, hoj, e, he, hb, hon⟩ := Region.waitsFor_spec hj2.2
      have hjn : j < n := List.mem_range.1 hj
      cases hl : listed.getD j false with
      | true =>
        have h2 := inv.closed j oj hoj hl e he hb
        rw [hon, getD_both hun] at h2
        cases h2
      | false =>
        have hju : listed.getD j true = false := by
          have hsz : j < listed.size := by rw [inv.size]; omega
          simp [Array.getD, hsz] at hl ⊢
          exact hl
        exact ih (n - j) (by omega) j rfl hjn hju t ht hr

theorem wpAnyLQ_firstG {n i : Nat} {oi : Oper} {v : Value} {L : Array Bool → Act → Prop} (hi : ops[i]? = some oi) (hsel : ∀ (j : Nat) (o : Oper) cs b, ops[j]? = some o → o.op ≠ .select cs b)
    (hs : Region.sinkAllB md ops n = true) (hin : i < n)
    (hdone : ∀ listed a, L listed a → ∀ j ∈ Region.ready md ops listed, n ≤ j) :
    ∀ (f : Nat) (listed : Array Bool) (a : Act), HeadInv md ops n listed →
      (∀ j oj, ops[j]? = some oj → j ≠ i → listed.getD j true = false → (∀ e ∈ oj.after, Region.binds md e = true → e.on ≠ i) → oi.apart ops oj = true) →
      i ∈ Region.ready md ops listed → YieldsIn P ops C oi v a →
      wpAnyLQ P md ops C n L f (listed.setIfInBounds i true) (a.put oi.dst v) → wpAnyLQ P md ops C n L (f + 1) listed a := by
  intro f
  induction f with
  | zero =>
    intro listed a inv _ hr hy H
    have hun := (mem_ready.1 hr).1
    refine ⟨fun h => (by rw [h] at hr; cases hr), fun j hj => ?_⟩
    have hjn : j < n := by
      rcases Nat.lt_or_ge j n with h | h
      · exact h
      · exact absurd hj (tail_waits_all hs inv _ i rfl hin hun j h)
    refine ⟨hjn, ?_⟩
    by_cases hji : j = i
    · subst hji; exact hy.qOp hi H
    · have := hdone _ _ H j (ready_mono hj hji)
      omega
  | succ f ih =>
    intro listed a inv hfree hr hy H
    have hun := (mem_ready.1 hr).1
    refine ⟨fun h => (by rw [h] at hr; cases hr), fun j hj => ?_⟩
    have hjn : j < n := by
      rcases Nat.lt_or_ge j n with h | h
      · exact h
      · exact absurd hj (tail_waits_all hs inv _ i rfl hin hun j h)
    refine ⟨hjn, ?_⟩
    by_cases hji : j = i
    · subst hji; exact hy.qOp hi H
    · have h1 := (H.2 j (ready_mono hj hji)).2
      obtain ⟨hjun, oj, hoj, hall⟩ := mem_ready.1 hj
      have hnot : ∀ e ∈ oj.after, Region.binds md e = true → e.on ≠ i := fun e he hb heq => by
        have h1 := hall e he hb
        rw [heq, getD_both hun] at h1
        cases h1
      have h2 := qOp_put hoj (hfree j oj hoj hji hjun hnot) (fun cs b => hsel i oi cs b hi) (fun cs b => hsel j oj cs b hoj) hy h1
      have hfree' : ∀ k ok, ops[k]? = some ok → k ≠ i → (listed.setIfInBounds j true).getD k true = false →
          (∀ e ∈ ok.after, Region.binds md e = true → e.on ≠ i) → oi.apart ops ok = true := fun k ok hk hki hun hno => by
        refine hfree k ok hk hki ?_ hno
        by_cases hjk : j = k
        · subst hjk; exact hjun
        · rw [getD_set_ne true hjk] at hun; exact hun
      refine qOp_mono (fun a' h3 => ih (listed.setIfInBounds j true) a' (inv.set hj hjn) hfree' (ready_mono hr (Ne.symm hji)) h3.1 ?_) h2
      rw [Array.setIfInBounds_comm _ _ hji]
      exact h3.2

def Region.lexHeadG (md : Region.Mode) (ops : Array Oper) (B : Array Bool → Bool) : Nat → Nat → Array Bool → Bool
  | 0, _, listed => B listed
  | f + 1, k, listed => (Region.ready md ops listed).contains k && Region.free md ops listed k && Region.lexHeadG md ops B f (k + 1) (listed.setIfInBounds k true)

theorem wpAnyLQ_lexG {n : Nat} {Lq : Act → Prop} {B : Array Bool → Bool} (hsel : Region.noSelect ops = true) (hs : Region.sinkAllB md ops n = true) (hBr : ∀ listed, B listed = true → ∀ j ∈ Region.ready md ops listed, n ≤ j) :
    ∀ (l : List Oper) (k : Nat) (listed : Array Bool) (a : Act), (∀ j, j < l.length → l[j]? = ops[k + j]?) → k + l.length = n → HeadInv md ops n listed →
    Region.lexHeadG md ops B l.length k listed = true → wpQuiet P ops C Lq l a →
    wpAnyLQ P md ops C n (fun listed' a' => B listed' = true ∧ Lq a') l.length listed a
  | [], k, listed, a, _, hk, _, hB, h => ⟨by simpa [Region.lexHeadG] using hB, h⟩
  | o :: l, k, listed, a, hl, hk, inv, hB, h => by
    have h0 : ops[k]? = some o := by simpa using (hl 0 (by simp)).symm
    simp only [List.length_cons, Region.lexHeadG, Bool.and_eq_true] at hB
    obtain ⟨⟨hr, hf⟩, hB'⟩ := hB
    have hkn : k < n := by simp only [List.length_cons] at hk; omega
    have hr' : k ∈ Region.ready md ops listed := by simpa using hr
    have hst : qOp P ops C k (wpQuiet P ops C Lq l) a := by unfold qOp; simp only [h0]; exact h
    obtain ⟨v, hy, hK⟩ := yieldsIn_of_qOp h0 hst
    exact wpAnyLQ_firstG h0 (Region.noSelect_spec hsel) hs hkn (fun listed' a' hL => hBr listed' hL.1) l.length listed a inv (Region.free_spec h0 hf) hr' hy
      (wpAnyLQ_lexG hsel hs hBr l (k + 1) _ _ (fun j hj => by have := hl (j + 1) (by simp; omega); simpa [Nat.add_assoc, Nat.add_comm 1 j] using this) (by simp only [List.length_cons] at hk; omega) (inv.set hr' hkn) hB' hK)

/-- Two are left, in whatever order. -/
def Region.pairB (md : Region.Mode) (ops : Array Oper) (n : Nat) (listed : Array Bool) : Bool :=
  decide (Region.ready md ops listed = [n, n + 1]) && decide (Region.ready md ops (listed.setIfInBounds n true) = [n + 1]) && decide (Region.ready md ops (listed.setIfInBounds (n + 1) true) = [n]) &&
    (Region.ready md ops ((listed.setIfInBounds n true).setIfInBounds (n + 1) true)).isEmpty && (Region.ready md ops ((listed.setIfInBounds (n + 1) true).setIfInBounds n true)).isEmpty
theorem pairB_ready {n : Nat} {listed : Array Bool} (h : Region.pairB md ops n listed = true) : ∀ j ∈ Region.ready md ops listed, n ≤ j := by
  simp only [Region.pairB, Bool.and_eq_true, decide_eq_true_eq] at h
  intro j hj
  rw [h.1.1.1.1] at hj
  simp at hj
  omega
theorem wpAny_of_pair {Q' : Exit → Act → World → Prop} {n : Nat} {o1 o2 : Oper} {listed : Array Bool} {a : Act} {w : World} (h1 : ops[n]? = some o1) (h2 : ops[n + 1]? = some o2) (hB : Region.pairB md ops n listed = true)
    (ha : wpList P ops Q' [o1, o2] a w) (hb : wpList P ops Q' [o2, o1] a w) : wpAny P md ops Q' 2 listed a w := by
  simp only [Region.pairB, Bool.and_eq_true, decide_eq_true_eq, List.isEmpty_iff] at hB
  obtain ⟨⟨⟨⟨b1, b2⟩, b3⟩, b4⟩, b5⟩ := hB
  refine ⟨fun h => (by rw [b1] at h; cases h), fun i hi => ?_⟩
  rw [b1] at hi
  simp at hi
  rcases hi with rfl | rfl
  · have hw : wpOp P ops Q' i (wpList P ops Q' [o2]) a w := by unfold wpOp; simp only [h1]; exact ha
    refine wpOp_mono (fun a' w' h' => ⟨fun h => (by rw [b2] at h; cases h), fun j hj => ?_⟩) hw
    rw [b2] at hj
    simp at hj
    subst hj
    have hw2 : wpOp P ops Q' (i + 1) (wpList P ops Q' []) a' w' := by unfold wpOp; simp only [h2]; exact h'
    exact wpOp_mono (fun a'' w'' h'' => ⟨b4, h''⟩) hw2
  · have hw : wpOp P ops Q' (n + 1) (wpList P ops Q' [o1]) a w := by unfold wpOp; simp only [h2]; exact hb
    refine wpOp_mono (fun a' w' h' => ⟨fun h => (by rw [b3] at h; cases h), fun j hj => ?_⟩) hw
    rw [b3] at hj
    simp at hj
    subst hj
    have hw2 : wpOp P ops Q' j (wpList P ops Q' []) a' w' := by unfold wpOp; simp only [h1]; exact h'
    exact wpOp_mono (fun a'' w'' h'' => ⟨b5, h''⟩) hw2

def Region.lexTwoB (md : Region.Mode) (ops : Array Oper) (n : Nat) : Bool :=
  Region.noSelect ops && decide (ops.size = n + 2) && Region.sinkAllB md ops n && Region.lexHeadG md ops (Region.pairB md ops n) n 0 (Array.replicate ops.size false)

/-- **n operations that read or make blocks, in whatever order; then two more, in whatever order.** -/
theorem wp_region_ext_two {id : Nat} {Q : Exit → Act → World → Prop} {a : Act} {w : World} {l : List Oper} (n : Nat) (o1 o2 : Oper) (h1 : l[n]? = some o1) (h2 : l[n + 1]? = some o2) (hm : P.follows .mixedOrders = true) (hB : Region.lexTwoB .any l.toArray n = true)
    (h : wpQuiet P l.toArray (fun w' => ∃ x, w' = w.ext x) (fun a' => ∀ w', (∃ x, w' = w.ext x) → wpList P l.toArray Q [o1, o2] a' w' ∧ wpList P l.toArray Q [o2, o1] a' w') (l.take n) a) : (Code.region id l.toArray true).wp P Q a w := by
  simp only [Region.lexTwoB, Bool.and_eq_true, decide_eq_true_eq] at hB
  obtain ⟨⟨⟨hsel, hn⟩, hs⟩, hlex⟩ := hB
  have hn' : l.length = n + 2 := by simpa using hn
  have htl : (l.take n).length = n := by simp; omega
  have inv0 : HeadInv .any l.toArray n (Array.replicate l.toArray.size false) :=
    ⟨by simp, fun j oj _ hl => (by rw [getD_replicate_false] at hl; cases hl), fun t _ ht => getD_in (by simpa using ht) (getD_replicate_false _ _)⟩
  have H := wpAnyLQ_lexG (md := .any) (B := Region.pairB .any l.toArray n) hsel hs (fun _ h => pairB_ready h) (l.take n) 0 _ a (fun j hj => by
    have hj' : j < n := by rw [htl] at hj; exact hj
    simp [hj']) (by simpa using htl) inv0 (by rw [htl]; exact hlex) h
  refine wp_region_any hm ?_
  have := wpAny_of_headQ (C := fun w' => ∃ x, w' = w.ext x) (Q' := Q) (g := 2) (fun listed a' w' hw' hL => by
    obtain ⟨z1, z2⟩ := hL.2 w' hw'
    exact wpAny_of_pair (by simpa using h1) (by simpa using h2) hL.1 z1 z2) _ _ _ w.drew ⟨_, w.drew_ext⟩ H
  rw [htl, ← hn] at this
  exact this

/-! ### one of the head may also come behind the store -/
/-- As wpAnyLQ; where one operation of the head is left, the tail's first may come ahead of it. -/
def wpAnyLF (P : Program) (md : Region.Mode) (ops : Array Oper) (C : World → Prop) (n : Nat) (L LB : Array Bool → Act → Prop) : Nat → Array Bool → Act → Prop
  | 0, listed, a => L listed a
  | f + 1, listed, a =>
    Region.ready md ops listed ≠ [] ∧ ∀ i ∈ Region.ready md ops listed, (i < n ∧ qOp P ops C i (wpAnyLF P md ops C n L LB f (listed.setIfInBounds i true)) a) ∨ (i = n ∧ f = 0 ∧ LB listed a)

theorem wpAny_of_headF {n g : Nat} {L LB : Array Bool → Act → Prop} {Q' : Exit → Act → World → Prop} (hL : ∀ listed a w, C w → L listed a → wpAny P md ops Q' g listed a w)
    (hLB : ∀ listed a w, C w → LB listed a → wpOp P ops Q' n (wpAny P md ops Q' g (listed.setIfInBounds n true)) a w) :
    ∀ (f : Nat) (listed : Array Bool) (a : Act) (w : World), C w → wpAnyLF P md ops C n L LB f listed a → wpAny P md ops Q' (f + g) listed a w
  | 0, listed, a, w, hw, h => by rw [Nat.zero_add]; exact hL _ _ _ hw h
  | f + 1, listed, a, w, hw, h => by
    rw [show f + 1 + g = (f + g) + 1 by omega]
    refine ⟨fun h0 => absurd h0 h.1, fun i hi => ?_⟩
    rcases h.2 i hi with ⟨h1, h2⟩ | ⟨rfl, rfl, h2⟩
    · exact wpOp_of_qOp hw (fun a' w' hw' h' => wpAny_of_headF hL hLB f _ a' w' hw' h') h2
    · rw [Nat.zero_add]; exact hLB _ _ _ hw h2

/-- Every operation of the tail waits for i. -/
def Region.sinkOneB (md : Region.Mode) (ops : Array Oper) (n i : Nat) : Bool :=
  (List.range ops.size).all fun t => decide (t < n) || Region.waitsFor md ops t i
theorem sinkOne_ready {n i : Nat} {listed : Array Bool} (hs : Region.sinkOneB md ops n i = true) (hun : listed.getD i true = false) : ∀ t, n ≤ t → t ∉ Region.ready md ops listed := by
  intro t ht hr
  obtain ⟨_, ot, hot, hall⟩ := mem_ready.1 hr
  have htlt : t < ops.size := (Array.getElem?_eq_some_iff.1 hot).1
  have h0 := List.all_eq_true.1 hs t (List.mem_range.2 htlt)
  simp only [Bool.or_eq_true, decide_eq_true_eq] at h0
  rcases h0 with h0 | h0
  · omega
  · obtain ⟨oj, hoj, e, he, hb, hon⟩ := Region.waitsFor_spec h0
    have : oj = ot := Option.some.inj (hoj.symm.trans hot)
    subst this
    have h2 := hall e he hb
    rw [hon, getD_both hun] at h2
    cases h2

theorem wpAnyLF_first {n i : Nat} {oi : Oper} {v : Value} {L LB : Array Bool → Act → Prop} (hi : ops[i]? = some oi) (hsel : ∀ (j : Nat) (o : Oper) cs b, ops[j]? = some o → o.op ≠ .select cs b)
    (hs : Region.sinkOneB md ops n i = true) (hin : i < n)
    (hdone : ∀ listed a, L listed a → ∀ j ∈ Region.ready md ops listed, n ≤ j) :
    ∀ (f : Nat) (listed : Array Bool) (a : Act), HeadInv md ops n listed →
      (∀ j oj, ops[j]? = some oj → j ≠ i → listed.getD j true = false → (∀ e ∈ oj.after, Region.binds md e = true → e.on ≠ i) → oi.apart ops oj = true) →
      i ∈ Region.ready md ops listed → YieldsIn P ops C oi v a →
      wpAnyLF P md ops C n L LB f (listed.setIfInBounds i true) (a.put oi.dst v) → wpAnyLF P md ops C n L LB (f + 1) listed a := by
  intro f
  induction f with
  | zero =>
    intro listed a inv _ hr hy H
    have hun := (mem_ready.1 hr).1
    refine ⟨fun h => (by rw [h] at hr; cases hr), fun j hj => ?_⟩
    have hjn : j < n := by
      rcases Nat.lt_or_ge j n with h | h
      · exact h
      · exact absurd hj (sinkOne_ready hs hun j h)
    refine .inl ⟨hjn, ?_⟩
    by_cases hji : j = i
    · subst hji; exact hy.qOp hi H
    · have := hdone _ _ H j (ready_mono hj hji)
      omega
  | succ f ih =>
    intro listed a inv hfree hr hy H
    have hun := (mem_ready.1 hr).1
    refine ⟨fun h => (by rw [h] at hr; cases hr), fun j hj => ?_⟩
    have hjn : j < n := by
      rcases Nat.lt_or_ge j n with h | h
      · exact h
      · exact absurd hj (sinkOne_ready hs hun j h)
    refine .inl ⟨hjn, ?_⟩
    by_cases hji : j = i
    · subst hji; exact hy.qOp hi H
    · have h1 := H.2 j (ready_mono hj hji)
      replace h1 := h1.elim (fun h => h.2) (fun h => absurd h.1 (by omega))
      obtain ⟨hjun, oj, hoj, hall⟩ := mem_ready.1 hj
      have hnot : ∀ e ∈ oj.after, Region.binds md e = true → e.on ≠ i := fun e he hb heq => by
        have h1 := hall e he hb
        rw [heq, getD_both hun] at h1
        cases h1
      have h2 := qOp_put hoj (hfree j oj hoj hji hjun hnot) (fun cs b => hsel i oi cs b hi) (fun cs b => hsel j oj cs b hoj) hy h1
      have hfree' : ∀ k ok, ops[k]? = some ok → k ≠ i → (listed.setIfInBounds j true).getD k true = false →
          (∀ e ∈ ok.after, Region.binds md e = true → e.on ≠ i) → oi.apart ops ok = true := fun k ok hk hki hun hno => by
        refine hfree k ok hk hki ?_ hno
        by_cases hjk : j = k
        · subst hjk; exact hjun
        · rw [getD_set_ne true hjk] at hun; exact hun
      refine qOp_mono (fun a' h3 => ih (listed.setIfInBounds j true) a' (inv.set hj hjn) hfree' (ready_mono hr (Ne.symm hji)) h3.1 ?_) h2
      rw [Array.setIfInBounds_comm _ _ hji]
      exact h3.2

def Region.lexHeadI (md : Region.Mode) (ops : Array Oper) (n : Nat) (B : Array Bool → Bool) : List Nat → Array Bool → Bool
  | [], listed => B listed
  | i :: is, listed => decide (i < n) && Region.sinkOneB md ops n i && (Region.ready md ops listed).contains i && Region.free md ops listed i && Region.lexHeadI md ops n B is (listed.setIfInBounds i true)

theorem wpAnyLF_lex {n : Nat} {Lq : Act → Prop} {L LB : Array Bool → Act → Prop} {B : Array Bool → Bool} (hsel : Region.noSelect ops = true) (hdone : ∀ listed a, L listed a → ∀ j ∈ Region.ready md ops listed, n ≤ j)
    (hbase : ∀ listed a, B listed = true → Lq a → wpAnyLF P md ops C n L LB 1 listed a) :
    ∀ (is : List Nat) (l : List Oper) (listed : Array Bool) (a : Act), is.map (fun i => ops[i]?) = l.map some → HeadInv md ops n listed →
    Region.lexHeadI md ops n B is listed = true → wpQuiet P ops C Lq l a →
    wpAnyLF P md ops C n L LB (is.length + 1) listed a
  | [], l, listed, a, hl, _, hB, h => by
    have : l = [] := by simpa using hl.symm
    subst this
    exact hbase _ _ (by simpa [Region.lexHeadI] using hB) h
  | i :: is, l, listed, a, hl, inv, hB, h => by
    match l, hl, h with
    | o :: l, hl, h =>
      simp only [List.map_cons, List.cons.injEq] at hl
      obtain ⟨h0, hl⟩ := hl
      simp only [Region.lexHeadI, Bool.and_eq_true, decide_eq_true_eq] at hB
      obtain ⟨⟨⟨⟨hkn, hs⟩, hr⟩, hf⟩, hB'⟩ := hB
      have hr' : i ∈ Region.ready md ops listed := by simpa using hr
      have hst : qOp P ops C i (wpQuiet P ops C Lq l) a := by unfold qOp; simp only [h0]; exact h
      obtain ⟨v, hy, hK⟩ := yieldsIn_of_qOp h0 hst
      rw [List.length_cons]
      exact wpAnyLF_first h0 (Region.noSelect_spec hsel) hs hkn hdone (is.length + 1) listed a inv (Region.free_spec h0 hf) hr' hy
        (wpAnyLF_lex hsel hdone hbase is l _ _ hl (inv.set hr' hkn) hB' hK)

/-- The one that is left, and the store, in whatever order; then the last. -/
def Region.floatB (md : Region.Mode) (ops : Array Oper) (n fl : Nat) (listed : Array Bool) : Bool :=
  decide (fl < n) && decide (Region.ready md ops listed = [fl, n]) && decide (Region.ready md ops (listed.setIfInBounds fl true) = [n]) && decide (Region.ready md ops (listed.setIfInBounds n true) = [fl]) &&
    decide (Region.ready md ops ((listed.setIfInBounds fl true).setIfInBounds n true) = [n + 1]) && decide (Region.ready md ops ((listed.setIfInBounds n true).setIfInBounds fl true) = [n + 1]) &&
    (Region.ready md ops (((listed.setIfInBounds fl true).setIfInBounds n true).setIfInBounds (n + 1) true)).isEmpty && (Region.ready md ops (((listed.setIfInBounds n true).setIfInBounds fl true).setIfInBounds (n + 1) true)).isEmpty

def Region.lexFloatB (md : Region.Mode) (ops : Array Oper) (n fl : Nat) (is : List Nat) : Bool :=
  Region.noSelect ops && decide (ops.size = n + 2) && decide (is.length + 1 = n) && Region.lexHeadI md ops n (Region.floatB md ops n fl) is (Array.replicate ops.size false)

theorem wpAny_one {Q' : Exit → Act → World → Prop} {i g : Nat} {o : Oper} {listed : Array Bool} {a : Act} {w : World} {K : Act → World → Prop} (h0 : ops[i]? = some o) (hr : Region.ready md ops listed = [i])
    (h : wpOp P ops Q' i K a w) (hK : ∀ a' w', K a' w' → wpAny P md ops Q' g (listed.setIfInBounds i true) a' w') : wpAny P md ops Q' (g + 1) listed a w := by
  refine ⟨fun h => (by rw [hr] at h; cases h), fun j hj => ?_⟩
  rw [hr] at hj
  simp at hj
  subst hj
  exact wpOp_mono hK h

/-- **Operations that read or make blocks, in whatever order; one of them may also come behind the store; then the last.** -/
theorem wp_region_ext_float {id : Nat} {Q : Exit → Act → World → Prop} {a : Act} {w : World} {l : List Oper} (n fl : Nat) (is : List Nat) (l1 : List Oper) (o1 o2 oF : Oper) (hl1 : is.map (fun i => l[i]?) = l1.map some) (h1 : l[n]? = some o1) (h2 : l[n + 1]? = some o2) (hF : l[fl]? = some oF)
    (hm : P.follows .mixedOrders = true) (hB : Region.lexFloatB .any l.toArray n fl is = true)
    (h : wpQuiet P l.toArray (fun w' => ∃ x, w' = w.ext x) (fun a' => wpQuiet P l.toArray (fun w' => ∃ x, w' = w.ext x) (fun a'' => ∀ w', (∃ x, w' = w.ext x) → wpList P l.toArray Q [o1, o2] a'' w') [oF] a' ∧
      ∀ w', (∃ x, w' = w.ext x) → wpList P l.toArray Q [o1, oF, o2] a' w') l1 a) : (Code.region id l.toArray true).wp P Q a w := by
  simp only [Region.lexFloatB, Bool.and_eq_true, decide_eq_true_eq] at hB
  obtain ⟨⟨⟨hsel, hn⟩, hil⟩, hlex⟩ := hB
  have inv0 : HeadInv .any l.toArray n (Array.replicate l.toArray.size false) :=
    ⟨by simp, fun j oj _ hl => (by rw [getD_replicate_false] at hl; cases hl), fun t _ ht => getD_in (by simpa using ht) (getD_replicate_false _ _)⟩
  have g1 : l.toArray[n]? = some o1 := by simpa using h1
  have g2 : l.toArray[n + 1]? = some o2 := by simpa using h2
  have gF : l.toArray[fl]? = some oF := by simpa using hF
  have H := wpAnyLF_lex (P := P) (md := .any) (ops := l.toArray) (C := fun w' => ∃ x, w' = w.ext x) (n := n) (B := Region.floatB .any l.toArray n fl)
    (L := fun listed a => (Region.ready .any l.toArray listed = [n] ∧ Region.ready .any l.toArray (listed.setIfInBounds n true) = [n + 1] ∧ Region.ready .any l.toArray ((listed.setIfInBounds n true).setIfInBounds (n + 1) true) = []) ∧ ∀ w', (∃ x, w' = w.ext x) → wpList P l.toArray Q [o1, o2] a w')
    (LB := fun listed a => (Region.ready .any l.toArray (listed.setIfInBounds n true) = [fl] ∧ Region.ready .any l.toArray ((listed.setIfInBounds n true).setIfInBounds fl true) = [n + 1] ∧ Region.ready .any l.toArray (((listed.setIfInBounds n true).setIfInBounds fl true).setIfInBounds (n + 1) true) = []) ∧ ∀ w', (∃ x, w' = w.ext x) → wpList P l.toArray Q [o1, oF, o2] a w')
    hsel (fun listed a hL j hj => by rw [hL.1.1] at hj; simp at hj; omega) (fun listed a hb hLq => by
      simp only [Region.floatB, Bool.and_eq_true, decide_eq_true_eq, List.isEmpty_iff] at hb
      obtain ⟨⟨⟨⟨⟨⟨⟨b0, b1⟩, b2⟩, b3⟩, b4⟩, b5⟩, b6⟩, b7⟩ := hb
      refine ⟨fun h => (by rw [b1] at h; cases h), fun i hi => ?_⟩
      rw [b1] at hi
      simp at hi
      rcases hi with rfl | rfl
      · refine .inl ⟨b0, ?_⟩
        have hst : qOp P l.toArray (fun w' => ∃ x, w' = w.ext x) i (wpQuiet P l.toArray (fun w' => ∃ x, w' = w.ext x) (fun a'' => ∀ w', (∃ x, w' = w.ext x) → wpList P l.toArray Q [o1, o2] a'' w') []) a := by unfold qOp; simp only [gF]; exact hLq.1
        exact qOp_mono (fun a' h' => ⟨⟨b2, b4, b6⟩, h'⟩) hst
      · exact .inr ⟨rfl, rfl, ⟨b3, b5, b7⟩, hLq.2⟩) is l1 _ a (by simpa using hl1) inv0 hlex h
  refine wp_region_any hm ?_
  have := wpAny_of_headF (C := fun w' => ∃ x, w' = w.ext x) (Q' := Q) (g := 2) (fun listed a' w' hw' hL => by
    obtain ⟨⟨r1, r2, r3⟩, hL⟩ := hL
    have hw : wpOp P l.toArray Q n (wpList P l.toArray Q [o2]) a' w' := by unfold wpOp; simp only [g1]; exact hL w' hw'
    refine wpAny_one g1 r1 hw fun a2 w2 k2 => ?_
    have hw2 : wpOp P l.toArray Q (n + 1) (wpList P l.toArray Q []) a2 w2 := by unfold wpOp; simp only [g2]; exact k2
    exact wpAny_one g2 r2 hw2 fun a3 w3 k3 => ⟨r3, k3⟩) (fun listed a' w' hw' hL => by
    obtain ⟨⟨r1, r2, r3⟩, hL⟩ := hL
    have hw : wpOp P l.toArray Q n (wpList P l.toArray Q [oF, o2]) a' w' := by unfold wpOp; simp only [g1]; exact hL w' hw'
    refine wpOp_mono (fun a2 w2 k2 => ?_) hw
    have hw2 : wpOp P l.toArray Q fl (wpList P l.toArray Q [o2]) a2 w2 := by unfold wpOp; simp only [gF]; exact k2
    refine wpAny_one gF r1 hw2 fun a3 w3 k3 => ?_
    have hw3 : wpOp P l.toArray Q (n + 1) (wpList P l.toArray Q []) a3 w3 := by unfold wpOp; simp only [g2]; exact k3
    exact wpAny_one g2 r2 hw3 fun a4 w4 k4 => ⟨r3, k4⟩) _ _ _ w.drew ⟨_, w.drew_ext⟩ H
  rw [hil, ← hn] at this
  exact this
end
end Go
