import Derived.Test.YtfidbiabgmioaaaSpec
import Derived.StillTail
/-! Regions that draw their order: operations that read or make blocks, and behind them a tail whose order is forced (a store, an append). -/
set_option maxRecDepth 4000
set_option linter.unusedVariables false
set_option linter.unusedSimpArgs false
namespace Go
open Go.RowKit

section
variable {P : Program} {ops : Array Oper} {md : Region.Mode} {C : World → Prop}

def wpAnyLQ (P : Program) (md : Region.Mode) (ops : Array Oper) (C : World → Prop) (n : Nat) (L : Array Bool → Act → Prop) : Nat → Array Bool → Act → Prop
  | 0, listed, a => L listed a
  | f + 1, listed, a =>
    Region.ready md ops listed ≠ [] ∧ ∀ i ∈ Region.ready md ops listed, i < n ∧ qOp P ops C i (wpAnyLQ P md ops C n L f (listed.setIfInBounds i true)) a

theorem wpAny_of_headQ {n g : Nat} {L : Array Bool → Act → Prop} {Q' : Exit → Act → World → Prop} (hL : ∀ listed a w, C w → L listed a → wpAny P md ops Q' g listed a w) :
    ∀ (f : Nat) (listed : Array Bool) (a : Act) (w : World), C w → wpAnyLQ P md ops C n L f listed a → wpAny P md ops Q' (f + g) listed a w
  | 0, listed, a, w, hw, h => by rw [Nat.zero_add]; exact hL _ _ _ hw h
  | f + 1, listed, a, w, hw, h => by
    rw [show f + 1 + g = (f + g) + 1 by omega]
    exact ⟨fun h0 => absurd h0 h.1, fun i hi => wpOp_of_qOp hw (fun a' w' hw' h' => wpAny_of_headQ hL f _ a' w' hw' h') (h.2 i hi).2⟩

theorem wpAnyLQ_first {n i : Nat} {oi : Oper} {v : Value} {L : Array Bool → Act → Prop} (hi : ops[i]? = some oi) (hsel : ∀ (j : Nat) (o : Oper) cs b, ops[j]? = some o → o.op ≠ .select cs b)
    (hs : Region.sinkB md ops n = true) (hc : Region.chainB md ops n = true) (hn : n < ops.size) (hin : i < n)
    (hdone : ∀ listed a, L listed a → ∀ j ∈ Region.ready md ops listed, n ≤ j) :
    ∀ (f : Nat) (listed : Array Bool) (a : Act), HeadInv md ops n listed →
      (∀ j oj, ops[j]? = some oj → j ≠ i → listed.getD j true = false → (∀ e ∈ oj.after, Region.binds md e = true → e.on ≠ i) → oi.apart ops oj = true) →
      i ∈ Region.ready md ops listed → YieldsIn P ops C oi v a →
      wpAnyLQ P md ops C n L f (listed.setIfInBounds i true) (a.put oi.dst v) → wpAnyLQ P md ops C n L (f + 1) listed a := by
  intro f
  induction f with
  | zero =>
    intro listed a inv _ hr hy H
    have hun := (mem_ready.1 hr).1
    refine ⟨fun h => (by rw [h] at hr; cases hr), fun j hj => ?_⟩
    have hjn : j < n := by
      rcases Nat.lt_or_ge j n with h | h
      · exact h
      · exact absurd hj (tail_waits hs hc hn inv _ i rfl hin hun j h)
    refine ⟨hjn, ?_⟩
    by_cases hji : j = i
    · subst hji; exact hy.qOp hi H
    · have := hdone _ _ H j (ready_mono hj hji)
      omega
  | succ f ih =>
    intro listed a inv hfree hr hy H
    have hun := (mem_ready.1 hr).1
    refine ⟨fun h => (by rw [h] at hr; cases hr), fun j hj => ?_⟩
    have hjn : j < n := by
      rcases Nat.lt_or_ge j n with h | h
      · exact h
      · exact absurd hj (tail_waits hs hc hn inv _ i rfl hin hun j h)
    refine ⟨hjn, ?_⟩
    by_cases hji : j = i
    · subst hji; exact hy.qOp hi H
    · have h1 := (H.2 j (ready_mono hj hji)).2
      obtain ⟨hjun, oj, hoj, hall⟩ := mem_ready.1 hj
      have hnot : ∀ e ∈ oj.after, Region.binds md e = true → e.on ≠ i := fun e he hb heq => by
        have h1 := hall e he hb
        rw [heq, getD_both hun] at h1
        cases h1
      have h2 := qOp_put hoj (hfree j oj hoj hji hjun hnot) (fun cs b => hsel i oi cs b hi) (fun cs b => hsel j oj cs b hoj) hy h1
      have hfree' : ∀ k ok, ops[k]? = some ok → k ≠ i → (listed.setIfInBounds j true).getD k true = false →
          (∀ e ∈ ok.after, Region.binds md e = true → e.on ≠ i) → oi.apart ops ok = true := fun k ok hk hki hun hno => by
        refine hfree k ok hk hki ?_ hno
        by_cases hjk : j = k
        · subst hjk; exact hjun
        · rw [getD_set_ne true hjk] at hun; exact hun
      refine qOp_mono (fun a' h3 => ih (listed.setIfInBounds j true) a' (inv.set hj hjn) hfree' (ready_mono hr (Ne.symm hji)) h3.1 ?_) h2
      rw [Array.setIfInBounds_comm _ _ hji]
      exact h3.2

theorem wpAnyLQ_lex {n g : Nat} {Lq : Act → Prop} (hsel : Region.noSelect ops = true) (hs : Region.sinkB md ops n = true) (hc : Region.chainB md ops n = true) (hn : n < ops.size) :
    ∀ (l : List Oper) (k : Nat) (listed : Array Bool) (a : Act), (∀ j, j < l.length → l[j]? = ops[k + j]?) → k + l.length = n → HeadInv md ops n listed →
    Region.lexHead md ops g l.length k listed = true → wpQuiet P ops C Lq l a →
    wpAnyLQ P md ops C n (fun listed' a' => Region.seqB md ops g n listed' = true ∧ Lq a') l.length listed a
  | [], k, listed, a, _, hk, _, hB, h => by
    have : k = n := by simpa using hk
    subst this
    exact ⟨by simpa [Region.lexHead] using hB, h⟩
  | o :: l, k, listed, a, hl, hk, inv, hB, h => by
    have h0 : ops[k]? = some o := by simpa using (hl 0 (by simp)).symm
    simp only [List.length_cons, Region.lexHead, Bool.and_eq_true] at hB
    obtain ⟨⟨hr, hf⟩, hB'⟩ := hB
    have hkn : k < n := by simp only [List.length_cons] at hk; omega
    have hr' : k ∈ Region.ready md ops listed := by simpa using hr
    have hst : qOp P ops C k (wpQuiet P ops C Lq l) a := by unfold qOp; simp only [h0]; exact h
    obtain ⟨v, hy, hK⟩ := yieldsIn_of_qOp h0 hst
    exact wpAnyLQ_first h0 (Region.noSelect_spec hsel) hs hc hn hkn (fun listed' a' hL => seqB_ready hL.1) l.length listed a inv (Region.free_spec h0 hf) hr' hy
      (wpAnyLQ_lex hsel hs hc hn l (k + 1) _ _ (fun j hj => by have := hl (j + 1) (by simp; omega); simpa [Nat.add_assoc, Nat.add_comm 1 j] using this) (by simp only [List.length_cons] at hk; omega) (inv.set hr' hkn) hB' hK)

/-- **n operations that read or make blocks, in whatever order; then the others, in theirs.** -/
theorem wp_region_ext_tail {id : Nat} {Q : Exit → Act → World → Prop} {a : Act} {w : World} {l : List Oper} (n : Nat) (hm : P.follows .mixedOrders = true) (hB : Region.lexTailB .any l.toArray n = true)
    (h : wpQuiet P l.toArray (fun w' => ∃ x, w' = w.ext x) (fun a' => ∀ w', (∃ x, w' = w.ext x) → wpList P l.toArray Q (l.drop n) a' w') (l.take n) a) : (Code.region id l.toArray true).wp P Q a w := by
  simp only [Region.lexTailB, Bool.and_eq_true, decide_eq_true_eq] at hB
  obtain ⟨⟨⟨⟨hsel, hn⟩, hs⟩, hc⟩, hlex⟩ := hB
  have hn' : n < l.length := by simpa using hn
  have htl : (l.take n).length = n := by simp; omega
  have hdl : (l.drop n).length = l.toArray.size - n := by simp
  have inv0 : HeadInv .any l.toArray n (Array.replicate l.toArray.size false) :=
    ⟨by simp, fun j oj _ hl => (by rw [getD_replicate_false] at hl; cases hl), fun t _ ht => getD_in (by simpa using ht) (getD_replicate_false _ _)⟩
  have H := wpAnyLQ_lex (md := .any) (g := l.toArray.size - n) hsel hs hc hn (l.take n) 0 _ a (fun j hj => by
    have hj' : j < n := by rw [htl] at hj; exact hj
    simp [hj']) (by simpa using htl) inv0 (by rw [htl]; exact hlex) h
  refine wp_region_any hm ?_
  have := wpAny_of_headQ (C := fun w' => ∃ x, w' = w.ext x) (Q' := Q) (g := l.toArray.size - n) (fun listed a' w' hw' hL => by
    have := wpAny_of_seq (md := .any) (Q' := Q) (l.drop n) n listed a' w' (fun j => by simp [List.getElem?_drop]) (by rw [hdl]; exact hL.1) (hL.2 w' hw')
    rwa [hdl] at this) _ _ _ w.drew ⟨_, w.drew_ext⟩ H
  rw [htl, show n + (l.toArray.size - n) = l.toArray.size by omega] at this
  exact this
end

section
variable {P : Program} {l : List Oper} {Φ : Nat → Value → World → Prop} {w0 : World} {a0 : Act}

/-- How many of the first n are still to come. -/
def unheaded (n : Nat) (listed : Array Bool) : Nat := (listed.toList.take n).count false
theorem unheaded_set {n : Nat} {listed : Array Bool} {i : Nat} (hi : listed.getD i true = false) (hn : i < n) : unheaded n (listed.setIfInBounds i true) + 1 = unheaded n listed := by
  unfold unheaded
  have hlt : i < listed.size := by
    rcases Nat.lt_or_ge i listed.size with h | h
    · exact h
    · simp [Array.getD, Nat.not_lt.2 h] at hi
  have hlt' : i < (listed.toList.take n).length := by simp; omega
  have hv : (listed.toList.take n)[i] = false := by simpa [Array.getD, hlt] using hi
  rw [Array.toList_setIfInBounds, List.take_set, List.count_set hlt']
  have hpos : 0 < (listed.toList.take n).count false := List.count_pos_iff.2 (by rw [← hv]; exact List.getElem_mem _)
  rw [hv, if_pos (by rfl), if_neg (by decide)]
  omega

/-- The Bool of the theorem below. -/
def specTailB (l : List Oper) (n : Nat) : Bool :=
  specB l && decide (n < l.length) && Region.sinkB .any l.toArray n && Region.chainB .any l.toArray n && Region.seqB .any l.toArray (l.length - n) n (Array.replicate n true ++ Array.replicate (l.length - n) false)

theorem listed_form {n m : Nat} {listed : Array Bool} (hs : listed.size = m) (hn : n ≤ m) (h1 : ∀ i, i < n → listed.getD i true = true) (h2 : ∀ i, n ≤ i → i < m → listed.getD i true = false) : listed = Array.replicate n true ++ Array.replicate (m - n) false := by
  apply Array.ext (by simp; omega)
  intro i hi hi'
  rw [Array.getElem_append]
  split
  · rename_i h
    have := h1 i (by simpa using h)
    simp [Array.getD, hi] at this ⊢; exact this
  · rename_i h
    have := h2 i (by simpa using h) (by omega)
    simp [Array.getD, hi] at this ⊢; exact this

theorem wpAny_of_specT {n : Nat} {Q : Exit → Act → World → Prop} (hB : specTailB l n = true)
    (stable : ∀ i v w w', Φ i v w → Below w.heap.size w w' → Φ i v w')
    (each : ∀ (i : Nat) (o : Oper), i < n → l[i]? = some o → ∀ a w, Leans l Φ w0 a0 o a w →
      if Region.wanted o (yielded l.toArray a.tmps) then o.wp P a w (fun a' w' => ∃ v, a' = a.put o.dst v ∧ Below w.heap.size w w' ∧ Φ i v w') Q else Φ i undef w)
    (fin : ∀ (f : Nat → Value) (w : World), Below w0.heap.size w0 w → (∀ (i : Nat) (o : Oper) (d : Nat), i < n → l[i]? = some o → o.dst = some d → d < a0.tmps.size → Φ i (f i) w) → wpList P l.toArray Q (l.drop n) (putAll (l.take n) f 0 a0) w) :
    ∀ (fuel : Nat) (listed : Array Bool) (a : Act) (w : World), unheaded n listed = fuel → HeadInv .any l.toArray n listed → RInv l Φ w0 a0 listed a w → wpAny P .any l.toArray Q (fuel + (l.length - n)) listed a w := by
  simp only [specTailB, Bool.and_eq_true, decide_eq_true_eq] at hB
  obtain ⟨⟨⟨⟨hB, hnl⟩, hsink⟩, hchain⟩, hseq⟩ := hB
  have hnd : (l.filterMap (·.dst)).Nodup := by
    simp only [specB, Bool.and_eq_true] at hB
    exact of_decide_eq_true hB.2
  have close : ∀ (listed : Array Bool) (a : Act) (w : World), HeadInv .any l.toArray n listed → RInv l Φ w0 a0 listed a w → (∀ i, i < n → listed.getD i true = true) → wpAny P .any l.toArray Q (l.length - n) listed a w := by
    intro listed a w inv h hall
    have hform : listed = Array.replicate n true ++ Array.replicate (l.length - n) false := listed_form h.size (by omega) hall (fun i h1 h2 => inv.tail i h1 (by simpa using h2))
    have e : putAll (l.take n) (fun i => match (l[i]?).bind (·.dst) with | some d => a.tmps.getD d undef | none => undef) 0 a0 = a := by
      refine putAll_eq a (l.take n) _ 0 a0 h.defers.symm h.tsize.symm (fun d hn => ?_) (fun i o d hi ho => ?_)
      · refine (h.same d (fun i o hi ho => ?_)).symm
        by_cases hin : i < n
        · exact absurd ho (hn o (List.mem_of_getElem? (i := i) (by rw [List.getElem?_take, if_pos hin]; exact hi)))
        · exact inv.tail i (by omega) (by
            rcases Nat.lt_or_ge i l.length with h' | h'
            · simpa using h'
            · rw [List.getElem?_eq_none h'] at hi; cases hi)
      · rw [List.getElem?_take] at hi
        split at hi
        · rw [Nat.zero_add, hi]; simp [ho]
        · cases hi
    have hdl : (l.drop n).length = l.length - n := by simp
    have := wpAny_of_seq (md := .any) (ops := l.toArray) (Q' := Q) (P := P) (l.drop n) n listed a w (fun j => by simp [List.getElem?_drop]) (by rw [hdl, hform]; exact hseq) (by
      rw [← e]
      refine fin _ w h.below (fun i o d hin hi ho hds => ?_)
      have hl := hall i hin
      have := h.made i o d hi (by have hs := h.size; simp [Array.getD, show i < listed.size by omega] at hl ⊢; exact hl) ho hds
      simp only [hi, Option.bind_some, ho]
      exact this)
    rwa [hdl] at this
  intro fuel
  induction fuel with
  | zero =>
    intro listed a w hu inv h
    rw [Nat.zero_add]
    refine close listed a w inv h (fun i hi => ?_)
    have hs := h.size
    have hlt : i < listed.size := by omega
    by_cases hb : listed[i] = true
    · simp [Array.getD, hlt, hb]
    · exfalso
      have : 0 < (listed.toList.take n).count false := List.count_pos_iff.2 (by
        have hf : listed[i] = false := by simpa using hb
        have hlt' : i < (listed.toList.take n).length := by simp; omega
        have : (listed.toList.take n)[i] = false := by simpa using hf
        rw [← this]; exact List.getElem_mem _)
      unfold unheaded at hu
      omega
  | succ fuel ih =>
    intro listed a w hu inv h
    rw [show fuel + 1 + (l.length - n) = (fuel + (l.length - n)) + 1 by omega]
    have hsome : ∃ i, i < n ∧ listed.getD i true = false := by
      have : 0 < (listed.toList.take n).count false := by unfold unheaded at hu; omega
      obtain ⟨i, hi, he⟩ := List.getElem_of_mem (List.count_pos_iff.1 this)
      have hi' := hi
      simp at hi'
      exact ⟨i, by omega, by simp at he; simp [Array.getD, show i < listed.size by omega, he]⟩
    obtain ⟨i0, hi0, hun0⟩ := hsome
    refine ⟨fun hn => ?_, fun i hi => ?_⟩
    · have := all_listed_of_ready_nil hB h.size hn i0 (by omega)
      rw [this] at hun0; cases hun0
    have hin : i < n := by
      rcases Nat.lt_or_ge i n with h' | h'
      · exact h'
      · exact absurd hi (tail_waits hsink hchain (by simpa using hnl) inv _ i0 rfl hi0 hun0 i h')
    have hi' := hi
    rw [mem_ready] at hi
    obtain ⟨hun, o, ho, hafter⟩ := hi
    have ho' : l[i]? = some o := by simpa using ho
    have hl : i < l.length := by omega
    have lean : Leans l Φ w0 a0 o a w := ⟨h.below, fun d hn => h.same d (fun i o hi ho => absurd ho (hn o (List.mem_of_getElem? hi))),
      fun e he hb o' d hi' hd hds => h.made e.on o' d hi' (hafter e he hb) hd hds, h.tsize⟩
    have step : ∀ v w', Below w.heap.size w w' → Φ i v w' → RInv l Φ w0 a0 (listed.setIfInBounds i true) (a.put o.dst v) w' := fun v w' hb hv => by
      refine ⟨by rw [Array.size_setIfInBounds]; exact h.size, h.below.trans (hb.mono h.below.size), by rw [Act.putd_defers]; exact h.defers, by rw [Act.putd_size]; exact h.tsize, fun d hd => ?_, fun j oj d hj hlj hdj hds => ?_⟩
      · by_cases hod : o.dst = some d
        · have := hd i o ho' hod
          simp [Array.getD, show i < listed.size by have := h.size; omega] at this
        · rw [Act.putd_get_ne _ _ _ _ hod]
          refine h.same d (fun j oj hj hdj => ?_)
          have h1 := hd j oj hj hdj
          have hne : j ≠ i := fun e => by subst e; rw [ho'] at hj; cases hj; exact hod hdj
          rw [getD_set_ne true (Ne.symm hne)] at h1
          exact h1
      · by_cases hji : j = i
        · subst hji
          rw [ho'] at hj; cases hj
          have hlt : d < a.tmps.size := by have := h.tsize; omega
          have : (a.put o.dst v).tmps.getD d undef = v := by
            rw [hdj]
            have e := Act.putd_get_eq a v d
            rw [if_pos hlt] at e
            rw [Array.getD_eq_getD_getElem?, e]; rfl
          rw [this]; exact hv
        · have hne : o.dst ≠ some d := fun e => hji (filterMap_nodup_inj l hnd j i oj o d hj ho' hdj e)
          have h1 := h.made j oj d hj (by rw [getD_set_ne false (Ne.symm hji)] at hlj; exact hlj) hdj hds
          have e : (a.put o.dst v).tmps.getD d undef = a.tmps.getD d undef := by
            rw [Array.getD_eq_getD_getElem?, Array.getD_eq_getD_getElem?, Act.putd_get_ne _ _ _ _ hne]
          rw [e]
          exact stable _ _ _ _ h1 hb
    have hu' : unheaded n (listed.setIfInBounds i true) = fuel := by have := unheaded_set hun hin; omega
    have inv' := inv.set hi' hin
    have he := each i o hin ho' a w lean
    unfold wpOp
    simp only [ho]
    split
    · rename_i hw
      rw [if_pos hw] at he
      exact .inl (Oper.wp_mono (fun a' w' ⟨v, ha', hb, hv⟩ => by subst ha'; exact ih _ _ _ hu' inv' (step v w' hb hv)) he)
    · rename_i hw
      rw [if_neg hw] at he
      exact ih _ _ _ hu' inv' (step undef w (Below.refl _ _) he)

/-- **n operations, each by what it makes, in whatever order; then the others, in theirs.** -/
theorem wp_region_spec_tail {id : Nat} {Q : Exit → Act → World → Prop} (n : Nat) (hm : P.follows .mixedOrders = true) (Φ : Nat → Value → World → Prop) (hB : specTailB l n = true)
    (stable : ∀ i v w w', Φ i v w → Below w.heap.size w w' → Φ i v w')
    (each : ∀ (i : Nat) (o : Oper), i < n → l[i]? = some o → ∀ a w, Leans l Φ w0 a0 o a w →
      if Region.wanted o (yielded l.toArray a.tmps) then o.wp P a w (fun a' w' => ∃ v, a' = a.put o.dst v ∧ Below w.heap.size w w' ∧ Φ i v w') Q else Φ i undef w)
    (fin : ∀ (f : Nat → Value) (w : World), Below w0.heap.size w0 w → (∀ (i : Nat) (o : Oper) (d : Nat), i < n → l[i]? = some o → o.dst = some d → d < a0.tmps.size → Φ i (f i) w) → wpList P l.toArray Q (l.drop n) (putAll (l.take n) f 0 a0) w) :
    (Code.region id l.toArray true).wp P Q a0 w0 := by
  have hnl : n < l.length := by
    simp only [specTailB, Bool.and_eq_true, decide_eq_true_eq] at hB
    exact hB.1.1.1.2
  refine wp_region_any hm ?_
  have := wpAny_of_specT (w0 := w0) (a0 := a0) (P := P) (Q := Q) hB stable each fin _ (Array.replicate l.toArray.size false) a0 w0.drew rfl
    ⟨by simp, fun j oj _ hl => (by rw [getD_replicate_false] at hl; cases hl), fun t _ ht => getD_in (by simpa using ht) (getD_replicate_false _ _)⟩
    ⟨by simp, (Below.refl _ _).drew, rfl, rfl, fun d _ => rfl, fun i o d hi hl _ _ => (by rw [getD_replicate_false] at hl; cases hl)⟩
  have hu : unheaded n (Array.replicate l.toArray.size false) = n := by
    unfold unheaded
    simp
    omega
  rw [hu, show n + (l.length - n) = l.toArray.size by simp; omega] at this
  exact this
end
end Go
