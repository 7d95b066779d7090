import Derived.Test.YtfidbiabgmioaaaBase
/-! A region that draws its order and makes new blocks: each operation by what it makes, whatever was made beside it. -/
set_option maxRecDepth 4000
set_option linter.unusedVariables false
set_option linter.unusedSimpArgs false
namespace Go
open Go.RowKit

/-- The frame behind all operations, operation number k + i having yielded 'f (k + i)'. -/
def putAll : List Oper → (Nat → Value) → Nat → Act → Act
  | [], _, _, a => a
  | o :: l, f, k, a => putAll l f (k + 1) (a.put o.dst (f k))

theorem Act.putd_defers (a : Act) (d : Option Tmp) (v : Value) : (a.put d v).defers = a.defers := by cases d <;> rfl
theorem Act.putd_size (a : Act) (d : Option Tmp) (v : Value) : (a.put d v).tmps.size = a.tmps.size := by cases d <;> simp [Act.put]
theorem Act.putd_get_ne (a : Act) (o : Option Tmp) (v : Value) (d : Nat) (h : o ≠ some d) : (a.put o v).tmps[d]? = a.tmps[d]? := by
  cases o with
  | none => rfl
  | some t => simp only [Act.put]; rw [Array.getElem?_setIfInBounds_ne (by simpa using h)]
theorem Act.putd_get_eq (a : Act) (v : Value) (d : Nat) : (a.put (some d) v).tmps[d]? = if d < a.tmps.size then some v else none := by
  simp only [Act.put]
  rw [Array.getElem?_setIfInBounds]
  split <;> simp_all

theorem putAll_eq (a : Act) : ∀ (l : List Oper) (f : Nat → Value) (k : Nat) (a0 : Act), a0.defers = a.defers → a0.tmps.size = a.tmps.size →
    (∀ d : Nat, (∀ o ∈ l, o.dst ≠ some d) → a0.tmps[d]? = a.tmps[d]?) → (∀ (i : Nat) (o : Oper) (d : Nat), l[i]? = some o → o.dst = some d → f (k + i) = a.tmps.getD d undef) → putAll l f k a0 = a
  | [], f, k, a0, hd, hs, h, _ => by
    have : a0.tmps = a.tmps := Array.ext_getElem? (fun d => h d (by simp))
    cases a0; cases a; simp_all [putAll]
  | o :: l, f, k, a0, hd, hs, h, hf => by
    refine putAll_eq a l f (k + 1) _ (by rw [Act.putd_defers]; exact hd) (by rw [Act.putd_size]; exact hs) (fun d hn => ?_) (fun i o' d hi ho => ?_)
    · by_cases hod : o.dst = some d
      · rw [hod, Act.putd_get_eq]
        have hk := hf 0 o d (by simp) hod
        rw [Nat.add_zero] at hk
        by_cases hlt : d < a0.tmps.size
        · rw [if_pos hlt, hk]
          rw [hs] at hlt
          simp [Array.getD, hlt]
        · rw [if_neg hlt]
          rw [hs] at hlt
          exact (Array.getElem?_eq_none (Nat.le_of_not_lt hlt)).symm
      · rw [Act.putd_get_ne _ _ _ _ hod]
        exact h d (fun o' ho' => by rcases List.mem_cons.1 ho' with rfl | h'; exact hod; exact hn o' h')
    · have := hf (i + 1) o' d (by simpa using hi) ho
      rw [show k + 1 + i = k + (i + 1) from by omega]
      exact this

theorem spec_plain {o : Oper} {y : Nat → Option Bool} {X Y : Prop} (hg : o.guard = none) (h : X) : if Region.wanted o y then X else Y := by
  rw [if_pos (by simp [Region.wanted, hg])]; exact h

/-- Every binding edge leads back, and no two operations write one slot. -/
def specB (l : List Oper) : Bool :=
  (l.zipIdx.all fun (o, i) => o.after.all fun e => !Region.binds .any e || decide (e.on < i)) &&
  (let ds := l.filterMap (·.dst); decide ds.Nodup)

theorem filterMap_nodup_inj : ∀ (l : List Oper), (l.filterMap (·.dst)).Nodup → ∀ (i j : Nat) (oi oj : Oper) (d : Nat), l[i]? = some oi → l[j]? = some oj → oi.dst = some d → oj.dst = some d → i = j
  | [], _, i, j, oi, oj, d, hi, _, _, _ => by simp at hi
  | o :: l, hn, i, j, oi, oj, d, hi, hj, di, dj => by
    have mem : ∀ (k : Nat) (ok : Oper), l[k]? = some ok → ok.dst = some d → d ∈ l.filterMap (·.dst) := fun k ok hk dk =>
      List.mem_filterMap.2 ⟨ok, List.mem_of_getElem? hk, dk⟩
    cases i with
    | zero =>
      cases j with
      | zero => rfl
      | succ j =>
        simp at hi hj
        subst hi
        rw [List.filterMap_cons, di] at hn
        exact absurd (mem j oj hj dj) (List.nodup_cons.1 hn).1
    | succ i =>
      cases j with
      | zero =>
        simp at hi hj
        subst hj
        rw [List.filterMap_cons, dj] at hn
        exact absurd (mem i oi hi di) (List.nodup_cons.1 hn).1
      | succ j =>
        simp at hi hj
        have hn' : (l.filterMap (·.dst)).Nodup := by
          rw [List.filterMap_cons] at hn
          split at hn
          · exact hn
          · exact (List.nodup_cons.1 hn).2
        rw [filterMap_nodup_inj l hn' i j oi oj d hi hj di dj]

section
variable {P : Program} {l : List Oper} {Φ : Nat → Value → World → Prop} {w0 : World} {a0 : Act}

/-- What is known in the midst of the region. -/
structure RInv (l : List Oper) (Φ : Nat → Value → World → Prop) (w0 : World) (a0 : Act) (listed : Array Bool) (a : Act) (w : World) : Prop where
  size : listed.size = l.length
  below : Below w0.heap.size w0 w
  defers : a.defers = a0.defers
  tsize : a.tmps.size = a0.tmps.size
  same : ∀ d : Nat, (∀ (i : Nat) (o : Oper), l[i]? = some o → o.dst = some d → listed.getD i true = false) → a.tmps[d]? = a0.tmps[d]?
  made : ∀ (i : Nat) (o : Oper) (d : Nat), l[i]? = some o → listed.getD i false = true → o.dst = some d → d < a0.tmps.size → Φ i (a.tmps.getD d undef) w

/-- What an operation may lean on. -/
structure Leans (l : List Oper) (Φ : Nat → Value → World → Prop) (w0 : World) (a0 : Act) (o : Oper) (a : Act) (w : World) : Prop where
  below : Below w0.heap.size w0 w
  same : ∀ d : Nat, (∀ o' ∈ l, o'.dst ≠ some d) → a.tmps[d]? = a0.tmps[d]?
  made : ∀ e ∈ o.after, Region.binds .any e = true → ∀ (o' : Oper) (d : Nat), l[e.on]? = some o' → o'.dst = some d → d < a0.tmps.size → Φ e.on (a.tmps.getD d undef) w
  tsize : a.tmps.size = a0.tmps.size

theorem all_listed_of_ready_nil (hB : specB l = true) {listed : Array Bool} (hs : listed.size = l.length) (h : Region.ready .any l.toArray listed = []) : ∀ i, i < l.length → listed.getD i true = true := by
  simp only [specB, Bool.and_eq_true, List.all_eq_true] at hB
  intro i
  induction i using Nat.strongRecOn with
  | ind i ih =>
    intro hi
    by_cases hli : listed.getD i true = true
    · exact hli
    · exfalso
      have : i ∈ Region.ready .any l.toArray listed := by
        rw [mem_ready]
        refine ⟨by simpa using hli, l[i], by simp [hi], fun e he hb => ?_⟩
        have h1 := hB.1 (l[i], i) (by rw [List.mem_zipIdx_iff_getElem?]; simp [hi])
        simp only [Array.all_eq_true_iff_forall_mem] at h1
        have h2 := h1 e he
        rw [hb] at h2
        simp at h2
        have h3 := ih e.on h2 (by omega)
        have h4 : e.on < listed.size := by omega
        simp [Array.getD, h4] at h3 ⊢
        exact h3
      rw [h] at this
      cases this

def unlisted (listed : Array Bool) : Nat := listed.toList.count false

theorem unlisted_set {listed : Array Bool} {i : Nat} (hi : listed.getD i true = false) : unlisted (listed.setIfInBounds i true) + 1 = unlisted listed := by
  unfold unlisted
  have hlt : i < listed.size := by
    rcases Nat.lt_or_ge i listed.size with h | h
    · exact h
    · simp [Array.getD, Nat.not_lt.2 h] at hi
  have hv : listed.toList[i]'(by simpa using hlt) = false := by simpa [Array.getD, hlt] using hi
  rw [Array.toList_setIfInBounds]
  rw [List.count_set (by simpa using hlt)]
  have hpos : 0 < listed.toList.count false := List.count_pos_iff.2 (by rw [← hv]; exact List.getElem_mem _)
  rw [hv, if_pos (by rfl), if_neg (by decide)]
  omega

theorem wpAny_of_spec {Q : Exit → Act → World → Prop} (hB : specB l = true)
    (stable : ∀ i v w w', Φ i v w → Below w.heap.size w w' → Φ i v w')
    (each : ∀ (i : Nat) (o : Oper), l[i]? = some o → ∀ a w, Leans l Φ w0 a0 o a w →
      if Region.wanted o (yielded l.toArray a.tmps) then o.wp P a w (fun a' w' => ∃ v, a' = a.put o.dst v ∧ Below w.heap.size w w' ∧ Φ i v w') Q else Φ i undef w)
    (fin : ∀ (f : Nat → Value) (w : World), Below w0.heap.size w0 w → (∀ (i : Nat) (o : Oper) (d : Nat), l[i]? = some o → o.dst = some d → d < a0.tmps.size → Φ i (f i) w) → Q .normal (putAll l f 0 a0) w) :
    ∀ (fuel : Nat) (listed : Array Bool) (a : Act) (w : World), unlisted listed = fuel → RInv l Φ w0 a0 listed a w → wpAny P .any l.toArray Q fuel listed a w := by
  have hnd : (l.filterMap (·.dst)).Nodup := by
    simp only [specB, Bool.and_eq_true] at hB
    exact of_decide_eq_true hB.2
  have close : ∀ (listed : Array Bool) (a : Act) (w : World), RInv l Φ w0 a0 listed a w → (∀ i, i < l.length → listed.getD i true = true) → Q .normal a w := by
    intro listed a w h hall
    have e : putAll l (fun i => match (l[i]?).bind (·.dst) with | some d => a.tmps.getD d undef | none => undef) 0 a0 = a := by
      refine putAll_eq a l _ 0 a0 h.defers.symm h.tsize.symm (fun d hn => ?_) (fun i o d hi ho => ?_)
      · exact (h.same d (fun i o hi ho => absurd ho (hn o (List.mem_of_getElem? hi)))).symm
      · rw [Nat.zero_add, hi]; simp [ho]
    rw [← e]
    refine fin _ w h.below (fun i o d hi ho hds => ?_)
    have hlt : i < l.length := by
      rcases Nat.lt_or_ge i l.length with h' | h'
      · exact h'
      · rw [List.getElem?_eq_none h'] at hi; cases hi
    have hl := hall i hlt
    have := h.made i o d hi (by have hs := h.size; simp [Array.getD, show i < listed.size by omega] at hl ⊢; exact hl) ho hds
    simp only [hi, Option.bind_some, ho]
    exact this
  intro fuel
  induction fuel with
  | zero =>
    intro listed a w hu h
    have hall : ∀ i, i < l.length → listed.getD i true = true := fun i hi => by
      have hs := h.size
      have hlt : i < listed.size := by omega
      by_cases hb : listed[i] = true
      · simp [Array.getD, hlt, hb]
      · exfalso
        have : 0 < listed.toList.count false := List.count_pos_iff.2 (by
          have : listed[i] = false := by simpa using hb
          rw [← this]; exact Array.getElem_mem_toList _)
        unfold unlisted at hu
        omega
    refine ⟨?_, close listed a w h hall⟩
    rw [List.eq_nil_iff_forall_not_mem]
    intro i hi
    rw [mem_ready] at hi
    obtain ⟨h1, o, h2, _⟩ := hi
    have hlt : i < l.length := by
      rcases Nat.lt_or_ge i l.length with h' | h'
      · exact h'
      · simp [h'] at h2
    rw [hall i hlt] at h1
    cases h1
  | succ fuel ih =>
    intro listed a w hu h
    refine ⟨fun hn => close listed a w h (all_listed_of_ready_nil hB h.size hn), fun i hi => ?_⟩
    have hi' := hi
    rw [mem_ready] at hi
    obtain ⟨hun, o, ho, hafter⟩ := hi
    have ho' : l[i]? = some o := by simpa using ho
    have hl : i < l.length := by
      rcases Nat.lt_or_ge i l.length with h' | h'
      · exact h'
      · rw [List.getElem?_eq_none h'] at ho'; cases ho'
    have lean : Leans l Φ w0 a0 o a w := ⟨h.below, fun d hn => h.same d (fun i o hi ho => absurd ho (hn o (List.mem_of_getElem? hi))),
      fun e he hb o' d hi' hd hds => h.made e.on o' d hi' (hafter e he hb) hd hds, h.tsize⟩
    have step : ∀ v w', Below w.heap.size w w' → Φ i v w' → RInv l Φ w0 a0 (listed.setIfInBounds i true) (a.put o.dst v) w' := fun v w' hb hv => by
      refine ⟨by rw [Array.size_setIfInBounds]; exact h.size, h.below.trans (hb.mono h.below.size), by rw [Act.putd_defers]; exact h.defers, by rw [Act.putd_size]; exact h.tsize, fun d hd => ?_, fun j oj d hj hlj hdj hds => ?_⟩
      · by_cases hod : o.dst = some d
        · have := hd i o ho' hod
          simp [Array.getD, show i < listed.size by have := h.size; omega] at this
        · rw [Act.putd_get_ne _ _ _ _ hod]
          refine h.same d (fun j oj hj hdj => ?_)
          have h1 := hd j oj hj hdj
          have hne : j ≠ i := fun e => by subst e; rw [ho'] at hj; cases hj; exact hod hdj
          rw [getD_set_ne true (Ne.symm hne)] at h1
          exact h1
      · by_cases hji : j = i
        · subst hji
          rw [ho'] at hj; cases hj
          have hlt : d < a.tmps.size := by have := h.tsize; omega
          · have : (a.put o.dst v).tmps.getD d undef = v := by
              rw [hdj]
              have e := Act.putd_get_eq a v d
              rw [if_pos hlt] at e
              rw [Array.getD_eq_getD_getElem?, e]; rfl
            rw [this]; exact hv
        · have hne : o.dst ≠ some d := fun e => hji (filterMap_nodup_inj l hnd j i oj o d hj ho' hdj e)
          have h1 := h.made j oj d hj (by rw [getD_set_ne false (Ne.symm hji)] at hlj; exact hlj) hdj hds
          have e : (a.put o.dst v).tmps.getD d undef = a.tmps.getD d undef := by
            rw [Array.getD_eq_getD_getElem?, Array.getD_eq_getD_getElem?, Act.putd_get_ne _ _ _ _ hne]
          rw [e]
          exact stable _ _ _ _ h1 hb
    have hu' : unlisted (listed.setIfInBounds i true) = fuel := by have := unlisted_set hun; omega
    have he := each i o ho' a w lean
    unfold wpOp
    simp only [ho]
    split
    · rename_i hw
      rw [if_pos hw] at he
      exact .inl (Oper.wp_mono (fun a' w' ⟨v, ha', hb, hv⟩ => by subst ha'; exact ih _ _ _ hu' (step v w' hb hv)) he)
    · rename_i hw
      rw [if_neg hw] at he
      exact ih _ _ _ hu' (step undef w (Below.refl _ _) he)

/-- **A region that draws its order, each operation by what it makes.** -/
theorem wp_region_spec {id : Nat} {Q : Exit → Act → World → Prop} (hm : P.follows .mixedOrders = true) (Φ : Nat → Value → World → Prop) (hB : specB l = true)
    (stable : ∀ i v w w', Φ i v w → Below w.heap.size w w' → Φ i v w')
    (each : ∀ (i : Nat) (o : Oper), l[i]? = some o → ∀ a w, Leans l Φ w0 a0 o a w →
      if Region.wanted o (yielded l.toArray a.tmps) then o.wp P a w (fun a' w' => ∃ v, a' = a.put o.dst v ∧ Below w.heap.size w w' ∧ Φ i v w') Q else Φ i undef w)
    (fin : ∀ (f : Nat → Value) (w : World), Below w0.heap.size w0 w → (∀ (i : Nat) (o : Oper) (d : Nat), l[i]? = some o → o.dst = some d → d < a0.tmps.size → Φ i (f i) w) → Q .normal (putAll l f 0 a0) w) :
    (Code.region id l.toArray true).wp P Q a0 w0 := by
  refine wp_region_any hm (wpAny_of_spec (w0 := w0) (a0 := a0) hB stable each fin _ _ a0 _ (by simp [unlisted]) ⟨by simp, (Below.refl _ _).drew, rfl, rfl, fun d _ => rfl, fun i o d hi hl _ _ => ?_⟩)
  have hlt : i < l.length := by
    rcases Nat.lt_or_ge i l.length with h' | h'
    · exact h'
    · rw [List.getElem?_eq_none h'] at hi; cases hi
  simp [Array.getD, hlt] at hl
end
end Go
