import Derived.Test.YtfidbiabgmioaaaLoose
import Derived.Test.YtfidbiabgmioaaaArr
/-! Blocks that are made in one region that draws its order: no two are one. -/
set_option maxRecDepth 4000
set_option linter.unusedVariables false
set_option linter.unusedSimpArgs false
namespace Go
open Go.RowKit

theorem wp_alloc_fresh {P : Program} {o : Oper} {a : Act} {w : World} {K : Act → World → Prop} {Q : Exit → Act → World → Prop} {T : TypeId} (ho : o.op = .alloc T) (zs : Array Value) (hz : (P.info? T).bind (·.zero) = some (.agg zs))
    (h : o.wp P a w K Q) : K (a.put o.dst (.pointer (some ⟨w.heap.size, 0, none⟩))) (w.alloc (.cells zs T)) := by
  cases hq : P.info? T with
  | none => simp [hq] at hz
  | some i =>
    have hz' : i.zero = some (.agg zs) := by simpa [hq] using hz
    unfold Oper.wp execOp at h
    simp only [ho, Instr.alloc, zeroValue, typeInfo, hq, hz', newVar, newRow, Sem.run_bind, Result.andThen_ok, Value.cells] at h
    simp [hq, hz', Sem.run, Oper.upon] at h
    exact h

/-- It makes a block whose zero is an array or a struct. -/
def newB (P : Program) (o : Oper) : Bool := match o.op with
  | .alloc T => match (P.info? T).bind (·.zero) with
    | some (.agg _) => o.dst.isSome
    | _ => false
  | _ => false
theorem newB_spec {P : Program} {o : Oper} (h : newB P o = true) : ∃ T zs, o.op = .alloc T ∧ (P.info? T).bind (·.zero) = some (.agg zs) := by
  unfold newB at h
  split at h
  · rename_i T hT
    split at h
    · rename_i zs hz; exact ⟨T, zs, hT, hz⟩
    · cases h
  · cases h

section
variable {P : Program} {l : List Oper} {Φ : Nat → Value → World → Prop} {w0 : World} {a0 : Act}

/-- What is known of the blocks made so far. -/
structure Apart (P : Program) (l : List Oper) (n : Nat) (listed : Array Bool) (a : Act) (w : World) : Prop where
  old : ∀ (i : Nat) (o : Oper) (d : Nat), i < n → l[i]? = some o → newB P o = true → listed.getD i false = true → o.dst = some d → d < a.tmps.size → ∃ g, a.tmps.getD d undef = .pointer (some ⟨g, 0, none⟩) ∧ g < w.heap.size
  two : ∀ (i j : Nat) (oi oj : Oper) (di dj : Nat), i < n → j < n → i ≠ j → l[i]? = some oi → l[j]? = some oj → newB P oi = true → newB P oj = true → listed.getD i false = true → listed.getD j false = true →
    oi.dst = some di → oj.dst = some dj → di < a.tmps.size → dj < a.tmps.size → a.tmps.getD di undef ≠ a.tmps.getD dj undef

theorem putd_at {a : Act} {v : Value} {d : Nat} (h : d < a.tmps.size) : (a.put (some d) v).tmps.getD d undef = v := by
  rw [Array.getD_eq_getD_getElem?, Act.putd_get_eq, if_pos h]; rfl
theorem putd_ne {a : Act} {o : Option Tmp} {v : Value} {d : Nat} (h : o ≠ some d) : (a.put o v).tmps.getD d undef = a.tmps.getD d undef := by
  rw [Array.getD_eq_getD_getElem?, Array.getD_eq_getD_getElem?, Act.putd_get_ne _ _ _ _ h]

/-- One more operation. -/
theorem Apart.step {n i : Nat} {o : Oper} {listed : Array Bool} {a : Act} {w w' : World} {v : Value} (h : Apart P l n listed a w) (hnd : (l.filterMap (·.dst)).Nodup) (ho : l[i]? = some o) (hb : Below w.heap.size w w')
    (hv : newB P o = true → v = .pointer (some ⟨w.heap.size, 0, none⟩) ∧ w.heap.size < w'.heap.size) : Apart P l n (listed.setIfInBounds i true) (a.put o.dst v) w' := by
  have key : ∀ (j : Nat) (oj : Oper) (d : Nat), l[j]? = some oj → oj.dst = some d → j ≠ i → o.dst ≠ some d := fun j oj d hj hd hne e => hne (filterMap_nodup_inj l hnd j i oj o d hj ho hd e)
  refine ⟨fun j oj d hjn hj hnew hl hd hs => ?_, fun j k oj ok dj dk hjn hkn hjk hj hk hnj hnk hlj hlk hdj hdk hsj hsk => ?_⟩
  · rw [Act.putd_size] at hs
    by_cases hji : j = i
    · subst hji
      rw [ho] at hj; cases hj
      obtain ⟨h1, h2⟩ := hv hnew
      exact ⟨w.heap.size, by rw [hd, putd_at hs, h1], h2⟩
    · rw [getD_set_ne false (Ne.symm hji)] at hl
      obtain ⟨g, h1, h2⟩ := h.old j oj d hjn hj hnew hl hd hs
      exact ⟨g, by rw [putd_ne (key j oj d hj hd hji), h1], Nat.lt_of_lt_of_le h2 hb.size⟩
  · rw [Act.putd_size] at hsj hsk
    by_cases hji : j = i
    · subst hji
      rw [ho] at hj; cases hj
      have hki : k ≠ j := Ne.symm hjk
      rw [getD_set_ne false (Ne.symm hki)] at hlk
      obtain ⟨g, h1, h2⟩ := h.old k ok dk hkn hk hnk hlk hdk hsk
      rw [putd_ne (key k ok dk hk hdk hki), h1, hdj, putd_at hsj, (hv hnj).1]
      intro e
      injection e with e; injection e with e; injection e with e
      omega
    · by_cases hki : k = i
      · subst hki
        rw [ho] at hk; cases hk
        rw [getD_set_ne false (Ne.symm hji)] at hlj
        obtain ⟨g, h1, h2⟩ := h.old j oj dj hjn hj hnj hlj hdj hsj
        rw [putd_ne (key j oj dj hj hdj hji), h1, hdk, putd_at hsk, (hv hnk).1]
        intro e
        injection e with e; injection e with e; injection e with e
        omega
      · rw [getD_set_ne false (Ne.symm hji)] at hlj
        rw [getD_set_ne false (Ne.symm hki)] at hlk
        rw [putd_ne (key j oj dj hj hdj hji), putd_ne (key k ok dk hk hdk hki)]
        exact h.two j k oj ok dj dk hjn hkn hjk hj hk hnj hnk hlj hlk hdj hdk hsj hsk

theorem Oper.wp_and {o : Oper} {a : Act} {w : World} {K : Act → World → Prop} {Q : Exit → Act → World → Prop} (h : o.wp P a w K Q) : o.wp P a w (fun a' w' => K a' w' ∧ (newB P o = true → a' = a.put o.dst (.pointer (some ⟨w.heap.size, 0, none⟩)) ∧ w.heap.size < w'.heap.size)) Q := by
  by_cases hn : newB P o = true
  · obtain ⟨T, zs, ho, hz⟩ := newB_spec hn
    refine wp_alloc_new T ho zs hz ⟨wp_alloc_fresh ho zs hz h, fun _ => ⟨rfl, by rw [World.size_alloc]; omega⟩⟩
  · exact Oper.wp_mono (fun a' w' h => ⟨h, fun e => absurd e hn⟩) h

theorem wpAny_of_specP {n : Nat} {Q : Exit → Act → World → Prop} (hB : specTailB l n = true)
    (stable : ∀ i v w w', Φ i v w → Below w.heap.size w w' → Φ i v w')
    (each : ∀ (i : Nat) (o : Oper), i < n → l[i]? = some o → ∀ a w, Leans l Φ w0 a0 o a w → (newB P o = true → o.guard = none) ∧
      if Region.wanted o (yielded l.toArray a.tmps) then o.wp P a w (fun a' w' => ∃ v, a' = a.put o.dst v ∧ Below w.heap.size w w' ∧ Φ i v w') Q else Φ i undef w)
    (fin : ∀ (f : Nat → Value) (w : World), Below w0.heap.size w0 w → (∀ (i : Nat) (o : Oper) (d : Nat), i < n → l[i]? = some o → o.dst = some d → d < a0.tmps.size → Φ i (f i) w) →
      Apart P l n (Array.replicate n true) (putAll (l.take n) f 0 a0) w → wpList P l.toArray Q (l.drop n) (putAll (l.take n) f 0 a0) w) :
    ∀ (fuel : Nat) (listed : Array Bool) (a : Act) (w : World), unheaded n listed = fuel → HeadInv .any l.toArray n listed → RInv l Φ w0 a0 listed a w → Apart P l n listed a w → wpAny P .any l.toArray Q (fuel + (l.length - n)) listed a w := by
  simp only [specTailB, Bool.and_eq_true, decide_eq_true_eq] at hB
  obtain ⟨⟨⟨⟨hB, hnl⟩, hsink⟩, hchain⟩, hseq⟩ := hB
  have hnd : (l.filterMap (·.dst)).Nodup := by
    simp only [specB, Bool.and_eq_true] at hB
    exact of_decide_eq_true hB.2
  have close : ∀ (listed : Array Bool) (a : Act) (w : World), HeadInv .any l.toArray n listed → RInv l Φ w0 a0 listed a w → Apart P l n listed a w → (∀ i, i < n → listed.getD i true = true) → wpAny P .any l.toArray Q (l.length - n) listed a w := by
    intro listed a w inv h hA hall
    have hform : listed = Array.replicate n true ++ Array.replicate (l.length - n) false := listed_form h.size (by omega) hall (fun i h1 h2 => inv.tail i h1 (by simpa using h2))
    have e : putAll (l.take n) (fun i => match (l[i]?).bind (·.dst) with | some d => a.tmps.getD d undef | none => undef) 0 a0 = a := by
      refine putAll_eq a (l.take n) _ 0 a0 h.defers.symm h.tsize.symm (fun d hn => ?_) (fun i o d hi ho => ?_)
      · refine (h.same d (fun i o hi ho => ?_)).symm
        by_cases hin : i < n
        · exact absurd ho (hn o (List.mem_of_getElem? (i := i) (by rw [List.getElem?_take, if_pos hin]; exact hi)))
        · exact inv.tail i (by omega) (by
            rcases Nat.lt_or_ge i l.length with h' | h'
            · simpa using h'
            · rw [List.getElem?_eq_none h'] at hi; cases hi)
      · rw [List.getElem?_take] at hi
        split at hi
        · rw [Nat.zero_add, hi]; simp [ho]
        · cases hi
    have hdl : (l.drop n).length = l.length - n := by simp
    have hlt : ∀ i, i < n → listed.getD i false = true := fun i hi => by
      have hl := hall i hi
      have hs := h.size
      simp [Array.getD, show i < listed.size by omega] at hl ⊢; exact hl
    have := wpAny_of_seq (md := .any) (ops := l.toArray) (Q' := Q) (P := P) (l.drop n) n listed a w (fun j => by simp [List.getElem?_drop]) (by rw [hdl, hform]; exact hseq) (by
      rw [← e]
      refine fin _ w h.below (fun i o d hin hi ho hds => ?_) ?_
      · have := h.made i o d hi (hlt i hin) ho hds
        simp only [hi, Option.bind_some, ho]
        exact this
      · rw [e]
        exact ⟨fun i o d hin hi hnew _ hd hs => hA.old i o d hin hi hnew (hlt i hin) hd hs,
          fun i j oi oj di dj hin hjn hij hi hj hni hnj _ _ hdi hdj hsi hsj => hA.two i j oi oj di dj hin hjn hij hi hj hni hnj (hlt i hin) (hlt j hjn) hdi hdj hsi hsj⟩)
    rwa [hdl] at this
  intro fuel
  induction fuel with
  | zero =>
    intro listed a w hu inv h hA
    rw [Nat.zero_add]
    refine close listed a w inv h hA (fun i hi => ?_)
    have hs := h.size
    have hlt : i < listed.size := by omega
    by_cases hb : listed[i] = true
    · simp [Array.getD, hlt, hb]
    · exfalso
      have : 0 < (listed.toList.take n).count false := List.count_pos_iff.2 (by
        have hf : listed[i] = false := by simpa using hb
        have hlt' : i < (listed.toList.take n).length := by simp; omega
        have : (listed.toList.take n)[i] = false := by simpa using hf
        rw [← this]; exact List.getElem_mem _)
      unfold unheaded at hu
      omega
  | succ fuel ih =>
    intro listed a w hu inv h hA
    rw [show fuel + 1 + (l.length - n) = (fuel + (l.length - n)) + 1 by omega]
    have hsome : ∃ i, i < n ∧ listed.getD i true = false := by
      have : 0 < (listed.toList.take n).count false := by unfold unheaded at hu; omega
      obtain ⟨i, hi, he⟩ := List.getElem_of_mem (List.count_pos_iff.1 this)
      have hi' := hi
      simp at hi'
      exact ⟨i, by omega, by simp at he; simp [Array.getD, show i < listed.size by omega, he]⟩
    obtain ⟨i0, hi0, hun0⟩ := hsome
    refine ⟨fun hn => ?_, fun i hi => ?_⟩
    · have := all_listed_of_ready_nil hB h.size hn i0 (by omega)
      rw [this] at hun0; cases hun0
    have hin : i < n := by
      rcases Nat.lt_or_ge i n with h' | h'
      · exact h'
      · exact absurd hi (tail_waits hsink hchain (by simpa using hnl) inv _ i0 rfl hi0 hun0 i h')
    have hi' := hi
    rw [mem_ready] at hi
    obtain ⟨hun, o, ho, hafter⟩ := hi
    have ho' : l[i]? = some o := by simpa using ho
    have hl : i < l.length := by omega
    have lean : Leans l Φ w0 a0 o a w := ⟨h.below, fun d hn => h.same d (fun i o hi ho => absurd ho (hn o (List.mem_of_getElem? hi))),
      fun e he hb o' d hi' hd hds => h.made e.on o' d hi' (hafter e he hb) hd hds, h.tsize⟩
    have step : ∀ v w', Below w.heap.size w w' → Φ i v w' → RInv l Φ w0 a0 (listed.setIfInBounds i true) (a.put o.dst v) w' := fun v w' hb hv => by
      refine ⟨by rw [Array.size_setIfInBounds]; exact h.size, h.below.trans (hb.mono h.below.size), by rw [Act.putd_defers]; exact h.defers, by rw [Act.putd_size]; exact h.tsize, fun d hd => ?_, fun j oj d hj hlj hdj hds => ?_⟩
      · by_cases hod : o.dst = some d
        · have := hd i o ho' hod
          simp [Array.getD, show i < listed.size by have := h.size; omega] at this
        · rw [Act.putd_get_ne _ _ _ _ hod]
          refine h.same d (fun j oj hj hdj => ?_)
          have h1 := hd j oj hj hdj
          have hne : j ≠ i := fun e => by subst e; rw [ho'] at hj; cases hj; exact hod hdj
          rw [getD_set_ne true (Ne.symm hne)] at h1
          exact h1
      · by_cases hji : j = i
        · subst hji
          rw [ho'] at hj; cases hj
          have hlt : d < a.tmps.size := by have := h.tsize; omega
          have : (a.put o.dst v).tmps.getD d undef = v := by rw [hdj]; exact putd_at hlt
          rw [this]; exact hv
        · have hne : o.dst ≠ some d := fun e => hji (filterMap_nodup_inj l hnd j i oj o d hj ho' hdj e)
          have h1 := h.made j oj d hj (by rw [getD_set_ne false (Ne.symm hji)] at hlj; exact hlj) hdj hds
          rw [putd_ne hne]
          exact stable _ _ _ _ h1 hb
    have hu' : unheaded n (listed.setIfInBounds i true) = fuel := by have := unheaded_set hun hin; omega
    have inv' := inv.set hi' hin
    obtain ⟨hg, he⟩ := each i o hin ho' a w lean
    unfold wpOp
    simp only [ho]
    split
    · rename_i hw
      rw [if_pos hw] at he
      refine .inl (Oper.wp_mono (fun a' w' hx => ?_) (Oper.wp_and he))
      obtain ⟨⟨v, ha', hb, hv⟩, hnew⟩ := hx
      subst ha'
      by_cases hn : newB P o = true
      · obtain ⟨h1, h2⟩ := hnew hn
        have hs := step v w' hb hv
        rw [h1] at hs ⊢
        exact ih _ _ _ hu' inv' hs (hA.step hnd ho' hb fun _ => ⟨rfl, h2⟩)
      · exact ih _ _ _ hu' inv' (step v w' hb hv) (hA.step hnd ho' hb fun e => absurd e hn)
    · rename_i hw
      rw [if_neg hw] at he
      refine ih _ _ _ hu' inv' (step undef w (Below.refl _ _) he) (hA.step hnd ho' (Below.refl _ _) fun e => ?_)
      exact absurd (by simp [Region.wanted, hg e]) hw

theorem wp_region_spec_apart {id : Nat} {Q : Exit → Act → World → Prop} (n : Nat) (hm : P.follows .mixedOrders = true) (Φ : Nat → Value → World → Prop) (hB : specTailB l n = true)
    (stable : ∀ i v w w', Φ i v w → Below w.heap.size w w' → Φ i v w')
    (each : ∀ (i : Nat) (o : Oper), i < n → l[i]? = some o → ∀ a w, Leans l Φ w0 a0 o a w → (newB P o = true → o.guard = none) ∧
      if Region.wanted o (yielded l.toArray a.tmps) then o.wp P a w (fun a' w' => ∃ v, a' = a.put o.dst v ∧ Below w.heap.size w w' ∧ Φ i v w') Q else Φ i undef w)
    (fin : ∀ (f : Nat → Value) (w : World), Below w0.heap.size w0 w → (∀ (i : Nat) (o : Oper) (d : Nat), i < n → l[i]? = some o → o.dst = some d → d < a0.tmps.size → Φ i (f i) w) →
      Apart P l n (Array.replicate n true) (putAll (l.take n) f 0 a0) w → wpList P l.toArray Q (l.drop n) (putAll (l.take n) f 0 a0) w) :
    (Code.region id l.toArray true).wp P Q a0 w0 := by
  have hnl : n < l.length := by
    simp only [specTailB, Bool.and_eq_true, decide_eq_true_eq] at hB
    exact hB.1.1.1.2
  refine wp_region_any hm ?_
  have := wpAny_of_specP (w0 := w0) (a0 := a0) (P := P) (Q := Q) hB stable each fin _ (Array.replicate l.toArray.size false) a0 w0.drew rfl
    ⟨by simp, fun j oj _ hl => (by rw [getD_replicate_false] at hl; cases hl), fun t _ ht => getD_in (by simpa using ht) (getD_replicate_false _ _)⟩
    ⟨by simp, (Below.refl _ _).drew, rfl, rfl, fun d _ => rfl, fun i o d hi hl _ _ => (by rw [getD_replicate_false] at hl; cases hl)⟩
    ⟨fun i o d _ _ _ hl _ _ => (by rw [getD_replicate_false] at hl; cases hl), fun i j oi oj di dj _ _ _ _ _ _ _ hl _ _ _ _ _ => (by rw [getD_replicate_false] at hl; cases hl)⟩
  have hu : unheaded n (Array.replicate l.toArray.size false) = n := by
    unfold unheaded
    simp
    omega
  rw [hu, show n + (l.length - n) = l.toArray.size by simp; omega] at this
  exact this

/-- No two of the new blocks are one. -/
def ApartEnd (P : Program) (l : List Oper) (n : Nat) (a : Act) : Prop :=
  ∀ (i j : Nat) (oi oj : Oper) (di dj : Nat), i < n → j < n → i ≠ j → l[i]? = some oi → l[j]? = some oj → newB P oi = true → newB P oj = true → oi.dst = some di → oj.dst = some dj → di < a.tmps.size → dj < a.tmps.size → a.tmps.getD di undef ≠ a.tmps.getD dj undef

/-- **n operations in whatever order, each result by what is known of it, the new blocks apart; then the others, in theirs.** -/
theorem wp_region_loose_apart {es : List Ent} {id : Nat} {Q : Exit → Act → World → Prop} (n : Nat) (hm : P.follows .mixedOrders = true) (hB : looseB l n = true) (hS : specTailB l n = true) (hk : keepsAll es)
    (hnew : ((l.take n).all fun o => !newB P o || o.guard.isNone) = true)
    (h : looseL P l es w0 n (fun a w => ApartEnd P l n a → wpList P l.toArray Q (l.drop n) a w) 0 (l.take n) a0) : (Code.region id l.toArray true).wp P Q a0 w0 := by
  have hS2 := hS
  simp only [specTailB, Bool.and_eq_true, decide_eq_true_eq] at hS2
  have hn : n ≤ l.length := Nat.le_of_lt hS2.1.1.1.2
  refine wp_region_spec_apart n hm (phiOf es) hS (phiOf_keeps es hk) (fun i o hi ho a w hl => ⟨fun hb => ?_, loose_each hB hS2.1.1.1.1 hn h i o hi ho a w hl⟩) (fun f w hb hf hA => loose_fin hS2.1.1.1.1 hn h f w hb hf ?_)
  · have hm2 : o ∈ l.take n := List.mem_of_getElem? (i := i) (by rw [List.getElem?_take, if_pos hi]; exact ho)
    have := List.all_eq_true.1 hnew o hm2
    rw [hb] at this
    simpa using this
  · intro i j oi oj di dj hi hj hij h1 h2 h3 h4 h5 h6 h7 h8
    exact hA.two i j oi oj di dj hi hj hij h1 h2 h3 h4 (by simp [hi]) (by simp [hj]) h5 h6 h7 h8
end
end Go
