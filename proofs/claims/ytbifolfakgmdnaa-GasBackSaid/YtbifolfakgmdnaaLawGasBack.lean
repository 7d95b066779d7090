import Derived.Test.YtbifolfakgmdnaaGasE
import Derived.Test.YtbifolfakgmdnaaFrame
import Derived.Test.YtbifolfakgmdnaaTail
import Derived.Test.YtbifolfakgmdnaaApp
import Derived.Deep.AppendLies
/-! GasBack. -/
namespace Go.Proofs.Ytbifolfakgmdnaa
open Go.RowKit
set_option linter.unusedVariables false
set_option linter.unusedSimpArgs false

def wv (l : List Int) : List Value := l.map (Value.int .u64)
theorem uLW : Try.prog.underlying 29 = some (.slice 24) := by kernel_rfl
theorem infoW : (Try.prog.info? 24).map (fun i => (i.zero, i.size, i.bytes)) = some (some (.agg #[.int .u64 0, .int .u64 0, .int .u64 0, .int .u64 0]), 4, 32) := by kernel_rfl

/-- What the operations of 'append(append([]api.Word{}, l...), first)' make. -/
def backΦ (B : Nat) (a b c d : Int) (lv : Value) (n : Nat) (cells : List Value) (i : Nat) (v : Value) (w : World) : Prop :=
  match i with
  | 0 => ∃ g, v = .slice (some ⟨g, 0, none⟩) 0 0 ∧ w.ownsRow B 24 4 v 0 []
  | 1 => v = lv
  | 2 => w.ownsRow B 24 4 v n cells
  | 3 => v = .agg #[.int .u64 a, .int .u64 b, .int .u64 c, .int .u64 d]
  | 4 => ∃ g, v = .slice (some ⟨g, 0, none⟩) 1 1 ∧ B ≤ g ∧ w.heap[g]? = some (.cells #[.int .u64 a, .int .u64 b, .int .u64 c, .int .u64 d] 24 (0, 0))
  | _ => True
theorem backΦ_stable (B : Nat) (a b c d : Int) (lv : Value) (n : Nat) (cells : List Value) : ∀ i v w w', backΦ B a b c d lv n cells i v w → Below w.heap.size w w' → backΦ B a b c d lv n cells i v w' := by
  intro i v w w' h hb
  match i, h with
  | 0, ⟨g, h1, h2⟩ => exact ⟨g, h1, World.ownsRow.kept h2 (row := none) ⟨hb.os, hb.tape, hb.output, hb.size, fun k hk _ => hb.block k hk⟩ (.inr (by rw [h1]; simp [Value.ownBlock]))⟩
  | 1, h => exact h
  | 2, h => exact World.ownsRow.kept h ⟨hb.os, hb.tape, hb.output, hb.size, fun k hk _ => hb.block k hk⟩ (row := none) (by
      by_cases e : v.ownBlock = none
      · exact .inl e
      · exact .inr e)
  | 3, h => exact h
  | 4, ⟨g, h1, h2, h3⟩ => exact ⟨g, h1, h2, by rw [hb.block g (Array.getElem?_eq_some_iff.1 h3).1]; exact h3⟩
  | _ + 5, _ => exact trivial

theorem flat_cells (w : World) (b n : Nat) : ∀ (xss : List (List Int)) (off : Nat), (∀ xs ∈ xss, xs.length = n) → (∀ i, i < xss.length → ∀ j, j < n → w.cell? ⟨b, off + i * n + j, none⟩ = some (.int .u64 ((xss.getD i []).getD j 0))) →
    ∀ (j : Nat) (u : Value), (xss.flatMap wv)[j]? = some u → w.cell? ⟨b, off + j, none⟩ = some u
  | [], _, _, _, j, u, h => by simp at h
  | x :: xs, off, hl, hc, j, u, h => by
    have hx : (wv x).length = n := by simp [wv]; exact hl x (by simp)
    rw [List.flatMap_cons] at h
    by_cases hj : j < n
    · rw [List.getElem?_append_left (by omega)] at h
      have h0 := hc 0 (by simp) j hj
      simp at h0
      rw [h0, ← h]
      simp [wv, show j < x.length by have := hl x (by simp); omega]
    · rw [List.getElem?_append_right (by omega), hx] at h
      have ih := flat_cells w b n xs (off + n) (fun y hy => hl y (List.mem_cons_of_mem _ hy)) (fun i hi k hk => by
        have h1 := hc (i + 1) (by simp; omega) k hk
        rw [show off + (i + 1) * n + k = off + n + i * n + k from by rw [Nat.add_mul]; omega] at h1
        simpa using h1) (j - n) u h
      rw [show off + n + (j - n) = off + j from by omega] at ih
      exact ih
theorem flat_len (n : Nat) : ∀ (xss : List (List Int)), (∀ xs ∈ xss, xs.length = n) → (xss.flatMap wv).length = xss.length * n
  | [], _ => by simp
  | x :: xs, h => by
    rw [List.flatMap_cons, List.length_append, flat_len n xs (fun y hy => h y (List.mem_cons_of_mem _ hy))]
    simp [wv, h x (by simp), Nat.add_mul]; omega
theorem flat_get (n : Nat) : ∀ (xss : List (List Int)) (i j : Nat), (∀ xs ∈ xss, xs.length = n) → i < xss.length → j < n → (xss.flatMap wv)[i * n + j]? = some (.int .u64 ((xss.getD i []).getD j 0))
  | [], i, j, _, h, _ => by simp at h
  | x :: xs, 0, j, hl, _, hj => by
    have hx : x.length = n := hl x (by simp)
    rw [List.flatMap_cons, List.getElem?_append_left (by simp [wv]; omega)]
    simp [wv, show j < x.length by omega]
  | x :: xs, i + 1, j, hl, hi, hj => by
    have hx : (wv x).length = n := by simp [wv]; exact hl x (by simp)
    have := Nat.add_mul i 1 n
    rw [List.flatMap_cons, List.getElem?_append_right (by rw [hx]; omega), hx, show (i + 1) * n + j - n = i * n + j from by omega, flat_get n xs i j (fun y hy => hl y (List.mem_cons_of_mem _ hy)) (by simpa using hi) hj]
    simp
theorem flat_one (xss : List (List Int)) : ∀ u ∈ xss.flatMap wv, u.oneCell' = true := by
  intro u hu
  simp [wv, List.mem_flatMap] at hu
  obtain ⟨_, _, a, _, rfl⟩ := hu
  rfl

/-! ### The plain law -/
def zz : List Int := [0, 0, 0, 0]
def potB (f n : List Int) : Int := if weq f zz then 0 else if weq n zz then 4800 else 0
def awayB (f n : List Int) : Int := if weq n f then 0 else if weq f zz then 19900 else 2800
theorem weq_true {x y : List Int} (h : x = y) : weq x y = true := by rw [h, weq_self]
theorem weq_false {x y : List Int} (h : ¬ x = y) : weq x y = false := by simp [weq, h]
theorem step_law (f n x : List Int) (warm : Bool) : 0 ≤ sstCost f n x warm ∧ sstCost f n x warm ≤ 22100 ∧ -4800 ≤ sstBack f n x ∧ sstBack f n x ≤ 24700 ∧
    0 ≤ sstBack f n x - potB f x + potB f n ∧ sstBack f n x - potB f x + awayB f x + potB f n - awayB f n ≤ sstCost f n x warm := by
  unfold sstCost sstBack potB awayB
  rw [show ([0, 0, 0, 0] : List Int) = zz from rfl]
  by_cases h1 : x = n
  · subst h1
    rw [weq_self]
    cases weq f zz <;> cases weq x zz <;> cases weq x f <;> cases warm <;> decide
  · rw [weq_false h1]
    by_cases h2 : n = f
    · subst h2
      rw [weq_self, weq_false h1]
      by_cases h3 : n = zz
      · rw [weq_true h3, weq_false (fun e => h1 (e.trans h3.symm))]
        cases warm <;> decide
      · rw [weq_false h3]
        cases weq x zz <;> cases warm <;> decide
    · rw [weq_false h2]
      by_cases h3 : f = zz
      · have h4 : weq n zz = false := weq_false (fun e => h2 (e.trans h3.symm))
        have h5 : weq x zz = weq x f := by rw [h3]
        rw [weq_true h3, h4, h5]
        cases weq x f <;> cases warm <;> decide
      · rw [weq_false h3]
        by_cases h4 : n = zz
        · have h5 : weq x zz = false := weq_false (fun e => h1 (e.trans h4.symm))
          rw [weq_true h4, h5]
          cases weq x f <;> cases warm <;> decide
        · rw [weq_false h4]
          by_cases h5 : x = zz
          · have h6 : weq x f = false := weq_false (fun e => h3 (e.symm.trans h5))
            rw [weq_true h5, h6]
            cases warm <;> decide
          · rw [weq_false h5]
            cases weq x f <;> cases warm <;> decide

theorem grownBy_setCell {a b : World} {row : Option Nat} (h : a.grownBy b row) {p : Addr} (hp : some p.block = row) (v : Value) : a.grownBy (b.setCell p v) row :=
  ⟨h.os, h.tape, h.output, by simpa using h.size, fun k hk hne => by rw [Below.heap_setCell _ _ _ _ (fun e => hne (by rw [e]; exact hp))]; exact h.block k hk hne⟩
theorem grownBy_ext {a b : World} {row : Option Nat} (h : a.grownBy b row) (x : World) : a.grownBy (b.ext x) row :=
  ⟨(b.ext_below x).os.trans h.os, (b.ext_below x).tape.trans h.tape, (b.ext_below x).output.trans h.output, Nat.le_trans h.size (b.ext_below x).size, fun k hk hne => by rw [(b.ext_below x).block k (Nat.lt_of_lt_of_le hk h.size)]; exact h.block k hk hne⟩
theorem row_set {w : World} {b : Nat} {cs : Array Value} {t : TypeId} (h : w.heap[b]? = some (.cells cs t (0, 0))) (j : Nat) (v : Value) : (w.setCell ⟨b, j, none⟩ v).heap[b]? = some (.cells (cs.setIfInBounds j v) t (0, 0)) := by
  simp [World.setCell, Array.getElem?_modify, h]

set_option maxHeartbeats 1000000 in
theorem walk_GasBack (w : World) (x : List Int) (lx : x.length = 4) (wx : ∀ y ∈ x, (Lit.int .u64 y).wf = true) (v : Value) (xss : List (List Int)) (hr : RdA .u64 4 w v xss) (hm : xss.length ≤ maxLen) (hw : ∀ xs ∈ xss, xs.length = 4 ∧ ∀ y ∈ xs, (Lit.int .u64 y).wf = true) :
    Calls Try.prog 4 #[.agg (x.map (Value.int .u64)).toArray, v] w fun e w' => e = .returned (.bool true) ∧ Below w.heap.size w w' := by
  obtain ⟨a, b, c, d, rfl⟩ := len4 lx
  obtain ⟨sa, cap, rfl, hcell⟩ := hr
  have HC := hid hcell
  have HW := hid hw
  clear hw hcell wx lx
  simp only [List.map_cons, List.map_nil]
  unfold maxLen at hm
  by_cases hlen : 1000 < xss.length
  · go_enter Try.func4, Try.ntmps4
    go_wp2_with (go_at_call 11; (with_reducible refine (Calls.asExt (alive_any _)).mono ?_); rintro _ _ ⟨rfl, _, rfl⟩)
    go_ret
    exact ⟨rfl, (by repeat (first | (with_reducible first | exact Below.refl _ _ | assumption | refine World.ext_below_of ?_ ?_ _ | refine Below.setCell ?_ ?_ _ | refine Below.alloc ?_ ?_ _ | refine Below.drew ?_ | refine World.size_le_ext _ _ _ ?_) | (solve | simp [go_sem] | (simp [go_sem]; omega) | omega)))⟩
  · go_enter Try.func4, Try.ntmps4
    go_upto_region 5 with (fail)
    refine wp_region_spec_tail 5 (by kernel_rfl) (backΦ (w.heap.size + 2) a b c d (.slice sa xss.length cap) xss.length (xss.flatMap wv)) (by kernel_rfl) (backΦ_stable _ _ _ _ _ _ _ _) ?_ ?_
    · intro i o hi ho a' w' hL
      have hbw : Below w.heap.size w w' := (((Below.refl _ w).alloc (Nat.le_refl _) _).alloc (by simp) _).trans (hL.below.mono (by simp; omega))
      have hsz : w.heap.size + 2 ≤ w'.heap.size := by have := hL.below.size; simp at this; omega
      match i, hi with
      | 0, _ =>
        simp at ho; subst ho
        refine spec_plain rfl ?_
        go_simp
        refine ⟨_, rfl, (Below.refl _ _).alloc (Nat.le_refl _) _, _, rfl, by simp, .inr ⟨_, _, #[], rfl, hsz, ?_, Nat.le_refl _, by simp [maxLen], by simp, by simp⟩⟩
        show (w'.heap.push _)[w'.heap.size]? = _
        simp
      | 1, _ =>
        simp at ho; subst ho
        refine spec_plain rfl ?_
        have h1 : a'.tmps[1]? = _ := hL.same 1 (by simp)
        simp at h1
        go_simp
        exact ⟨_, rfl, Below.refl _ _, rfl⟩
      | 2, _ =>
        simp at ho; subst ho
        have h1 := hL.made ⟨0, Ground.data⟩ (by simp) rfl _ 17 rfl rfl (by simp)
        have h2 := hL.made ⟨1, Ground.data⟩ (by simp) rfl _ 18 rfl rfl (by simp)
        obtain ⟨i0, hi0, hz0, hz1, hz2⟩ := info_parts infoW
        have hl4 := fun xs hxs => (HW.out xs hxs).1
        refine spec_plain rfl (wp_append_full (.tmp 17) (.tmp 18) 29 rfl (w.heap.size + 2) 24 i0 _ 4 32 uLW hi0 hz0 hz1 hz2 rfl (by decide) _ _ rfl rfl ?hv xss.length (xss.flatMap wv) ?hr (by unfold maxLen; omega) (by omega) hsz fun v' w'' h3 h4 => ⟨v', rfl, h4, h3⟩)
        case hv =>
          obtain ⟨g, hg1, hg2⟩ := h1
          exact .inr ⟨g, hg1, hg2⟩
        case hr =>
          have h2' : a'.tmps.getD 18 undef = .slice sa xss.length cap := h2
          refine ⟨flat_len 4 xss hl4, flat_one xss, sa, cap, h2', fun hpos => ?_⟩
          obtain ⟨b', off, rfl, hbl, hcell⟩ := HC.out (by intro e; subst e; simp at hpos)
          refine ⟨_, rfl, fun j u hu => ?_⟩
          have := flat_cells w b' 4 xss off hl4 hcell j u hu
          have ha : (⟨b', off, none⟩ : Addr).add j = ⟨b', off + j, none⟩ := by unfold Addr.add; split <;> simp_all
          rw [ha, hbw.cell (p := ⟨b', off + j, none⟩) hbl]
          exact this
      | 3, _ =>
        simp at ho; subst ho
        refine spec_plain rfl ?_
        have h1 : a'.tmps[2]? = _ := hL.same 2 (by simp)
        simp at h1
        have k0 : w'.cell? ⟨w.heap.size, 0, none⟩ = some (.int .u64 a) := by rw [hL.below.cell (p := ⟨w.heap.size, 0, none⟩) (by simp; omega)]; simp [go_sem]
        have k1 : w'.cell? ⟨w.heap.size, 1, none⟩ = some (.int .u64 b) := by rw [hL.below.cell (p := ⟨w.heap.size, 1, none⟩) (by simp; omega)]; simp [go_sem]
        have k2 : w'.cell? ⟨w.heap.size, 2, none⟩ = some (.int .u64 c) := by rw [hL.below.cell (p := ⟨w.heap.size, 2, none⟩) (by simp; omega)]; simp [go_sem]
        have k3 : w'.cell? ⟨w.heap.size, 3, none⟩ = some (.int .u64 d) := by rw [hL.below.cell (p := ⟨w.heap.size, 3, none⟩) (by simp; omega)]; simp [go_sem]
        go_simp
        exact ⟨_, rfl, Below.refl _ _, rfl⟩
      | 4, _ =>
        simp at ho; subst ho
        refine spec_plain rfl ?_
        have h2 : a'.tmps.getD 20 undef = _ := hL.made ⟨3, Ground.data⟩ (by simp) rfl _ 20 rfl rfl (by simp)
        simp at h2
        go_simp
        refine ⟨_, rfl, (Below.refl _ _).alloc (Nat.le_refl _) _, _, rfl, hsz, ?_⟩
        show (w'.heap.push _)[w'.heap.size]? = _
        simp
    · intro f w' hb hf
      have e1 := hf 1 _ 18 (by omega) rfl rfl (by simp)
      have e2 := hf 2 _ 19 (by omega) rfl rfl (by simp)
      have e4 := hf 4 _ 21 (by omega) rfl rfl (by simp)
      simp only [List.take_succ_cons, List.take_zero, List.drop_succ_cons, List.drop_zero, putAll, Act.put, List.setIfInBounds_toArray, List.set_cons_zero, List.set_cons_succ]
      obtain ⟨i0, hi0, hz0, hz1, hz2⟩ := info_parts infoW
      have hsz : w.heap.size + 2 ≤ w'.heap.size := by have := hb.size; simp at this; omega
      have hbw : Below w.heap.size w w' := (((Below.refl _ w).alloc (Nat.le_refl _) _).alloc (by simp) _).trans (hb.mono (by simp; omega))
      obtain ⟨g4, q1, q2, q3⟩ := e4
      have e2' : w'.ownsRow (w.heap.size + 2) 24 4 (f 2) xss.length (xss.flatMap wv) := e2
      refine wpList_append_any rfl (.tmp 19) (.tmp 21) 29 rfl (w.heap.size + 2) 24 i0 _ 4 32 uLW hi0 hz0 hz1 hz2 rfl (by decide) (f 2) (f 4) rfl rfl xss.length _ e2' 1 [.int .u64 a, .int .u64 b, .int .u64 c, .int .u64 d] ?hr (by unfold maxLen; omega) (by omega) hsz ?_
      case hr =>
        refine ⟨rfl, ?_, some ⟨g4, 0, none⟩, 1, q1, fun _ => ⟨_, rfl, fun j u hu => ?_⟩⟩
        · intro u hu; simp at hu; rcases hu with rfl | rfl | rfl | rfl <;> rfl
        · have ha : (⟨g4, 0, none⟩ : Addr).add j = ⟨g4, j, none⟩ := by unfold Addr.add; split <;> simp_all
          rw [ha]
          simpa [World.cell?, q3] using hu
      intro v2 w2 ho2 hg2 _
      have hown := e2'.lt
      have hF : Hid (w2.heap[w.heap.size]? = some (.cells #[.int .u64 a, .int .u64 b, .int .u64 c, .int .u64 d] 24 (0, 0))) := hid (by
        rw [hg2.block _ (by omega) (fun e => by have := (hown _ e.symm).1; omega), hb.block _ (by simp; omega), Below.heap_alloc _ _ _ (by simp)]
        show (w.heap.push _)[w.heap.size]? = _
        simp)
      have hN : Hid (w2.heap[w.heap.size + 1]? = some (.cells #[.int .u64 a, .int .u64 b, .int .u64 c, .int .u64 d] 24 (0, 0))) := hid (by
        rw [hg2.block _ (by omega) (fun e => by have := (hown _ e.symm).1; omega), hb.block _ (by simp)]
        rw [show w.heap.size + 1 = (w.alloc (.cells #[.int .u64 a, .int .u64 b, .int .u64 c, .int .u64 d] 24 (0, 0))).heap.size from by simp]
        exact Array.getElem?_push_size)
      have hbw2 : Below w.heap.size w w2 := hbw.grown hg2 (by omega) (fun k e => by have := (hown k e).1; omega)
      obtain ⟨g, cap2, rfl, hg0, hglt⟩ := ho2.form (by omega)
      obtain ⟨ys, hys⟩ : ∃ ys, ys = xss ++ [[a, b, c, d]] := ⟨_, rfl⟩
      have hyl : ys.length = xss.length + 1 := by rw [hys]; simp
      have hy4 : ∀ i, i < ys.length → (ys.getD i []).length = 4 := fun i hi => by
        rw [List.getD_eq_getElem?_getD, List.getElem?_eq_getElem hi, Option.getD_some]
        have hm := List.getElem_mem hi
        generalize ys[i] = z at hm
        rw [hys] at hm
        rcases List.mem_append.1 hm with h | h
        · exact (HW.out _ h).1
        · simp at h; rw [h]; rfl
      have hyw : (xss.flatMap wv ++ [.int .u64 a, .int .u64 b, .int .u64 c, .int .u64 d]) = ys.flatMap wv := by rw [hys, List.flatMap_append]; simp [wv]
      rw [hyw, ← hyl] at ho2
      have HO := hid ho2
      have HY := hid hys
      have HYM : Hid (∀ xs ∈ ys, xs.length = 4) := hid (fun xs h => by
        rw [hys] at h
        rcases List.mem_append.1 h with h | h
        · exact (HW.out _ h).1
        · simp at h; rw [h]; rfl)
      have HY4 := hid hy4
      have hlast : Hid ((( [a, b, c, d] :: ys).getD ys.length []) = [a, b, c, d]) := hid (by rw [hys]; simp [List.getD_eq_getElem?_getD])
      have hsz2 : w.heap.size + 2 ≤ w2.heap.size := by omega
      clear hys hy4 hyw ho2 hb hf e1 e2 e2' q1 q2 q3 hg2 hown hbw hsz HC HW
      rw [← hyl]
      simp only [Act.put, List.setIfInBounds_toArray, List.set_cons_zero, List.set_cons_succ]
      have hyle : ys.length ≤ 1001 := by omega
      have hbN : w.heap.size + 1 < w2.heap.size := by omega
      clear hyl hlen hm
      go_wp2
      go_loopw [9, 6, 7] (fun iv tv gv wr => ∃ (k : Nat) (t r n0 n1 n2 n3 : Int), k ≤ ys.length ∧ iv = .int .i64 k ∧ tv = .int .i64 t ∧ gv = .int .i64 r ∧ 0 ≤ t ∧ t ≤ 22100 * k ∧ -4800 * k ≤ r ∧ r ≤ 24700 * k ∧
          Hid ([n0, n1, n2, n3] = ([a, b, c, d] :: ys).getD k []) ∧ Hid (0 ≤ r - potB [a, b, c, d] [n0, n1, n2, n3] ∧ r - potB [a, b, c, d] [n0, n1, n2, n3] + awayB [a, b, c, d] [n0, n1, n2, n3] ≤ t) ∧
          Hid (wr.heap[w.heap.size + 1]? = some (.cells #[.int .u64 n0, .int .u64 n1, .int .u64 n2, .int .u64 n3] 24 (0, 0))) ∧ w2.grownBy wr (some (w.heap.size + 1)))
        (fun i _ _ _ => ys.length - (intOf i).toNat)
      case atStart => exact ⟨0, 0, 0, a, b, c, d, by omega, rfl, rfl, rfl, by omega, by omega, by omega, by omega, hid rfl, hid (by unfold potB awayB; cases weq [a, b, c, d] zz <;> simp [weq_self]), hN, ⟨rfl, rfl, rfl, Nat.le_refl _, fun _ _ _ => rfl⟩⟩
      case round =>
        obtain ⟨k, t, r, n0, n1, n2, n3, hk, rfl, rfl, rfl, ht0, ht1, hr0, hr1, hnow, hpot, hNw, hg⟩ := hrel
        have hsz3 := hg.size
        by_cases hlt : k < ys.length
        · have hO := HO.out.kept hg (.inr (by simp [Value.ownBlock]; omega))
          have hcl : ∀ j, j < 4 → wr.cell? ⟨g, k * 4 + j, none⟩ = some (.int .u64 ((ys.getD k []).getD j 0)) := fun j hj => by
            rw [hO.cellAt _ (by omega)]
            exact flat_get 4 ys k j HYM.out hlt hj
          obtain ⟨x0, x1, x2, x3, hx⟩ := len4 (HY4.out k hlt)
          rw [hx] at hcl
          have c0 := hcl 0 (by omega)
          have c1 := hcl 1 (by omega)
          have c2 := hcl 2 (by omega)
          have c3 := hcl 3 (by omega)
          simp at c0 c1 c2 c3
          clear hcl
          have hF3 : wr.heap[w.heap.size]? = some (.cells #[.int .u64 a, .int .u64 b, .int .u64 c, .int .u64 d] 24 (0, 0)) := by rw [hg.block _ (by omega) (by simp)]; exact hF.out
          have f0 := cell_of_row wr w.heap.size 0 _ _ _ hF3
          have f1 := cell_of_row wr w.heap.size 1 _ _ _ hF3
          have f2 := cell_of_row wr w.heap.size 2 _ _ _ hF3
          have f3 := cell_of_row wr w.heap.size 3 _ _ _ hF3
          have m0 := cell_of_row wr (w.heap.size + 1) 0 _ _ _ hNw.out
          have m1 := cell_of_row wr (w.heap.size + 1) 1 _ _ _ hNw.out
          have m2 := cell_of_row wr (w.heap.size + 1) 2 _ _ _ hNw.out
          have m3 := cell_of_row wr (w.heap.size + 1) 3 _ _ _ hNw.out
          simp at f0 f1 f2 f3 m0 m1 m2 m3
          clear hF3
          have b1 : w.heap.size < wr.heap.size := by omega
          have b2 : w.heap.size + 1 < wr.heap.size := by omega
          have b3 : g < wr.heap.size := by omega
          clear hg0
          have z0 : wr.frozen? ⟨w.heap.size + 1, 0, none⟩ = false := by simp [World.frozen?, hNw.out]
          have z1 : wr.frozen? ⟨w.heap.size + 1, 1, none⟩ = false := by simp [World.frozen?, hNw.out]
          have z2 : wr.frozen? ⟨w.heap.size + 1, 2, none⟩ = false := by simp [World.frozen?, hNw.out]
          have z3 : wr.frozen? ⟨w.heap.size + 1, 3, none⟩ = false := by simp [World.frozen?, hNw.out]
          have HS := sstore_any a b c d n0 n1 n2 n3 x0 x1 x2 x3 (decide (0 < k))
          have hst := step_law [a, b, c, d] [n0, n1, n2, n3] [x0, x1, x2, x3] (decide (0 < k))
          generalize sstCost [a, b, c, d] [n0, n1, n2, n3] [x0, x1, x2, x3] (decide (0 < k)) = cc at HS hst
          generalize sstBack [a, b, c, d] [n0, n1, n2, n3] [x0, x1, x2, x3] = bb at HS hst
          obtain ⟨s1, s2, s3, s4, s5⟩ := hst
          have HST := hid s5
          clear s5
          go_wp2_with (refine wp_region_ext (by kernel_rfl) (by kernel_rfl) ?_; (repeat (go_big_quiet_step (first | (go_at_call 9; with_reducible refine Calls.ext_of (HS _))))); refine wpQuiet_nil ?_; rintro _ ⟨xw, rfl⟩)
          go_roundw
          case rel =>
            refine ⟨k + 1, t + cc, r + bb, x0, x1, x2, x3, by omega, by go_num, by go_num, by go_num, by omega, by omega, by omega, by omega, hid ?_, hid ?_, hid ?_, ?_⟩
            · rw [← hx]; rfl
            · have h1 := hpot.out
              have h2 := HST.out
              omega
            · have h0 : (wr.ext xw).heap[w.heap.size + 1]? = _ := ((wr.ext_below xw).block _ b2).trans hNw.out
              have h1 := row_set (row_set (row_set (row_set h0 0 (.int .u64 x0)) 1 (.int .u64 x1)) 2 (.int .u64 x2)) 3 (.int .u64 x3)
              simpa using h1
            · exact grownBy_setCell (grownBy_setCell (grownBy_setCell (grownBy_setCell (grownBy_ext hg _) rfl _) rfl _) rfl _) rfl _
          case measure => simp [intOf]; omega
        · obtain rfl : k = ys.length := by omega
          have h1 := hnow.out.trans hlast.out
          simp only [List.cons.injEq, and_true] at h1
          obtain ⟨rfl, rfl, rfl, rfl⟩ := h1
          have h2 := hpot.out
          have h3 : potB [n0, n1, n2, n3] [n0, n1, n2, n3] = 0 := by unfold potB; cases weq [n0, n1, n2, n3] zz <;> rfl
          have h4 : awayB [n0, n1, n2, n3] [n0, n1, n2, n3] = 0 := by unfold awayB; simp [weq_self]
          rw [h3, h4] at h2
          obtain ⟨h5, h6⟩ := h2
          have h7 : 0 ≤ r := by omega
          have h8 : r ≤ t := by omega
          clear h3 h4 h5 h6
          go_wp2_with (go_at_call 11; (with_reducible refine (Calls.asExt (alive_any _)).mono ?_); rintro _ _ ⟨rfl, _, rfl⟩)
          go_ret
          exact ⟨rfl, (hbw2.grown hg (by omega) (fun k e => by simp at e; omega)).trans (by repeat (first | (with_reducible first | exact Below.refl _ _ | assumption | refine World.ext_below_of ?_ ?_ _ | refine Below.setCell ?_ ?_ _ | refine Below.alloc ?_ ?_ _ | refine Below.drew ?_ | refine World.size_le_ext _ _ _ ?_) | (solve | simp [go_sem] | (simp [go_sem]; omega) | omega)))⟩
end Go.Proofs.Ytbifolfakgmdnaa
