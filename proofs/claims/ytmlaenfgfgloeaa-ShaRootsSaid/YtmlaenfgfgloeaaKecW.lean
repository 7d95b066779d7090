import Derived.Test.YtmlaenfgfgloeaaKecS2
import Derived.Test.YtmlaenfgfgloeaaPart
import Derived.Deep.AppendLies
/-! keccak.(*Hasher).Write. -/
set_option maxRecDepth 4000
set_option linter.unusedVariables false
set_option linter.unusedSimpArgs false
namespace Go.Proofs.Ytmlaenfgfgloeaa
open Go.RowKit Go.Shelf
attribute [local go_sem] Oper.semAt_some

/-- The bytes from the k-th block on; the block itself. -/
def chunk (m : List (BitVec 8)) (k : Nat) : List (BitVec 8) := (m.drop (136 * k)).take 136
def absN (s : List (BitVec 64)) (m : List (BitVec 8)) : Nat → List (BitVec 64)
  | 0 => s
  | k + 1 => absL (absN s m k) (chunk m k)
theorem absN_len (s : List (BitVec 64)) (m : List (BitVec 8)) (k : Nat) : (absN s m k).length = s.length := by induction k <;> simp [absN, absL_len, *]
def absP {K : Nat} (s : List (BitVec 64)) (m : List (BitVec 8)) (l : List (Fin K)) : List (BitVec 64) := l.foldl (fun s k => absL s (chunk m k.val)) s
theorem absP_len {K : Nat} (m : List (BitVec 8)) (l : List (Fin K)) : ∀ (s : List (BitVec 64)), (absP s m l).length = s.length := by
  unfold absP
  induction l with
  | nil => intro s; rfl
  | cons k l ih => intro s; rw [List.foldl_cons, ih, absL_len]
set_option maxRecDepth 100000 in
theorem absP_snoc {K : Nat} (s : List (BitVec 64)) (m : List (BitVec 8)) (l : List (Fin K)) (k : Fin K) : absP s m (l ++ [k]) = absL (absP s m l) (chunk m k.val) := by
  simp only [absP, List.foldl_append, List.foldl_cons, List.foldl_nil]
theorem absP_all (s : List (BitVec 64)) (m : List (BitVec 8)) : ∀ (j K : Nat) (l : List (Fin K)), l.map Fin.val = List.range j → absP s m l = absN s m j := by
  intro j
  induction j with
  | zero => intro K l h; have : l = [] := by cases l <;> simp_all
            subst this; rfl
  | succ j ih =>
    intro K l h
    rw [List.range_succ] at h
    obtain ⟨l1, l2, rfl, h1, h2⟩ := List.map_eq_append_iff.1 h
    obtain ⟨k, rfl⟩ : ∃ k, l2 = [k] := by
      match l2, h2 with
      | [k], _ => exact ⟨k, rfl⟩
    simp at h2
    rw [absP_snoc, ih K l1 h1, h2]; rfl
theorem chunk_len (m : List (BitVec 8)) (k : Nat) (h : 136 * (k + 1) ≤ m.length) : (chunk m k).length = 136 := by simp [chunk]; omega

/-- The hasher at block hb: its state, and the bytes of a block that is not full. -/
def HasH (lo : Nat) (w : World) (hb : Nat) (s : List (BitVec 64)) (rest : List (BitVec 8)) : Prop :=
  ∃ v, w.heap[hb]? = some (.cells ((cellsB s).push v) 59 (0, 0)) ∧ RdY w v rest ∧ (rest ≠ [] → ∀ b off n c, v = .slice (some ⟨b, off, none⟩) n c → lo ≤ b)

theorem HasH.weak {lo : Nat} {w : World} {hb : Nat} {s : List (BitVec 64)} {rest : List (BitVec 8)} (h : HasH lo w hb s rest) : HasH 0 w hb s rest :=
  let ⟨v, h1, h2, _⟩ := h; ⟨v, h1, h2, fun _ _ _ _ _ _ => Nat.zero_le _⟩
theorem infoY : (Try.prog.info? 5).map (fun i => (i.zero, i.size, i.bytes)) = some (some (.int .u8 0), 1, 1) := by kernel_rfl
theorem uSY : Try.prog.underlying 27 = some (.slice 5) := by kernel_rfl

theorem blocks_any (B L : Nat) (xs : List Value) (v : Value) (w : World) (hown : w.ownsRow B 5 1 v L xs) :
    Calls Try.prog 35 #[v] w fun e w' => ∃ rv, e = .returned (.tuple #[seqV w, rv]) ∧ Below w.heap.size w w' ∧ Boxed w' w.heap.size 27 v ∧ Boxed w' (w.heap.size + 1) 3 (.int .i64 (blk L)) ∧
      ∃ a c, rv = .slice a (L - blk L) c ∧ L - blk L ≤ c ∧ (0 < L - blk L → ∃ g cap, v = .slice (some ⟨g, 0, none⟩) L cap ∧ a = some ⟨g, blk L, none⟩) := by
  rcases hown.2 with ⟨rfl, rfl⟩ | ⟨g, cap, cur, rfl, _, _, hcap, hm, _⟩
  · refine (blocks_nil w).mono ?_
    rintro e w' ⟨rfl, h1, h2, h3⟩
    exact ⟨_, rfl, h1, h2, h3, none, 0, rfl, by simp, fun h => by simp at h⟩
  · refine (blocks_some g L cap w hcap hm).mono ?_
    rintro e w' ⟨⟨off, ho, rfl⟩, h1, h2, h3⟩
    exact ⟨_, rfl, h1, h2, h3, _, _, rfl, by omega, fun h => ⟨g, cap, rfl, by rw [ho h]⟩⟩

theorem noBytes {w : World} {hb : Nat} {s : List (BitVec 64)} {a : Option Addr} {n c : Nat} {t : TypeId} (h : w.heap[hb]? = some (.cells ((cellsB s).push (Value.slice a n c)) t (0, 0))) (j : Nat) (y : Int) : w.cell? ⟨hb, j, none⟩ ≠ some (.int .u8 y) := by
  rw [cell_of_row w hb j _ _ _ h, Array.getElem?_push]
  split
  · intro e; simp at e
  · intro e
    simp [cellsB] at e
theorem RdY.sub {w : World} {g L cap : Nat} {ys : List (BitVec 8)} (h : RdY w (.slice (some ⟨g, 0, none⟩) L cap) ys) (off n c : Nat) (hn : off + n ≤ ys.length) (hc : n ≤ c) : RdY w (.slice (some ⟨g, off, none⟩) n c) ((ys.drop off).take n) := by
  obtain ⟨a, cap', e, h1, h2⟩ := h
  have hl : ((ys.drop off).take n).length = n := by simp; omega
  refine ⟨_, c, by rw [hl], by rw [hl]; exact hc, fun hne => ?_⟩
  have hpos : 0 < n := by rcases Nat.eq_zero_or_pos n with h0 | h0; (subst h0; simp at hne); exact h0
  obtain ⟨b, o, e2, h3, h4⟩ := h2 (by intro e'; subst e'; simp at hn; omega)
  simp at e
  rw [e2] at e
  simp at e
  obtain ⟨⟨rfl, rfl⟩, _, _⟩ := e
  refine ⟨g, off, rfl, h3, fun j hj => ?_⟩
  rw [hl] at hj
  have := h4 (off + j) (by omega)
  rw [Nat.zero_add] at this
  rw [this]
  simp [ny, hj, List.getD_eq_getElem?_getD]
theorem row_set {w : World} {b : Nat} {cs : Array Value} {t : TypeId} (h : w.heap[b]? = some (.cells cs t (0, 0))) (j : Nat) (v : Value) : (w.setCell ⟨b, j, none⟩ v).heap[b]? = some (.cells (cs.setIfInBounds j v) t (0, 0)) := by
  simp [World.setCell, Array.getElem?_modify, h]
theorem push_set_last (cs : Array Value) (r v : Value) : (cs.push r).setIfInBounds cs.size v = cs.push v := by
  apply Array.ext'
  simp
theorem setPart_front (a b : List (BitVec 64)) (r : Value) (h : a.length = b.length) : setPart ((cellsB a).push r) 0 (cellsB b) = (cellsB b).push r := by
  unfold setPart cellsB
  simp [← h]
theorem setRow_other' (w : World) (g k : Nat) (cs : Array Value) (h : k ≠ g) : (w.setRow g cs).heap[k]? = w.heap[k]? := by
  simp only [World.setRow, Array.getElem?_modify]
  rw [if_neg (by omega)]
theorem size_setRow (w : World) (g : Nat) (cs : Array Value) : (w.setRow g cs).heap.size = w.heap.size := by simp [World.setRow]

set_option maxRecDepth 20000 in
set_option maxHeartbeats 1000000 in
theorem write_any (hb : Nat) (s : List (BitVec 64)) (rest ys : List (BitVec 8)) (v : Value) (w : World) (hs : s.length = 25) (hH : HasH 0 w hb s rest) (hr : RdY w v ys) (hl : rest.length + ys.length ≤ 140737488355328) :
    Calls Try.prog 16 #[.pointer (some ⟨hb, 0, none⟩), v] w fun e w' => e = .returned (.tuple #[]) ∧
      HasH w.heap.size w' hb (absN s (rest ++ ys) ((rest ++ ys).length / 136)) ((rest ++ ys).drop (136 * ((rest ++ ys).length / 136))) ∧ w.grownBy w' (some hb) := by
  obtain ⟨i0, hi0, hz0, hz1, hz2⟩ := info_parts infoY
  obtain ⟨rv, hH1, hR1, -⟩ := hH
  have hbl := (Array.getElem?_eq_some_iff.1 hH1).1
  have HH := hid hH1
  have HR := hid hR1
  have HY := hid hr
  have HS := hid hs
  have cv : w.cell? ⟨hb, 25, none⟩ = some rv := by rw [cell_of_row w hb 25 _ _ _ hH1, Array.getElem?_push]; simp [size_cellsB, hs]
  obtain ⟨ra, rc, rfl, hrc, -⟩ := hR1
  obtain ⟨ya, yc, rfl, hyc, -⟩ := hr
  clear hH1 hs
  obtain ⟨all, hall⟩ : ∃ all, all = rest ++ ys := ⟨_, rfl⟩
  rw [← hall]
  have HALL := hid hall
  clear hall
  refine (callsIn_wide (n := 3)).1 (callsIn_of_wp_marks Try.func16 rfl trivial (wpIn_wide.2 ?_) rfl)
  simp only [Try.ntmps16, List.size_toArray, List.length_cons, List.length_nil, Nat.reduceAdd, Nat.reduceSub, Array.replicate_succ, Array.replicate_zero, List.push_toArray, List.append_toArray, List.nil_append, List.cons_append]
  have hw1 : Below w.heap.size w (w.alloc (.cells #[.pointer (some ⟨hb, 0, none⟩)] 33)) := (Below.refl _ w).alloc (Nat.le_refl _) _
  go_wp2_with (at_builtin; refine wpList_append_any rfl (.const (.slice none 0 0)) (.tmp 13) 27 rfl (w.heap.size + 1) 5 i0 _ 1 1 uSY hi0 hz0 hz1 hz2 rfl (by decide) _ _ rfl rfl 0 [] (World.ownsRow_nil _ _ _ _) rest.length (rest.map fun y => Value.int .u8 (yv y)) (RdY.toV (HR.out.below hw1)) (by unfold maxLen; omega) (by omega) (by simp) ?_)
  intro v2 w2 ho2 hg2 _
  have hw2 : Below w.heap.size w w2 := hw1.grown hg2 (by simp) (fun k e => by simp [Value.ownBlock] at e)
  have hz : w.heap.size + 1 ≤ w2.heap.size := by have := hg2.size; simpa using this
  have hbx : Boxed w2 w.heap.size 33 (.pointer (some ⟨hb, 0, none⟩)) := (Boxed.new w _ _).kept hg2 (by simp [Value.ownBlock])
  go_wp2_with (at_builtin; refine wpList_append_any rfl (.tmp 14) (.tmp 15) 27 rfl (w.heap.size + 1) 5 i0 _ 1 1 uSY hi0 hz0 hz1 hz2 rfl (by decide) _ _ rfl rfl rest.length _ ho2 ys.length (ys.map fun y => Value.int .u8 (yv y)) (RdY.toV (HY.out.below hw2)) (by unfold maxLen; omega) (by omega) hz ?_)
  intro v3 w3 ho3 hg3 _
  have hlt2 := ho2.lt
  have hw3 : Below w.heap.size w w3 := hw2.grown hg3 hw2.size (fun k e => by have := (hlt2 k e).1; omega)
  have hz3 : w.heap.size + 1 ≤ w3.heap.size := Nat.le_trans hz hg3.size
  have hbx3 : Boxed w3 w.heap.size 33 (.pointer (some ⟨hb, 0, none⟩)) := hbx.kept hg3 (fun e => by have := (hlt2 _ e.symm).1; omega)
  rw [← List.map_append, ← List.length_append, ← HALL.out] at ho3
  rw [← List.length_append, ← HALL.out] at hl
  clear hg2 hg3 hbx ho2 hlt2 hw2 hz hw1 HALL
  go_wp2_with fail
  refine (blocks_any _ _ _ _ _ ho3).mono ?_
  rintro e w4 ⟨rv, rfl, hb4, hq0, hq1, hrv⟩
  have hH4 : w4.heap[hb]? = some (.cells ((cellsB s).push (Value.slice ra rest.length rc)) 59 (0, 0)) := ((hw3.trans (hb4.mono hw3.size)).block hb hbl).trans HH.out
  have hbx4 : Boxed w4 w.heap.size 33 (.pointer (some ⟨hb, 0, none⟩)) := (hb4.block _ hbx3.lt).trans hbx3
  have hall := (RdY.owned ho3).below hb4
  have hsv : all.length / 136 = 0 ∨ ∃ g cap, v3 = .slice (some ⟨g, 0, none⟩) all.length cap ∧ all.length ≤ cap ∧ cap ≤ maxLen := by
    rcases ho3.2 with ⟨h1, h2⟩ | ⟨g, cap, cur, h1, _, _, h2, h3, _⟩
    · left; have : all = [] := by cases all <;> simp_all
      subst this; rfl
    · exact .inr ⟨g, cap, h1, h2, h3⟩
  have hw4 : Below w.heap.size w w4 := hw3.trans (hb4.mono hw3.size)
  have hz4 : w3.heap.size + 2 ≤ w4.heap.size := by have := hq1.lt; omega
  obtain ⟨g, cap, hgs, hgc, hgm⟩ : ∃ g cap, (all.length / 136 = 0 ∨ v3 = .slice (some ⟨g, 0, none⟩) all.length cap) ∧ all.length ≤ cap ∧ cap ≤ maxLen := by
    rcases hsv with h | ⟨g, cap, h1, h2, h3⟩
    · exact ⟨0, all.length, .inl h, Nat.le_refl _, by unfold maxLen; omega⟩
    · exact ⟨g, cap, .inr h1, h2, h3⟩
  obtain ⟨K, hK⟩ : ∃ K, K = all.length / 136 := ⟨_, rfl⟩
  have hb136 : blk all.length = 136 * K := by rw [hK]; unfold blk; omega
  rw [← hK] at hgs
  rw [hb136] at hq1 hrv
  have hK2 : 136 * K ≤ all.length := by omega
  have hK3 : all.length < 136 * K + 136 := by omega
  have HKK := hid hK
  have HV3 : Hid (∀ k, v3.ownBlock = some k → w.heap.size + 1 ≤ k) := hid fun k h => (ho3.lt k h).1
  clear hsv ho3 hb136 hK hi0 hz0 hz1 hz2
  clear i0
  go_wp2
  refine (wpIn_wide (n := 3)).1 (wpIn_rangeFunc_ownG rfl (by omega) (gf := 49) (lb := #[.pointer (some ⟨w3.heap.size + 1, 0, none⟩), .pointer (some ⟨w3.heap.size, 0, none⟩)]) rfl trivial (enters_of Try.func49 (by kernel_rfl) rfl)
    (blocks_stops 2 g all.length cap K w3.heap.size (w3.heap.size + 1) v3 w4 (by omega) hK2 hgc hgm hq0 hq1 hgs) (fun h k => ⟨k.1.trans h.1, k.2.trans h.2⟩) ?hKb (Below.refl _ _) (fun _ => rfl)
    (fun pre W => Hid (w4.grownBy W (some hb) ∧ W.heap[hb]? = some (.cells ((cellsB (absP s all pre)).push (Value.slice ra rest.length rc)) 59 (0, 0))))
    (fun _ _ _ => False) ?hI (fun _ _ _ _ _ hs _ _ => hs) ?h0
    (fun x => { tmps := #[.pointer (some ⟨hb, 0, none⟩), .slice ya ys.length yc, .pointer (some ⟨w.heap.size, 0, none⟩), undef, v3, seqV w3, rv, chV g cap x.val, .pointer (some ⟨hb, 0, none⟩), .bool false, .pointer (some ⟨hb, 0, none⟩), .pointer (some ⟨hb, 0, none⟩), .pointer (some ⟨hb, 25, none⟩), .slice ra rest.length rc, v2, .slice ya ys.length yc, v3, .tuple #[seqV w3, rv], v3, .tuple #[seqV w3, rv], seqV w3, rv, seqV w3, chV g cap x.val, undef, undef, undef, undef, undef, undef, undef, undef, undef, undef, undef, undef, undef], defers := [] }) ?assign ?body ?done ?stop)
  case assign =>
    intro l x W K hK
    gi_wp2
    exact hK
  case hKb =>
    intro W l o o' hl _ _ _
    exact ⟨World.putObj_heap_other (by omega), World.putObj_heap_other (by omega)⟩
  case hI =>
    intro pre W W' row hs hg hr
    obtain ⟨h1, h2⟩ := hs.out
    have hrow : ∀ k, k < w4.heap.size → some k ≠ row := fun k hk e => by have := (hr k e.symm).1; omega
    have hbl4 : hb < w4.heap.size := (Array.getElem?_eq_some_iff.1 hH4).1
    refine hid ⟨⟨hg.os.trans h1.os, hg.tape.trans h1.tape, hg.output.trans h1.output, Nat.le_trans h1.size hg.size, fun k hk hne => (hg.block k (Nat.lt_of_lt_of_le hk h1.size) (hrow k hk)).trans (h1.block k hk hne)⟩, (hg.block hb (Array.getElem?_eq_some_iff.1 h2).1 (hrow hb hbl4)).trans h2⟩
  case h0 => exact hid ⟨⟨rfl, rfl, rfl, Nat.le_refl _, fun _ _ _ => rfl⟩, hH4⟩
  case stop => intro D c pre W _ _ h; exact h.elim
  case body =>
    intro l pre x W hI hlen
    obtain ⟨hg, hW⟩ := hI.out
    have hbxW : Boxed W w.heap.size 33 (.pointer (some ⟨hb, 0, none⟩)) := hbx4.kept hg (by simp; omega)
    have cb := hbxW.cell
    have hbW := (Array.getElem?_eq_some_iff.1 hW).1
    have hbx := hbxW.lt
    have hx := x.isLt
    have hvg : v3 = .slice (some ⟨g, 0, none⟩) all.length cap := by rcases hgs with h | h; omega; exact h
    obtain ⟨s1, hs1⟩ : ∃ s1, s1 = absP s all pre := ⟨_, rfl⟩
    rw [← hs1] at hW
    have hls1 : s1.length = 25 := by rw [hs1, absP_len]; exact HS.out
    have HC : RdY W (chV g cap x.val) (chunk all x.val) := by
      have h1 := hall.kept hg (noBytes hH4)
      rw [hvg] at h1
      exact h1.sub (136 * x.val) 136 (cap - 136 * x.val) (by omega) (by omega)
    have HCL : (chunk all x.val).length = 136 := chunk_len _ _ (by omega)
    have HA := hid fun w1 (h : RdY w1 (chV g cap x.val) (chunk all x.val)) => absorb_any s1 _ _ w1 hls1 h HCL
    have iS := hid (show (Try.prog.info? 23).map (·.size) = some (cellsB s1).size by rw [size_cellsB, hls1]; exact iArr25)
    have pS := hid (fun (j : Nat) (u : Value) (h : (cellsB s1)[j]? = some u) => show ((cellsB s1).push (Value.slice ra rest.length rc))[0 + j]? = some u by
      rw [Nat.zero_add, Array.getElem?_push]
      have hj : j < (cellsB s1).size := (Array.getElem?_eq_some_iff.1 h).1
      rw [if_neg (by omega)]; exact h)
    have HW := hid hW
    have HC1 := hid HC
    have HN : Hid (absL s1 (chunk all x.val) = absP s all (pre ++ [x])) := hid (by rw [absP_snoc, hs1])
    have hlA : (absL s1 (chunk all x.val)).length = 25 := by rw [absL_len]; exact hls1
    obtain ⟨s2, hs2⟩ : ∃ s2, s2 = absL s1 (chunk all x.val) := ⟨_, rfl⟩
    rw [← hs2] at HA HN hlA
    have iA := hid (show (Try.prog.info? 23).map (·.size) = some (cellsB s2).size by rw [size_cellsB, hlA]; exact iArr25)
    have fA := hid (show 0 + (cellsB s2).size ≤ ((cellsB s1).push (Value.slice ra rest.length rc)).size by rw [Array.size_push, size_cellsB, size_cellsB, hlA, hls1]; omega)
    have pA := hid (setPart_front s1 s2 (Value.slice ra rest.length rc) (by rw [hls1, hlA]))
    clear hW HC HCL hvg hs1 hls1 hs2 hlA
    refine wpIn_block (wpIn_region_ext_tail 9 (by rintro ⟨_, _, h⟩; exact h) (by kernel_rfl) (by kernel_rfl) (by kernel_rfl) ?_)
    simp only [List.take_succ_cons, List.take_zero, List.drop_succ_cons, List.drop_zero]
    (repeat (first | (refine wpQuiet_load_part rfl 23 (.tmp 27) rfl hb 0 rfl 59 _ (cellsB s1) (0, 0) _ HW.out pS.out uArr25 rfl iS.out ?_; simp only [Act.put, List.setIfInBounds_toArray, List.set_cons_zero, List.set_cons_succ]) | go_big_quiet_step (first | (go_at_call 36; with_reducible refine Calls.ext_of (HA.out _ (HC1.out.below (World.ext_below _ _)))))))
    refine wpQuiet_nil ?_
    rintro _ ⟨xw, rfl⟩
    have hX : (W.ext xw).heap[hb]? = _ := (W.heap_ext xw hb hbW).trans HW.out
    refine wpList_store_part rfl 23 (.tmp 32) (.tmp 30) rfl hb 0 _ rfl rfl 59 _ hX iA.out fA.out (one_cellsB s2) ?_
    rw [pA.out]
    have hsz := W.size_ext xw
    refine ⟨⟨by rw [size_setRow]; exact hsz, fun k o hk ho _ => ?_⟩, ⟨?_, ?_⟩, hid ⟨⟨?_, ?_, ?_, ?_, fun k hk hne => ?_⟩, ?_⟩⟩
    · rw [setRow_other' _ _ _ _ (by omega), W.heap_ext xw k (Array.getElem?_eq_some_iff.1 ho).1]; exact ho
    · rw [setRow_other' _ _ _ _ (by omega), W.heap_ext xw _ (by have := hg.size; omega)]
    · rw [setRow_other' _ _ _ _ (by omega), W.heap_ext xw _ (by have := hg.size; omega)]
    · exact (W.ext_below xw).os.trans hg.os
    · exact (W.ext_below xw).tape.trans hg.tape
    · exact (W.ext_below xw).output.trans hg.output
    · rw [size_setRow]; exact Nat.le_trans hg.size hsz
    · rw [setRow_other' _ _ _ _ (fun e => hne (by rw [e])), W.heap_ext xw k (Nat.lt_of_lt_of_le hk hg.size)]; exact hg.block k hk hne
    · rw [← HN.out]; exact heap_setRow _ _ _ _ _ hX
  case done =>
    intro D xs W hD hS hI hKD
    obtain ⟨hg, hW⟩ := hI.out
    rw [absP_all s all K K xs hS] at hW
    have hbxW : Boxed W w.heap.size 33 (.pointer (some ⟨hb, 0, none⟩)) := hbx4.kept hg (by simp; omega)
    have cb := hbxW.cell
    have hbW := (Array.getElem?_eq_some_iff.1 hW).1
    have hbx := hbxW.lt
    have hRW := hall.kept hg (noBytes hH4)
    obtain ⟨a, c, rfl, hc1, hc2⟩ := hrv
    have hlS : (absN s all K).length = 25 := by rw [absN_len]; exact HS.out
    have c25 : W.cell? ⟨hb, 25, none⟩ = some (Value.slice ra rest.length rc) := by rw [cell_of_row W hb 25 _ _ _ hW, Array.getElem?_push]; simp [size_cellsB, hlS]
    have f25 : W.frozen? ⟨hb, 25, none⟩ = false := by simp [World.frozen?, hW]
    have HRW := hid hRW
    have HWW := hid hW
    have HLS := hid hlS
    have HC2 := hid hc2
    clear hRW hW hlS hc2 hI hS
    go_wp2
    have hne : hb ≠ D := by omega
    have hK' := (KeepsOthers.setCell W ⟨hb, 25, none⟩ (Value.slice a (all.length - 136 * K) c)).same D _ hKD rfl
    have hg1 : W.grownBy (W.setCell ⟨hb, 25, none⟩ (Value.slice a (all.length - 136 * K) c)) (some hb) :=
      ⟨rfl, rfl, rfl, by simp, fun k _ hk => Below.heap_setCell _ _ _ _ (fun e => hk (by rw [e]))⟩
    have hg2 := grownBy_putObj' (W.setCell ⟨hb, 25, none⟩ (Value.slice a (all.length - 136 * K) c)) D (.deferred none)
    have hR1 := (HRW.out.kept hg1 (noBytes HWW.out)).kept hg2 (fun j y => by simp [World.cell?, hK'])
    refine ⟨by simp, .inl ⟨_, _, rfl, run_takeDeferred hK', ?_⟩⟩
    refine ⟨_, results_none rfl _ _ _, rfl, ⟨Value.slice a (all.length - 136 * K) c, ?_, ?_, ?_⟩, ?_⟩
    · rw [World.putObj_heap_other hne]
      have h1 := row_set HWW.out 25 (Value.slice a (all.length - 136 * K) c)
      rw [← HKK.out, h1]
      have h2 : ((cellsB (absN s all K)).push (Value.slice ra rest.length rc)).setIfInBounds 25 (Value.slice a (all.length - 136 * K) c) = (cellsB (absN s all K)).push (Value.slice a (all.length - 136 * K) c) := by
        have h3 : (cellsB (absN s all K)).size = 25 := by rw [size_cellsB]; exact HLS.out
        rw [← h3]; exact push_set_last _ _ _
      rw [h2]
    · rw [← HKK.out]
      rcases Nat.eq_zero_or_pos (all.length - 136 * K) with h0 | h0
      · rw [h0, List.drop_eq_nil_of_le (by omega)]
        exact RdY.nil _ _ _
      · obtain ⟨g', cap', rfl, rfl⟩ := HC2.out h0
        have h5 := hR1.sub (136 * K) (all.length - 136 * K) c (by omega) hc1
        rw [List.take_of_length_le (by simp)] at h5
        exact h5
    · rw [← HKK.out]
      intro hne b off n c' he
      have h0 : 0 < all.length - 136 * K := by
        rcases Nat.eq_zero_or_pos (all.length - 136 * K) with h | h
        · exact absurd (List.drop_eq_nil_of_le (by omega)) hne
        · exact h
      obtain ⟨g', cap', rfl, rfl⟩ := HC2.out h0
      simp at he
      have := HV3.out g' rfl
      omega
    · refine ⟨?_, ?_, ?_, ?_, fun k hk hkn => ?_⟩
      · exact hg.os.trans hw4.os
      · exact hg.tape.trans hw4.tape
      · exact hg.output.trans hw4.output
      · exact Nat.le_trans hw4.size (Nat.le_trans hg.size (Nat.le_trans hg1.size hg2.size))
      · have hk4 := Nat.lt_of_lt_of_le hk hw4.size
        have hkW := Nat.lt_of_lt_of_le hk4 hg.size
        rw [hg2.block k (Nat.lt_of_lt_of_le hkW hg1.size) (by simp; omega), hg1.block k hkW hkn, hg.block k hk4 hkn, hw4.block k hk]
end Go.Proofs.Ytmlaenfgfgloeaa
