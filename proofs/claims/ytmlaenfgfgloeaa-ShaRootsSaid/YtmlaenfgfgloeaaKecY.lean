import Derived.Test.YtmlaenfgfgloeaaKecX
import Derived.Test.YtmlaenfgfgloeaaKecQ
import Derived.Laws.OwnMore
import Derived.Maps.AppendAt
import Derived.Deep.AppendLies
/-! The reference's Sum. -/
set_option maxRecDepth 4000
set_option linter.unusedVariables false
set_option linter.unusedSimpArgs false
namespace Go.Proofs.Ytmlaenfgfgloeaa
open Go.RowKit Go.Shelf

def bytesV (l : List (BitVec 8)) : List Value := l.map fun y => Value.int .u8 (yv y)
theorem bytesV_len (l : List (BitVec 8)) : (bytesV l).length = l.length := by simp [bytesV]
/-- The text with its first padding. -/
def padN (m : List (BitVec 8)) (j : Nat) : List (BitVec 8) := m ++ 1#8 :: List.replicate j 0
theorem padN_len (m : List (BitVec 8)) (j : Nat) : (padN m j).length = m.length + 1 + j := by simp [padN]; omega
theorem padN_succ (m : List (BitVec 8)) (j : Nat) : bytesV (padN m j) ++ [.int .u8 0] = bytesV (padN m (j + 1)) := by
  unfold padN bytesV
  rw [List.replicate_succ']
  simp [yv]
/-- How many zeros. -/
def padJ (m : List (BitVec 8)) : Nat := 135 - m.length % 136
def allL (m : List (BitVec 8)) : List (BitVec 8) := (padN m (padJ m)).set (m.length + padJ m) (ny (padN m (padJ m)) (m.length + padJ m) ||| 128)
theorem allL_len (m : List (BitVec 8)) : (allL m).length = 136 * (m.length / 136 + 1) := by simp [allL, padN_len, padJ]; omega
def lenV : Value → Nat
  | .slice _ n _ => n
  | _ => 0
theorem chunk_all (m : List (BitVec 8)) (k : Nat) (h : k < m.length / 136) : chunk (allL m) k = chunk m k := by
  apply List.ext_getElem?
  intro i
  unfold chunk allL padN
  simp only [List.getElem?_take, List.getElem?_drop]
  split
  · rw [List.getElem?_set_ne (by unfold padJ; omega), List.getElem?_append_left (by omega)]
  · rfl
theorem last_mid (m : List (BitVec 8)) : (restL m ++ List.replicate (136 - (restL m).length) 0).set (restL m).length 1 = restL m ++ 1#8 :: List.replicate (padJ m) 0 := by
  have h1 : (restL m).length = m.length % 136 := by simp [restL]; omega
  rw [List.set_append_right _ _ (Nat.le_refl _), Nat.sub_self, show 136 - (restL m).length = padJ m + 1 from by unfold padJ; omega, List.replicate_succ, List.set_cons_zero]
  rfl
theorem drop_pad (m : List (BitVec 8)) (j : Nat) : (padN m j).drop (136 * (m.length / 136)) = restL m ++ 1#8 :: List.replicate j 0 := by
  unfold padN restL
  rw [List.drop_append_of_le_length (by omega)]
theorem chunk_last (m : List (BitVec 8)) : chunk (allL m) (m.length / 136) = lastL (restL m) := by
  have h1 : (restL m).length = m.length % 136 := by simp [restL]; omega
  have hJ : padJ m = 135 - m.length % 136 := rfl
  unfold chunk allL lastL
  simp only []
  rw [last_mid, List.drop_set, if_neg (by omega), drop_pad, show m.length + padJ m - 136 * (m.length / 136) = 135 from by omega]
  have h2 : ny (padN m (padJ m)) (m.length + padJ m) = ny (restL m ++ 1#8 :: List.replicate (padJ m) 0) 135 := by
    rw [← drop_pad]
    unfold ny
    simp only [List.getD_eq_getElem?_getD, List.getElem?_drop]
    rw [show 136 * (m.length / 136) + 135 = m.length + padJ m from by omega]
  rw [h2]
  apply List.take_of_length_le
  simp
  omega
theorem absN_all (s : List (BitVec 64)) (m : List (BitVec 8)) : ∀ (k : Nat), k ≤ m.length / 136 → absN s (allL m) k = absN s m k
  | 0, _ => rfl
  | k + 1, h => by
    unfold absN
    rw [absN_all s m k (by omega), chunk_all m k (by omega)]
theorem state_all (m : List (BitVec 8)) : outL (absN zero25 (allL m) (m.length / 136 + 1)) = sumL m := by
  rw [absN, absN_all _ _ _ (Nat.le_refl _), chunk_last, stateL_def, sumL_def]
theorem row_below {B n g cap : Nat} {e : TypeId} {w w' : World} {xs : List Value} (h : w.ownsRow B e 1 (.slice (some ⟨g, 0, none⟩) n cap) n xs) (hb : Below w.heap.size w w') : w'.ownsRow B e 1 (.slice (some ⟨g, 0, none⟩) n cap) n xs :=
  World.ownsRow.kept h (row := none) ⟨hb.os, hb.tape, hb.output, hb.size, fun k hk _ => hb.block k hk⟩ (.inr (by simp [Value.ownBlock]))
theorem row_ext {B n g cap : Nat} {e : TypeId} {w : World} {xs : List Value} (h : w.ownsRow B e 1 (.slice (some ⟨g, 0, none⟩) n cap) n xs) (x : World) : (w.ext x).ownsRow B e 1 (.slice (some ⟨g, 0, none⟩) n cap) n xs := row_below h (w.ext_below x)
theorem row_setCell {B n g cap : Nat} {e : TypeId} {w : World} {xs : List Value} (h : w.ownsRow B e 1 (.slice (some ⟨g, 0, none⟩) n cap) n xs) (a : Addr) (ha : g ≠ a.block) (v : Value) : (w.setCell a v).ownsRow B e 1 (.slice (some ⟨g, 0, none⟩) n cap) n xs :=
  World.ownsRow.kept h (row := some a.block) ⟨rfl, rfl, rfl, by simp, fun k _ hk => Below.heap_setCell _ _ _ _ (fun e => hk (by rw [e]))⟩ (.inr (by simp [Value.ownBlock]; exact ha))
theorem row_setRow {B n g cap : Nat} {e : TypeId} {w : World} {xs : List Value} (h : w.ownsRow B e 1 (.slice (some ⟨g, 0, none⟩) n cap) n xs) (b : Nat) (hb : g ≠ b) (cs : Array Value) : (w.setRow b cs).ownsRow B e 1 (.slice (some ⟨g, 0, none⟩) n cap) n xs :=
  World.ownsRow.kept h (row := some b) ⟨rfl, rfl, rfl, by rw [size_setRow]; exact Nat.le_refl _, fun k _ hk => setRow_other' _ _ _ _ (fun e => hk (by rw [e]))⟩ (.inr (by simp [Value.ownBlock]; exact hb))
set_option maxRecDepth 20000 in
set_option maxHeartbeats 1000000 in
theorem refSum_any (m : List (BitVec 8)) (v : Value) (w : World) (hr : RdY w v m) (hl : m.length ≤ 140737488351232) :
    Calls Try.prog 14 #[v] w fun e w' => e = .returned (.agg (cellsY (sumL m))) ∧ Below w.heap.size w w' := by
  obtain ⟨i0, hi0, hz0, hz1, hz2⟩ := info_parts infoY
  have HR := hid hr
  obtain ⟨ra, rc, rfl, hrc, -⟩ := hr
  go_enter Try.func14, Try.ntmps14
  have hw1 : Below w.heap.size w ((w.alloc (.cells (cellsY zero32) 29)).alloc (.cells #[] 5)) := ((Below.refl _ w).alloc (Nat.le_refl _) _).alloc (by simp) _
  have ho1 : ((w.alloc (.cells (cellsY zero32) 29)).alloc (.cells #[] 5)).ownsRow (w.heap.size + 1) 5 1 (.slice (some ⟨w.heap.size + 1, 0, none⟩) 0 0) 0 [] := by
    have := World.ownsRow_lit (base := w.heap.size + 1) (size := 1) (e := 5) (w.alloc (.cells (cellsY zero32) 29)) #[] 0 (by simp) (by simp) (by simp)
    rw [World.size_alloc] at this; exact this
  go_wp2_with (first | (refine wpList_alloc_new rfl 29 rfl (cellsY zero32) zInfo32 ?_; simp only [Act.put, List.setIfInBounds_toArray, List.set_cons_zero, List.set_cons_succ]) | (at_builtin; refine wpList_append_any rfl (.tmp 9) (.tmp 10) 27 rfl (w.heap.size + 1) 5 i0 _ 1 1 uSY hi0 hz0 hz1 hz2 rfl (by decide) _ _ rfl rfl 0 [] ho1 m.length (bytesV m) (RdY.toV (HR.out.below hw1)) (by unfold maxLen; omega) (by omega) (by simp) ?_))
  intro v2 w2 ho2 hg2 _
  have hlt1 := ho1.lt
  have hz2' : w.heap.size + 2 ≤ w2.heap.size := by have := hg2.size; simpa using this
  have hO2 : ArrY 29 w2 w.heap.size zero32 := (hg2.block _ (by simp; omega) (by simp [Value.ownBlock])).trans ((ArrY.new 29 w zero32).alloc _)
  have hb2 : Below w.heap.size w w2 := hw1.grown hg2 (by simp; omega) (fun k e => by have := (hlt1 k e).1; omega)
  go_wp2_with (at_builtin; refine wpList_append_any rfl (.tmp 11) (.tmp 12) 27 rfl (w.heap.size + 1) 5 i0 _ 1 1 uSY hi0 hz0 hz1 hz2 rfl (by decide) _ _ rfl rfl m.length (bytesV m) (ho2.alloc _) 1 [.int .u8 1] ⟨rfl, by simp [Value.oneCell'], _, _, rfl, fun _ => ⟨_, rfl, cell_one_new _ _ _⟩⟩ (by unfold maxLen; omega) (by omega) (by simp; omega) ?_)
  intro v3 w3 ho3 hg3 _
  have hlt2 := ho2.lt
  have hz3 : w.heap.size + 2 ≤ w3.heap.size := by have := hg3.size; simp at this; omega
  have hO3 : ArrY 29 w3 w.heap.size zero32 := (hg3.block _ (by simp; omega) (fun e => by have := (hlt2 _ e.symm).1; omega)).trans (hO2.alloc _)
  have hb3 : Below w.heap.size w w3 := (hb2.alloc hb2.size _).grown hg3 (by simp; omega) (fun k e => by have := (hlt2 k e).1; omega)
  have HO3 := hid hO3
  have H3 : Hid (w3.ownsRow (w.heap.size + 1) 5 1 v3 (m.length + 1 + 0) (bytesV (padN m 0))) := hid (by
    have e : bytesV (padN m 0) = bytesV m ++ [.int .u8 1] := by simp [padN, bytesV, yv]
    rw [e]; exact ho3)
  clear ho3 hg3 hg2 hlt1 hlt2 hO2 hO3 hb2 ho2 hz2'
  obtain ⟨J, hJ⟩ : ∃ J, J = padJ m := ⟨_, rfl⟩
  have hJ1 : J = 135 - m.length % 136 := hJ
  have HJ := hid hJ
  clear hJ
  go_wp2
  go_loopw [3] (fun v wr => ∃ j, j ≤ J ∧ Hid (wr.ownsRow (w.heap.size + 1) 5 1 v (m.length + 1 + j) (bytesV (padN m j))) ∧ Hid (ArrY 29 wr w.heap.size zero32) ∧ Below w.heap.size w wr ∧ w.heap.size + 2 ≤ wr.heap.size)
    (fun v _ => J - (lenV v - (m.length + 1)))
  case atStart => exact ⟨0, by omega, H3, HO3, hb3, hz3⟩
  case round =>
    clear H3 HO3 hb3 hz3
    obtain ⟨j, hj, hR, hO, hb, hz⟩ := hrel
    obtain ⟨g, cap, rfl, hg0, hg1⟩ := hR.out.form (by omega)
    by_cases hlt : j < J
    · go_wp2_with (at_builtin; refine wpList_append_any rfl (.tmp 18) (.tmp 19) 27 rfl (w.heap.size + 1) 5 i0 _ 1 1 uSY hi0 hz0 hz1 hz2 rfl (by decide) _ _ rfl rfl (m.length + 1 + j) (bytesV (padN m j)) (hR.out.alloc _) 1 [.int .u8 0] ⟨rfl, by simp [Value.oneCell'], _, _, rfl, fun _ => ⟨_, rfl, cell_one_new _ _ _⟩⟩ (by unfold maxLen; omega) (by omega) (by simp; omega) ?_)
      intro v4 w4 ho4 hg4 _
      have hO4 : ArrY 29 w4 w.heap.size zero32 := (hg4.block _ (by have := hO.out.lt; simp; omega) (by simp [Value.ownBlock]; omega)).trans (hO.out.alloc _)
      have HO4 := hid hO4
      have hb4 : Below w.heap.size w w4 := (hb.alloc hb.size _).grown hg4 (by simp; omega) (fun k e => by simp [Value.ownBlock] at e; omega)
      have hz4 : w.heap.size + 2 ≤ w4.heap.size := by have := hg4.size; simp at this; omega
      have H4 : Hid (w4.ownsRow (w.heap.size + 1) 5 1 v4 (m.length + 1 + (j + 1)) (bytesV (padN m (j + 1)))) := hid (by rw [← padN_succ]; exact ho4)
      obtain ⟨g4, cap4, rfl, _, _⟩ := ho4.form (by omega)
      clear hO4 ho4 hg4
      go_wp2
      go_roundw
      case rel => exact ⟨j + 1, by omega, H4, HO4, hb4, hz4⟩
      case measure => simp [lenV]; omega
    · obtain rfl : j = J := by omega
      have hlB : (bytesV (padN m j)).length = m.length + 1 + j := by rw [bytesV_len, padN_len]
      have c1 : wr.cell? ⟨g, m.length + j, none⟩ = some (.int .u8 (yv (ny (padN m j) (m.length + j)))) := by
        rw [hR.out.cellAt _ (by omega)]
        have h1 : m.length + j < (padN m j).length := by rw [padN_len]; omega
        simp [bytesV, ny, h1]
      have f1 := hR.out.frozenAt (m.length + j)
      have hmod : ((m.length : Int) + 1 + j) % 136 = 0 := by omega
      have hj135 : j ≤ 135 := by omega
      have HJ1 := hid hJ1
      clear hlB hlt hj hJ1
      go_wp2_with (refine wpList_alloc_new rfl 23 rfl (cellsB zero25) zInfo25 ?_; simp only [Act.put, List.setIfInBounds_toArray, List.set_cons_zero, List.set_cons_succ])
      obtain ⟨N, hN⟩ : ∃ N, m.length + 1 + j = 136 * N := ⟨(m.length + 1 + j) / 136, by omega⟩
      obtain ⟨S4, hS4⟩ : ∃ S4, S4 = wr.heap.size := ⟨_, rfl⟩
      have hst := hR.out.stored (m.length + j) (.int .u8 (bits .or .u8 (yv (ny (padN m j) (m.length + j))) 128))
      have hall : (bytesV (padN m j)).set (m.length + j) (.int .u8 (bits .or .u8 (yv (ny (padN m j) (m.length + j))) 128)) = bytesV (allL m) := by
        rw [show (128 : Int) = yv 128#8 from rfl, yv_or, HJ.out]
        simp [allL, bytesV]
      rw [hall] at hst
      obtain ⟨hst1, hst2⟩ := hst
      have hR5 : Hid (((wr.setCell ⟨g, m.length + j, none⟩ (.int .u8 (bits .or .u8 (yv (ny (padN m j) (m.length + j))) 128))).alloc (.cells (cellsB zero25) 23)).ownsRow (w.heap.size + 1) 5 1 (.slice (some ⟨g, 0, none⟩) (136 * N) cap) (136 * N) (bytesV (allL m))) := hid (by rw [← hN]; exact hst1.alloc _)
      have hO5 : Hid (ArrY 29 ((wr.setCell ⟨g, m.length + j, none⟩ (.int .u8 (bits .or .u8 (yv (ny (padN m j) (m.length + j))) 128))).alloc (.cells (cellsB zero25) 23)) w.heap.size zero32) := hid ((hO.out.other (by show w.heap.size ≠ g; omega) _).alloc _)
      have hS5 : Hid (ArrB 23 ((wr.setCell ⟨g, m.length + j, none⟩ (.int .u8 (bits .or .u8 (yv (ny (padN m j) (m.length + j))) 128))).alloc (.cells (cellsB zero25) 23)) S4 (absN zero25 (allL m) 0)) := hid (by
        have := ArrB.new 23 (wr.setCell ⟨g, m.length + j, none⟩ (.int .u8 (bits .or .u8 (yv (ny (padN m j) (m.length + j))) 128))) zero25
        rw [show (wr.setCell ⟨g, m.length + j, none⟩ (.int .u8 (bits .or .u8 (yv (ny (padN m j) (m.length + j))) 128))).heap.size = S4 from by rw [hS4]; simp] at this
        exact this)
      have hb5 : Below w.heap.size w ((wr.setCell ⟨g, m.length + j, none⟩ (.int .u8 (bits .or .u8 (yv (ny (padN m j) (m.length + j))) 128))).alloc (.cells (cellsB zero25) 23)) := (hb.setCell (p := ⟨g, m.length + j, none⟩) (by show w.heap.size ≤ g; omega) _).alloc (by simp; omega) _
      have hgS : g < S4 := by omega
      have hwS : w.heap.size < S4 := by omega
      rw [show (wr.setCell ⟨g, m.length + j, none⟩ (.int .u8 (bits .or .u8 (yv (ny (padN m j) (m.length + j))) 128))).heap.size = S4 from by rw [hS4]; simp]
      generalize (wr.setCell ⟨g, m.length + j, none⟩ (.int .u8 (bits .or .u8 (yv (ny (padN m j) (m.length + j))) 128))).alloc (.cells (cellsB zero25) 23) = w5 at hR5 hO5 hS5 hb5 ⊢
      rw [hN]
      have hNb : 136 * N ≤ 140737488351232 + 136 := by omega
      have hN1 : N = m.length / 136 + 1 := by omega
      have HN1 := hid hN1
      clear hst1 hst2 hall hR hO hb hz c1 f1 hmod hj135 HJ1 HJ hN hN1 hS4 hg1 hi0 hz0 hz1 hz2 ho1 hw1
      clear i0
      go_wp2
      go_loopw [5] (fun at_ wr => ∃ k : Nat, k ≤ N ∧ at_ = .int .i64 ((136 * k : Nat) : Int) ∧ Hid (ArrB 23 wr S4 (absN zero25 (allL m) k)) ∧ Hid (ArrY 29 wr w.heap.size zero32) ∧ Hid (wr.ownsRow (w.heap.size + 1) 5 1 (.slice (some ⟨g, 0, none⟩) (136 * N) cap) (136 * N) (bytesV (allL m))) ∧ Below w.heap.size w wr)
        (fun at_ _ => 136 * N - (intOf at_).toNat)
      case atStart => exact ⟨0, by omega, rfl, hS5, hO5, hR5, hb5⟩
      case round =>
        clear hR5 hO5 hS5 hb5
        obtain ⟨k, hk, rfl, hS, hO, hR, hb⟩ := hrel
        by_cases hlt : k < N
        · obtain ⟨s1, hs1⟩ : ∃ s1, s1 = absN zero25 (allL m) k := ⟨_, rfl⟩
          rw [← hs1] at hS
          have hls1 : s1.length = 25 := by rw [hs1, absN_len]; simp [zero25]
          have HS1 := hid hs1
          have HLS1 := hid hls1
          clear hs1 hls1
          go_wp2
          go_loopw [6] (fun i wr => ∃ i' : Nat, i' ≤ 136 ∧ i = .int .i64 i' ∧ Hid (ArrB 23 wr S4 (absGo s1 (chunk (allL m) k) i')) ∧ Hid (ArrY 29 wr w.heap.size zero32) ∧ Hid (wr.ownsRow (w.heap.size + 1) 5 1 (.slice (some ⟨g, 0, none⟩) (136 * N) cap) (136 * N) (bytesV (allL m))) ∧ Below w.heap.size w wr)
            (fun i _ => 136 - (intOf i).toNat)
          case atStart => exact ⟨0, by omega, rfl, hS, hO, hR, hb⟩
          case round =>
            clear hS hO hR hb
            obtain ⟨i', hi', rfl, hS, hO, hR, hb⟩ := hrel
            have hlA : (absGo s1 (chunk (allL m) k) i').length = 25 := by rw [absGo_len]; exact HLS1.out
            by_cases hlt2 : i' < 136
            · have h8 : i' / 8 < 25 := by omega
              have c1 : wr.cell? ⟨g, 136 * k + i', none⟩ = some (.int .u8 (yv (ny (chunk (allL m) k) i'))) := by
                rw [hR.out.cellAt _ (by omega)]
                have h1 : 136 * k + i' < (allL m).length := by rw [allL_len, ← HN1.out]; omega
                simp [bytesV, ny, chunk, h1, hlt2, List.getD_eq_getElem?_getD]
              have c2 := hS.out.cell (i' / 8) (by omega)
              have f2 := hS.out.free (i' / 8)
              have l2 := hS.out.lt
              have l1 : g < wr.heap.size := by omega
              have hsh : i' % 8 < 8 := Nat.mod_lt _ (by omega)
              clear hlA
              go_wp2_with (refine wp_region_ext_tail 20 (by kernel_rfl) (by kernel_rfl) ?_; simp only [List.take_succ_cons, List.take_zero, List.drop_succ_cons, List.drop_zero]; (repeat (go_big_quiet_step (first | fail))); refine wpQuiet_nil ?_; rintro _ ⟨xw, rfl⟩)
              refine ⟨⟨i' + 1, by omega, by go_num, ?_, hid ((hO.out.ext _).other (by show w.heap.size ≠ S4; omega) _), hid ?_, (by repeat (first | (with_reducible first | exact Below.refl _ _ | assumption | refine World.ext_below_of ?_ ?_ _ | refine Below.setCell ?_ ?_ _ | refine Below.alloc ?_ ?_ _ | refine Below.drew ?_ | refine World.size_le_ext _ _ _ ?_) | (solve | simp [go_sem] | (simp [go_sem]; omega) | omega)))⟩, by simp [intOf]; omega⟩
              · rw [yv_wrap, iv_shl, iv_xor]
                exact hid ((hS.out.ext _).set (i' / 8) _)
              · exact row_setCell (row_ext hR.out _) _ (by show g ≠ S4; omega) _
            · obtain rfl : i' = 136 := by omega
              have hlN : (absN zero25 (allL m) (k + 1)).length = 25 := by rw [absN_len]; simp [zero25]
              have iS := hid (show (Try.prog.info? 23).map (·.size) = some (cellsB (absGo s1 (chunk (allL m) k) 136)).size by rw [size_cellsB, hlA]; exact iArr25)
              have iP := hid (show (Try.prog.info? 23).map (·.size) = some (cellsB (absN zero25 (allL m) (k + 1))).size by rw [size_cellsB, hlN]; exact iArr25)
              have oP := hid (show (cellsB (absGo s1 (chunk (allL m) k) 136)).size = (cellsB (absN zero25 (allL m) (k + 1))).size by rw [size_cellsB, size_cellsB, hlA, hlN])
              have nP := hid (one_cellsB (absN zero25 (allL m) (k + 1)))
              have hp := refPermute_any (absGo s1 (chunk (allL m) k) 136)
              have hpe : permL (absGo s1 (chunk (allL m) k) 136) = absN zero25 (allL m) (k + 1) := by rw [HS1.out]; rfl
              rw [hpe] at hp
              have HP := hid fun w => hp w hlA
              clear hp hpe hlN hlA hlt2 hi'
              obtain ⟨s2, hs2⟩ : ∃ s2, s2 = absGo s1 (chunk (allL m) k) 136 := ⟨_, rfl⟩
              rw [← hs2] at hS iS HP oP
              obtain ⟨s3, hs3⟩ : ∃ s3, s3 = absN zero25 (allL m) (k + 1) := ⟨_, rfl⟩
              rw [← hs3] at iP oP nP HP
              have HS3 := hid hs3
              clear hs2 hs3
              go_wp2_with (refine wpList_load_row rfl 23 (.tmp 4) rfl S4 rfl 23 _ (0, 0) _ hS.out uArr25 rfl iS.out ?_; simp only [Act.put, List.setIfInBounds_toArray, List.set_cons_zero, List.set_cons_succ])
              refine (HP.out _).mono ?_
              rintro e w6 ⟨rfl, hb6⟩
              have hS6 := hid (hS.out.below hb6 hS.out.lt)
              have hO6 := hid (hO.out.below hb6 hO.out.lt)
              have hR6 := hid (row_below hR.out hb6)
              have hbb := hb.trans (hb6.mono hb.size)
              clear hS hO hR hb hb6
              go_wp2_with (refine wpList_store_row rfl 23 (.tmp 4) (.tmp 64) rfl S4 _ rfl rfl 23 _ hS6.out iP.out oP.out nP.out ?_; simp only [Act.put])
              refine ⟨⟨k + 1, by omega, by go_num, hid (by rw [← HS3.out]; exact heap_setRow _ _ _ _ _ hS6.out), hid ?_, hid (row_setRow hR6.out _ (by omega) _), below_setRow hbb _ (by omega) _⟩, by simp [intOf]; omega⟩
              show (w6.setRow S4 _).heap[w.heap.size]? = _
              rw [setRow_other' _ _ _ _ (by omega)]; exact hO6.out
        · obtain rfl : k = N := by omega
          obtain ⟨s9, hs9⟩ : ∃ s9, s9 = absN zero25 (allL m) k := ⟨_, rfl⟩
          rw [← hs9] at hS
          have hl9 : s9.length = 25 := by rw [hs9, absN_len]; simp [zero25]
          have HS9 := hid hs9
          have HL9 := hid hl9
          clear hs9 hl9 hlt hk
          obtain ⟨B7, hB7⟩ : ∃ B7, B7 = wr.heap.size := ⟨_, rfl⟩
          have hS7 := hid (hS.out.alloc (.cells (cellsY zero32) 29))
          have hO7 := hid (hO.out.alloc (.cells (cellsY zero32) 29))
          have hP7 : Hid (ArrY 29 (wr.alloc (.cells (cellsY zero32) 29)) B7 zero32) := hid (by rw [hB7]; exact ArrY.new _ _ _)
          have hb7 := hb.alloc hb.size (.cells (cellsY zero32) 29)
          have hl7 := hS.out.lt
          have hSB : S4 < B7 := by omega
          go_wp2_with (refine wpList_alloc_new rfl 29 rfl (cellsY zero32) zInfo32 ?_; simp only [Act.put, List.setIfInBounds_toArray, List.set_cons_zero, List.set_cons_succ])
          rw [← hB7]
          generalize wr.alloc (.cells (cellsY zero32) 29) = w7 at hS7 hO7 hP7 hb7 ⊢
          clear hS hO hR hb hl7 hB7
          go_wp2
          go_loopw [8] (fun i wr => ∃ k : Nat, k ≤ 32 ∧ i = .int .i64 k ∧ Hid (ArrY 29 wr B7 (outGo s9 k)) ∧ Hid (ArrB 23 wr S4 s9) ∧ Hid (ArrY 29 wr w.heap.size zero32) ∧ Below w.heap.size w wr)
            (fun i _ => 32 - (intOf i).toNat)
          case atStart => exact ⟨0, by omega, rfl, hP7, hS7, hO7, hb7⟩
          case round =>
            clear hP7 hS7 hO7 hb7
            obtain ⟨k, hk, rfl, hP, hS, hO, hb⟩ := hrel
            by_cases hlt : k < 32
            · have h8 : k / 8 < 25 := by omega
              have hlen := HL9.out
              have c1 := hS.out.cell (k / 8) (by omega)
              have c2 := hP.out.cell k (by rw [outGo_len]; omega)
              have f2 := hP.out.free k
              have l1 := hS.out.lt
              have l2 := hP.out.lt
              have hsh : k % 8 < 8 := Nat.mod_lt _ (by omega)
              have n1 := iv_nonneg (nb s9 (k / 8))
              clear hlen
              go_wp2
              go_roundw
              case rel =>
                refine ⟨k + 1, by omega, by go_num, ?_, hid (hS.out.other (by show S4 ≠ B7; omega) _), hid (hO.out.other (by show w.heap.size ≠ B7; omega) _), (by repeat (first | (with_reducible first | exact Below.refl _ _ | assumption | refine World.ext_below_of ?_ ?_ _ | refine Below.setCell ?_ ?_ _ | refine Below.alloc ?_ ?_ _ | refine Below.drew ?_ | refine World.size_le_ext _ _ _ ?_) | (solve | simp [go_sem] | (simp [go_sem]; omega) | omega)))⟩
                rw [iv_shr, iv_byte']
                exact hid (hP.out.set k _)
              case measure => simp [intOf]; omega
            · obtain rfl : k = 32 := by omega
              have hlO : (outL s9).length = 32 := outL_len s9
              have iO := hid (show (Try.prog.info? 29).map (·.size) = some (cellsY (outL s9)).size by rw [size_cellsY, hlO]; exact iHash)
              have zO := hid (show (cellsY zero32).size = (cellsY (outL s9)).size by rw [size_cellsY, size_cellsY, hlO]; rfl)
              have nO := hid (one_cellsY (outL s9))
              have hP' : Hid (ArrY 29 wr B7 (outL s9)) := hP
              obtain ⟨y2, hy2⟩ : ∃ y2, y2 = outL s9 := ⟨_, rfl⟩
              rw [← hy2] at iO nO hP' zO
              have HY2 := hid hy2
              clear hP hy2 hlO hlt hk
              go_wp2_with (first | (refine wpList_load_row rfl 29 (.tmp 7) rfl B7 rfl 29 _ (0, 0) _ hP'.out uHash rfl iO.out ?_; simp only [Act.put, List.setIfInBounds_toArray, List.set_cons_zero, List.set_cons_succ]) | (refine wpList_store_row rfl 29 (.tmp 2) (.tmp 81) rfl w.heap.size _ rfl rfl 29 _ hO.out iO.out zO.out nO.out ?_; simp only [Act.put]))
              refine bodyPost_ret (results_cell_row rfl _ _ w.heap.size 29 (cellsY y2) (0, 0) _ rfl (heap_setRow _ _ _ _ _ hO.out) uHash rfl iO.out) rfl ⟨?_, below_setRow hb _ (Nat.le_refl _) _⟩
              rw [HY2.out, HS9.out, HN1.out, state_all]
end Go.Proofs.Ytmlaenfgfgloeaa
