import Derived.Test.YtmlaenfgfgloeaaShaR
import Derived.Test.YtmlaenfgfgloeaaAppZ
import Derived.Test.YtmlaenfgfgloeaaKecY
/-! conclaveref03.Sum. -/
set_option maxRecDepth 4000
set_option linter.unusedVariables false
set_option linter.unusedSimpArgs false
namespace Go.Proofs.Ytmlaenfgfgloeaa
open Go.RowKit Go.Shelf

/-- The text, 0x80, j noughts. -/
def rpad (m : List (BitVec 8)) (j : Nat) : List (BitVec 8) := m ++ 128#8 :: List.replicate j 0
theorem rpad_len (m : List (BitVec 8)) (j : Nat) : (rpad m j).length = m.length + 1 + j := by simp [rpad]; omega
theorem rpad_succ (m : List (BitVec 8)) (j : Nat) : bytesV (rpad m j) ++ [.int .u8 0] = bytesV (rpad m (j + 1)) := by
  unfold rpad bytesV
  rw [List.replicate_succ']
  simp [yv]
theorem rpad_add (m : List (BitVec 8)) (j k : Nat) : bytesV (rpad m j) ++ List.replicate k (.int .u8 0) = bytesV (rpad m (j + k)) := by
  unfold rpad bytesV
  rw [← List.replicate_append_replicate]
  simp [yv]
/-- The length's last bytes, q of them. -/
def last8 (n q : Nat) : List (BitVec 8) := (List.range q).map fun i => BitVec.ofNat 8 (8 * n / 2 ^ (8 * (7 - i)))
theorem last8_len (n q : Nat) : (last8 n q).length = q := by simp [last8]
theorem last8_succ (n q : Nat) : last8 n (q + 1) = last8 n q ++ [BitVec.ofNat 8 (8 * n / 2 ^ (8 * (7 - q)))] := by
  unfold last8
  rw [List.range_succ, List.map_append]
  rfl
theorem lenY_split (n : Nat) (hn : 8 * n < 18446744073709551616) : lenY n = List.replicate 8 0 ++ last8 n 8 := by
  apply ny_ext
  · simp [lenY, last8]
  · intro j hj
    have hj : j < 16 := by simpa [lenY] using hj
    rw [lenY_at n j hj, ny_app, List.length_replicate]
    by_cases h : j < 8
    · rw [if_pos h, ny_rep]
      have : 8 * n / 2 ^ (8 * (15 - j)) = 0 := by
        apply Nat.div_eq_of_lt
        refine Nat.lt_of_lt_of_le hn ?_
        rw [show 18446744073709551616 = 2 ^ 64 from rfl]
        exact Nat.pow_le_pow_right (by omega) (by omega)
      rw [this]; rfl
    · rw [if_neg h]
      unfold ny last8
      simp [List.getD_eq_getElem?_getD, show j - 8 < 8 by omega]
      congr 4
      omega
/-- All of it. -/
theorem rall (m : List (BitVec 8)) (hm : m.length ≤ 140737488351232) : rpad m (padZ m.length + 8) ++ last8 m.length 8 = padS m := by
  unfold rpad padS tailS
  rw [lenY_split _ (by omega), ← List.replicate_append_replicate]
  simp
theorem slCh (t : TypeId) (ht : Try.prog.underlying t = some (.slice 5)) (g L cap a n : Nat) (hL : a + n ≤ cap) (hn : 0 < n) (w : World) : (Instr.slice t (.slice (some ⟨g, 0, none⟩) L cap) (some (.int .i64 (a : Int))) (some (.int .i64 ((a : Int) + (n : Int)))) none).run Try.prog w = .ok (.slice (some ⟨g, a, none⟩) n (cap - a)) w := by
  have he : Try.prog.elem t = 5 := by unfold Program.elem; rw [ht]
  obtain ⟨i, hi⟩ : ∃ i, Try.prog.info? 5 = some i := ⟨_, rfl⟩
  have hs : Try.prog.cellsOf 5 = 1 := by kernel_rfl
  have hu : Try.prog.underlying t = some (.slice (Try.prog.elem t)) := by rw [he]; exact ht
  rw [run_slice_lh w t _ _ _ hu .i64 .i64 (a : Int) ((a : Int) + (n : Int)) (by omega) (by omega) (by omega), he, run_sizeOf w hi, hs]
  have e1 : ((a : Int) + (n : Int)).toNat = a + n := by omega
  have : ¬ cap = a := by omega
  simp [sliced, this, Addr.add, e1]
  omega
theorem uSYQ : Try.prog.underlying 27 = some (.slice 5) := by kernel_rfl
theorem uIntQ : Try.prog.underlying 3 = some (.int .i64) := by kernel_rfl

set_option maxRecDepth 20000 in
set_option maxHeartbeats 2000000 in
theorem rsum_any (m : List (BitVec 8)) (v : Value) (w : World) (hr : RdY w v m) (hl : m.length ≤ 140737488351232) :
    Calls Try.prog 19 #[v] w fun e w' => e = .returned (.agg (cellsY (shaL m))) ∧ Below w.heap.size w w' := by
  obtain ⟨i0, hi0, hz0, hz1, hz2⟩ := info_parts infoY
  have HR := hid hr
  obtain ⟨ra, rc, rfl, hrc, -⟩ := hr
  go_enter Try.func19, Try.ntmps19
  have hw1 : Below w.heap.size w ((w.alloc (.cells (cellsY (zY 64)) 38)).alloc (.cells #[] 5)) := ((Below.refl _ w).alloc (Nat.le_refl _) _).alloc (by simp) _
  have ho1 : ((w.alloc (.cells (cellsY (zY 64)) 38)).alloc (.cells #[] 5)).ownsRow (w.heap.size + 1) 5 1 (.slice (some ⟨w.heap.size + 1, 0, none⟩) 0 0) 0 [] := by
    have := World.ownsRow_lit (base := w.heap.size + 1) (size := 1) (e := 5) (w.alloc (.cells (cellsY (zY 64)) 38)) #[] 0 (by simp) (by simp) (by simp)
    rw [World.size_alloc] at this; exact this
  go_wp2_with (first | (refine wpList_alloc_new rfl 38 rfl (cellsY (zY 64)) zi64 ?_; simp only [Act.put, List.setIfInBounds_toArray, List.set_cons_zero, List.set_cons_succ]) | (at_builtin; refine wpList_append_any rfl (.tmp 10) (.tmp 11) 27 rfl (w.heap.size + 1) 5 i0 _ 1 1 uSY hi0 hz0 hz1 hz2 rfl (by decide) _ _ rfl rfl 0 [] ho1 m.length (bytesV m) (RdY.toV (HR.out.below hw1)) (by unfold maxLen; omega) (by omega) (by simp) ?_))
  intro v2 w2 ho2 hg2 _
  have hlt1 := ho1.lt
  have hz2' : w.heap.size + 2 ≤ w2.heap.size := by have := hg2.size; simpa using this
  have hO2 : ArrY 38 w2 w.heap.size (zY 64) := (hg2.block _ (by simp; omega) (by simp [Value.ownBlock])).trans ((ArrY.new 38 w (zY 64)).alloc _)
  have hb2 : Below w.heap.size w w2 := hw1.grown hg2 (by simp; omega) (fun k e => by have := (hlt1 k e).1; omega)
  go_wp2_with (at_builtin; refine wpList_append_any rfl (.tmp 12) (.tmp 13) 27 rfl (w.heap.size + 1) 5 i0 _ 1 1 uSY hi0 hz0 hz1 hz2 rfl (by decide) _ _ rfl rfl m.length (bytesV m) (ho2.alloc _) 1 [.int .u8 128] ⟨rfl, by simp [Value.oneCell'], _, _, rfl, fun _ => ⟨_, rfl, cell_one_new _ _ _⟩⟩ (by unfold maxLen; omega) (by omega) (by simp; omega) ?_)
  intro v3 w3 ho3 hg3 _
  have hlt2 := ho2.lt
  have hz3 : w.heap.size + 2 ≤ w3.heap.size := by have := hg3.size; simp at this; omega
  have hO3 : ArrY 38 w3 w.heap.size (zY 64) := (hg3.block _ (by simp; omega) (fun e => by have := (hlt2 _ e.symm).1; omega)).trans (hO2.alloc _)
  have hb3 : Below w.heap.size w w3 := (hb2.alloc hb2.size _).grown hg3 (by simp; omega) (fun k e => by have := (hlt2 k e).1; omega)
  have HO3 := hid hO3
  have H3 : Hid (w3.ownsRow (w.heap.size + 1) 5 1 v3 (m.length + 1 + 0) (bytesV (rpad m 0))) := hid (by
    have e : bytesV (rpad m 0) = bytesV m ++ [.int .u8 128] := by simp [rpad, bytesV, yv]
    rw [e]; exact ho3)
  clear ho3 hg3 hg2 hlt1 hlt2 hO2 hO3 hb2 ho2 hz2'
  obtain ⟨J, hJ⟩ : ∃ J, J = padZ m.length := ⟨_, rfl⟩
  have hJ1 : J = (239 - m.length % 128) % 128 := hJ
  have HJ := hid hJ
  clear hJ
  go_wp2
  go_loopw [3] (fun v wr => ∃ j, j ≤ J ∧ Hid (wr.ownsRow (w.heap.size + 1) 5 1 v (m.length + 1 + j) (bytesV (rpad m j))) ∧ Hid (ArrY 38 wr w.heap.size (zY 64)) ∧ Below w.heap.size w wr ∧ w.heap.size + 2 ≤ wr.heap.size)
    (fun v _ => J - (lenV v - (m.length + 1)))
  case atStart => exact ⟨0, by omega, H3, HO3, hb3, hz3⟩
  case round =>
    clear H3 HO3 hb3 hz3
    obtain ⟨j, hj, hR, hO, hb, hz⟩ := hrel
    obtain ⟨g, cap, rfl, hg0, hg1⟩ := hR.out.form (by omega)
    by_cases hlt : j < J
    · have hmod : ¬ (((m.length : Int) + 1 + j) % 128 = 112) := by omega
      have hJb : J ≤ 128 := by omega
      have HJ1 := hid hJ1
      clear hJ1
      go_wp2_with (at_builtin; refine wpList_append_any rfl (.tmp 19) (.tmp 20) 27 rfl (w.heap.size + 1) 5 i0 _ 1 1 uSY hi0 hz0 hz1 hz2 rfl (by decide) _ _ rfl rfl (m.length + 1 + j) (bytesV (rpad m j)) (hR.out.alloc _) 1 [.int .u8 0] ⟨rfl, by simp [Value.oneCell'], _, _, rfl, fun _ => ⟨_, rfl, cell_one_new _ _ _⟩⟩ (by unfold maxLen; omega) (by omega) (by simp; omega) ?_)
      intro v4 w4 ho4 hg4 _
      have hO4 : ArrY 38 w4 w.heap.size (zY 64) := (hg4.block _ (by have := hO.out.lt; simp; omega) (by simp [Value.ownBlock]; omega)).trans (hO.out.alloc _)
      have HO4 := hid hO4
      have hb4 : Below w.heap.size w w4 := (hb.alloc hb.size _).grown hg4 (by simp; omega) (fun k e => by simp [Value.ownBlock] at e; omega)
      have hz4 : w.heap.size + 2 ≤ w4.heap.size := by have := hg4.size; simp at this; omega
      have H4 : Hid (w4.ownsRow (w.heap.size + 1) 5 1 v4 (m.length + 1 + (j + 1)) (bytesV (rpad m (j + 1)))) := hid (by rw [← rpad_succ]; exact ho4)
      obtain ⟨g4, cap4, rfl, _, _⟩ := ho4.form (by omega)
      clear hO4 ho4 hg4
      go_wp2
      go_roundw
      case rel => exact ⟨j + 1, by omega, H4, HO4, hb4, hz4⟩
      case measure => simp [lenV]; omega
    · obtain rfl : j = J := by omega
      have hmod : ((m.length : Int) + 1 + j) % 128 = 112 := by omega
      have hJb : j ≤ 128 := by omega
      have HJ1 := hid hJ1
      clear hlt hj hJ1
      go_wp2_with (at_builtin; refine wpList_append_zeros rfl (.tmp 22) (.const (.int .i64 8)) 27 3 rfl (w.heap.size + 1) 5 i0 (.int .u8 0) (.int .u8 0) 1 .i64 .i64 uSYQ uIntQ hi0 hz0 rfl rfl hz1 hz2 g cap (m.length + 1 + j) (bytesV (rpad m j)) rfl hR.out 8 rfl (by decide) (by unfold maxLen; omega) (by omega) (by omega) ?_)
      intro v5 w5 ho5 hg5
      have ho5 : w5.ownsRow (w.heap.size + 1) 5 1 v5 (m.length + 1 + j + 8) (bytesV (rpad m j) ++ List.replicate 8 (.int .u8 0)) := ho5
      rw [rpad_add] at ho5
      have hO5 : Hid (ArrY 38 w5 w.heap.size (zY 64)) := hid ((hg5.block _ hO.out.lt (by simp; omega)).trans hO.out)
      have hb5 : Below w.heap.size w w5 := hb.grown hg5 (by omega) (fun k e => by simp at e; omega)
      have hz5 : w.heap.size + 2 ≤ w5.heap.size := by have := hg5.size; omega
      have H5 : Hid (w5.ownsRow (w.heap.size + 1) 5 1 v5 (m.length + 1 + (j + 8) + 0) (bytesV (rpad m (j + 8) ++ last8 m.length 0))) := hid (by
        rw [show last8 m.length 0 = [] from rfl, List.append_nil]; exact ho5)
      clear hR hO hb hz hmod ho5 hg5 hg0 hg1
      go_wp2_with fail
      obtain ⟨c, hc⟩ : ∃ c, c = rpad m (j + 8) := ⟨_, rfl⟩
      obtain ⟨L, hL⟩ : ∃ L, L = m.length + 1 + (j + 8) := ⟨_, rfl⟩
      have hcl : c.length = L := by rw [hc, rpad_len, hL]
      rw [← hc, ← hL] at H5
      have HC := hid hc
      have HL := hid hL
      have hLb : L ≤ 140737488351232 + 200 := by omega
      have hL1 : 0 < L := by omega
      clear hc hL
      obtain ⟨w6, hw6⟩ : ∃ w6 : World, w6 = w5 := ⟨_, rfl⟩
      subst hw6
      go_loopw [3, 5] (fun v iv wr => ∃ q : Nat, q ≤ 8 ∧ iv = .int .i64 (7 - (q : Int)) ∧ Hid (wr.ownsRow (w.heap.size + 1) 5 1 v (L + q) (bytesV (c ++ last8 m.length q))) ∧ Hid (ArrY 38 wr w.heap.size (zY 64)) ∧ Below w.heap.size w wr ∧ w.heap.size + 2 ≤ wr.heap.size)
        (fun _ iv _ => (intOf iv + 1).toNat)
      case atStart => exact ⟨0, by omega, by go_num, hid (by have := H5.out; rw [Nat.add_zero] at this ⊢; exact this), hO5, hb5, hz5⟩
      case round =>
        clear H5 hO5 hb5 hz5
        obtain ⟨q, hq, rfl, hR, hO, hb, hz⟩ := hrel
        obtain ⟨g, cap, rfl, hg0, hg1⟩ := hR.out.form (by omega)
        by_cases hlt : q < 8
        · obtain ⟨p, hp⟩ : ∃ p, p = 7 - q := ⟨_, rfl⟩
          have hp0 : (7 : Int) - (q : Int) = (p : Int) := by omega
          have hp1 : p ≤ 7 := by omega
          have hby : ((m.length : Int) * 8) / 2 ^ (8 * p) % 256 = yv (BitVec.ofNat 8 (8 * m.length / 2 ^ (8 * p))) := by
            rw [show ((m.length : Int) * 8) / 2 ^ (8 * p) = ((8 * m.length / 2 ^ (8 * p) : Nat) : Int) by
              rw [Int.natCast_ediv, Int.natCast_mul, Int.natCast_pow, Int.mul_comm]; rfl]
            unfold yv
            rw [BitVec.toNat_ofNat]
            omega
          have HBY := hid hby
          have HP := hid hp
          have hpe : (8 * (p : Int)).toNat = 8 * p := by omega
          clear hby hp
          go_wp2_with (at_builtin; refine wpList_append_any rfl (.tmp 32) (.tmp 39) 27 rfl (w.heap.size + 1) 5 i0 _ 1 1 uSY hi0 hz0 hz1 hz2 rfl (by decide) _ _ rfl rfl (L + q) (bytesV (c ++ last8 m.length q)) (hR.out.alloc _) 1 _ ⟨rfl, by simp [Value.oneCell'], _, _, rfl, fun _ => ⟨_, rfl, cell_one_new _ _ _⟩⟩ (by unfold maxLen; omega) (by omega) (by simp; omega) ?_)
          intro v7 w7 ho7 hg7 _
          rw [HBY.out] at ho7
          have e7 : bytesV (c ++ last8 m.length q) ++ [.int .u8 (yv (BitVec.ofNat 8 (8 * m.length / 2 ^ (8 * p))))] = bytesV (c ++ last8 m.length (q + 1)) := by
            rw [last8_succ, ← HP.out]; simp [bytesV]
          rw [e7] at ho7
          have hO7 := hid (show ArrY 38 w7 w.heap.size (zY 64) from (hg7.block _ (by have := hO.out.lt; simp; omega) (by simp [Value.ownBlock]; omega)).trans (hO.out.alloc _))
          have hb7 : Below w.heap.size w w7 := (hb.alloc hb.size _).grown hg7 (by simp; omega) (fun k e => by simp [Value.ownBlock] at e; omega)
          have hz7 : w.heap.size + 2 ≤ w7.heap.size := by have := hg7.size; simp at this; omega
          have H7 := hid ho7
          have hpq : (p : Int) - 1 = 7 - ((q + 1 : Nat) : Int) := by have := HP.out; omega
          have HPQ := hid hpq
          clear ho7 hg7 e7 hpq
          go_wp2
          go_roundw
          case rel => exact ⟨q + 1, by omega, by rw [HPQ.out], H7, hO7, hb7, hz7⟩
          case measure => simp [intOf]; have := HP.out; omega
        · obtain rfl : q = 8 := by omega
          have hall : c ++ last8 m.length 8 = padS m := by rw [HC.out, HJ.out]; exact rall m hl
          rw [hall] at hR
          have hPL : L + 8 = (padS m).length := by
            rw [← hall, List.length_append, hcl, last8_len]
          obtain ⟨N, hN⟩ : ∃ N, (padS m).length = 128 * N := ⟨(padS m).length / 128, by
            have := tailS_len m.length
            have h2 : (padS m).length = m.length + (tailS m.length).length := by simp [padS]
            omega⟩
          have hL8 : L + 8 = 128 * N := by omega
          have hND : N = (padS m).length / 128 := by omega
          have HND := hid hND
          obtain ⟨P, hP⟩ : ∃ P, P = padS m := ⟨_, rfl⟩
          have hPl : P.length = 128 * N := by rw [hP]; exact hN
          rw [← hP, hL8] at hR
          have HPE := hid hP
          have HPl := hid hPl
          rw [hL8]
          have hNb : 128 * N ≤ 140737488351232 + 300 := by omega
          clear hlt hq hall hPL hN hND hP hL8 hPl HC HL HJ1 HJ hcl
          clear hLb hL1
          have iH := hid (show (Try.prog.info? 66).map (·.size) = some (cellsB shaH).size from by rw [size_cellsB]; exact i8w)
          have zH := hid (show (cellsB (zeroB 8)).size = (cellsB shaH).size by rw [size_cellsB, size_cellsB]; rfl)
          have HF := hid (fun w => rfirst_any w)
          have nH := hid (one_cellsB shaH)
          have HX : Hid (∃ l, l = shaH) := hid ⟨_, rfl⟩
          obtain ⟨hh, hhh⟩ := HX.out
          rw [← hhh] at iH zH HF nH
          have HHH := hid hhh
          clear hhh HX
          go_wp2_with fail
          refine (HF.out _).mono ?_
          rintro e w8 ⟨rfl, hb8⟩
          have hR8 := hid (row_below hR.out hb8)
          have hO8 := hid (hO.out.below hb8 hO.out.lt)
          have hB8 := hb.trans (hb8.mono hb.size)
          have hg8 : g < w8.heap.size := Nat.lt_of_lt_of_le hg1 hb8.size
          have hw8 : w.heap.size < w8.heap.size := Nat.lt_of_lt_of_le hO.out.lt hb8.size
          clear hR hO hb hb8 hg1 hz
          go_wp2_with (refine wpList_allocStore 66 41 6 (cellsB hh) (cellsB (zeroB 8)) rfl rfl rfl rfl rfl rfl (by decide) (by simp) rfl (by kernel_rfl) zH.out iH.out nH.out ?_; simp only [Act.put, List.setIfInBounds_toArray, List.set_cons_zero, List.set_cons_succ])
          obtain ⟨S, hS⟩ : ∃ S, S = w8.heap.size := ⟨_, rfl⟩
          have hS9 := hid (show ArrB 66 (w8.alloc (.cells (cellsB hh) 66)) S hh by rw [hS]; exact ArrB.new _ _ _)
          have hR9 := hid (row_below hR8.out ((Below.refl w8.heap.size w8).alloc (Nat.le_refl _) (.cells (cellsB hh) 66)))
          have hO9 := hid (hO8.out.alloc (.cells (cellsB hh) 66))
          have hB9 := hB8.alloc hB8.size (.cells (cellsB hh) 66)
          have hgS : g < S := by omega
          have hwS : w.heap.size < S := by omega
          rw [← hS]
          generalize w8.alloc (.cells (cellsB hh) 66) = w9 at hS9 hR9 hO9 hB9 ⊢
          clear hR8 hO8 hB8 hS hg8 hw8 iH zH HF nH w8
          have hhl : hh.length = 8 := by rw [HHH.out]; rfl
          have HHL := hid hhl
          clear hhl
          go_loopw [7] (fun at_ wr => ∃ k : Nat, k ≤ N ∧ at_ = .int .i64 ((128 * k : Nat) : Int) ∧ Hid (ArrB 66 wr S (absS hh P k)) ∧ Hid (ArrY 38 wr w.heap.size (zY 64)) ∧ Hid (wr.ownsRow (w.heap.size + 1) 5 1 (.slice (some ⟨g, 0, none⟩) (128 * N) cap) (128 * N) (bytesV P)) ∧ Below w.heap.size w wr)
            (fun at_ _ => 128 * N - (intOf at_).toNat)
          case atStart => exact ⟨0, by omega, rfl, hS9, hO9, hR9, hB9⟩
          case round =>
            clear hS9 hR9 hO9 hB9
            obtain ⟨k, hk, rfl, hS, hO, hR, hb⟩ := hrel
            by_cases hlt : k < N
            · obtain ⟨s1, hs1⟩ : ∃ s1, s1 = absS hh P k := ⟨_, rfl⟩
              rw [← hs1] at hS
              have hls1 := hid (show s1.length = 8 by rw [hs1, absS_len]; exact HHL.out)
              have hch := hid (show (chunkS P k).length = 128 by unfold chunkS; rw [List.length_take, List.length_drop, HPl.out]; omega)
              have HN := hid (show absS hh P (k + 1) = blockL s1 (chunkS P k) by rw [hs1]; rfl)
              clear hs1
              have hcap : 128 * N ≤ cap := by
                rcases hR.out.2 with ⟨h, _⟩ | ⟨g', cap', cur, he, _, _, hnc, _⟩
                · cases h
                · simp at he; omega
              have hsl := slCh 27 uSYQ g (128 * N) cap (128 * k) 128 (by omega) (by omega)
              have iS := hid (show (Try.prog.info? 66).map (·.size) = some (cellsB s1).size by rw [size_cellsB, hls1.out]; exact i8w)
              have hl2 : (blockL s1 (chunkS P k)).length = 8 := (blockL_len _ _).trans hls1.out
              obtain ⟨s2, hs2⟩ : ∃ s2, s2 = blockL s1 (chunkS P k) := ⟨_, rfl⟩
              have hrd : ∀ W, (∃ y, W = wr.ext y) → RdY W (.slice (some ⟨g, 128 * k, none⟩) 128 (cap - 128 * k)) (chunkS P k) := by
                rintro W ⟨y, rfl⟩
                have h1 : RdY wr (.slice (some ⟨g, 0, none⟩) (128 * N) cap) P := RdY.owned (by rw [HPl.out]; exact hR.out)
                exact (h1.below (wr.ext_below y)).sub (128 * k) 128 (cap - 128 * k) (by rw [HPl.out]; omega) (by omega)
              have hBK := hid (fun y => rblock_any s1 (chunkS P k) _ (wr.ext y) hls1.out (hrd _ ⟨y, rfl⟩) hch.out)
              rw [← hs2] at hBK hl2 HN
              have i2 := hid (show (Try.prog.info? 66).map (·.size) = some (cellsB s2).size by rw [size_cellsB, hl2]; exact i8w)
              have o2 := hid (show (cellsB s1).size = (cellsB s2).size by rw [size_cellsB, size_cellsB, hl2, hls1.out])
              have n2 := hid (one_cellsB s2)
              have hS0 := hS.out
              have l1 := hS0.lt
              have hlk : ((128 * k : Nat) : Int) < ((128 * N : Nat) : Int) := by omega
              have hpS := hid (fun (j : Nat) (u : Value) (h : (cellsB s1)[j]? = some u) => show (cellsB s1)[0 + j]? = some u by rw [Nat.zero_add]; exact h)
              clear hs2 hrd hl2
              go_wp2_with fail
              refine wp_region_ext_tail 7 (by kernel_rfl) (by kernel_rfl) ?_
              simp only [List.take_succ_cons, List.take_zero, List.drop_succ_cons, List.drop_zero]
              (repeat (first | (refine wpQuiet_load_part rfl 66 (.tmp 6) rfl S 0 rfl 66 _ (cellsB s1) (0, 0) _ hS0 hpS.out u8w rfl iS.out ?_; simp only [Act.put, List.setIfInBounds_toArray, List.set_cons_zero, List.set_cons_succ]) | go_big_quiet_step (first | (go_at_call 38; with_reducible refine Calls.ext_of (hBK.out _)))))
              refine wpQuiet_nil ?_
              rintro _ ⟨xw, rfl⟩
              refine wpList_store_row rfl 66 (.tmp 6) (.tmp 54) rfl S _ rfl rfl 66 _ (hS0.ext xw) i2.out o2.out n2.out ?_
              go_wp2
              go_roundw
              case rel =>
                exact ⟨k + 1, by omega, by go_num, hid (by rw [HN.out]; exact heap_setRow _ _ _ _ _ (hS0.ext xw)), hid ((setRow_other _ _ _ _ (by omega)).trans (hO.out.ext xw)), hid (row_setRow (row_ext hR.out xw) _ (by omega) _), below_setRow (World.ext_below_of hb hb.size xw) _ (by omega) _⟩
              case measure => simp [intOf]; omega
            · obtain rfl : k = N := by omega
              obtain ⟨s9, hs9⟩ : ∃ s9, s9 = absS hh P k := ⟨_, rfl⟩
              rw [← hs9] at hS
              have hl9 : s9.length = 8 := by rw [hs9, absS_len]; exact HHL.out
              have HS9 := hid hs9
              have HL9 := hid hl9
              clear hs9 hl9 hlt hk
              obtain ⟨B7, hB7⟩ : ∃ B7, B7 = wr.heap.size := ⟨_, rfl⟩
              have hS7 := hid (hS.out.alloc (.cells (cellsY (zY 64)) 38))
              have hO7 := hid (hO.out.alloc (.cells (cellsY (zY 64)) 38))
              have hP7 : Hid (ArrY 38 (wr.alloc (.cells (cellsY (zY 64)) 38)) B7 (zY 64)) := hid (by rw [hB7]; exact ArrY.new _ _ _)
              have hb7 := hb.alloc hb.size (.cells (cellsY (zY 64)) 38)
              have hl7 := hS.out.lt
              have hSB : S < B7 := by omega
              go_wp2_with (refine wpList_alloc_new rfl 38 rfl (cellsY (zY 64)) zi64 ?_; simp only [Act.put, List.setIfInBounds_toArray, List.set_cons_zero, List.set_cons_succ])
              rw [← hB7]
              generalize wr.alloc (.cells (cellsY (zY 64)) 38) = w7 at hS7 hO7 hP7 hb7 ⊢
              clear hS hO hR hb hl7 hB7
              go_wp2
              go_loopw [9] (fun i wr => ∃ k : Nat, k ≤ 64 ∧ i = .int .i64 k ∧ Hid (ArrY 38 wr B7 (outS s9 k)) ∧ Hid (ArrB 66 wr S s9) ∧ Hid (ArrY 38 wr w.heap.size (zY 64)) ∧ Below w.heap.size w wr)
                (fun i _ => 64 - (intOf i).toNat)
              case atStart => exact ⟨0, by omega, rfl, hP7, hS7, hO7, hb7⟩
              case round =>
                clear hP7 hS7 hO7 hb7
                obtain ⟨k, hk, rfl, hP, hS, hO, hb⟩ := hrel
                by_cases hlt : k < 64
                · have h8 : k / 8 < 8 := by omega
                  have hlen := HL9.out
                  have c1 := hS.out.cell (k / 8) (by omega)
                  have c2 := hP.out.cell k (by rw [outS_len]; omega)
                  have f2 := hP.out.free k
                  have l1 := hS.out.lt
                  have l2 := hP.out.lt
                  have e1 : (56 - 8 * ((k : Int) % 8)).toNat = 56 - 8 * (k % 8) := by omega
                  have e2 : (0 : Int) ≤ 56 - 8 * ((k : Int) % 8) := by omega
                  have n1 := iv_nonneg (nb s9 (k / 8))
                  clear hlen
                  go_wp2
                  go_roundw
                  case rel =>
                    refine ⟨k + 1, by omega, by go_num, ?_, hid (hS.out.other (by show S ≠ B7; omega) _), hid (hO.out.other (by show w.heap.size ≠ B7; omega) _), (by repeat (first | (with_reducible first | exact Below.refl _ _ | assumption | refine World.ext_below_of ?_ ?_ _ | refine Below.setCell ?_ ?_ _ | refine Below.alloc ?_ ?_ _ | refine Below.drew ?_ | refine World.size_le_ext _ _ _ ?_) | (solve | simp [go_sem] | (simp [go_sem]; omega) | omega)))⟩
                    rw [iv_shr, iv_byte2]
                    exact hid (hP.out.set k _)
                  case measure => simp [intOf]; omega
                · obtain rfl : k = 64 := by omega
                  have hlO : (outS s9 64).length = 64 := outS_len s9 64
                  have iO := hid (show (Try.prog.info? 38).map (·.size) = some (cellsY (outS s9 64)).size by rw [size_cellsY, hlO]; exact i64h)
                  have zO := hid (show (cellsY (zY 64)).size = (cellsY (outS s9 64)).size by rw [size_cellsY, size_cellsY, hlO, zY_len])
                  have nO := hid (one_cellsY (outS s9 64))
                  obtain ⟨y2, hy2⟩ : ∃ y2, y2 = outS s9 64 := ⟨_, rfl⟩
                  rw [← hy2] at iO nO hP zO
                  have HY2 := hid hy2
                  clear hy2 hlO hlt hk
                  go_wp2_with (first | (refine wpList_load_row rfl 38 (.tmp 8) rfl B7 rfl 38 _ (0, 0) _ hP.out u64h rfl iO.out ?_; simp only [Act.put, List.setIfInBounds_toArray, List.set_cons_zero, List.set_cons_succ]) | (refine wpList_store_row rfl 38 (.tmp 2) (.tmp 72) rfl w.heap.size _ rfl rfl 38 _ hO.out iO.out zO.out nO.out ?_; simp only [Act.put]))
                  refine bodyPost_ret (results_cell_row rfl _ _ w.heap.size 38 (cellsY y2) (0, 0) _ rfl (heap_setRow _ _ _ _ _ hO.out) u64h rfl iO.out) rfl ⟨?_, below_setRow hb _ (Nat.le_refl _) _⟩
                  rw [HY2.out, HS9.out, HPE.out, HND.out, HHH.out]
                  rfl
end Go.Proofs.Ytmlaenfgfgloeaa
