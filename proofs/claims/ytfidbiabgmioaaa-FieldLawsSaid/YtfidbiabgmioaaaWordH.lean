import Derived.Test.YtfidbiabgmioaaaRefM
import Derived.Test.YtfidbiabgmioaaaByt
/-! Words as bytes: word.Bytes, Len, Short, Read; conclaveref01: Bytes, Short, Read, Byte. -/
set_option maxRecDepth 4000
set_option linter.unusedVariables false
set_option linter.unusedSimpArgs false
namespace Go.Proofs.Ytfidbiabgmioaaa
open Go.RowKit

def b8 (n : Nat) : BitVec 8 := BitVec.ofNat 8 n
theorem yv_b8 (n : Nat) : yv (b8 n) = ((n % 256 : Nat) : Int) := by unfold yv b8; rw [BitVec.toNat_ofNat]
theorem b8_mod (n : Nat) : b8 (n % 256) = b8 n := by apply BitVec.eq_of_toNat_eq; unfold b8; rw [BitVec.toNat_ofNat, BitVec.toNat_ofNat]; omega
theorem b8_toNat (y : BitVec 8) : b8 y.toNat = y := by apply BitVec.eq_of_toNat_eq; unfold b8; rw [BitVec.toNat_ofNat]; have := y.isLt; omega
/-- A number's lowest n bytes, the highest first. -/
def be (n x : Nat) : List (BitVec 8) := (List.range n).map fun i => b8 (x / 256 ^ (n - 1 - i))
theorem be_len (n x : Nat) : (be n x).length = n := by simp [be]
theorem be_at (n x i : Nat) (h : i < n) : (be n x)[i]? = some (b8 (x / 256 ^ (n - 1 - i))) := by simp [be, h]
/-- The same, in the midst of it. -/
def bs (x : Nat) : Nat → List (BitVec 8)
  | 0 => List.replicate 32 0
  | i + 1 => (bs x i).set (31 - i) (b8 (x / 256 ^ i))
theorem bs_len (x i : Nat) : (bs x i).length = 32 := by induction i <;> simp [bs, *]
theorem bs_at (x i j : Nat) (hi : i ≤ 32) (hj : j < 32) : (bs x i)[j]? = some (if 31 - j < i then b8 (x / 256 ^ (31 - j)) else 0) := by
  induction i with
  | zero => rw [if_neg (by omega)]; unfold bs; rw [List.getElem?_replicate, if_pos hj]
  | succ i ih =>
    rw [bs, List.getElem?_set, bs_len]
    by_cases h : 31 - i = j
    · rw [if_pos h, if_pos (by omega), if_pos (by omega), show 31 - j = i by omega]
    · rw [if_neg h, ih (by omega)]
      by_cases h2 : 31 - j < i
      · rw [if_pos h2, if_pos (by omega)]
      · rw [if_neg h2, if_neg (by omega)]
theorem bs_end (x n : Nat) (h : x < 256 ^ n) (hn : n ≤ 32) : bs x n = be 32 x := by
  apply List.ext_getElem?
  intro j
  rcases Nat.lt_or_ge j 32 with hj | hj
  · rw [bs_at x n j hn hj, be_at 32 x j hj]
    by_cases h2 : 31 - j < n
    · rw [if_pos h2]
    · rw [if_neg h2, show 32 - 1 - j = 31 - j by omega, Nat.div_eq_of_lt (Nat.lt_of_lt_of_le h (Nat.pow_le_pow_right (by omega) (by omega)))]; rfl
  · rw [List.getElem?_eq_none (by rw [bs_len]; exact hj), List.getElem?_eq_none (by rw [be_len]; exact hj)]
theorem pow256_32 : (256 : Nat) ^ 32 = 2 ^ 256 := by rw [show (256 : Nat) = 2 ^ 8 from rfl, ← Nat.pow_mul]
theorem infoY8 : (Try.prog.info? 5).map (fun i => (i.zero, i.size, i.bytes)) = some (some (.int .u8 0), 1, 1) := by kernel_rfl
theorem uYs : Try.prog.underlying 30 = some (.slice 5) := by kernel_rfl
theorem mkY (N : Nat) (hN : N ≤ 1048576) (w : World) : (Instr.makeSlice 30 (.int .i64 (N : Int)) (.int .i64 (N : Int))).run Try.prog w = .ok (.slice (some ⟨w.heap.size, 0, none⟩) N N) (w.alloc (.cells (cellsY (List.replicate N 0)) 5)) := by
  obtain ⟨i0, hi0, hz0, hz1, hz2⟩ := info_parts infoY8
  have h := run_make (P := Try.prog) w 30 5 i0 (.int .u8 0) uYs hi0 hz0 .i64 .i64 (N : Int) (N : Int) (by omega) (Int.le_refl _) (by rw [hz2]; omega) (by omega)
  rw [h, Int.toNat_natCast, hz1, Nat.mul_one]
  congr 3
  apply Array.ext
  · simp [madeCells, cellsY]
  · intro j h1 h2
    simp [madeCells, Value.cells, Nat.mod_one, cellsY, yv]
theorem lm_b8 (x i : Nat) (hi : i < 32) : lm x (i / 8) / 2 ^ (8 * (i % 8)) % 256 = yv (b8 (x / 256 ^ i)) := by
  rw [yv_b8, ← lmN_byte x i hi]
  unfold lm
  rw [Int.natCast_emod, Int.natCast_ediv, Int.natCast_pow]; rfl

set_option maxHeartbeats 1000000 in
theorem wbytes_any (x : Nat) (w : World) (hx : x < 2 ^ 256) : Calls Try.prog 51 #[wd x] w fun e w' => ∃ b, e = .returned (.slice (some ⟨b, 0, none⟩) 32 32) ∧ ArrY 5 w' b (be 32 x) ∧ w.heap.size ≤ b ∧ Below w.heap.size w w' := by
  have hend := hid (bs_end x 32 (by rw [pow256_32]; exact hx) (by omega))
  have hmk : ∀ w : World, (Instr.makeSlice 30 (.int .i64 32) (.int .i64 32)).run Try.prog w = .ok (.slice (some ⟨w.heap.size, 0, none⟩) 32 32) (w.alloc (.cells (cellsY (bs x 0)) 5)) := mkY 32 (by omega)
  clear hx
  unfold wd
  have hA0 := hid (show ArrW 24 ((w.alloc (.cells (cellsW x) 24)).alloc (.cells (cellsY (bs x 0)) 5)) w.heap.size x from (ArrW.new _ w x).alloc _)
  have hY0 := hid (show ArrY 5 ((w.alloc (.cells (cellsW x) 24)).alloc (.cells (cellsY (bs x 0)) 5)) (w.heap.size + 1) (bs x 0) by
    have := ArrY.new 5 (w.alloc (.cells (cellsW x) 24)) (bs x 0)
    rw [World.size_alloc] at this; exact this)
  have hb0 : Below w.heap.size w ((w.alloc (.cells (cellsW x) 24)).alloc (.cells (cellsY (bs x 0)) 5)) := ((Below.refl _ _).alloc (Nat.le_refl _) _).alloc (by simp) _
  go_enter Try.func51, Try.ntmps51
  go_wp2
  (try simp only [World.size_alloc])
  generalize (w.alloc (.cells (cellsW x) 24)).alloc (.cells (cellsY (bs x 0)) 5) = w1 at hA0 hY0 hb0 ⊢
  go_loopw [6] (fun iv wr => ∃ i : Nat, i ≤ 32 ∧ iv = .int .i64 i ∧ Hid (ArrW 24 wr w.heap.size x) ∧ Hid (ArrY 5 wr (w.heap.size + 1) (bs x i)) ∧ Below w.heap.size w wr)
    (fun iv _ => 32 - (intOf iv).toNat)
  case atStart => exact ⟨0, by omega, rfl, hA0, hY0, hb0⟩
  case round =>
    clear hA0 hY0 hb0
    obtain ⟨i, hi, rfl, hA, hY, hb⟩ := hrel
    by_cases hlt : i < 32
    · have c1 := hA.out.cell (i / 8) (by omega)
      have c2 := hY.out.cell (31 - i) (by rw [bs_len]; omega)
      have f2 := hY.out.free (31 - i)
      have l1 := hA.out.lt
      have l2 := hY.out.lt
      have n1 := lm_nonneg x (i / 8)
      have n2 := lm_lt x (i / 8)
      have hV := hid (lm_b8 x i hlt)
      have hsh : (8 * ((i : Int) % 8)).toNat = 8 * (i % 8) := by omega
      have hix : (31 - (i : Int)).toNat = 31 - i := by omega
      go_wp2
      go_roundw
      case rel =>
        rw [hV.out]
        exact ⟨i + 1, by omega, by go_num, hid (hA.out.other (by show w.heap.size ≠ w.heap.size + 1; omega) _), hid (hY.out.set _ _), hb.setCell (p := ⟨w.heap.size + 1, 31 - i, none⟩) (by show w.heap.size ≤ w.heap.size + 1; omega) _⟩
      case measure => simp [intOf]; omega
    · obtain rfl : i = 32 := by omega
      have hE := hY.out
      rw [hend.out] at hE
      clear hY
      go_wp2
      go_ret
      exact ⟨_, rfl, hE, by omega, hb⟩
theorem wbytes_rd (x : Nat) (w : World) (hx : x < 2 ^ 256) : Calls Try.prog 51 #[wd x] w fun e w' => ∃ v', e = .returned v' ∧ RdY w' v' (be 32 x) ∧ Below w.heap.size w w' :=
  (wbytes_any x w hx).mono fun e w' ⟨b, h1, h2, _, h4⟩ => ⟨_, h1, h2.rd 32 (by rw [be_len]; exact Nat.le_refl _) |> fun h => by rw [be_len] at h; exact h, h4⟩

theorem bl_len8 (x : Nat) : (dg x).length = (bl x + 7) / 8 := by
  by_cases h : x = 0
  · subst h; rw [dg_zero, bl_zero]; rfl
  · obtain ⟨g1, g2, g3⟩ := bl_spec x h
    have h1 := dg_len x ((bl x + 7) / 8) (by
      rw [show (256 : Nat) = 2 ^ 8 from rfl, ← Nat.pow_mul]
      exact Nat.lt_of_lt_of_le g3 (Nat.pow_le_pow_right (by omega) (by omega)))
    have h2 := lt_len x
    rw [show (256 : Nat) = 2 ^ 8 from rfl, ← Nat.pow_mul] at h2
    have h3 : bl x ≤ 8 * (dg x).length := bl_le _ _ h2
    omega
/-- How many bytes. -/
def wlen (x : Nat) : Nat := (dg x).length
theorem wlen_le (x : Nat) (h : x < 2 ^ 256) : wlen x ≤ 32 := dg_word_len x h
theorem wlen_any (x : Nat) (w : World) (hx : x < 2 ^ 256) : Calls Try.prog 55 #[wd x] w fun e w' => e = .returned (.int .i64 ((wlen x : Nat) : Int)) ∧ Below w.heap.size w w' := by
  have hW := hid (fun v w hr => width_any 4 x v w hr hx (by omega))
  have hE := hid (show wlen x = (bl x + 7) / 8 from bl_len8 x)
  have hbl := bl_le x 256 hx
  clear hx
  unfold wd
  have hA0 := hid (ArrW.new 24 w x)
  have hrd := hid (hA0.out.toM.rd 4 (by omega))
  have hb0 : Below w.heap.size w (w.alloc (.cells (cellsW x) 24)) := (Below.refl _ _).alloc (Nat.le_refl _) _
  go_enter Try.func55, Try.ntmps55
  go_wp2_with fail
  refine (hW.out _ _ hrd.out).mono ?_
  rintro e w2 ⟨rfl, rfl⟩
  go_wp2
  go_ret
  refine ⟨?_, hb0⟩
  rw [hE.out]
  go_num

theorem be_drop (n k x : Nat) (hk : k ≤ n) : ((be n x).drop (n - k)).take k = be k x := by
  apply List.ext_getElem?
  intro j
  rw [List.getElem?_take]
  by_cases hj : j < k
  · rw [if_pos hj, List.getElem?_drop, be_at n x _ (by omega), be_at k x j hj, show n - 1 - (n - k + j) = k - 1 - j by omega]
  · rw [if_neg hj, List.getElem?_eq_none (by rw [be_len]; omega)]
theorem ArrY.sub {t : TypeId} {w : World} {b : Nat} {ys : List (BitVec 8)} (h : ArrY t w b ys) (off n c : Nat) (hn : off + n ≤ ys.length) (hc : n ≤ c) : RdY w (.slice (some ⟨b, off, none⟩) n c) ((ys.drop off).take n) := by
  have hl : ((ys.drop off).take n).length = n := by simp; omega
  refine ⟨_, c, by rw [hl], by rw [hl]; exact hc, fun _ => ⟨b, off, rfl, h.lt, fun j hj => ?_⟩⟩
  rw [hl] at hj
  rw [h.cell (off + j) (by omega)]
  unfold ny
  rw [List.getD_eq_getElem?_getD, List.getD_eq_getElem?_getD, List.getElem?_take, if_pos hj, List.getElem?_drop]

/-- A word's bytes without noughts ahead. -/
def shortW (x : Nat) : List (BitVec 8) := be (wlen x) x
set_option maxHeartbeats 1000000 in
set_option maxRecDepth 100000 in
theorem wshort_any (x : Nat) (w : World) (hx : x < 2 ^ 256) : Calls Try.prog 53 #[wd x] w fun e w' => ∃ v', e = .returned v' ∧ RdY w' v' (shortW x) ∧ Below w.heap.size w w' := by
  have hB := hid (fun w => wbytes_any x w hx)
  have hL := hid (fun w => wlen_any x w hx)
  have hl := wlen_le x hx
  have hE := hid (show ((be 32 x).drop (32 - wlen x)).take (wlen x) = shortW x from be_drop 32 _ x hl)
  clear hx
  obtain ⟨n, hn⟩ : ∃ n, n = wlen x := ⟨_, rfl⟩
  rw [← hn] at hL hl hE
  clear hn
  unfold wd at *
  have iX := hid (iW x)
  have hA0 := hid (ArrW.new 24 w x)
  have hb0 : Below w.heap.size w (w.alloc (.cells (cellsW x) 24)) := (Below.refl _ _).alloc (Nat.le_refl _) _
  go_enter Try.func53, Try.ntmps53
  go_wp2_with fail
  ((try simp only [World.size_alloc]); refine wp_region_loose [.kn (.agg (cellsW (x))), .lo (fun v w => ∃ b, v = .slice (some ⟨b, 0, none⟩) 32 32 ∧ ArrY 5 w b (be 32 x)), .kn (.agg (cellsW (x))), .kn (.int .i64 (n : Int)), .kn (.int .i64 (32 - (n : Int))), .lo (fun v w => RdY w v (shortW x)), .lo (fun v w => RdY w v (shortW x))] (by kernel_rfl) (by kernel_rfl) (by kernel_rfl) (by first | exact trivial | ((repeat (first | refine keepsAll_kn ?_ | (refine keepsAll_lo (fun v w w' h hb => ?_) ?_; first | exact RdN.below h hb | exact RdL.below h hb | exact RdY.below h hb | (obtain ⟨b, e, h1⟩ := h; exact ⟨b, e, ArrY.below h1 hb (ArrY.lt h1)⟩) | (obtain ⟨v1, v2, e, h1, h2⟩ := h; exact ⟨v1, v2, e, RdN.below h1 hb, RdN.below h2 hb⟩)))); exact trivial)) ?_)
  (refine loose_step_on rfl (fun W' hB' hd K hK => wp_load_block 24 (.tmp 1) rfl w.heap.size rfl 24 _ _ (ArrW.below hA0.out hB' (ArrW.lt hA0.out)) uWd rfl iX.out (hK _ _ (Below.refl _ _) rfl)) ?_; rintro _ rfl; simp only [Act.put, List.setIfInBounds_toArray, List.set_cons_zero, List.set_cons_succ])
  (refine loose_step rfl (fun W' hB' hd K hK => ?_) ?_; (focus (clear hd; go_simp; refine (hB.out _).mono ?_; rintro _ _ ⟨b, rfl, h1, h2, h3⟩; exact hK _ _ h3 ⟨b, rfl, h1⟩)); intro v4 _; simp only [Act.put, List.setIfInBounds_toArray, List.set_cons_zero, List.set_cons_succ])
  (refine loose_step_on rfl (fun W' hB' hd K hK => wp_load_block 24 (.tmp 1) rfl w.heap.size rfl 24 _ _ (ArrW.below hA0.out hB' (ArrW.lt hA0.out)) uWd rfl iX.out (hK _ _ (Below.refl _ _) rfl)) ?_; rintro _ rfl; simp only [Act.put, List.setIfInBounds_toArray, List.set_cons_zero, List.set_cons_succ])
  (refine loose_step_on rfl (fun W' hB' hd K hK => ?_) ?_; (focus (skip; clear hd; go_simp; refine (hL.out _).mono ?_; rintro _ _ ⟨rfl, hb'⟩; exact hK _ _ hb' rfl)); rintro _ rfl; simp only [Act.put, List.setIfInBounds_toArray, List.set_cons_zero, List.set_cons_succ])
  (refine loose_step_on rfl (fun W' hB' hd K hK => ?_) ?_; (focus (clear hd; go_wp2_with fail; exact hK _ _ (Below.refl _ _) rfl)); rintro _ rfl; simp only [Act.put, List.setIfInBounds_toArray, List.set_cons_zero, List.set_cons_succ])
  refine loose_step rfl (fun W' hB' hd K hK => ?_) ?_
  · have g4 : ∃ b, v4 = .slice (some ⟨b, 0, none⟩) 32 32 ∧ ArrY 5 W' b (be 32 x) := hd ⟨1, Ground.data⟩ (by simp) rfl _ 4 rfl rfl (by simp)
    clear hd
    obtain ⟨b, rfl, h1⟩ := g4
    have h2 := h1.sub (32 - n) n n (by rw [be_len]; omega) (Nat.le_refl _)
    rw [hE.out] at h2
    have HK := hid (fun v => hK v W' (Below.refl _ _))
    clear h1 hB' hb0 hK
    have H2 := hid h2
    clear h2
    rcases Nat.eq_zero_or_pos n with h0 | h0
    · subst h0
      go_simp
      refine HK.out _ (show RdY _ _ _ from ?_)
      obtain ⟨a, c, e1, e2, _⟩ := H2.out
      have hl0 : shortW x = [] := by
        simp at e1
        exact List.length_eq_zero_iff.1 e1.2.1.symm
      rw [hl0]
      exact RdY.nil _ _ _
    · have e3 : (32 : Nat) - (32 - n) = n := by omega
      have e4 : ¬ (32 : Nat) = 32 - n := by omega
      have e5 : ((n : Int) ≤ 32 ∧ (32 : Int) - (n : Int) ≤ 32) := by omega
      go_simp
      exact HK.out _ (show RdY _ _ _ from H2.out)
  · intro v8 _
    simp only [Act.put, List.setIfInBounds_toArray, List.set_cons_zero, List.set_cons_succ]
    (refine loose_step_on rfl (fun W' hB' hd K hK => ?_) ?_; (focus (have g8 : RdY W' v8 (shortW x) := hd ⟨5, Ground.data⟩ (by simp) rfl _ 8 rfl rfl (by simp); clear hd; go_simp; exact hK _ _ (Below.refl _ _) g8)); intro v2 _; simp only [Act.put, List.setIfInBounds_toArray, List.set_cons_zero, List.set_cons_succ])
    intro w6 hb6 hf
    have g2 : RdY w6 v2 (shortW x) := hf 6 _ 2 (by first | omega | simp) rfl rfl (by simp)
    clear hf
    go_wp2_with fail
    go_ret
    exact ⟨_, rfl, g2, hb0.trans (hb6.mono hb0.size)⟩
end Go.Proofs.Ytfidbiabgmioaaa
