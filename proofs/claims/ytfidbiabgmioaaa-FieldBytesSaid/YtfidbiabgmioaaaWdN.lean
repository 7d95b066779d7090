import Derived.Test.YtfidbiabgmioaaaWd
import Derived.Test.YtfidbiabgmioaaaTail
/-! conclaveref01: Power, Of, Word. -/
set_option maxRecDepth 4000
set_option linter.unusedVariables false
set_option linter.unusedSimpArgs false
namespace Go.Proofs.Ytfidbiabgmioaaa
open Go.RowKit

theorem wrap64_mod (t : Int) : wrap64 t % 256 = t % 256 := by unfold wrap64; omega
theorem pow_digits (n : Nat) : (List.replicate (n / 8 + 1) 0).set (n / 8) (2 ^ (n % 8)) = dg (2 ^ n) := by
  have h8 : (2 : Nat) ^ (n % 8) < 256 := by
    have : (2 : Nat) ^ (n % 8) ≤ 2 ^ 7 := Nat.pow_le_pow_right (by omega) (by omega)
    omega
  have hp : 0 < (2 : Nat) ^ (n % 8) := Nat.pow_pos (by omega)
  have hD : Dig ((List.replicate (n / 8 + 1) 0).set (n / 8) (2 ^ (n % 8))) := (Dig.rep _).set _ _ h8
  have hn : num ((List.replicate (n / 8 + 1) 0).set (n / 8) (2 ^ (n % 8))) = 2 ^ n := by
    have := num_set (List.replicate (n / 8 + 1) 0) (n / 8) (2 ^ (n % 8)) (by simp)
    rw [num_rep] at this
    have e : nd (List.replicate (n / 8 + 1) 0) (n / 8) = 0 := by unfold nd; rw [List.getD_eq_getElem?_getD, List.getElem?_replicate]; split <;> rfl
    rw [e, Nat.mul_zero, Nat.zero_add] at this
    rw [Nat.add_zero] at this
    rw [this, show (256 : Nat) = 2 ^ 8 from rfl, ← Nat.pow_mul, ← Nat.pow_add]; congr 1; omega
  have := dg_num _ (n / 8 + 1) hD (by simp) (fun j h1 h2 => by simp at h2; omega) (.inr (by
    rw [Nat.add_sub_cancel, List.getD_eq_getElem?_getD, List.getElem?_set_self (by simp)]
    simp))
  rw [hn, List.take_of_length_le (by simp)] at this
  exact this

set_option maxRecDepth 100000 in
set_option maxHeartbeats 1000000 in
theorem power_any (n : Nat) (w : World) (hn : n ≤ 100000) : Calls Try.prog 105 #[.int .i64 n] w fun e w' => ∃ v', e = .returned v' ∧ RdN w' v' (2 ^ n) ∧ Below w.heap.size w w' := by
  have hmk := mkNat (n / 8 + 1) (by omega)
  have e1 : ((n / 8 + 1 : Nat) : Int) = (n : Int) / 8 + 1 := by omega
  rw [e1] at hmk
  have hA := ArrL.new w (List.replicate (n / 8 + 1) 0)
  have c1 := hA.cell (n / 8) (by simp)
  have f1 := hA.free (n / 8)
  have hs := hid (show (digV (List.replicate (n / 8 + 1) 0)).set (n / 8) (.int .i64 (2 ^ (n % 8))) = digV (dg (2 ^ n)) by
    rw [← pow_digits]
    unfold digV
    rw [List.map_set, Int.natCast_pow]; rfl)
  have hl := hid (show (dg (2 ^ n)).length = n / 8 + 1 by rw [← pow_digits]; simp)
  have hpw : (2 : Int) ^ (n % 8) < 256 := by
    have h7 : 2 ^ (n % 8) ≤ 2 ^ 7 := Nat.pow_le_pow_right (by omega : 0 < 2) (by omega : n % 8 ≤ 7)
    have h9 : ((2 ^ (n % 8) : Nat) : Int) ≤ ((2 ^ 7 : Nat) : Int) := by exact_mod_cast h7
    rw [Int.natCast_pow, Int.natCast_pow] at h9
    exact Int.lt_of_le_of_lt h9 (by decide)
  have hpw0 : (0 : Int) ≤ (2 : Int) ^ (n % 8) := by
    have : (0 : Int) ≤ ((2 ^ (n % 8) : Nat) : Int) := Int.natCast_nonneg _
    rw [Int.natCast_pow] at this; exact this
  clear hA e1
  go_enter Try.func105, Try.ntmps105
  go_wp2
  go_ret
  rw [hs.out]
  refine ⟨_, rfl, ?_, (Below.refl _ _).alloc (Nat.le_refl _) _⟩
  have := (ArrL.new w (dg (2 ^ n))).rd (n / 8 + 1) (by rw [hl.out]; exact Nat.le_refl _)
  rw [hl.out] at this
  exact this

set_option maxHeartbeats 1000000 in
theorem of_any (x : Nat) (w : World) (hx : x < 2 ^ 256) : Calls Try.prog 44 #[wd x] w fun e w' => ∃ v', e = .returned v' ∧ RdN w' v' x ∧ Below w.heap.size w w' := by
  obtain ⟨i0, hi0, hz0, hz1, hz2⟩ := info_parts infoI
  have HX := hid hx
  clear hx
  unfold wd
  have hA0 := hid (ArrW.new 24 w x)
  have hb0 : Below w.heap.size w (w.alloc (.cells (cellsW x) 24)) := (Below.refl _ _).alloc (Nat.le_refl _) _
  go_enter Try.func44, Try.ntmps44
  go_wp2
  go_loopw [3, 4] (fun ov iv wr => ∃ i : Nat, i ≤ 32 ∧ iv = .int .i64 i ∧ Hid (wr.ownsRow (w.heap.size + 1) 3 1 ov i (digV (byN x i))) ∧ Hid (ArrW 24 wr w.heap.size x) ∧ Below w.heap.size w wr)
    (fun _ iv _ => 32 - (intOf iv).toNat)
  case atStart => exact ⟨0, by omega, rfl, hid (World.ownsRow_nil _ _ _ _), hA0, hb0⟩
  case round =>
    clear hA0 hb0
    obtain ⟨i, hi, rfl, ho, hA, hb⟩ := hrel
    by_cases hlt : i < 32
    · have c1 := hA.out.cell (i / 8) (by omega)
      have l1 := hA.out.lt
      have n1 := lm_nonneg x (i / 8)
      have n2 := lm_lt x (i / 8)
      have e : (lm x (i / 8) / 2 ^ (8 * (i % 8))) % 256 = ((x / 256 ^ i % 256 : Nat) : Int) := by
        rw [← lmN_byte x i hlt]
        unfold lm
        rw [Int.natCast_emod, Int.natCast_ediv, Int.natCast_pow]; rfl
      have hq : bits .and .i64 (wrap64 (lm x (i / 8) / 2 ^ (8 * (i % 8)))) 255 = ((x / 256 ^ i % 256 : Nat) : Int) := by
        rw [i64_and255, wrap64_mod, e]
      clear e
      obtain ⟨d, hd⟩ : ∃ d, d = x / 256 ^ i % 256 := ⟨_, rfl⟩
      have HD := hid (show digV (byN x (i + 1)) = digV (byN x i) ++ [.int .i64 (d : Int)] by rw [hd]; exact (digV_snoc _ _).symm)
      rw [← hd] at hq
      have hlt2 := ho.out.lt
      have HL2 := hid hlt2
      have hsh : (8 * ((i : Int) % 8)).toNat = 8 * (i % 8) := by omega
      clear hd hlt2
      go_wp2_with (at_builtin; refine wpList_append_any rfl (.tmp 9) (.tmp 21) 42 rfl (w.heap.size + 1) 3 i0 _ 1 8 uNat hi0 hz0 hz1 hz2 rfl (by decide) _ _ rfl rfl i _ (ho.out.alloc _) 1 _ ⟨rfl, by simp [Value.oneCell'], _, _, rfl, fun _ => ⟨_, rfl, cell_one_new _ _ _⟩⟩ (by unfold maxLen; omega) (by omega) (by simp; omega) ?_)
      intro v2 w2 ho2 hg2 _
      rw [← HD.out] at ho2
      have H2 := hid ho2
      have hA2 := hid (show ArrW 24 w2 w.heap.size x from (hg2.block _ (by simp; omega) (fun e => by have := (HL2.out _ e.symm).1; omega)).trans (hA.out.alloc _))
      have hb2 : Below w.heap.size w w2 := (hb.alloc hb.size _).grown hg2 (by simp; omega) (fun k e => by have := (HL2.out k e).1; omega)
      clear ho2 hg2
      go_wp2
      go_roundw
      case rel => exact ⟨i + 1, by omega, by go_num, H2, hA2, hb2⟩
      case measure => simp [intOf]; omega
    · obtain rfl : i = 32 := by omega
      have hlen := byN_len x 32
      have hR := RdL.owned (by rw [hlen]; exact ho.out)
      have HT := hid (trim_any _ _ wr hR (byN_dig x 32) (by rw [hlen]; omega))
      rw [byN_num, show (256 : Nat) ^ 32 = 2 ^ 256 from by rw [show (256 : Nat) = 2 ^ 8 from rfl, ← Nat.pow_mul], Nat.mod_eq_of_lt HX.out] at HT
      clear hR hlen
      go_wp2_with (go_at_call 113; (with_reducible refine HT.out.mono ?_); rintro e w' ⟨v', rfl, hr', hb'⟩)
      go_ret
      exact ⟨_, rfl, hr', hb.trans (hb'.mono hb.size)⟩

theorem num_take_lt (l : List Nat) (hD : Dig l) (i : Nat) : num (l.take i) < 256 ^ i :=
  Nat.lt_of_lt_of_le (num_lt _ (hD.take i)) (Nat.pow_le_pow_right (by omega) (List.length_take_le _ _))
/-- A digit put into a word. -/
theorem cellsW_add (x d i : Nat) (hx : x < 256 ^ i) (hd : d < 256) (hi : i < 32) : (cellsW x).setIfInBounds (i / 8) (.int .u64 ((lmN x (i / 8) ||| d * 2 ^ (8 * (i % 8)) : Nat) : Int)) = cellsW (x + 256 ^ i * d) := by
  have hj : i / 8 < 4 := by omega
  have h := fun j hj => lmN_add x d i j hx hd hj
  rw [or_add _ _ _ ((h _ hj).2 rfl)]
  have hc : i / 8 = 0 ∨ i / 8 = 1 ∨ i / 8 = 2 ∨ i / 8 = 3 := by omega
  have h0 := (h 0 (by omega)).1
  have h1 := (h 1 (by omega)).1
  have h2 := (h 2 (by omega)).1
  have h3 := (h 3 (by omega)).1
  unfold cellsW lm
  rw [h0, h1, h2, h3]
  rcases hc with e | e | e | e <;> simp [e]

set_option maxHeartbeats 1000000 in
theorem word_any (l : List Nat) (v : Value) (w : World) (hr : RdL w v l) (hD : Dig l) (hl : l.length ≤ 65536) : Calls Try.prog 93 #[v] w fun e w' => e = .returned (wd (num l % 2 ^ 256)) ∧ Below w.heap.size w w' := by
  have HR := hid hr
  obtain ⟨a, cap, rfl, hc, hr⟩ := hr
  have HX := hid hr
  have HD := hid hD
  clear hr hD
  have hA0 := hid (show ArrW 24 ((w.alloc (.cells (cellsW 0) 24)).alloc (.cells (cellsW 0) 24)) (w.heap.size + 1) 0 by
    have := ArrW.new 24 (w.alloc (.cells (cellsW 0) 24)) 0
    rw [World.size_alloc] at this; exact this)
  have hR0 := hid (show ArrW 24 ((w.alloc (.cells (cellsW 0) 24)).alloc (.cells (cellsW 0) 24)) w.heap.size 0 from (ArrW.new _ w 0).alloc _)
  have hb0 : Below w.heap.size w ((w.alloc (.cells (cellsW 0) 24)).alloc (.cells (cellsW 0) 24)) := ((Below.refl _ _).alloc (Nat.le_refl _) _).alloc (by simp) _
  go_enter Try.func93, Try.ntmps93
  go_wp2_with (refine wpList_alloc_new rfl 24 rfl (cellsW 0) zWd ?_; simp only [Act.put, List.setIfInBounds_toArray, List.set_cons_zero, List.set_cons_succ])
  simp only [World.size_alloc]
  go_loopw [4] (fun iv wr => ∃ i : Nat, i ≤ 32 ∧ i ≤ l.length ∧ iv = .int .i64 i ∧ Hid (ArrW 24 wr (w.heap.size + 1) (num (l.take i))) ∧ Hid (ArrW 24 wr w.heap.size 0) ∧ Below w.heap.size w wr)
    (fun iv _ => 32 - (intOf iv).toNat)
  case atStart => exact ⟨0, by omega, by omega, rfl, hA0, hR0, hb0⟩
  case round =>
    clear hA0 hR0 hb0
    obtain ⟨i, hi, hil, rfl, hA, hR, hb⟩ := hrel
    by_cases hlt : i < 32 ∧ i < l.length
    · obtain ⟨h32, hll⟩ := hlt
      obtain ⟨b, off, rfl, hbl, hcell⟩ := HX.out (by intro e; subst e; simp at hll)
      have cx := (hb.cell (p := ⟨b, off + i, none⟩) hbl).trans (hcell i hll)
      have gx := nd_dig HD.out i
      have c1 := hA.out.cell (i / 8) (by omega)
      have f1 := hA.out.free (i / 8)
      have l1 := hA.out.lt
      have lb : b < wr.heap.size := Nat.lt_of_lt_of_le hbl hb.size
      have hsh : (8 * ((i : Int) % 8)).toNat = 8 * (i % 8) := by omega
      have hxl := num_take_lt l HD.out i
      have hq := cellsW_add (num (l.take i)) (nd l i) i hxl gx h32
      have hn := hid (show num (l.take (i + 1)) = num (l.take i) + 256 ^ i * nd l i from num_take_succ l i)
      have hle : nd l i * 2 ^ (8 * (i % 8)) < 18446744073709551616 := by
        have h1 : 2 ^ (8 * (i % 8)) ≤ 2 ^ 56 := Nat.pow_le_pow_right (by omega) (by omega)
        have h2 : nd l i * 2 ^ (8 * (i % 8)) ≤ 255 * 2 ^ 56 := Nat.mul_le_mul (by omega) h1
        omega
      have hv : bits .or .u64 (lm (num (l.take i)) (i / 8)) (IntKind.u64.wrap (((nd l i : Nat) : Int) * 2 ^ (8 * (i % 8)))) = ((lmN (num (l.take i)) (i / 8) ||| nd l i * 2 ^ (8 * (i % 8)) : Nat) : Int) := by
        rw [show ((nd l i : Nat) : Int) * 2 ^ (8 * (i % 8)) = ((nd l i * 2 ^ (8 * (i % 8)) : Nat) : Int) by rw [Int.natCast_mul, Int.natCast_pow]; rfl]
        rw [show IntKind.u64.wrap ((nd l i * 2 ^ (8 * (i % 8)) : Nat) : Int) = ((nd l i * 2 ^ (8 * (i % 8)) : Nat) : Int) by rw [IntKind.wrap_u64]; omega]
        exact u64_or_nat _ _ (lmN_lt _ _) hle
      have HV := hid hv
      have HQ := hid hq
      clear hq hv hle hxl hcell
      go_wp2_with fail
      (refine wp_region_ext_tail 18 (by kernel_rfl) (by kernel_rfl) ?_; simp only [List.take_succ_cons, List.take_zero, List.drop_succ_cons, List.drop_zero]; (repeat (go_big_quiet_step (first | fail))); refine wpQuiet_nil ?_; rintro _ ⟨xw, rfl⟩)
      go_wp2
      go_roundw
      case rel =>
        rw [HV.out]
        refine ⟨i + 1, by omega, by omega, by go_num, hid ?_, hid ((hR.out.ext xw).other (by show w.heap.size ≠ w.heap.size + 1; omega) _), (World.ext_below_of hb hb.size xw).setCell (p := ⟨w.heap.size + 1, i / 8, none⟩) (by show w.heap.size ≤ w.heap.size + 1; omega) _⟩
        rw [hn.out]
        exact (hA.out.ext xw).set _ _ HQ.out
      case measure => simp [intOf]; omega
    · have hend : num (l.take i) = num l % 2 ^ 256 := by
        have e32 : (256 : Nat) ^ 32 = 2 ^ 256 := by rw [show (256 : Nat) = 2 ^ 8 from rfl, ← Nat.pow_mul]
        rcases Nat.lt_or_ge i 32 with h | h
        · have : l.take i = l := List.take_of_length_le (by omega)
          rw [this]
          have h2 := num_lt l HD.out
          have h3 : 256 ^ l.length ≤ 256 ^ 32 := Nat.pow_le_pow_right (by omega) (by omega)
          rw [← e32, Nat.mod_eq_of_lt (by omega)]
        · obtain rfl : i = 32 := by omega
          have h2 := num_take_lt l HD.out 32
          rw [← e32]
          have := num_split l 32 hil
          rw [this, Nat.add_mul_mod_self_left, Nat.mod_eq_of_lt h2]
      rw [hend] at hA
      obtain ⟨y, hy⟩ : ∃ y, y = num l % 2 ^ 256 := ⟨_, rfl⟩
      rw [← hy] at hA
      have HY := hid hy
      have iY := hid (iW y)
      have nY := hid (one_cellsW y)
      have hex : ¬ ((i : Int) < 32) ∨ ¬ ((i : Int) < (l.length : Int)) := by omega
      clear hend hy
      by_cases h32 : i < 32
      · have hll : ¬ i < l.length := by omega
        clear hlt hex
        go_wp2_with (first | (refine wpList_load_row rfl 24 (.tmp 3) rfl (w.heap.size + 1) rfl 24 _ (0, 0) _ hA.out uWd rfl iY.out ?_; simp only [Act.put, List.setIfInBounds_toArray, List.set_cons_zero, List.set_cons_succ]) | (refine wpList_store_row rfl 24 (.tmp 2) (.tmp 33) rfl w.heap.size _ rfl rfl 24 _ hR.out iY.out rfl nY.out ?_; simp only [Act.put]))
        refine bodyPost_ret (results_cell_row rfl _ _ w.heap.size 24 (cellsW y) (0, 0) _ rfl (heap_setRow' _ _ _ _ _ hR.out) uWd rfl iY.out) rfl ⟨by rw [HY.out]; rfl, below_setRow' hb _ (Nat.le_refl _) _⟩
      · obtain rfl : i = 32 := by omega
        clear hlt hex h32
        go_wp2_with (first | (refine wpList_load_row rfl 24 (.tmp 3) rfl (w.heap.size + 1) rfl 24 _ (0, 0) _ hA.out uWd rfl iY.out ?_; simp only [Act.put, List.setIfInBounds_toArray, List.set_cons_zero, List.set_cons_succ]) | (refine wpList_store_row rfl 24 (.tmp 2) (.tmp 33) rfl w.heap.size _ rfl rfl 24 _ hR.out iY.out rfl nY.out ?_; simp only [Act.put]))
        refine bodyPost_ret (results_cell_row rfl _ _ w.heap.size 24 (cellsW y) (0, 0) _ rfl (heap_setRow' _ _ _ _ _ hR.out) uWd rfl iY.out) rfl ⟨by rw [HY.out]; rfl, below_setRow' hb _ (Nat.le_refl _) _⟩
end Go.Proofs.Ytfidbiabgmioaaa
