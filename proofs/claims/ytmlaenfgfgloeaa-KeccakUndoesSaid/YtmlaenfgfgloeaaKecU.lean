import Derived.Test.YtmlaenfgfgloeaaKecV
import Derived.Test.YtmlaenfgfgloeaaCopyR
import Derived.Test.YtmlaenfgfgloeaaArrN
/-! keccak: unchi, Undo: the walks. -/
set_option linter.unusedVariables false
set_option linter.unusedSimpArgs false
namespace Go.Proofs.Ytmlaenfgfgloeaa
open Go.RowKit

def bI (v k : Nat) : Int := if vbit v k then 1 else 0
theorem bit_fact : ∀ v : Nat, v < 32 → ∀ k : Nat, k < 7 → bits .and .u64 ((v : Int) / 2 ^ (k % 5)) 1 = bI v k := by decide +kernel
set_option maxHeartbeats 1000000 in
theorem bit_any (v k b : Nat) (w : World) (hv : v < 32) (hk : k < 7) (hc : w.cell? ⟨b, 0, none⟩ = some (.int .u64 (v : Int))) :
    Calls Try.prog 54 #[.int .i64 (k : Int), .pointer (some ⟨b, 0, none⟩)] w fun e w' => e = .returned (.int .u64 (bI v k)) ∧ w' = w := by
  have hf := hid (bit_fact v hv k hk)
  go_enter Try.func54, Try.ntmps54
  go_wp2
  go_ret
  exact ⟨ret_int (by have := hf.out; exact this), rfl⟩

theorem bit_ext (v k b : Nat) (ki : Int) (hki : ki = (k : Int)) (w : World) (hv : v < 32) (hk : k < 7) (hc : w.cell? ⟨b, 0, none⟩ = some (.int .u64 (v : Int))) :
    Calls Try.prog 54 #[.int .i64 ki, .pointer (some ⟨b, 0, none⟩)] w fun e w' => e = .returned (.int .u64 (bI v k)) ∧ Below w.heap.size w w' := by
  subst hki
  exact (bit_any v k b w hv hk hc).mono fun e w' ⟨h1, h2⟩ => ⟨h1, by subst h2; exact Below.refl _ _⟩
theorem bI_cases (v k : Nat) : bI v k = 0 ∨ bI v k = 1 := by unfold bI; split <;> simp
theorem neg_spell (v x : Nat) : IntKind.u64.wrap (-bits .xor .u64 (bI v x) (bits .and .u64 (bits .xor .u64 1 (bI v (x + 1))) (bI v (x + 2)))) = iv (msk (vchi v x)) := by
  unfold bI vchi msk
  generalize vbit v x = a
  generalize vbit v (x + 1) = b
  generalize vbit v (x + 2) = c
  cases a <;> cases b <;> cases c <;> decide +kernel
theorem neg_spell1 (v x : Nat) : IntKind.u64.wrap (-bI v x) = iv (msk (vbit v x)) := by
  unfold bI msk
  generalize vbit v x = a
  cases a <;> decide +kernel
theorem uA5 : Try.prog.underlying 51 = some (.array 5 22) := by kernel_rfl
theorem iA5 : (Try.prog.info? 51).map (·.size) = some 5 := by kernel_rfl
set_option maxHeartbeats 2000000 in
theorem unchi_any (row : List (BitVec 64)) (w : World) (hr : row.length = 5) :
    Calls Try.prog 48 #[.agg (cellsB row)] w fun e w' => e = .returned (.agg (cellsB (unchiL row))) ∧ Below w.heap.size w w' := by
  have hmf : ∀ (fn : Fn) (first cap : Array Value) (w : World), (Instr.makeFunc fn first cap).run Try.prog w = .ok (.func fn first cap) w := fun _ _ _ _ => rfl
  have hR0 := hid ((ArrB.new 51 w row).alloc (.cells (cellsB [0, 0, 0, 0, 0]) 51))
  have hO0 := hid (show ArrB 51 ((w.alloc (.cells (cellsB row) 51)).alloc (.cells (cellsB [0, 0, 0, 0, 0]) 51)) (w.heap.size + 1) [0, 0, 0, 0, 0] by
    have := ArrB.new 51 (w.alloc (.cells (cellsB row) 51)) [0, 0, 0, 0, 0]
    rw [World.size_alloc] at this; exact this)
  have hb0 : Below w.heap.size w ((w.alloc (.cells (cellsB row) 51)).alloc (.cells (cellsB [0, 0, 0, 0, 0]) 51)) := ((Below.refl _ _).alloc (Nat.le_refl _) _).alloc (by simp) _
  go_enter Try.func48, Try.ntmps48
  go_wp2
  go_loopw [8] (fun iv0 wr => ∃ v : Nat, v ≤ 32 ∧ iv0 = .int .u64 v ∧ Hid (ArrB 51 wr w.heap.size row) ∧ Hid (ArrB 51 wr (w.heap.size + 1) (unGo row v)) ∧ Below w.heap.size w wr)
    (fun i _ => 32 - (intOf i).toNat)
  case atStart => exact ⟨0, by omega, rfl, hR0, hO0, hb0⟩
  case round =>
    clear hR0 hO0 hb0
    obtain ⟨v, hv, rfl, hR, hO, hb⟩ := hrel
    have lR := hR.out.lt
    have lO := hO.out.lt
    by_cases hlt : v < 32
    · go_wp2
      have hR1 := hid (hR.out.alloc (.cells #[.int .u64 (v : Int)] 22))
      have hO1 := hid (hO.out.alloc (.cells #[.int .u64 (v : Int)] 22))
      have hb1 := hb.alloc hb.size (.cells #[.int .u64 (v : Int)] 22)
      have hc1 := hid (show (wr.alloc (.cells #[.int .u64 (v : Int)] 22)).cell? ⟨wr.heap.size, 0, none⟩ = some (.int .u64 (v : Int)) by simp [go_sem])
      obtain ⟨B, hB⟩ : ∃ B, B = wr.heap.size := ⟨_, rfl⟩
      rw [← hB] at hc1 ⊢
      have hBl : B < (wr.alloc (.cells #[.int .u64 (v : Int)] 22)).heap.size := by rw [hB]; simp
      have hBn : w.heap.size + 1 < B := by rw [hB]; exact lO
      clear hB
      generalize wr.alloc (.cells #[.int .u64 (v : Int)] 22) = w1 at hR1 hO1 hb1 hc1 hBl ⊢
      clear hR hO hb lR lO
      have hBits := hid fun (k : Nat) (ki : Int) (hki : ki = (k : Int)) (hk : k < 7) (W : World) hc => bit_ext v k B ki hki W hlt hk hc
      go_loopw [12, 5] (fun xv sv w2 => ∃ x : Nat, x ≤ 5 ∧ xv = .int .i64 x ∧ sv = .int .u64 (iv (isGo row v x)) ∧ Hid (ArrB 51 w2 w.heap.size row) ∧ Hid (ArrB 51 w2 (w.heap.size + 1) (unGo row v)) ∧ Below w.heap.size w w2 ∧ Hid (w2.cell? ⟨B, 0, none⟩ = some (.int .u64 (v : Int))) ∧ B < w2.heap.size)
        (fun xv _ _ => 5 - (intOf xv).toNat)
      case atStart => exact ⟨0, by omega, rfl, rfl, hR1, hO1, hb1, hc1, hBl⟩
      case round =>
        clear hR1 hO1 hb1 hc1 hBl
        obtain ⟨x, hx, rfl, rfl, hR, hO, hb, hc, hBl⟩ := hrel
        obtain ⟨w2, hw2⟩ : ∃ w2, w2 = wr := ⟨_, rfl⟩
        subst hw2
        by_cases hlx : x < 5
        · have cR := hR.out.cell x (by omega)
          have lR := hR.out.lt
          have B0 := hid (fun W h => hBits.out x (x : Int) rfl (by omega) W h)
          have B1 := hid (fun W h => hBits.out (x + 1) ((x : Int) + 1) rfl (by omega) W h)
          have B2 := hid (fun W h => hBits.out (x + 2) ((x : Int) + 2) rfl (by omega) W h)
          have hcx := hid (fun xw => (World.cell?_ext w2 xw B 0 hBl).trans hc.out)
          go_wp2_with (refine wp_region_ext (by kernel_rfl) (by kernel_rfl) ?_; (repeat (go_big_quiet_step (first | (go_at_call 54; with_reducible refine Calls.ext_of (B0.out _ (hcx.out _))) | (go_at_call 54; with_reducible refine Calls.ext_of (B1.out _ (hcx.out _))) | (go_at_call 54; with_reducible refine Calls.ext_of (B2.out _ (hcx.out _)))))); refine wpQuiet_nil ?_; rintro _ ⟨xw, rfl⟩)
          go_roundw
          case rel =>
            rw [neg_spell, iv_xor, iv_compl, iv_and]
            exact ⟨x + 1, by omega, by go_num, rfl, hid (hR.out.ext _), hid (hO.out.ext _), (by repeat (first | (with_reducible first | exact Below.refl _ _ | assumption | refine World.ext_below_of ?_ ?_ _ | refine Below.setCell ?_ ?_ _ | refine Below.alloc ?_ ?_ _ | refine Below.drew ?_ | refine World.size_le_ext _ _ _ ?_) | (solve | simp [go_sem] | (simp [go_sem]; omega) | omega))), hid (hcx.out _), Nat.lt_of_lt_of_le hBl (w2.size_ext _)⟩
          case measure => simp [intOf]; omega
        · obtain rfl : x = 5 := by omega
          clear hlx hx
          obtain ⟨sg, hsg⟩ : ∃ sg, sg = isGo row v 5 := ⟨_, rfl⟩
          rw [← hsg]
          have HSG := hid hsg
          clear hsg
          go_wp2
          go_loopw [38] (fun xv w3 => ∃ x : Nat, x ≤ 5 ∧ xv = .int .i64 x ∧ Hid (ArrB 51 w3 w.heap.size row) ∧ Hid (ArrB 51 w3 (w.heap.size + 1) (outRow sg v (unGo row v) x)) ∧ Below w.heap.size w w3 ∧ Hid (w3.cell? ⟨B, 0, none⟩ = some (.int .u64 (v : Int))) ∧ B < w3.heap.size)
            (fun xv _ => 5 - (intOf xv).toNat)
          case atStart => exact ⟨0, by omega, rfl, hR, hO, hb, hc, hBl⟩
          case round =>
            clear hR hO hb hc hBl
            obtain ⟨x, hx, rfl, hR, hO, hb, hc, hBl⟩ := hrel
            obtain ⟨w3, hw3⟩ : ∃ w3, w3 = wr := ⟨_, rfl⟩
            subst hw3
            have hol : (outRow sg v (unGo row v) x).length = 5 := by rw [outRow_len, unGo_len]
            by_cases hlx : x < 5
            · have cO := hO.out.cell x (by omega)
              have fO := hO.out.free x
              have lO := hO.out.lt
              have B0 := hid (fun W h => hBits.out x (x : Int) rfl (by omega) W h)
              have hcx := hid (fun xw => (World.cell?_ext w3 xw B 0 hBl).trans hc.out)
              go_wp2_with (refine wp_region_ext_tail 11 (by kernel_rfl) (by kernel_rfl) ?_; simp only [List.take_succ_cons, List.take_zero, List.drop_succ_cons, List.drop_zero]; (repeat (go_big_quiet_step (first | (go_at_call 54; with_reducible refine Calls.ext_of (B0.out _ (hcx.out _)))))); refine wpQuiet_nil ?_; rintro _ ⟨xw, rfl⟩)
              go_roundw
              case rel =>
                rw [neg_spell1, iv_and, iv_or]
                refine ⟨x + 1, by omega, by go_num, hid ((hR.out.ext _).other (by show w.heap.size ≠ w.heap.size + 1; omega) _), hid ((hO.out.ext xw).set x _), (by repeat (first | (with_reducible first | exact Below.refl _ _ | assumption | refine World.ext_below_of ?_ ?_ _ | refine Below.setCell ?_ ?_ _ | refine Below.alloc ?_ ?_ _ | refine Below.drew ?_ | refine World.size_le_ext _ _ _ ?_) | (solve | simp [go_sem] | (simp [go_sem]; omega) | omega))), hid ?_, ?_⟩
                · rw [← hcx.out xw]
                  unfold World.cell?
                  rw [Below.heap_setCell _ _ _ _ (show B ≠ w.heap.size + 1 by omega)]
                · simp [World.setCell]; exact Nat.lt_of_lt_of_le hBl (w3.size_ext _)
              case measure => simp [intOf]; omega
            · obtain rfl : x = 5 := by omega
              have e1 : outRow sg v (unGo row v) 5 = unGo row (v + 1) := by rw [HSG.out]; rfl
              rw [e1] at hO
              clear e1 hol hlx hx
              go_wp2
              go_roundw
              case rel => exact ⟨v + 1, by omega, by go_num, hR, hO, hb⟩
              case measure => simp [intOf]; omega
    · obtain rfl : v = 32 := by omega
      have hl := unGo_len row 32
      obtain ⟨o, ho⟩ : ∃ o, o = unGo row 32 := ⟨_, rfl⟩
      have HO := hid (show o = unchiL row from ho)
      rw [← ho] at hO hl
      have iS := hid (show (Try.prog.info? 51).map (·.size) = some (cellsB o).size by rw [size_cellsB, hl]; exact iA5)
      have nS := hid (one_cellsB o)
      clear ho hl hlt hv
      go_wp2_with (first | (refine wpList_load_row rfl 51 (.tmp 2) rfl (w.heap.size + 1) rfl 51 _ (0, 0) _ hO.out uA5 rfl iS.out ?_; simp only [Act.put, List.setIfInBounds_toArray, List.set_cons_zero, List.set_cons_succ]) | (refine wpList_store_row rfl 51 (.tmp 2) (.tmp 54) rfl (w.heap.size + 1) _ rfl rfl 51 _ hO.out iS.out rfl nS.out ?_; simp only [Act.put]))
      refine bodyPost_ret (results_cell_row rfl _ _ (w.heap.size + 1) 51 (cellsB o) (0, 0) _ rfl (heap_setRow _ _ _ _ _ hO.out) uA5 rfl iS.out) rfl ⟨by rw [HO.out], below_setRow hb _ (by omega) _⟩
end Go.Proofs.Ytmlaenfgfgloeaa
