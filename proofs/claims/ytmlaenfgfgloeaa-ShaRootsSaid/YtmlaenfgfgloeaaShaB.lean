import Derived.Test.YtmlaenfgfgloeaaShaA
import Derived.Test.YtmlaenfgfgloeaaCopyR
import Derived.Test.YtmlaenfgfgloeaaKecA
/-! sha.(*Hasher).block. -/
set_option maxRecDepth 4000
set_option linter.unusedVariables false
set_option linter.unusedSimpArgs false
namespace Go.Proofs.Ytmlaenfgfgloeaa
open Go.RowKit

/-- The hasher's cells. -/
def shaC (s : List (BitVec 64)) (y : List (BitVec 8)) (n : Nat) (a : BitVec 64) : Array Value := cellsB s ++ cellsY y ++ #[.int .i64 n, .int .u64 (iv a)]
theorem shaC_s (s : List (BitVec 64)) (y : List (BitVec 8)) (n : Nat) (a : BitVec 64) (hs : s.length = 8) : ∀ j v, (cellsB s)[j]? = some v → (shaC s y n a)[0 + j]? = some v := by
  intro j v h
  have hj : j < (cellsB s).size := (Array.getElem?_eq_some_iff.1 h).1
  rw [Nat.zero_add]
  unfold shaC
  rw [Array.append_assoc, Array.getElem?_append_left hj]; exact h
theorem shaC_y (s : List (BitVec 64)) (y : List (BitVec 8)) (n : Nat) (a : BitVec 64) (hs : s.length = 8) : ∀ j v, (cellsY y)[j]? = some v → (shaC s y n a)[8 + j]? = some v := by
  intro j v h
  have hj : j < (cellsY y).size := (Array.getElem?_eq_some_iff.1 h).1
  have h8 : (cellsB s).size = 8 := by rw [size_cellsB]; exact hs
  unfold shaC
  rw [Array.append_assoc, Array.getElem?_append_right (by omega), h8, show 8 + j - 8 = j by omega, Array.getElem?_append_left hj]; exact h
theorem shaC_n (s : List (BitVec 64)) (y : List (BitVec 8)) (n : Nat) (a : BitVec 64) (hs : s.length = 8) (hy : y.length = 128) : (shaC s y n a)[136]? = some (.int .i64 n) := by
  unfold shaC
  rw [Array.getElem?_append_right (by simp [size_cellsB, size_cellsY, hs, hy])]
  simp [size_cellsB, size_cellsY, hs, hy]
theorem shaC_a (s : List (BitVec 64)) (y : List (BitVec 8)) (n : Nat) (a : BitVec 64) (hs : s.length = 8) (hy : y.length = 128) : (shaC s y n a)[137]? = some (.int .u64 (iv a)) := by
  unfold shaC
  rw [Array.getElem?_append_right (by simp [size_cellsB, size_cellsY, hs, hy])]
  simp [size_cellsB, size_cellsY, hs, hy]
theorem shaC_size (s : List (BitVec 64)) (y : List (BitVec 8)) (n : Nat) (a : BitVec 64) (hs : s.length = 8) (hy : y.length = 128) : (shaC s y n a).size = 138 := by
  simp [shaC, size_cellsB, size_cellsY, hs, hy]
theorem shaC_setS (s : List (BitVec 64)) (y : List (BitVec 8)) (n : Nat) (a x : BitVec 64) (i : Nat) (hi : i < s.length) : (shaC s y n a).setIfInBounds i (.int .u64 (iv x)) = shaC (s.set i x) y n a := by
  have h : i < (cellsB s).size := by rw [size_cellsB]; exact hi
  unfold shaC
  rw [Array.append_assoc, Array.setIfInBounds_append_left h, ← Array.append_assoc]
  congr 2
  simp [cellsB, List.map_set]
theorem shaC_setN (s : List (BitVec 64)) (y : List (BitVec 8)) (n m : Nat) (a : BitVec 64) (hs : s.length = 8) (hy : y.length = 128) : (shaC s y n a).setIfInBounds 136 (.int .i64 m) = shaC s y m a := by
  unfold shaC
  rw [Array.setIfInBounds_append_right (by simp [size_cellsB, size_cellsY, hs, hy])]
  simp [size_cellsB, size_cellsY, hs, hy]
theorem shaC_setA (s : List (BitVec 64)) (y : List (BitVec 8)) (n : Nat) (a b : BitVec 64) (hs : s.length = 8) (hy : y.length = 128) : (shaC s y n a).setIfInBounds 137 (.int .u64 (iv b)) = shaC s y n b := by
  unfold shaC
  rw [Array.setIfInBounds_append_right (by simp [size_cellsB, size_cellsY, hs, hy])]
  simp [size_cellsB, size_cellsY, hs, hy]
def HasS (w : World) (hb : Nat) (s : List (BitVec 64)) (y : List (BitVec 8)) (n : Nat) (a : BitVec 64) : Prop := w.heap[hb]? = some (.cells (shaC s y n a) 80 (0, 0))
theorem HasS.lt {w : World} {hb : Nat} {s : List (BitVec 64)} {y : List (BitVec 8)} {n : Nat} {a : BitVec 64} (h : HasS w hb s y n a) : hb < w.heap.size := (Array.getElem?_eq_some_iff.1 h).1
theorem HasS.grown {w w' : World} {hb : Nat} {s : List (BitVec 64)} {y : List (BitVec 8)} {n : Nat} {a : BitVec 64} {row : Option Nat} (h : HasS w hb s y n a) (hg : w.grownBy w' row) (hr : some hb ≠ row) : HasS w' hb s y n a := (hg.block hb h.lt hr).trans h
theorem HasS.below {w w' : World} {hb : Nat} {s : List (BitVec 64)} {y : List (BitVec 8)} {n : Nat} {a : BitVec 64} {B : Nat} (h : HasS w hb s y n a) (hg : Below B w w') (hr : hb < B) : HasS w' hb s y n a := (hg.block hb hr).trans h
theorem HasS.other {w : World} {hb : Nat} {s : List (BitVec 64)} {y : List (BitVec 8)} {n : Nat} {a : BitVec 64} (h : HasS w hb s y n a) {p : Addr} (hp : hb ≠ p.block) (v : Value) : HasS (w.setCell p v) hb s y n a := by
  unfold HasS at *; rw [Below.heap_setCell _ _ _ _ hp]; exact h
theorem HasS.cellS {w : World} {hb : Nat} {s : List (BitVec 64)} {y : List (BitVec 8)} {n : Nat} {a : BitVec 64} (h : HasS w hb s y n a) (hs : s.length = 8) : ∀ j, j < 8 → w.cell? ⟨hb, j, none⟩ = some (.int .u64 (iv (nb s j))) := fun j hj => by
  have := shaC_s s y n a hs j (.int .u64 (iv (nb s j))) (by simp [cellsB, nb, show j < s.length by omega])
  rw [Nat.zero_add] at this
  rw [cell_of_row w hb j _ _ _ h]; exact this
theorem HasS.cellN {w : World} {hb : Nat} {s : List (BitVec 64)} {y : List (BitVec 8)} {n : Nat} {a : BitVec 64} (h : HasS w hb s y n a) (hs : s.length = 8) (hy : y.length = 128) : w.cell? ⟨hb, 136, none⟩ = some (.int .i64 n) := by
  rw [cell_of_row w hb 136 _ _ _ h]; exact shaC_n s y n a hs hy
theorem HasS.cellA {w : World} {hb : Nat} {s : List (BitVec 64)} {y : List (BitVec 8)} {n : Nat} {a : BitVec 64} (h : HasS w hb s y n a) (hs : s.length = 8) (hy : y.length = 128) : w.cell? ⟨hb, 137, none⟩ = some (.int .u64 (iv a)) := by
  rw [cell_of_row w hb 137 _ _ _ h]; exact shaC_a s y n a hs hy
theorem HasS.free {w : World} {hb : Nat} {s : List (BitVec 64)} {y : List (BitVec 8)} {n : Nat} {a : BitVec 64} (h : HasS w hb s y n a) (j : Nat) : w.frozen? ⟨hb, j, none⟩ = false := by
  unfold HasS at h; simp [World.frozen?, h]
theorem HasS.put {w : World} {hb : Nat} {s s' : List (BitVec 64)} {y y' : List (BitVec 8)} {n n' : Nat} {a a' : BitVec 64} (h : HasS w hb s y n a) (j : Nat) (v : Value) (he : (shaC s y n a).setIfInBounds j v = shaC s' y' n' a') : HasS (w.setCell ⟨hb, j, none⟩ v) hb s' y' n' a' := by
  unfold HasS at *
  simp [World.setCell, Array.getElem?_modify, h, he]
theorem uY8 : Try.prog.underlying 5 = some (.int .u8) := by kernel_rfl
theorem y_idx (l : List (BitVec 8)) (t : TypeId) (n : Nat) (hu : Try.prog.underlying t = some (.array n 5)) (hl : l.length = n) (i : Nat) (hi : i < n) (w : World) :
    (Instr.index t (.agg (cellsY l)) (.int .i64 (i : Int))).run Try.prog w = .ok (.int .u8 (yv (ny l i))) w := by
  have := run_index_ints (k' := .i64) (P := Try.prog) hu (by kernel_rfl) (by kernel_rfl) uY8 (l.map yv) (by simpa using hl) (i : Int) (by omega) (by omega) w
  rw [show (cellsY l) = ((l.map yv).map (Value.int .u8)).toArray from by simp [cellsY]]
  rw [this, Int.toNat_natCast]
  simp [ny, List.getD_eq_getElem?_getD, show i < l.length from by omega]
theorem u128 : Try.prog.underlying 78 = some (.array 128 5) := by kernel_rfl
theorem i128 : (Try.prog.info? 78).map (·.size) = some 128 := by kernel_rfl

theorem shaW_raw (x0 x9 x1 x2 : BitVec 64) : IntKind.u64.wrap (iv x0 + IntKind.u64.wrap (IntKind.u64.wrap (iv x9 + bits .xor .u64 (bits .xor .u64 (iv (rr x1 1)) (iv (rr x1 8))) (iv x1 / 128)) + bits .xor .u64 (bits .xor .u64 (iv (rr x2 19)) (iv (rr x2 61))) (iv x2 / 64))) = iv (x0 + (x9 + sg0 x1 + sg1 x2)) := by
  rw [show iv x1 / 128 = iv x1 / 2 ^ 7 from rfl, show iv x2 / 64 = iv x2 / 2 ^ 6 from rfl, iv_shr, iv_shr]
  simp only [iv_xor, iv_add]
  rfl

def oneV (v : List (BitVec 64)) (k x : BitVec 64) : BitVec 64 := nb v 7 + bs1 (nb v 4) + chs (nb v 4) (nb v 5) (nb v 6) + k + x
def twoV (v : List (BitVec 64)) : BitVec 64 := bs0 (nb v 0) + mjs (nb v 0) (nb v 1) (nb v 2)
theorem one_raw (v : List (BitVec 64)) (k x : BitVec 64) : IntKind.u64.wrap (IntKind.u64.wrap (IntKind.u64.wrap (IntKind.u64.wrap (iv (nb v 7) + iv (rr (nb v 4) 14 ^^^ rr (nb v 4) 18 ^^^ rr (nb v 4) 41)) +
    bits .xor .u64 (iv (nb v 6)) (bits .and .u64 (iv (nb v 4)) (bits .xor .u64 (iv (nb v 5)) (iv (nb v 6))))) + iv k) + iv x) = iv (oneV v k x) := by
  simp only [iv_xor, iv_and, iv_add]
  rfl
theorem two_raw (v : List (BitVec 64)) : IntKind.u64.wrap (iv (rr (nb v 0) 28 ^^^ rr (nb v 0) 34 ^^^ rr (nb v 0) 39) +
    bits .or .u64 (bits .and .u64 (iv (nb v 0)) (iv (nb v 1))) (bits .and .u64 (iv (nb v 2)) (bits .or .u64 (iv (nb v 0)) (iv (nb v 1))))) = iv (twoV v) := by
  simp only [iv_or, iv_and, iv_add]
  rfl
def shv (v : List (BitVec 64)) : List (BitVec 64) := [nb v 0, nb v 0, nb v 1, nb v 2, nb v 3, nb v 4, nb v 5, nb v 6]
theorem len8 {α : Type} {l : List α} (h : l.length = 8) : ∃ a b c d e f g i, l = [a, b, c, d, e, f, g, i] := by
  match l, h with
  | [a, b, c, d, e, f, g, i], _ => exact ⟨a, b, c, d, e, f, g, i, rfl⟩
theorem shv_part (v : List (BitVec 64)) (h : v.length = 8) : setPart (cellsB v) 1 ((v.take 7).map fun x => Value.int .u64 (iv x)).toArray = cellsB (shv v) := by
  obtain ⟨a, b, c, d, e, f, g, i, rfl⟩ := len8 h
  rfl
theorem shv_step (v : List (BitVec 64)) (k x : BitVec 64) : ((shv v).set 4 (nb (shv v) 4 + oneV v k x)).set 0 (oneV v k x + twoV v) = stepV v k x := rfl
theorem setRow_other (w : World) (g k : Nat) (cs : Array Value) (h : k ≠ g) : (w.setRow g cs).heap[k]? = w.heap[k]? := by
  simp only [World.setRow, Array.getElem?_modify]
  rw [if_neg (by omega)]
theorem grownBy_setRow {a b : World} {row : Option Nat} (h : a.grownBy b row) {g : Nat} (hp : some g = row ∨ a.heap.size ≤ g) (cs : Array Value) : a.grownBy (b.setRow g cs) row :=
  ⟨h.os, h.tape, h.output, by simpa [World.setRow] using h.size, fun i hi hn => by
    rw [setRow_other _ _ _ _ (by
      rcases hp with hp | hp
      · intro e; subst e; exact hn hp
      · omega)]; exact h.block i hi hn⟩
theorem sU1 : (Try.prog.info? 22).map (·.size) = some 1 := by kernel_rfl
theorem uSU : Try.prog.underlying 52 = some (.slice 22) := by kernel_rfl

set_option maxRecDepth 20000 in
set_option maxHeartbeats 2000000 in
theorem block_any (s : List (BitVec 64)) (y : List (BitVec 8)) (n : Nat) (a : BitVec 64) (hb : Nat) (w : World) (hs : s.length = 8) (hy : y.length = 128) (hH : HasS w hb s y n a) :
    Calls Try.prog 47 #[.pointer (some ⟨hb, 0, none⟩)] w fun e w' => e = .returned (.tuple #[]) ∧ HasS w' hb (blockL s y) y 0 a ∧ w.grownBy w' (some hb) := by
  have hbl := hH.lt
  have HH := hid hH
  have HS := hid hs
  have HY := hid hy
  have iY := hid (show (Try.prog.info? 78).map (·.size) = some (cellsY y).size by rw [size_cellsY, hy]; exact i128)
  have iS := hid (show (Try.prog.info? 66).map (·.size) = some (cellsB s).size by rw [size_cellsB, hs]; exact i8w)
  have zS := hid (show (cellsB (zeroB 8)).size = (cellsB s).size by rw [size_cellsB, size_cellsB, hs]; rfl)
  have pY := hid (shaC_y s y n a hs)
  have pS := hid (shaC_s s y n a hs)
  have hix := fun i (hi : i < 128) w => y_idx y 78 128 u128 hy i hi w
  have HIX := hid hix
  clear hix hH hs hy
  go_enter Try.func47, Try.ntmps47
  go_wp2_with (refine wpList_load_part rfl 78 (.tmp 16) rfl hb 8 rfl 80 _ (cellsY y) (0, 0) _ ((Below.heap_alloc _ _ _ hbl).trans HH.out) pY.out u128 rfl iY.out ?_; simp only [Act.put, List.setIfInBounds_toArray, List.set_cons_zero, List.set_cons_succ])
  go_loopw [18] (fun i wr => ∃ k : Nat, k ≤ 128 ∧ i = .int .i64 k ∧ Hid (ArrB 85 wr w.heap.size (w16 16 y k)) ∧ Hid (HasS wr hb s y n a) ∧ w.grownBy wr none)
    (fun i _ => 128 - (intOf i).toNat)
  case atStart => exact ⟨0, by omega, rfl, hid (ArrB.new _ _ (w16 16 y 0)), hid (HH.out.below ((Below.refl _ w).alloc (Nat.le_refl _) _) hbl), grownBy_alloc (grownBy_refl _ _) _⟩
  case round =>
    obtain ⟨k, hk, rfl, hW, hH, hg⟩ := hrel
    by_cases hlt : k < 128
    · have hi := HIX.out k hlt
      have h8 : k / 8 < 16 := by omega
      have c1 := hW.out.cell (k / 8) (by rw [w16_len]; exact h8)
      have f1 := hW.out.free (k / 8)
      have l1 := hW.out.lt
      go_wp2
      go_roundw
      case rel =>
        refine ⟨k + 1, by omega, by go_num, ?_, hid (hH.out.other (by show hb ≠ w.heap.size; omega) _), grownBy_setCell hg (.inr (Nat.le_refl _)) _⟩
        rw [show (iv (nb (w16 16 y k) (k / 8)) * 256) = iv (nb (w16 16 y k) (k / 8)) * 2 ^ 8 from rfl, iv_shl, yv_wrap, iv_or]
        exact hid (hW.out.set _ _)
      case measure => simp [intOf]; omega
    · obtain rfl : k = 128 := by omega
      clear hlt hk
      have iK := hid (show (Try.prog.info? 69).map (·.size) = some (cellsB shaK).size from by rw [size_cellsB]; exact i80)
      have zK := hid (show (cellsB (zeroB 80)).size = (cellsB shaK).size by rw [size_cellsB, size_cellsB]; rfl)
      have HR := hid (fun w => roots_any w)
      have HK : Hid (∃ l, l = shaK) := hid ⟨_, rfl⟩
      have nK := hid (one_cellsB shaK)
      obtain ⟨kk, hkk⟩ := HK.out
      rw [← hkk] at iK zK HR nK
      have HKK := hid hkk
      clear hkk
      go_wp2_with fail
      refine (HR.out _).mono ?_
      rintro e w1 ⟨rfl, hb1⟩
      have hW1 := hid (hW.out.below hb1 hW.out.lt)
      have hH1 := hid (hH.out.below hb1 hH.out.lt)
      have hg1 := grownBy_below hg hb1
      obtain ⟨B, hB⟩ : ∃ B, B = w1.heap.size := ⟨_, rfl⟩
      have lW := hW1.out.lt
      have lH := hH1.out.lt
      clear hW hH hg hb1
      go_wp2_with (first | (refine wpList_allocStore 69 34 5 (cellsB kk) (cellsB (zeroB 80)) rfl rfl rfl rfl rfl rfl (by decide) (by simp) rfl (by kernel_rfl) zK.out iK.out nK.out ?_; simp only [Act.put, List.setIfInBounds_toArray, List.set_cons_zero, List.set_cons_succ]) | (refine wpList_load_part rfl 66 (.tmp 37) rfl hb 0 rfl 80 _ (cellsB s) (0, 0) _ ((Below.heap_alloc _ _ _ lH).trans hH1.out) pS.out u8w rfl iS.out ?_; simp only [Act.put, List.setIfInBounds_toArray, List.set_cons_zero, List.set_cons_succ]) | (refine wpList_allocStore 66 38 6 (cellsB s) (cellsB (zeroB 8)) rfl rfl rfl rfl rfl rfl (by decide) (by simp) rfl (by kernel_rfl) zS.out iS.out (one_cellsB s) ?_; simp only [Act.put, List.setIfInBounds_toArray, List.set_cons_zero, List.set_cons_succ]))
      have hK2 : ArrB 69 ((w1.alloc (.cells (cellsB kk) 69)).alloc (.cells (cellsB s) 66)) B kk := by rw [hB]; exact (ArrB.new _ _ _).alloc _
      have hV2 : ArrB 66 ((w1.alloc (.cells (cellsB kk) 69)).alloc (.cells (cellsB s) 66)) (B + 1) s := by
        have := ArrB.new 66 (w1.alloc (.cells (cellsB kk) 69)) s
        rw [World.size_alloc, ← hB] at this; exact this
      have hW2 := (hW1.out.alloc (.cells (cellsB kk) 69)).alloc (.cells (cellsB s) 66)
      have hH2 : HasS ((w1.alloc (.cells (cellsB kk) 69)).alloc (.cells (cellsB s) 66)) hb s y n a := (hH1.out.below ((Below.refl _ w1).alloc (Nat.le_refl _) _) lH).below (B := w1.heap.size) ((Below.refl _ _).alloc (by simp) _) lH
      have hg2 := grownBy_alloc (grownBy_alloc hg1 (.cells (cellsB kk) 69)) (.cells (cellsB s) 66)
      simp only [World.size_alloc, ← hB]
      generalize (w1.alloc (.cells (cellsB kk) 69)).alloc (.cells (cellsB s) 66) = w2 at hK2 hV2 hW2 hH2 hg2 ⊢
      have hWB : w.heap.size < B := by omega
      have hHB : hb < B := by omega
      obtain ⟨bl, hbl2⟩ : ∃ bl, bl = w16 16 y 128 := ⟨_, rfl⟩
      have hbll : bl.length = 16 := by rw [hbl2, w16_len]
      rw [← hbl2] at hW2
      have HBL := hid hbl2
      have HBLL := hid hbll
      have HK2 := hid hK2
      have HV2 := hid hV2
      have HW2 := hid hW2
      have HH2 := hid hH2
      clear hbl2 hbll hK2 hV2 hW2 hH2 hW1 hH1 hg1 lW lH iK zK nK HR HIX pY iY hB HK
      clear w1
      go_loopw [39] (fun i wr => ∃ t : Nat, t ≤ 80 ∧ i = .int .i64 t ∧ Hid (ArrB 69 wr B kk) ∧ Hid (ArrB 66 wr (B + 1) (vGo bl s t)) ∧ Hid (ArrB 85 wr w.heap.size (cw bl t)) ∧ Hid (HasS wr hb s y n a) ∧ w.grownBy wr none)
        (fun i _ => 80 - (intOf i).toNat)
      case atStart => exact ⟨0, by omega, rfl, HK2, HV2, HW2, HH2, hg2⟩
      case round =>
        clear HK2 HV2 HW2 HH2 hg2
        obtain ⟨t, ht, rfl, hK, hV, hW, hH, hg⟩ := hrel
        by_cases hlt : t < 80
        · have hlv := hid (vGo_len bl s HS.out t)
          have hlw := hid ((cw_len bl t).trans HBLL.out)
          obtain ⟨v, hv⟩ : ∃ v, v = vGo bl s t := ⟨_, rfl⟩
          obtain ⟨cc, hcc⟩ : ∃ cc, cc = cw bl t := ⟨_, rfl⟩
          rw [← hv] at hV hlv
          rw [← hcc] at hW hlw
          have HV := hid hv
          have HC := hid hcc
          clear hv hcc
          have h0 : t % 16 < 16 := Nat.mod_lt _ (by omega)
          have c0 := hW.out.cell (t % 16) (by rw [hlw.out]; omega)
          have f0 := hW.out.free (t % 16)
          have l0 := hW.out.lt
          have l1 := hV.out.lt
          have l2 := hK.out.lt
          by_cases h16 : 16 ≤ t
          focus
            have h1 : (t + 1) % 16 < 16 := Nat.mod_lt _ (by omega)
            have h2 : (t + 14) % 16 < 16 := Nat.mod_lt _ (by omega)
            have h3 : (t + 9) % 16 < 16 := Nat.mod_lt _ (by omega)
            have c1 := hW.out.cell ((t + 1) % 16) (by rw [hlw.out]; omega)
            have c2 := hW.out.cell ((t + 14) % 16) (by rw [hlw.out]; omega)
            have c3 := hW.out.cell ((t + 9) % 16) (by rw [hlw.out]; omega)
            have n1 := iv_nonneg (nb cc ((t + 1) % 16))
            have n2 := iv_nonneg (nb cc ((t + 14) % 16))
            go_wp2_with fail
            (refine wp_region_ext (by kernel_rfl) (by kernel_rfl) ?_; (repeat (go_big_quiet_step (first | fail))); refine wpQuiet_nil ?_; rintro _ ⟨xw, rfl⟩)
            have hK1 := hK.out.ext xw
            have hV1 := hV.out.ext xw
            have hW1 := hW.out.ext xw
            have hH1 := hH.out.below (wr.ext_below xw) hH.out.lt
            have hg1 := grownBy_ext hg xw
            go_wp2_with fail
            clear c0 c1 c2 c3 f0
            generalize wr.ext xw = w1 at hK1 hV1 hW1 hH1 hg1 ⊢
            clear hK hV hW hH hg xw
            have c0 := hW1.cell (t % 16) (by rw [hlw.out]; omega)
            have f0 := hW1.free (t % 16)
            have c3 := hW1.cell ((t + 9) % 16) (by rw [hlw.out]; omega)
            have l0 := hW1.lt
            have HW1 := hid hW1
            clear hW1
            go_wp2_with fail
            (refine wp_region_ext_tail 28 (by kernel_rfl) (by kernel_rfl) ?_; simp only [List.take_succ_cons, List.take_zero, List.drop_succ_cons, List.drop_zero]; (repeat (go_big_quiet_step (first | (go_at_call 30; with_reducible refine Calls.ext_of (rotR_any _ _ (by decide) (by decide) _))))); refine wpQuiet_nil ?_; rintro _ ⟨xw, rfl⟩)
            go_wp2_with fail
            rw [shaW_raw]
            have hcc2 : cw bl (t + 1) = cc.set (t % 16) (nb cc (t % 16) + (nb cc ((t + 9) % 16) + sg0 (nb cc ((t + 1) % 16)) + sg1 (nb cc ((t + 14) % 16)))) := by
              rw [HC.out]; conv => lhs; unfold cw
              rw [if_pos h16]
            have hW2 := (HW1.out.ext xw).set (t % 16) (nb cc (t % 16) + (nb cc ((t + 9) % 16) + sg0 (nb cc ((t + 1) % 16)) + sg1 (nb cc ((t + 14) % 16))))
            rw [← hcc2] at hW2
            have hK2 := (hK1.ext xw).other (a := ⟨w.heap.size, t % 16, none⟩) (by show B ≠ w.heap.size; omega) (.int .u64 (iv (nb cc (t % 16) + (nb cc ((t + 9) % 16) + sg0 (nb cc ((t + 1) % 16)) + sg1 (nb cc ((t + 14) % 16))))))
            have hV2 := (hV1.ext xw).other (a := ⟨w.heap.size, t % 16, none⟩) (by show B + 1 ≠ w.heap.size; omega) (.int .u64 (iv (nb cc (t % 16) + (nb cc ((t + 9) % 16) + sg0 (nb cc ((t + 1) % 16)) + sg1 (nb cc ((t + 14) % 16))))))
            have hH2 := (hH1.below (w1.ext_below xw) hH1.lt).other (p := ⟨w.heap.size, t % 16, none⟩) (by show hb ≠ w.heap.size; omega) (.int .u64 (iv (nb cc (t % 16) + (nb cc ((t + 9) % 16) + sg0 (nb cc ((t + 1) % 16)) + sg1 (nb cc ((t + 14) % 16))))))
            have hg2 := grownBy_setCell (grownBy_ext hg1 xw) (p := ⟨w.heap.size, t % 16, none⟩) (.inr (Nat.le_refl _)) (.int .u64 (iv (nb cc (t % 16) + (nb cc ((t + 9) % 16) + sg0 (nb cc ((t + 1) % 16)) + sg1 (nb cc ((t + 14) % 16))))))
            generalize (w1.ext xw).setCell ⟨w.heap.size, t % 16, none⟩ (.int .u64 (iv (nb cc (t % 16) + (nb cc ((t + 9) % 16) + sg0 (nb cc ((t + 1) % 16)) + sg1 (nb cc ((t + 14) % 16)))))) = w2 at hW2 hK2 hV2 hH2 hg2 ⊢
            clear hK1 hV1 HW1 hH1 hg1 xw c0 f0 c3 l0 hcc2 w1 h1 h2 h3 n1 n2
          rotate_left
          focus
            have hcc2 : cw bl (t + 1) = cc := by
              rw [HC.out]; conv => lhs; unfold cw
              rw [if_neg h16]
            have hW2 := hW.out
            rw [← hcc2] at hW2
            have hK2 := hK.out
            have hV2 := hV.out
            have hH2 := hH.out
            have hg2 := hg
            go_wp2_with fail
            generalize wr = w2 at hW2 hK2 hV2 hH2 hg2 ⊢
            clear hcc2
          all_goals
            clear l0 l1 l2
            have cV := hV2.all hlv.out
            have fV := fun j => hV2.free j
            have cK := hK2.cell t (by rw [HKK.out]; exact hlt)
            have cX := hW2.cell (t % 16) (by rw [cw_len, HBLL.out]; exact h0)
            rw [cw_word bl HBLL.out] at cX
            have l0 := hW2.lt
            have l1 := hV2.lt
            have l2 := hK2.lt
            have HW2 := hid hW2
            have HV2 := hid hV2
            have HK2 := hid hK2
            have HH2 := hid hH2
            clear hW2 hV2 hK2 hH2
            go_wp2_with fail
            (refine wp_region_ext (by kernel_rfl) (by kernel_rfl) ?_; (repeat (go_big_quiet_step (first | (go_at_call 53; with_reducible refine Calls.ext_of (turned_any _ _ _ _ (by decide) (by decide) (by decide) (by decide) (by decide) (by decide) _))))); refine wpQuiet_nil ?_; rintro _ ⟨xw, rfl⟩)
            go_wp2_with fail
            rw [one_raw]
            have hW3 := hid (HW2.out.ext xw)
            have hV3 := hid (HV2.out.ext xw)
            have hK3 := hid (HK2.out.ext xw)
            have hH3 := hid (HH2.out.below (w2.ext_below xw) HH2.out.lt)
            have hg3 := grownBy_ext hg2 xw
            have ho : Hid (∃ o, o = oneV v (nb kk t) (wf bl t)) := hid ⟨_, rfl⟩
            obtain ⟨one, hone⟩ := ho.out
            rw [← hone]
            have HONE := hid hone
            generalize w2.ext xw = w3 at hW3 hV3 hK3 hH3 hg3 ⊢
            clear HW2 HV2 HK2 HH2 hg2 cV fV cK cX hone ho l0 l1 l2 xw w2
            have cV := hV3.out.all hlv.out
            have l1 := hV3.out.lt
            go_wp2_with fail
            (refine wp_region_ext (by kernel_rfl) (by kernel_rfl) ?_; (repeat (go_big_quiet_step (first | (go_at_call 53; with_reducible refine Calls.ext_of (turned_any _ _ _ _ (by decide) (by decide) (by decide) (by decide) (by decide) (by decide) _))))); refine wpQuiet_nil ?_; rintro _ ⟨xw, rfl⟩)
            go_wp2_with fail
            rw [two_raw]
            have hW4 := hid (hW3.out.ext xw)
            have hV4 := hid (hV3.out.ext xw)
            have hK4 := hid (hK3.out.ext xw)
            have hH4 := hid (hH3.out.below (w3.ext_below xw) hH3.out.lt)
            have hg4 := grownBy_ext hg3 xw
            generalize w3.ext xw = w4 at hW4 hV4 hK4 hH4 hg4 ⊢
            clear hW3 hV3 hK3 hH3 hg3 cV l1 xw w3
            have ht : Hid (∃ o, o = twoV v) := hid ⟨_, rfl⟩
            obtain ⟨two, htwo⟩ := ht.out
            rw [← htwo]
            have HTWO := hid htwo
            clear htwo ht
            (refine wp_region_ext_tail 2 (by kernel_rfl) (by kernel_rfl) ?_; simp only [List.take_succ_cons, List.take_zero, List.drop_succ_cons, List.drop_zero]; (repeat (go_big_quiet_step (first | fail))); refine wpQuiet_nil ?_; rintro _ ⟨xw, rfl⟩)
            have hV5 := hV4.out.ext xw
            refine wpList_copy_row rfl (.tmp 129) (.tmp 130) 52 52 rfl 22 (B + 1) 1 7 7 rfl ⟨B + 1, 0, none⟩ 7 8 rfl _ _ ((v.take 7).map fun x => Value.int .u64 (iv x)) uSU sU1 hV5 (by simp [hlv.out]) ?_ (by simp [hlv.out, size_cellsB]) ?_ ?_
            · intro j u hu
              have hj : j < 7 := by
                rcases Nat.lt_or_ge j 7 with h | h
                · exact h
                · rw [List.getElem?_eq_none (by simp [hlv.out]; omega)] at hu; cases hu
              have := hV5.cell j (by rw [hlv.out]; omega)
              rw [show (⟨B + 1, 0, none⟩ : Addr).add j = ⟨B + 1, j, none⟩ from by unfold Addr.add; split <;> simp_all, this, ← hu]
              have hl := hlv.out
              simp [nb, hj, List.getElem?_take, show j < v.length by omega]
            · intro u hu
              obtain ⟨x, _, rfl⟩ := List.mem_map.1 hu
              rfl
            rw [shv_part v hlv.out]
            have hW6 : ArrB 85 ((w4.ext xw).setRow (B + 1) (cellsB (shv v))) w.heap.size (cw bl (t + 1)) := (setRow_other _ _ _ _ (by omega)).trans (hW4.out.ext xw)
            have hV6 : ArrB 66 ((w4.ext xw).setRow (B + 1) (cellsB (shv v))) (B + 1) (shv v) := heap_setRow _ _ _ _ _ hV5
            have hK6 : ArrB 69 ((w4.ext xw).setRow (B + 1) (cellsB (shv v))) B kk := (setRow_other _ _ _ _ (by omega)).trans (hK4.out.ext xw)
            have hH6 : HasS ((w4.ext xw).setRow (B + 1) (cellsB (shv v))) hb s y n a := (setRow_other _ _ _ _ (by omega)).trans (hH4.out.below (w4.ext_below xw) hH4.out.lt)
            have hg6 : w.grownBy ((w4.ext xw).setRow (B + 1) (cellsB (shv v))) none := grownBy_setRow (grownBy_ext hg4 xw) (.inr (by omega)) _
            generalize (w4.ext xw).setRow (B + 1) (cellsB (shv v)) = w6 at hW6 hV6 hK6 hH6 hg6 ⊢
            clear hW4 hV4 hK4 hH4 hg4 hV5 xw w4
            have c4 := hV6.cell 4 (by simp [shv])
            have c00 := hV6.cell 0 (by simp [shv])
            have f4 := hV6.free
            have l1 := hV6.lt
            have HV6 := hid hV6
            have HW6 := hid hW6
            have HK6 := hid hK6
            have HH6 := hid hH6
            clear hV6 hW6 hK6 hH6
            go_wp2
            go_roundw
            case rel =>
              rw [iv_add, iv_add]
              refine ⟨t + 1, by omega, by go_num, hid (((HK6.out.other (by show B ≠ B + 1; omega) _).other (by show B ≠ B + 1; omega) _)), ?_, hid (((HW6.out.other (by show w.heap.size ≠ B + 1; omega) _).other (by show w.heap.size ≠ B + 1; omega) _)), hid (((HH6.out.other (by show hb ≠ B + 1; omega) _).other (by show hb ≠ B + 1; omega) _)), grownBy_setCell (grownBy_setCell hg6 (.inr (by show w.heap.size ≤ B + 1; omega)) _) (.inr (by show w.heap.size ≤ B + 1; omega)) _⟩
              have h7 := (HV6.out.set 4 (nb (shv v) 4 + one)).set 0 (one + two)
              rw [HONE.out, HTWO.out] at h7
              rw [HONE.out, HTWO.out]
              have h8 : vGo bl s (t + 1) = stepV v (nb kk t) (wf bl t) := by rw [HV.out, HKK.out]; rfl
              rw [h8, ← shv_step]
              exact hid h7
            case measure => simp [intOf]; omega
        · obtain rfl : t = 80 := by omega
          clear hlt ht HBLL
          have hlv := hid (vGo_len bl s HS.out 80)
          obtain ⟨v, hv⟩ : ∃ v, v = vGo bl s 80 := ⟨_, rfl⟩
          rw [← hv] at hV hlv
          have HV := hid hv
          clear hv hW hK
          go_wp2_with fail
          obtain ⟨wq, hwq⟩ : ∃ wq : World, wq = wr := ⟨_, rfl⟩
          subst hwq
          have hg0 : w.grownBy wq (some hb) := ⟨hg.os, hg.tape, hg.output, hg.size, fun k hk _ => hg.block k hk (by simp)⟩
          go_loopw [142] (fun i wr => ∃ k : Nat, k ≤ 8 ∧ i = .int .i64 k ∧ Hid (ArrB 66 wr (B + 1) v) ∧ Hid (HasS wr hb (addGo v s k) y n a) ∧ w.grownBy wr (some hb))
            (fun i _ => 8 - (intOf i).toNat)
          case atStart => exact ⟨0, by omega, rfl, hV, hH, hg0⟩
          case round =>
            clear hV hH hg0 hg
            obtain ⟨k, hk, rfl, hV, hH, hg⟩ := hrel
            by_cases hlt : k < 8
            · have hl8 := hid ((addGo_len v s k).trans HS.out)
              have c1 := hV.out.cell k (by rw [hlv.out]; exact hlt)
              have c2 := hH.out.cellS hl8.out k hlt
              have f2 := hH.out.free k
              have l1 := hV.out.lt
              have l2 := hH.out.lt
              go_wp2_with fail
              (refine wp_region_ext_tail 13 (by kernel_rfl) (by kernel_rfl) ?_; simp only [List.take_succ_cons, List.take_zero, List.drop_succ_cons, List.drop_zero]; (repeat (go_big_quiet_step (first | fail))); refine wpQuiet_nil ?_; rintro _ ⟨xw, rfl⟩)
              go_wp2
              go_roundw
              case rel =>
                rw [iv_add]
                refine ⟨k + 1, by omega, by go_num, hid ((hV.out.ext _).other (by show B + 1 ≠ hb; omega) _), hid ?_, grownBy_setCell (grownBy_ext hg _) (.inl rfl) _⟩
                exact HasS.put (hH.out.below (wr.ext_below xw) hH.out.lt) k _ (shaC_setS _ _ _ _ _ _ (by rw [hl8.out]; exact hlt))
              case measure => simp [intOf]; omega
            · obtain rfl : k = 8 := by omega
              have f1 := hH.out.free 136
              have l2 := hH.out.lt
              have c1 := hH.out.cellN ((addGo_len v s 8).trans HS.out) HY.out
              go_wp2
              go_end0
              refine ⟨rfl, ?_, grownBy_setCell hg (.inl rfl) _⟩
              have h7 := HasS.put hH.out 136 (.int .i64 0) (shaC_setN _ _ n 0 a ((addGo_len v s 8).trans HS.out) HY.out)
              rw [HV.out, HBL.out] at h7
              exact h7
end Go.Proofs.Ytmlaenfgfgloeaa
