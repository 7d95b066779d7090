import Derived.Test.YtmlaenfgfgloeaaKecW
import Derived.Test.YtmlaenfgfgloeaaArr
/-! keccak.(*Hasher).Sum, New, Sum. -/
set_option maxRecDepth 4000
set_option linter.unusedVariables false
set_option linter.unusedSimpArgs false
namespace Go
open Go.RowKit
theorem run_copy_any {P : Program} (w : World) (dT sT ty elem : TypeId) (g dLen dCap : Nat) (sv : Value) (m : Nat) (cur : Array Value) (t : TypeId) (cs : List Value)
    (hu : P.underlying dT = some (.slice elem)) (hs : (P.info? elem).map (·.size) = some 1)
    (hg : w.heap[g]? = some (.cells cur t (0, 0))) (hr : RdV w sv m 1 cs) (hm : m ≤ dLen) (hfit : m ≤ cur.size) :
    (Builtin.copy_ #[dT, sT] ty #[.slice (some ⟨g, 0, none⟩) dLen dCap, sv]).run P w = .ok (goInt m) (w.setRow g (setPart cur 0 cs.toArray)) := by
  obtain ⟨hl, h1, ao, c, rfl, hcell⟩ := hr
  rw [Nat.mul_one] at hl
  rcases Nat.eq_zero_or_pos m with h0 | h0
  · subst h0
    have : cs = [] := by simpa using hl
    subst this
    have he : setPart cur 0 ([] : List Value).toArray = cur := by simp [setPart]
    rw [he, setRow_self w g cur t (0, 0) hg]
    cases hq : P.info? elem with
    | none => simp [hq] at hs
    | some i =>
      cases ao <;> simp [Builtin.copy_, run_underlying hu, Builtin.lenOf, Builtin.firstCells, sizeOf, typeInfo, hq, storeCells, loadCells, loadCellsFrom]
  · obtain ⟨ad, rfl, hc⟩ := hcell h0
    have := run_copy_row P w dT sT ty elem g 0 dLen dCap ad m c cur t cs hu hs hg (by rw [hl]; exact (Nat.min_eq_left hm).symm) hc (by omega) h1
    rw [this, hl]
    simp [setPart, hl]
theorem wpList_copy_any {P : Program} {ops : Array Oper} {rest : List Oper} {o : Oper} {a : Act} {w : World} {Q : Exit → Act → World → Prop} (hgd : o.guard = none) (d x : Operand) (dT sT : TypeId)
    (ho : o.op = .call { callee := .builtin .copy, args := #[d, x], argTypes := #[dT, sT] }) (elem : TypeId) (g dLen dCap : Nat) (hd : a.eval d = .slice (some ⟨g, 0, none⟩) dLen dCap) (sv : Value) (hx : a.eval x = sv) (m : Nat) (cur : Array Value) (t : TypeId) (cs : List Value)
    (hu : P.underlying dT = some (.slice elem)) (hs : (P.info? elem).map (·.size) = some 1)
    (hg : w.heap[g]? = some (.cells cur t (0, 0))) (hr : RdV w sv m 1 cs) (hm : m ≤ dLen) (hfit : m ≤ cur.size)
    (h : wpList P ops Q rest (a.put o.dst (goInt m)) (w.setRow g (setPart cur 0 cs.toArray))) : wpList P ops Q (o :: rest) a w :=
  wpList_plain hgd fun _ hK => by
    have hrun := run_copy_any w dT sT o.type elem g dLen dCap sv m cur t cs hu hs hg hr hm hfit
    unfold Oper.wp execOp
    simp only [ho, resolve, invoke, builtin, Sem.run_bind, Sem.run_pure, Result.andThen_ok, List.map_toArray, List.map_cons, List.map_nil, hd, hx, hrun]
    exact hK _ _ h
end Go
namespace Go.Proofs.Ytmlaenfgfgloeaa
open Go.RowKit Go.Shelf

theorem iv_byte' (x : BitVec 64) : iv x % 256 = yv (x.setWidth 8) := by
  unfold yv iv; rw [BitVec.toNat_setWidth]; omega
theorem uHash : Try.prog.underlying 29 = some (.array 32 5) := by kernel_rfl
theorem iHash : (Try.prog.info? 29).map (·.size) = some 32 := by kernel_rfl
/-- The last block. -/
def lastL (rest : List (BitVec 8)) : List (BitVec 8) :=
  let a := rest ++ List.replicate (136 - rest.length) 0
  let b := a.set rest.length 1
  b.set 135 (ny b 135 ||| 128)
theorem lastL_len (rest : List (BitVec 8)) (h : rest.length < 136) : (lastL rest).length = 136 := by simp [lastL]; omega
def outGo (s : List (BitVec 64)) : Nat → List (BitVec 8)
  | 0 => List.replicate 32 0
  | i + 1 => (outGo s i).set i ((nb s (i / 8) >>> (8 * (i % 8))).setWidth 8)
theorem outGo_len (s : List (BitVec 64)) (i : Nat) : (outGo s i).length = 32 := by induction i <;> simp [outGo, *]
def outL (s : List (BitVec 64)) : List (BitVec 8) := outGo s 32
def zero136 : List (BitVec 8) := List.replicate 136 0
theorem zero136_len : zero136.length = 136 := by simp [zero136]
theorem setPart_rest (rest : List (BitVec 8)) (h : rest.length ≤ 136) : setPart (cellsY zero136) 0 (rest.map fun y => Value.int .u8 (yv y)).toArray = cellsY (rest ++ List.replicate (136 - rest.length) 0) := by
  obtain ⟨k, hk⟩ : ∃ k, 136 = rest.length + k := ⟨136 - rest.length, by omega⟩
  have h1 : zero136 = List.replicate rest.length 0 ++ List.replicate k 0 := by rw [List.replicate_append_replicate, ← hk]; rfl
  have h2 : 136 - rest.length = k := by omega
  rw [h1, h2]
  unfold setPart cellsY
  simp
theorem yv_or (x y : BitVec 8) : bits .or .u8 (yv x) (yv y) = yv (x ||| y) := by
  unfold yv; rw [u8_or_nat _ _ x.isLt y.isLt, BitVec.toNat_or]
def zero32 : List (BitVec 8) := List.replicate 32 0
theorem zInfo32 : (Try.prog.info? 29).bind (·.zero) = some (.agg (cellsY zero32)) := by kernel_rfl
def zero25 : List (BitVec 64) := List.replicate 25 0
theorem zInfo25 : (Try.prog.info? 23).bind (·.zero) = some (.agg (cellsB zero25)) := by kernel_rfl
theorem zInfo : (Try.prog.info? 65).bind (·.zero) = some (.agg (cellsY zero136)) := by kernel_rfl
theorem uOne : (Try.prog.info? 5).map (·.size) = some 1 := by kernel_rfl
theorem u136 : Try.prog.underlying 65 = some (.array 136 5) := by kernel_rfl

theorem spec_one {o : Oper} {y : Nat → Option Bool} {X Y : Prop} (hg : o.guard = none) (h : X) : if Region.wanted o y then X else Y := by
  rw [if_pos (by simp [Region.wanted, hg])]; exact h
/-- What the operations of 's := absorb(h.s, last[:])' make. -/
def sumΦ (B hb lb : Nat) (s s2 : List (BitVec 64)) (i : Nat) (v : Value) (w : World) : Prop :=
  match i with
  | 0 => v = .pointer (some ⟨hb, 0, none⟩)
  | 1 => v = .pointer (some ⟨hb, 0, none⟩)
  | 2 => v = .pointer (some ⟨hb, 0, none⟩)
  | 3 => v = .agg (cellsB s)
  | 4 => v = .slice (some ⟨lb, 0, none⟩) 136 136
  | 5 => v = .agg (cellsB s2)
  | 6 => ∃ b, v = .pointer (some ⟨b, 0, none⟩) ∧ B ≤ b ∧ w.heap[b]? = some (.cells (cellsB zero25) 23 (0, 0))
  | _ => True
theorem sumΦ_stable (B hb lb : Nat) (s s2 : List (BitVec 64)) : ∀ i v w w', sumΦ B hb lb s s2 i v w → Below w.heap.size w w' → sumΦ B hb lb s s2 i v w' := by
  intro i v w w' h hbl
  match i, h with
  | 0, h => exact h
  | 1, h => exact h
  | 2, h => exact h
  | 3, h => exact h
  | 4, h => exact h
  | 5, h => exact h
  | 6, ⟨b, h1, h2, h3⟩ => exact ⟨b, h1, h2, by rw [hbl.block b (Array.getElem?_eq_some_iff.1 h3).1]; exact h3⟩
  | _ + 7, _ => exact trivial

set_option maxRecDepth 20000 in
set_option maxHeartbeats 1000000 in
theorem hsum_any (hb : Nat) (s : List (BitVec 64)) (rest : List (BitVec 8)) (w : World) (hs : s.length = 25) (hH : HasH 0 w hb s rest) (hl : rest.length < 136) :
    Calls Try.prog 17 #[.pointer (some ⟨hb, 0, none⟩)] w fun e w' => e = .returned (.agg (cellsY (outL (absL s (lastL rest))))) ∧ Below w.heap.size w w' := by
  obtain ⟨rv, hH1, hR1, -⟩ := hH
  have hbl := (Array.getElem?_eq_some_iff.1 hH1).1
  have cv : w.cell? ⟨hb, 25, none⟩ = some rv := by rw [cell_of_row w hb 25 _ _ _ hH1, Array.getElem?_push]; simp [size_cellsB, hs]
  have HH := hid hH1
  have HR := hid hR1
  have HS := hid hs
  obtain ⟨ra, rc, rfl, hrc, -⟩ := hR1
  clear hH1 hs
  go_enter Try.func17, Try.ntmps17
  go_wp2_with (first | (refine wpList_alloc_new rfl 29 rfl (cellsY zero32) zInfo32 ?_; simp only [Act.put, List.setIfInBounds_toArray, List.set_cons_zero, List.set_cons_succ]) | (refine wpList_alloc_new rfl 65 rfl (cellsY zero136) zInfo ?_; simp only [Act.put, List.setIfInBounds_toArray, List.set_cons_zero, List.set_cons_succ]))
  obtain ⟨w1, hw1⟩ : ∃ w1, w1 = (w.alloc (.cells (cellsY zero32) 29)).alloc (.cells (cellsY zero136) 65) := ⟨_, rfl⟩
  have hb1 : Below w.heap.size w w1 := by rw [hw1]; exact ((Below.refl _ _).alloc (Nat.le_refl _) _).alloc (by simp) _
  have hz1 : w1.heap.size = w.heap.size + 2 := by rw [hw1]; simp
  have hO : Hid (ArrY 29 w1 w.heap.size zero32) := hid (by rw [hw1]; exact (ArrY.new _ w _).alloc _)
  have hL : Hid (ArrY 65 w1 (w.heap.size + 1) zero136) := hid (by
    rw [hw1]
    have := ArrY.new 65 (w.alloc (.cells (cellsY zero32) 29)) zero136
    rw [World.size_alloc] at this; exact this)
  have cv1 : w1.cell? ⟨hb, 25, none⟩ = some (Value.slice ra rest.length rc) := (hb1.cell (p := ⟨hb, 25, none⟩) hbl).trans cv
  have hR1 := hid (HR.out.below hb1)
  have hH1 : Hid (w1.heap[hb]? = _) := hid ((hb1.block hb hbl).trans HH.out)
  rw [← hw1]
  clear hw1 cv
  simp only [World.size_alloc]
  have hbl1 : hb < w1.heap.size := by omega
  have hs1 : w.heap.size < w1.heap.size := by omega
  have hs2 : w.heap.size + 1 < w1.heap.size := by omega
  clear hz1
  go_wp2
  (refine wp_region_ext_tail 5 (by kernel_rfl) (by kernel_rfl) ?_; simp only [List.take_succ_cons, List.take_zero, List.drop_succ_cons, List.drop_zero]; (repeat (go_big_quiet_step (first | fail))); refine wpQuiet_nil ?_; rintro _ ⟨xw, rfl⟩)
  have hL2 := (hL.out.ext xw)
  refine wpList_copy_any rfl (.tmp 9) (.tmp 13) 27 27 rfl 5 (w.heap.size + 1) 136 136 rfl _ rfl rest.length _ _ _ uSY uOne hL2 (RdY.toV (hR1.out.below (World.ext_below _ _))) (by omega) (by rw [size_cellsY, zero136_len]; omega) ?_
  rw [setPart_rest rest (by omega)]
  obtain ⟨y1, hy1⟩ : ∃ y1, y1 = rest ++ List.replicate (136 - rest.length) 0 := ⟨_, rfl⟩
  have hyl : y1.length = 136 := by rw [hy1]; simp; omega
  rw [← hy1]
  have hL3 : Hid (ArrY 65 ((w1.ext xw).setRow (w.heap.size + 1) (cellsY y1)) (w.heap.size + 1) y1) := hid (heap_setRow _ _ _ _ _ hL2)
  have hO3 : Hid (ArrY 29 ((w1.ext xw).setRow (w.heap.size + 1) (cellsY y1)) w.heap.size zero32) := hid (by
    show ((w1.ext xw).setRow (w.heap.size + 1) (cellsY y1)).heap[w.heap.size]? = _
    rw [setRow_other' _ _ _ _ (by omega)]; exact hO.out.ext xw)
  have hb3 : Below w.heap.size w ((w1.ext xw).setRow (w.heap.size + 1) (cellsY y1)) := below_setRow (World.ext_below_of hb1 hb1.size xw) _ (by omega) _
  generalize (w1.ext xw).setRow (w.heap.size + 1) (cellsY y1) = w3 at hL3 hO3 hb3 ⊢
  clear hL2 hL hO hR1 hH1 cv1 hb1 hbl1 hs1 hs2
  have cv3 : w3.cell? ⟨hb, 25, none⟩ = some (Value.slice ra rest.length rc) := (hb3.cell (p := ⟨hb, 25, none⟩) hbl).trans (by rw [cell_of_row w hb 25 _ _ _ HH.out, Array.getElem?_push]; simp [size_cellsB, HS.out])
  have c1 := hL3.out.cell rest.length (by rw [hyl]; omega)
  have f1 := hL3.out.free rest.length
  have hL4 : Hid (ArrY 65 (w3.setCell ⟨w.heap.size + 1, rest.length, none⟩ (.int .u8 1)) (w.heap.size + 1) (y1.set rest.length 1)) := hid (hL3.out.set rest.length 1)
  have c2 := hL4.out.cell 135 (by rw [List.length_set, hyl]; omega)
  have f2 := hL3.out.free 135
  have HYL := hid hyl
  have HY1 := hid hy1
  clear hy1 hyl
  go_wp2
  have hL5 : Hid (ArrY 65 ((w3.setCell ⟨w.heap.size + 1, rest.length, none⟩ (.int .u8 1)).setCell ⟨w.heap.size + 1, 135, none⟩ (.int .u8 (bits .or .u8 (yv (ny (y1.set rest.length 1#8) 135)) 128))) (w.heap.size + 1) (lastL rest)) := hid (by
    have h1 := hL4.out.set 135 (ny (y1.set rest.length 1#8) 135 ||| 128)
    rw [← yv_or] at h1
    rw [HY1.out] at h1 ⊢
    exact h1)
  have hO5 : Hid (ArrY 29 ((w3.setCell ⟨w.heap.size + 1, rest.length, none⟩ (.int .u8 1)).setCell ⟨w.heap.size + 1, 135, none⟩ (.int .u8 (bits .or .u8 (yv (ny (y1.set rest.length 1#8) 135)) 128))) w.heap.size zero32) := hid ((hO3.out.other (by show w.heap.size ≠ w.heap.size + 1; omega) _).other (by show w.heap.size ≠ w.heap.size + 1; omega) _)
  have hb5 : Below w.heap.size w ((w3.setCell ⟨w.heap.size + 1, rest.length, none⟩ (.int .u8 1)).setCell ⟨w.heap.size + 1, 135, none⟩ (.int .u8 (bits .or .u8 (yv (ny (y1.set rest.length 1#8) 135)) 128))) := (hb3.setCell (p := ⟨w.heap.size + 1, rest.length, none⟩) (Nat.le_succ _) _).setCell (p := ⟨w.heap.size + 1, 135, none⟩) (Nat.le_succ _) _
  generalize (w3.setCell ⟨w.heap.size + 1, rest.length, none⟩ (.int .u8 1)).setCell ⟨w.heap.size + 1, 135, none⟩ (.int .u8 (bits .or .u8 (yv (ny (y1.set rest.length 1#8) 135)) 128)) = w5 at hL5 hO5 hb5 ⊢
  clear hL4 c2 f2 c1 f1 hL3 hO3 hb3 cv3
  have hbl5 : hb < w5.heap.size := Nat.lt_of_lt_of_le hbl hb5.size
  have hl5 := hL5.out.lt
  have HW : Hid (w5.heap[hb]? = some (.cells ((cellsB s).push (Value.slice ra rest.length rc)) 59 (0, 0))) := hid ((hb5.block hb hbl).trans HH.out)
  have iS := hid (show (Try.prog.info? 23).map (·.size) = some (cellsB s).size by rw [size_cellsB, HS.out]; exact iArr25)
  have pS := hid (fun (j : Nat) (u : Value) (h : (cellsB s)[j]? = some u) => show ((cellsB s).push (Value.slice ra rest.length rc))[0 + j]? = some u by
    rw [Nat.zero_add, Array.getElem?_push]
    have hj : j < (cellsB s).size := (Array.getElem?_eq_some_iff.1 h).1
    rw [if_neg (by omega)]; exact h)
  have hll := lastL_len rest hl
  have HRL : Hid (RdY w5 (.slice (some ⟨w.heap.size + 1, 0, none⟩) 136 136) (lastL rest)) := hid ⟨_, 136, by rw [hll], by omega, fun _ => ⟨_, 0, rfl, hl5, fun j hj => by rw [Nat.zero_add]; exact hL5.out.cell j hj⟩⟩
  have HA := hid fun w1 (h : RdY w1 (.slice (some ⟨w.heap.size + 1, 0, none⟩) 136 136) (lastL rest)) => absorb_any s _ _ w1 HS.out h hll
  have hlA : (absL s (lastL rest)).length = 25 := by rw [absL_len]; exact HS.out
  obtain ⟨s2, hs2⟩ : ∃ s2, s2 = absL s (lastL rest) := ⟨_, rfl⟩
  rw [← hs2] at HA hlA
  have iA := hid (show (Try.prog.info? 23).map (·.size) = some (cellsB s2).size by rw [size_cellsB, hlA]; exact iArr25)
  have zA := hid (show (cellsB zero25).size = (cellsB s2).size by rw [size_cellsB, size_cellsB, hlA]; rfl)
  have HS2 := hid hs2
  have HLA := hid hlA
  clear hs2 hlA hll
  refine wp_region_spec_tail 7 (by kernel_rfl) (sumΦ w5.heap.size hb (w.heap.size + 1) s s2) (by kernel_rfl) (sumΦ_stable _ _ _ _ _) ?_ ?_
  · intro i o hi ho a' w' hL
    have hbw : Below w5.heap.size w5 w' := hL.below
    have hsz := hbw.size
    match i, hi with
    | 0, _ =>
      simp at ho; subst ho
      refine spec_one rfl ?_
      have h1 : a'.tmps[0]? = _ := hL.same 0 (by simp)
      simp at h1
      go_simp
      exact ⟨_, rfl, Below.refl _ _, rfl⟩
    | 1, _ =>
      simp at ho; subst ho
      refine spec_one rfl ?_
      have h1 : a'.tmps.getD 25 undef = _ := hL.made ⟨0, Ground.data⟩ (by simp) rfl _ 25 rfl rfl (by simp)
      simp at h1
      go_simp
      exact ⟨_, rfl, Below.refl _ _, rfl⟩
    | 2, _ =>
      simp at ho; subst ho
      refine spec_one rfl ?_
      have h1 : a'.tmps.getD 26 undef = _ := hL.made ⟨1, Ground.data⟩ (by simp) rfl _ 26 rfl rfl (by simp)
      simp at h1
      go_simp
      exact ⟨_, rfl, Below.refl _ _, rfl⟩
    | 3, _ =>
      simp at ho; subst ho
      refine spec_one rfl ?_
      have h1 : a'.tmps.getD 27 undef = .pointer (some ⟨hb, 0, none⟩) := hL.made ⟨2, Ground.data⟩ (by simp) rfl _ 27 rfl rfl (by simp)
      have hX : w'.heap[hb]? = _ := (hbw.block hb hbl5).trans HW.out
      unfold Oper.wp
      rw [run_load_part 23 (.tmp 27) rfl hb 0 h1 _ _ (cellsB s) _ _ hX pS.out uArr25 rfl iS.out]
      exact ⟨_, rfl, Below.refl _ _, rfl⟩
    | 4, _ =>
      simp at ho; subst ho
      refine spec_one rfl ?_
      have h1 : a'.tmps[3]? = _ := hL.same 3 (by simp)
      simp at h1
      go_simp
      exact ⟨_, rfl, Below.refl _ _, rfl⟩
    | 5, _ =>
      simp at ho; subst ho
      refine spec_one rfl ?_
      have h1 : a'.tmps.getD 28 undef = .agg (cellsB s) := hL.made ⟨3, Ground.data⟩ (by simp) rfl _ 28 rfl rfl (by simp)
      have h2 : a'.tmps.getD 29 undef = .slice (some ⟨w.heap.size + 1, 0, none⟩) 136 136 := hL.made ⟨4, Ground.data⟩ (by simp) rfl _ 29 rfl rfl (by simp)
      simp at h1 h2
      go_simp
      refine (HA.out _ (HRL.out.below hbw)).mono ?_
      rintro e w'' ⟨rfl, hb'⟩
      exact ⟨_, rfl, hb', rfl⟩
    | 6, _ =>
      simp at ho; subst ho
      refine spec_one rfl ?_
      refine wp_alloc_new 23 rfl (cellsB zero25) zInfo25 ?_
      exact ⟨_, rfl, (Below.refl _ _).alloc (Nat.le_refl _) _, _, rfl, hsz, World.alloc_heap_new _ _⟩
  intro f w6 hb6 hf
  have e5 := hf 5 _ 30 (by omega) rfl rfl (by simp)
  have e6 := hf 6 _ 4 (by omega) rfl rfl (by simp)
  simp only [List.take_succ_cons, List.take_zero, List.drop_succ_cons, List.drop_zero, putAll, Act.put, List.setIfInBounds_toArray, List.set_cons_zero, List.set_cons_succ]
  obtain ⟨B4, q1, q2, q3⟩ := e6
  have q1' : f 6 = .pointer (some ⟨B4, 0, none⟩) := q1
  have e5' : f 5 = .agg (cellsB s2) := e5
  refine wpList_store_row rfl 23 (.tmp 4) (.tmp 30) rfl B4 (cellsB s2) q1' e5' 23 _ q3 iA.out zA.out (one_cellsB s2) ?_
  have hS6 : Hid (ArrB 23 (w6.setRow B4 (cellsB s2)) B4 s2) := hid (heap_setRow _ _ _ _ _ q3)
  have hlB : w.heap.size < B4 := Nat.lt_of_lt_of_le (Nat.lt_of_lt_of_le (Nat.lt_succ_self _) (Nat.le_of_lt hl5)) q2
  have hO6 : Hid (ArrY 29 (w6.setRow B4 (cellsB s2)) w.heap.size zero32) := hid (by
    show (w6.setRow B4 (cellsB s2)).heap[w.heap.size]? = _
    rw [setRow_other' _ _ _ _ (by omega)]
    exact hO5.out.below hb6 (by omega))
  have hb7 : Below w.heap.size w (w6.setRow B4 (cellsB s2)) := below_setRow (hb5.trans (hb6.mono hb5.size)) _ (by omega) _
  rw [show f (0 + 1 + 1 + 1 + 1 + 1 + 1) = .pointer (some ⟨B4, 0, none⟩) from q1']
  generalize w6.setRow B4 (cellsB s2) = w7 at hO6 hS6 hb7 ⊢
  clear HRL HW hbl5 hl5 hL5 hO5 hb5 HA zA iS pS iA hb6 hf e5 e5' q1 q1' q2 q3
  simp only [Act.put]
  go_wp2
  go_loopw [31] (fun i wr => ∃ k : Nat, k ≤ 32 ∧ i = .int .i64 k ∧ Hid (ArrY 29 wr w.heap.size (outGo s2 k)) ∧ Hid (ArrB 23 wr B4 s2) ∧ Below w.heap.size w wr)
    (fun i _ => 32 - (intOf i).toNat)
  case atStart => exact ⟨0, by omega, rfl, hO6, hS6, hb7⟩
  case round =>
    clear hO6 hS6 hb7
    obtain ⟨k, hk, rfl, hO, hS, hb⟩ := hrel
    by_cases hlt : k < 32
    · have h8 : k / 8 < 25 := by omega
      have hlen := HLA.out
      have c1 := hS.out.cell (k / 8) (by omega)
      have c2 := hO.out.cell k (by rw [outGo_len]; omega)
      have f2 := hO.out.free k
      have l1 := hS.out.lt
      have l2 := hO.out.lt
      have hsh : k % 8 < 8 := Nat.mod_lt _ (by omega)
      have n1 := iv_nonneg (nb s2 (k / 8))
      clear hlen
      go_wp2
      go_roundw
      case rel =>
        refine ⟨k + 1, by omega, by go_num, ?_, hid (hS.out.other (by show B4 ≠ w.heap.size; omega) _), (by repeat (first | (with_reducible first | exact Below.refl _ _ | assumption | refine World.ext_below_of ?_ ?_ _ | refine Below.setCell ?_ ?_ _ | refine Below.alloc ?_ ?_ _ | refine Below.drew ?_ | refine World.size_le_ext _ _ _ ?_) | (solve | simp [go_sem] | (simp [go_sem]; omega) | omega)))⟩
        rw [iv_shr, iv_byte']
        exact hid (hO.out.set k _)
      case measure => simp [intOf]; omega
    · obtain rfl : k = 32 := by omega
      have hlO : (outL s2).length = 32 := outGo_len s2 32
      have iO := hid (show (Try.prog.info? 29).map (·.size) = some (cellsY (outL s2)).size by rw [size_cellsY, hlO]; exact iHash)
      have nO := hid (one_cellsY (outL s2))
      have hO' : Hid (ArrY 29 wr w.heap.size (outL s2)) := hO
      obtain ⟨y2, hy2⟩ : ∃ y2, y2 = outL s2 := ⟨_, rfl⟩
      rw [← hy2] at iO nO hO'
      have HY2 := hid hy2
      clear hO hy2 hlO hlt hk
      go_wp2_with (first | (refine wpList_load_row rfl 29 (.tmp 2) rfl w.heap.size rfl 29 _ (0, 0) _ hO'.out uHash rfl iO.out ?_; simp only [Act.put, List.setIfInBounds_toArray, List.set_cons_zero, List.set_cons_succ]) | (refine wpList_store_row rfl 29 (.tmp 2) (.tmp 46) rfl w.heap.size _ rfl rfl 29 _ hO'.out iO.out rfl nO.out ?_; simp only [Act.put]))
      refine bodyPost_ret (results_cell_row rfl _ _ w.heap.size 29 (cellsY y2) (0, 0) _ rfl (heap_setRow _ _ _ _ _ hO'.out) uHash rfl iO.out) rfl ⟨by rw [HY2.out, HS2.out], below_setRow hb _ (Nat.le_refl _) _⟩

theorem hnil_any (w : World) : Calls Try.prog 17 #[.pointer none] w fun e w' => e = .returned (.agg (cellsY zero32)) ∧ Below w.heap.size w w' := by
  have iZ := hid (show (Try.prog.info? 29).map (·.size) = some (cellsY zero32).size from iHash)
  have hZ := hid (ArrY.new 29 w zero32)
  have hb : Below w.heap.size w (w.alloc (.cells (cellsY zero32) 29)) := (Below.refl _ _).alloc (Nat.le_refl _) _
  go_enter Try.func17, Try.ntmps17
  go_wp2_with (first | (refine wpList_alloc_new rfl 29 rfl (cellsY zero32) zInfo32 ?_; simp only [Act.put, List.setIfInBounds_toArray, List.set_cons_zero, List.set_cons_succ]) | (refine wpList_load_row rfl 29 (.tmp 2) rfl w.heap.size rfl 29 _ (0, 0) _ hZ.out uHash rfl iZ.out ?_; simp only [Act.put, List.setIfInBounds_toArray, List.set_cons_zero, List.set_cons_succ]) | (refine wpList_store_row rfl 29 (.tmp 2) (.tmp 8) rfl w.heap.size _ rfl rfl 29 _ hZ.out iZ.out rfl (one_cellsY zero32) ?_; simp only [Act.put]))
  refine bodyPost_ret (results_cell_row rfl _ _ w.heap.size 29 (cellsY zero32) (0, 0) _ rfl (heap_setRow _ _ _ _ _ hZ.out) uHash rfl iZ.out) rfl ⟨rfl, below_setRow hb _ (Nat.le_refl _) _⟩

theorem wnil_any (v : Value) (w : World) : Calls Try.prog 16 #[.pointer none, v] w fun e w' => e = .returned (.tuple #[]) ∧ Below w.heap.size w w' := by
  go_enter Try.func16, Try.ntmps16
  go_wp2
  refine bodyPost_ret (results_none rfl _ _ _) rfl ⟨rfl, (by repeat (first | (with_reducible first | exact Below.refl _ _ | assumption | refine World.ext_below_of ?_ ?_ _ | refine Below.setCell ?_ ?_ _ | refine Below.alloc ?_ ?_ _ | refine Below.drew ?_ | refine World.size_le_ext _ _ _ ?_) | (solve | simp [go_sem] | (simp [go_sem]; omega) | omega)))⟩

def hasher0 : Array Value := (cellsB zero25).push (.slice none 0 0)
theorem new_any (w : World) : Calls Try.prog 15 #[] w fun e w' => e = .returned (.pointer (some ⟨w.heap.size, 0, none⟩)) ∧ HasH 0 w' w.heap.size zero25 [] ∧ Below w.heap.size w w' := by
  go_enter Try.func15, Try.ntmps15
  go_wp2
  go_ret
  refine ⟨rfl, ⟨.slice none 0 0, ?_, RdY.nil _ _ _, fun h => absurd rfl h⟩, (by repeat (first | (with_reducible first | exact Below.refl _ _ | assumption | refine World.ext_below_of ?_ ?_ _ | refine Below.setCell ?_ ?_ _ | refine Below.alloc ?_ ?_ _ | refine Below.drew ?_ | refine World.size_le_ext _ _ _ ?_) | (solve | simp [go_sem] | (simp [go_sem]; omega) | omega)))⟩
  exact World.alloc_heap_new _ _

/-- The hash of m. -/
def stateL (m : List (BitVec 8)) : List (BitVec 64) := absN zero25 m (m.length / 136)
def restL (m : List (BitVec 8)) : List (BitVec 8) := m.drop (136 * (m.length / 136))
def sumL (m : List (BitVec 8)) : List (BitVec 8) := outL (absL (stateL m) (lastL (restL m)))
theorem outL_len (s : List (BitVec 64)) : (outL s).length = 32 := outGo_len s 32
theorem sumL_len (m : List (BitVec 8)) : (sumL m).length = 32 := by unfold sumL; exact outL_len _
theorem stateL_def (m : List (BitVec 8)) : absN zero25 m (m.length / 136) = stateL m := rfl
theorem restL_def (m : List (BitVec 8)) : m.drop (136 * (m.length / 136)) = restL m := rfl
theorem sumL_def (m : List (BitVec 8)) : outL (absL (stateL m) (lastL (restL m))) = sumL m := rfl
theorem stateL_len (m : List (BitVec 8)) : (stateL m).length = 25 := by rw [stateL, absN_len]; simp [zero25]
theorem restL_len (m : List (BitVec 8)) : (restL m).length < 136 := by simp [restL]; omega

set_option maxHeartbeats 1000000 in
theorem sum_any (m : List (BitVec 8)) (v : Value) (w : World) (hr : RdY w v m) (hl : m.length ≤ 140737488355328) :
    Calls Try.prog 13 #[v] w fun e w' => e = .returned (.agg (cellsY (sumL m))) ∧ Below w.heap.size w w' := by
  have hlo := sumL_len m
  have iO := hid (show (Try.prog.info? 29).map (·.size) = some (cellsY (sumL m)).size by rw [size_cellsY, hlo]; exact iHash)
  have zO := hid (show (cellsY zero32).size = (cellsY (sumL m)).size by rw [size_cellsY, size_cellsY, hlo]; rfl)
  have nO := hid (one_cellsY (sumL m))
  have HR := hid hr
  obtain ⟨y2, hy2⟩ : ∃ y2, y2 = sumL m := ⟨_, rfl⟩
  rw [← hy2] at iO zO nO
  have HY2 := hid hy2
  clear hlo hr hy2
  have hb0 : Below w.heap.size w (w.alloc (.cells (cellsY zero32) 29)) := (Below.refl _ _).alloc (Nat.le_refl _) _
  go_enter Try.func13, Try.ntmps13
  go_wp2_with (first | (refine wpList_alloc_new rfl 29 rfl (cellsY zero32) zInfo32 ?_; simp only [Act.put, List.setIfInBounds_toArray, List.set_cons_zero, List.set_cons_succ]))
  refine (new_any _).mono ?_
  rintro e w1 ⟨rfl, hH1', hb1⟩
  rw [World.size_alloc] at hH1'
  have hH1 := hid hH1'
  clear hH1'
  go_wp2_with fail
  refine (write_any _ _ _ m v w1 (by simp [zero25]) hH1.out ((HR.out.below hb0).below hb1) (by simpa using hl)).mono ?_
  rintro e w2 ⟨rfl, hH2, hg2⟩
  rw [List.nil_append, stateL_def, restL_def] at hH2
  have hH3 := hid hH2
  clear hH2
  go_wp2_with fail
  refine (hsum_any _ _ _ _ (stateL_len m) hH3.out.weak (restL_len m)).mono ?_
  rintro e w3 ⟨rfl, hb3⟩
  have hZ1 : ArrY 29 w1 w.heap.size zero32 := (ArrY.new 29 w zero32).below hb1 (by simp)
  have hZ2 : ArrY 29 w2 w.heap.size zero32 := (hg2.block _ hZ1.lt (by simp)).trans hZ1
  have hZ3 : Hid (ArrY 29 w3 w.heap.size zero32) := hid (hZ2.below hb3 hZ2.lt)
  have hb4 : Below w.heap.size w w3 := ((hb0.trans (hb1.mono (by simp))).grown hg2 (by have := hb1.size; simp at this; omega) (fun k e => by simp at e; omega)).trans (hb3.mono (by have := hg2.size; have := hb1.size; simp at this; omega))
  rw [sumL_def, ← HY2.out]
  go_wp2_with (refine wpList_store_row rfl 29 (.tmp 2) (.tmp 9) rfl w.heap.size _ rfl rfl 29 _ hZ3.out iO.out zO.out nO.out ?_; simp only [Act.put])
  refine bodyPost_ret (results_cell_row rfl _ _ w.heap.size 29 (cellsY y2) (0, 0) _ rfl (heap_setRow _ _ _ _ _ hZ3.out) uHash rfl iO.out) rfl ⟨by rw [HY2.out], below_setRow hb4 _ (Nat.le_refl _) _⟩
end Go.Proofs.Ytmlaenfgfgloeaa
