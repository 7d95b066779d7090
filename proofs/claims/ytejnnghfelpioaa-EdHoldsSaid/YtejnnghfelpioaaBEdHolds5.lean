import Derived.RangeFuncNested
import Derived.RangeFuncBox
import Derived.RangeFuncBound
import Derived.RangeFuncCalls
import Derived.RangeFuncLeaves
import Derived.RangeFuncWrites
import Derived.Shelf.Abstract
import Derived.OwnWalkIn
import Derived.TacticsInMore
import Derived.LoopNIn
import Derived.LoopIn
import Derived.Laws.StructEq
import Derived.Test.YtejnnghfelpioaaBEdHolds4
set_option maxRecDepth 4000
set_option linter.unusedVariables false
set_option linter.unusedSimpArgs false
namespace Go.Proofs.Ytejnnghfelpioaa
open Go.RowKit
def dN : Nat := 37095705934669439343138083508754565189542113879843219016388785533085940283555
theorem d_cells : cellsW dN = #[.int .u64 8496970652267935907, .int .u64 31536524315187371, .int .u64 10144147576115030168, .int .u64 5909686906226998899] := by
  have e : ∀ i, i < 4 → lm dN i = if i = 0 then 8496970652267935907 else if i = 1 then 31536524315187371 else if i = 2 then 10144147576115030168 else 5909686906226998899 := by decide +kernel
  unfold cellsW; rw [e 0 (by decide), e 1 (by decide), e 2 (by decide), e 3 (by decide)]; rfl
theorem d_built : Try.prog.built 25 [(0, .int .u64 8496970652267935907), (1, .int .u64 31536524315187371), (2, .int .u64 10144147576115030168), (3, .int .u64 5909686906226998899)] = some (cellsW dN) := by rw [d_cells]; kernel_rfl
theorem dN_lt : dN < 2 ^ 256 := by decide +kernel
def fromW (e f g h : F5) : W4 := ⟨mul5 e f, mul5 g h, mul5 f g, mul5 e h⟩
theorem fromW_t (e f g h : F5) (he : T5 e) (hf : T5 f) (hg : T5 g) (hh : T5 h) : TW (fromW e f g h) := ⟨mul5_t _ _ he hf, mul5_t _ _ hg hh, mul5_t _ _ hf hg, mul5_t _ _ he hh⟩
def d25 : F5 := fOf ((dN + dN) % 2 ^ 256)
theorem d25_t : T5 d25 := fOf_t _ (Nat.mod_lt _ (by decide))
def plusW (p q : W4) : W4 :=
  fromW (sub5 (mul5 (add5 p.y p.x) (add5 q.y q.x)) (mul5 (sub5 p.y p.x) (sub5 q.y q.x)))
    (sub5 (add5 (mul5 p.z q.z) (mul5 p.z q.z)) (mul5 (mul5 p.t q.t) d25))
    (add5 (add5 (mul5 p.z q.z) (mul5 p.z q.z)) (mul5 (mul5 p.t q.t) d25))
    (add5 (mul5 (add5 p.y p.x) (add5 q.y q.x)) (mul5 (sub5 p.y p.x) (sub5 q.y q.x)))
theorem plusW_t (p q : W4) (hp : TW p) (hq : TW q) : TW (plusW p q) := by
  have a := mul5_t _ _ (sub5_t _ _ hp.y hp.x) (sub5_t _ _ hq.y hq.x)
  have b := mul5_t _ _ (add5_t _ _ hp.y hp.x) (add5_t _ _ hq.y hq.x)
  have c := mul5_t _ _ (mul5_t _ _ hp.t hq.t) d25_t
  have z := mul5_t _ _ hp.z hq.z
  exact fromW_t _ _ _ _ (sub5_t _ _ b a) (sub5_t _ _ (add5_t _ _ z z) c) (add5_t _ _ (add5_t _ _ z z) c) (add5_t _ _ b a)
def twiceW (p : W4) : W4 :=
  fromW (sub5 (add5 (mul5 p.x p.x) (mul5 p.y p.y)) (mul5 (add5 p.x p.y) (add5 p.x p.y)))
    (add5 (add5 (mul5 p.z p.z) (mul5 p.z p.z)) (sub5 (mul5 p.x p.x) (mul5 p.y p.y)))
    (sub5 (mul5 p.x p.x) (mul5 p.y p.y)) (add5 (mul5 p.x p.x) (mul5 p.y p.y))
theorem twiceW_t (p : W4) (hp : TW p) : TW (twiceW p) := by
  have a := mul5_t _ _ hp.x hp.x
  have b := mul5_t _ _ hp.y hp.y
  have c := mul5_t _ _ hp.z hp.z
  have s := add5_t _ _ hp.x hp.y
  exact fromW_t _ _ _ _ (sub5_t _ _ (add5_t _ _ a b) (mul5_t _ _ s s)) (add5_t _ _ (add5_t _ _ c c) (sub5_t _ _ a b)) (sub5_t _ _ a b) (add5_t _ _ a b)
def widenW (p : P2) : W4 := ⟨fOf p.x, fOf p.y, one5, mul5 (fOf p.x) (fOf p.y)⟩
theorem widenW_t (p : P2) (hp : LtP p) : TW (widenW p) := ⟨fOf_t _ hp.x, fOf_t _ hp.y, t5_one, mul5_t _ _ (fOf_t _ hp.x) (fOf_t _ hp.y)⟩
def noneW : W4 := ⟨zero5, one5, one5, zero5⟩
theorem noneW_t : TW noneW := ⟨t5_zero, t5_one, t5_one, t5_zero⟩
def pointW (p : W4) : P2 := ⟨val5 (mul5 p.x (inv5 p.z)) % pN, val5 (mul5 p.y (inv5 p.z)) % pN⟩
theorem bNone : Try.prog.built 66 [(1, .agg (cells5 one5)), (2, .agg (cells5 one5))] = some (cells4 noneW) := by kernel_rfl
theorem d_any (w : World) : Calls Try.prog 38 #[] w fun e w' => e = .returned (wd dN) ∧ Below w.heap.size w w' := by
  have hC0 := hid (ArrW.new 25 w 0)
  have hb0 : Below w.heap.size w (w.alloc (.cells (cellsW 0) 25)) := (Below.refl _ _).alloc (Nat.le_refl _) _
  have hB := hid d_built
  obtain ⟨x, hx⟩ : ∃ x, x = dN := ⟨_, rfl⟩
  rw [← hx] at hB ⊢
  clear hx
  unfold wd
  have iX := hid (iW x)
  have nX := hid (one_cellsW x)
  go_enter Try.func38, Try.ntmps38
  go_wp2_with (first | (refine wpList_alloc_new rfl 25 rfl (cellsW 0) zWd ?_; simp only [Act.put, pvA, pv0, pv1, World.size_alloc]) | (refine wpList_buildStore 25 _ (.tmp 0) 1 (cellsW x) _ rfl rfl rfl rfl rfl rfl (by simp) (by first | exact hB.out | (simp only [List.map_toArray, List.map_cons, List.map_nil]; exact hB.out)) rfl 25 _ hC0.out iX.out rfl nX.out ?_; simp only [Act.put, pvA, pv0, pv1]))
  refine bodyPost_ret (results_cell_row rfl _ _ w.heap.size 25 (cellsW x) (0, 0) _ rfl (heap_setRow' _ _ _ _ _ hC0.out) uWd rfl iX.out) rfl ⟨rfl, below_setRow' hb0 _ (Nat.le_refl _) _⟩
set_option maxRecDepth 100000 in
set_option maxHeartbeats 4000000 in
theorem none_any (w : World) : Calls Try.prog 54 #[] w fun e w' => e = .returned (w4 noneW) ∧ Below w.heap.size w w' := by
  unfold w4
  obtain ⟨w0, hw0, k0, hbl0⟩ := entry1 w 66 (cells4 zero4)
  have hb0_0 := hid k0
  clear k0
  go_enter Try.func54, Try.ntmps54
  (repeat ((fail_if_success (with_reducible refine Go.at_region ?_)); go_step))
  refine wp_region_lit ?_
  (refine wpList_alloc_new rfl 66 rfl (cells4 zero4) z4 ?_; simp only [Act.put, pvA, pv0, pv1]; (try simp only [World.size_alloc]))
  refine wpList_nil ?_
  rw [← hw0]
  clear hw0
  (repeat ((fail_if_success (with_reducible refine Go.at_region ?_)); go_step))
  refine list_tail 3 ?_
  simp only [List.take_succ_cons, List.take_zero]
  iterate 2 (refine calm_build rfl 64 _ rfl (cells5 one5) (by first | (simp only [List.map_toArray, List.map_cons, List.map_nil]; exact b5_one) | exact b5_one) ?_; simp only [Act.put, pvA, pv0, pv1])
  (refine calm_build rfl 66 _ rfl (cells4 noneW) (by first | (simp only [List.map_toArray, List.map_cons, List.map_nil]; exact bNone) | exact bNone) ?_; simp only [Act.put, pvA, pv0, pv1])
  refine calm_nil ?_
  intro wx1 hx1
  simp only [List.drop_succ_cons, List.drop_zero]
  (try simp only [Act.put, pvA, pv0, pv1])
  have fb0 := hb0_0.out.step hx1
  have hbb := hbl0.trans (hx1.mono hbl0.size)
  refine wpList_set _ _ _ rfl rfl rfl _ _ rfl rfl _ _ fb0 (i4 noneW) rfl (one_cells4 noneW) ?_
  replace fb0 := fb0.set (cells4 noneW)
  replace hbb := below_set hbb w.heap.size (by omega) (cells4 noneW)
  refine wpList_nil ?_
  obtain ⟨w1, hw⟩ : ∃ z, z = (wx1.setRow w.heap.size (cells4 noneW)) := ⟨_, rfl⟩
  rw [← hw] at hbb fb0 ⊢
  have hb0_1 := hid fb0
  have hbl1 := hbb
  clear hw hbb fb0 hx1 hbl0 hb0_0 
  (repeat ((fail_if_success (with_reducible refine Go.at_region ?_)); go_step))
  refine ret_blk w.heap.size 66 (cells4 noneW) rfl rfl hb0_1.out g4 (i4 noneW) rfl ?_
  exact ⟨rfl, hbl1⟩
set_option maxRecDepth 100000 in
set_option maxHeartbeats 4000000 in
theorem from_any (a b c d : F5) (w : World) (ha : T5 a) (hb : T5 b) (hc : T5 c) (hd : T5 d) : Calls Try.prog 73 #[fe a, fe b, fe c, fe d] w fun e w' => e = .returned (w4 (fromW a b c d)) ∧ Below w.heap.size w w' := by
  have c1 := hid fun w => mul5_any a b w ha hb
  have t1 := mul5_t a b ha hb
  obtain ⟨r1, e1⟩ : ∃ r, r = mul5 a b := ⟨_, rfl⟩
  rw [← e1] at c1 t1
  replace t1 := hid t1
  have E1 := hid e1
  clear e1
  have c2 := hid fun w => mul5_any c d w hc hd
  have t2 := mul5_t c d hc hd
  obtain ⟨r2, e2⟩ : ∃ r, r = mul5 c d := ⟨_, rfl⟩
  rw [← e2] at c2 t2
  replace t2 := hid t2
  have E2 := hid e2
  clear e2
  have c3 := hid fun w => mul5_any b c w hb hc
  have t3 := mul5_t b c hb hc
  obtain ⟨r3, e3⟩ : ∃ r, r = mul5 b c := ⟨_, rfl⟩
  rw [← e3] at c3 t3
  replace t3 := hid t3
  have E3 := hid e3
  clear e3
  have c4 := hid fun w => mul5_any a d w ha hd
  have t4 := mul5_t a d ha hd
  obtain ⟨r4, e4⟩ : ∃ r, r = mul5 a d := ⟨_, rfl⟩
  rw [← e4] at c4 t4
  replace t4 := hid t4
  have E4 := hid e4
  clear e4
  clear ha hb hc hd
  unfold fe w4 at *
  obtain ⟨w0, hw0, k4, k5, k6, k7, k8, hbl0⟩ := entry5 w 64 (cells5 a) 64 (cells5 b) 64 (cells5 c) 64 (cells5 d) 66 (cells4 zero4)
  have hb4_0 := hid k4
  have hb5_0 := hid k5
  have hb6_0 := hid k6
  have hb7_0 := hid k7
  have hb8_0 := hid k8
  clear k4 k5 k6 k7 k8
  go_enter Try.func73, Try.ntmps73
  (repeat ((fail_if_success (with_reducible refine Go.at_region ?_)); go_step))
  refine wp_region_lit ?_
  (refine wpList_box 64 (.tmp 0) rfl rfl (cells5 a) rfl ?_; simp only [Act.put, pvA, pv0, pv1]; (try simp only [World.size_alloc]))
  (refine wpList_box 64 (.tmp 1) rfl rfl (cells5 b) rfl ?_; simp only [Act.put, pvA, pv0, pv1]; (try simp only [World.size_alloc]))
  (refine wpList_box 64 (.tmp 2) rfl rfl (cells5 c) rfl ?_; simp only [Act.put, pvA, pv0, pv1]; (try simp only [World.size_alloc]))
  (refine wpList_box 64 (.tmp 3) rfl rfl (cells5 d) rfl ?_; simp only [Act.put, pvA, pv0, pv1]; (try simp only [World.size_alloc]))
  (refine wpList_alloc_new rfl 66 rfl (cells4 zero4) z4 ?_; simp only [Act.put, pvA, pv0, pv1]; (try simp only [World.size_alloc]))
  refine wpList_nil ?_
  rw [← hw0]
  clear hw0
  (repeat ((fail_if_success (with_reducible refine Go.at_region ?_)); go_step))
  refine draw_tail 13 (by kernel_rfl) (by kernel_rfl) (by kernel_rfl) ?_
  simp only [List.take_succ_cons, List.take_zero]
  (refine calm_whole rfl _ _ rfl _ rfl _ _ hb4_0.out g5 (i5 a) ?_; simp only [Act.put, pvA, pv0, pv1])
  (refine calm_whole rfl _ _ rfl _ rfl _ _ hb5_0.out g5 (i5 b) ?_; simp only [Act.put, pvA, pv0, pv1])
  (apply calm_on rfl; (focus (intro W hB; go_simp; refine (c1.out W).mono ?_; rintro _ _ ⟨rfl, hb'⟩; exact ⟨rfl, hb'⟩)); simp only [Act.put, pvA, pv0, pv1])
  (refine calm_whole rfl _ _ rfl _ rfl _ _ hb6_0.out g5 (i5 c) ?_; simp only [Act.put, pvA, pv0, pv1])
  (refine calm_whole rfl _ _ rfl _ rfl _ _ hb7_0.out g5 (i5 d) ?_; simp only [Act.put, pvA, pv0, pv1])
  (apply calm_on rfl; (focus (intro W hB; go_simp; refine (c2.out W).mono ?_; rintro _ _ ⟨rfl, hb'⟩; exact ⟨rfl, hb'⟩)); simp only [Act.put, pvA, pv0, pv1])
  (refine calm_whole rfl _ _ rfl _ rfl _ _ hb5_0.out g5 (i5 b) ?_; simp only [Act.put, pvA, pv0, pv1])
  (refine calm_whole rfl _ _ rfl _ rfl _ _ hb6_0.out g5 (i5 c) ?_; simp only [Act.put, pvA, pv0, pv1])
  (apply calm_on rfl; (focus (intro W hB; go_simp; refine (c3.out W).mono ?_; rintro _ _ ⟨rfl, hb'⟩; exact ⟨rfl, hb'⟩)); simp only [Act.put, pvA, pv0, pv1])
  (refine calm_whole rfl _ _ rfl _ rfl _ _ hb4_0.out g5 (i5 a) ?_; simp only [Act.put, pvA, pv0, pv1])
  (refine calm_whole rfl _ _ rfl _ rfl _ _ hb7_0.out g5 (i5 d) ?_; simp only [Act.put, pvA, pv0, pv1])
  (apply calm_on rfl; (focus (intro W hB; go_simp; refine (c4.out W).mono ?_; rintro _ _ ⟨rfl, hb'⟩; exact ⟨rfl, hb'⟩)); simp only [Act.put, pvA, pv0, pv1])
  (refine calm_build rfl 66 _ rfl (cells4 ⟨r1, r2, r3, r4⟩) (by first | (simp only [List.map_toArray, List.map_cons, List.map_nil]; exact (b4 r1 r2 r3 r4)) | exact (b4 r1 r2 r3 r4)) ?_; simp only [Act.put, pvA, pv0, pv1])
  refine calm_nil ?_
  intro wx1 hx1
  simp only [List.drop_succ_cons, List.drop_zero]
  (try simp only [Act.put, pvA, pv0, pv1])
  have fb4 := hb4_0.out.step hx1
  have fb5 := hb5_0.out.step hx1
  have fb6 := hb6_0.out.step hx1
  have fb7 := hb7_0.out.step hx1
  have fb8 := hb8_0.out.step hx1
  have hbb := hbl0.trans (hx1.mono hbl0.size)
  refine wpList_set _ _ _ rfl rfl rfl _ _ rfl rfl _ _ fb8 (i4 ⟨r1, r2, r3, r4⟩) rfl (one_cells4 ⟨r1, r2, r3, r4⟩) ?_
  replace fb4 := fb4.other (show w.heap.size ≠ (w.heap.size + 1 + 1 + 1 + 1) by omega) (cells4 ⟨r1, r2, r3, r4⟩)
  replace fb5 := fb5.other (show (w.heap.size + 1) ≠ (w.heap.size + 1 + 1 + 1 + 1) by omega) (cells4 ⟨r1, r2, r3, r4⟩)
  replace fb6 := fb6.other (show (w.heap.size + 1 + 1) ≠ (w.heap.size + 1 + 1 + 1 + 1) by omega) (cells4 ⟨r1, r2, r3, r4⟩)
  replace fb7 := fb7.other (show (w.heap.size + 1 + 1 + 1) ≠ (w.heap.size + 1 + 1 + 1 + 1) by omega) (cells4 ⟨r1, r2, r3, r4⟩)
  replace fb8 := fb8.set (cells4 ⟨r1, r2, r3, r4⟩)
  replace hbb := below_set hbb (w.heap.size + 1 + 1 + 1 + 1) (by omega) (cells4 ⟨r1, r2, r3, r4⟩)
  refine wpList_nil ?_
  obtain ⟨w1, hw⟩ : ∃ z, z = (wx1.setRow (w.heap.size + 1 + 1 + 1 + 1) (cells4 ⟨r1, r2, r3, r4⟩)) := ⟨_, rfl⟩
  rw [← hw] at hbb fb4 fb5 fb6 fb7 fb8 ⊢
  have hb4_1 := hid fb4
  have hb5_1 := hid fb5
  have hb6_1 := hid fb6
  have hb7_1 := hid fb7
  have hb8_1 := hid fb8
  have hbl1 := hbb
  clear hw hbb fb4 fb5 fb6 fb7 fb8 hx1 hbl0 hb4_0 hb5_0 hb6_0 hb7_0 hb8_0 
  (repeat ((fail_if_success (with_reducible refine Go.at_region ?_)); go_step))
  refine ret_blk (w.heap.size + 1 + 1 + 1 + 1) 66 (cells4 ⟨r1, r2, r3, r4⟩) rfl rfl hb8_1.out g4 (i4 ⟨r1, r2, r3, r4⟩) rfl ?_
  exact ⟨(by rw [E4.out, E3.out, E2.out, E1.out]; first | done | rfl), hbl1⟩
set_option maxRecDepth 100000 in
set_option maxHeartbeats 4000000 in
theorem widen_any (p : P2) (w : World) (hp : LtP p) : Calls Try.prog 26 #[pt p] w fun e w' => e = .returned (w4 (widenW p)) ∧ Below w.heap.size w w' := by
  have c1 := hid fun w => feOf_any p.x w hp.x
  have t1 := fOf_t p.x hp.x
  obtain ⟨r1, e1⟩ : ∃ r, r = fOf p.x := ⟨_, rfl⟩
  rw [← e1] at c1 t1
  replace t1 := hid t1
  have E1 := hid e1
  clear e1
  have c2 := hid fun w => feOf_any p.y w hp.y
  have t2 := fOf_t p.y hp.y
  obtain ⟨r2, e2⟩ : ∃ r, r = fOf p.y := ⟨_, rfl⟩
  rw [← e2] at c2 t2
  replace t2 := hid t2
  have E2 := hid e2
  clear e2
  have c3 := hid fun w => mul5_any r1 r2 w t1.out t2.out
  have t3 := mul5_t r1 r2 t1.out t2.out
  obtain ⟨r3, e3⟩ : ∃ r, r = mul5 r1 r2 := ⟨_, rfl⟩
  rw [← e3] at c3 t3
  replace t3 := hid t3
  have E3 := hid e3
  clear e3
  clear hp
  unfold fe w4 pt wd at *
  obtain ⟨w0, hw0, k1, k2, hbl0⟩ := entry2 w 44 (cellsP p) 66 (cells4 zero4)
  have hb1_0 := hid k1
  have hb2_0 := hid k2
  clear k1 k2
  go_enter Try.func26, Try.ntmps26
  (repeat ((fail_if_success (with_reducible refine Go.at_region ?_)); go_step))
  refine wp_region_lit ?_
  (refine wpList_box 44 (.tmp 0) rfl rfl (cellsP p) rfl ?_; simp only [Act.put, pvA, pv0, pv1]; (try simp only [World.size_alloc]))
  (refine wpList_alloc_new rfl 66 rfl (cells4 zero4) z4 ?_; simp only [Act.put, pvA, pv0, pv1]; (try simp only [World.size_alloc]))
  refine wpList_nil ?_
  rw [← hw0]
  clear hw0
  (repeat ((fail_if_success (with_reducible refine Go.at_region ?_)); go_step))
  refine draw_new2 6 _ _ rfl 64 64 (cells5 zero5) (cells5 zero5) 3 4 rfl rfl rfl (by simp) z5 rfl rfl rfl (by simp) z5 (by decide) (by kernel_rfl) (by kernel_rfl) (by kernel_rfl) (by kernel_rfl) ?_
  simp only [List.take_succ_cons, List.take_zero]
  (apply calm_on rfl; (focus (intro W hB; go_simp; exact ⟨rfl, Below.refl _ _⟩)); simp only [Act.put, pvA, pv0, pv1])
  (refine calm_part rfl _ _ rfl _ _ rfl _ _ (cellsW (p).x) hb1_0.out (inP_x p) gWd (iW (p).x) ?_; simp only [Act.put, pvA, pv0, pv1])
  (apply calm_on rfl; (focus (intro W hB; go_simp; refine (c1.out W).mono ?_; rintro _ _ ⟨rfl, hb'⟩; exact ⟨rfl, hb'⟩)); simp only [Act.put, pvA, pv0, pv1])
  (apply calm_on rfl; (focus (intro W hB; go_simp; exact ⟨rfl, Below.refl _ _⟩)); simp only [Act.put, pvA, pv0, pv1])
  (refine calm_part rfl _ _ rfl _ _ rfl _ _ (cellsW (p).y) hb1_0.out (inP_y p) gWd (iW (p).y) ?_; simp only [Act.put, pvA, pv0, pv1])
  (apply calm_on rfl; (focus (intro W hB; go_simp; refine (c2.out W).mono ?_; rintro _ _ ⟨rfl, hb'⟩; exact ⟨rfl, hb'⟩)); simp only [Act.put, pvA, pv0, pv1])
  refine calm_nil ?_
  intro bk3 bk4 wx1 hle3 hle4 hne3 hx1 hn3 hn4
  simp only [List.drop_succ_cons, List.drop_zero]
  (try simp only [Act.put, pvA, pv0, pv1])
  have fb1 := hb1_0.out.step hx1
  have fb2 := hb2_0.out.step hx1
  have hbb := hbl0.trans (hx1.mono hbl0.size)
  have fb3 := hn3
  have fb4 := hn4
  have ne1_3 : w.heap.size ≠ bk3 := by have := hb1_0.out.lt; omega
  have ne2_3 : (w.heap.size + 1) ≠ bk3 := by have := hb2_0.out.lt; omega
  have ne1_4 : w.heap.size ≠ bk4 := by have := hb1_0.out.lt; omega
  have ne2_4 : (w.heap.size + 1) ≠ bk4 := by have := hb2_0.out.lt; omega
  have ge3 : w.heap.size ≤ bk3 := Nat.le_trans hbl0.size hle3
  have ge4 : w.heap.size ≤ bk4 := Nat.le_trans hbl0.size hle4
  refine wpList_set _ _ _ rfl rfl rfl _ _ rfl rfl _ _ fb3 (i5 r1) rfl (one_cells5 r1) ?_
  replace fb1 := fb1.other ne1_3 (cells5 r1)
  replace fb2 := fb2.other ne2_3 (cells5 r1)
  replace fb3 := fb3.set (cells5 r1)
  replace fb4 := fb4.other (Ne.symm hne3) (cells5 r1)
  replace hbb := below_set hbb bk3 (ge3) (cells5 r1)
  refine wpList_set _ _ _ rfl rfl rfl _ _ rfl rfl _ _ fb4 (i5 r2) rfl (one_cells5 r2) ?_
  replace fb1 := fb1.other ne1_4 (cells5 r2)
  replace fb2 := fb2.other ne2_4 (cells5 r2)
  replace fb3 := fb3.other hne3 (cells5 r2)
  replace fb4 := fb4.set (cells5 r2)
  replace hbb := below_set hbb bk4 (ge4) (cells5 r2)
  refine wpList_nil ?_
  obtain ⟨w1, hw⟩ : ∃ z, z = ((wx1.setRow bk3 (cells5 r1)).setRow bk4 (cells5 r2)) := ⟨_, rfl⟩
  rw [← hw] at hbb fb1 fb2 fb3 fb4 ⊢
  have hb1_1 := hid fb1
  have hb2_1 := hid fb2
  have hb3_1 := hid fb3
  have hb4_1 := hid fb4
  have hbl1 := hbb
  clear hw hbb fb1 fb2 fb3 fb4 hx1 hbl0 hb1_0 hb2_0 hle3 hn3 hle4 hn4
  (repeat ((fail_if_success (with_reducible refine Go.at_region ?_)); go_step))
  refine draw_tail 7 (by kernel_rfl) (by kernel_rfl) (by kernel_rfl) ?_
  simp only [List.take_succ_cons, List.take_zero]
  (refine calm_whole rfl _ _ rfl _ rfl _ _ hb3_1.out g5 (i5 r1) ?_; simp only [Act.put, pvA, pv0, pv1])
  (refine calm_whole rfl _ _ rfl _ rfl _ _ hb4_1.out g5 (i5 r2) ?_; simp only [Act.put, pvA, pv0, pv1])
  (refine calm_build rfl 64 _ rfl (cells5 one5) (by first | (simp only [List.map_toArray, List.map_cons, List.map_nil]; exact b5_one) | exact b5_one) ?_; simp only [Act.put, pvA, pv0, pv1])
  (refine calm_whole rfl _ _ rfl _ rfl _ _ hb3_1.out g5 (i5 r1) ?_; simp only [Act.put, pvA, pv0, pv1])
  (refine calm_whole rfl _ _ rfl _ rfl _ _ hb4_1.out g5 (i5 r2) ?_; simp only [Act.put, pvA, pv0, pv1])
  (apply calm_on rfl; (focus (intro W hB; go_simp; refine (c3.out W).mono ?_; rintro _ _ ⟨rfl, hb'⟩; exact ⟨rfl, hb'⟩)); simp only [Act.put, pvA, pv0, pv1])
  (refine calm_build rfl 66 _ rfl (cells4 ⟨r1, r2, one5, r3⟩) (by first | (simp only [List.map_toArray, List.map_cons, List.map_nil]; exact (b4 r1 r2 one5 r3)) | exact (b4 r1 r2 one5 r3)) ?_; simp only [Act.put, pvA, pv0, pv1])
  refine calm_nil ?_
  intro wx2 hx2
  simp only [List.drop_succ_cons, List.drop_zero]
  (try simp only [Act.put, pvA, pv0, pv1])
  have fb1 := hb1_1.out.step hx2
  have fb2 := hb2_1.out.step hx2
  have fb3 := hb3_1.out.step hx2
  have fb4 := hb4_1.out.step hx2
  have hbb := hbl1.trans (hx2.mono hbl1.size)
  refine wpList_set _ _ _ rfl rfl rfl _ _ rfl rfl _ _ fb2 (i4 ⟨r1, r2, one5, r3⟩) rfl (one_cells4 ⟨r1, r2, one5, r3⟩) ?_
  replace fb1 := fb1.other (show w.heap.size ≠ (w.heap.size + 1) by omega) (cells4 ⟨r1, r2, one5, r3⟩)
  replace fb2 := fb2.set (cells4 ⟨r1, r2, one5, r3⟩)
  replace fb3 := fb3.other (Ne.symm ne2_3) (cells4 ⟨r1, r2, one5, r3⟩)
  replace fb4 := fb4.other (Ne.symm ne2_4) (cells4 ⟨r1, r2, one5, r3⟩)
  replace hbb := below_set hbb (w.heap.size + 1) (by omega) (cells4 ⟨r1, r2, one5, r3⟩)
  refine wpList_nil ?_
  obtain ⟨w2, hw⟩ : ∃ z, z = (wx2.setRow (w.heap.size + 1) (cells4 ⟨r1, r2, one5, r3⟩)) := ⟨_, rfl⟩
  rw [← hw] at hbb fb1 fb2 fb3 fb4 ⊢
  have hb1_2 := hid fb1
  have hb2_2 := hid fb2
  have hb3_2 := hid fb3
  have hb4_2 := hid fb4
  have hbl2 := hbb
  clear hw hbb fb1 fb2 fb3 fb4 hx2 hbl1 hb1_1 hb2_1 hb3_1 hb4_1 
  (repeat ((fail_if_success (with_reducible refine Go.at_region ?_)); go_step))
  refine ret_blk (w.heap.size + 1) 66 (cells4 ⟨r1, r2, one5, r3⟩) rfl rfl hb2_2.out g4 (i4 ⟨r1, r2, one5, r3⟩) rfl ?_
  exact ⟨(by rw [E3.out, E2.out, E1.out]; first | done | rfl), hbl2⟩
set_option maxRecDepth 100000 in
set_option maxHeartbeats 4000000 in
theorem plusW_any (p q : W4) (w : World) (hp : TW p) (hq : TW q) : Calls Try.prog 45 #[w4 p, w4 q] w fun e w' => e = .returned (w4 (plusW p q)) ∧ Below w.heap.size w w' := by
  have c1 := hid fun w => sub5_any p.y p.x w hp.y hp.x
  have t1 := sub5_t p.y p.x hp.y hp.x
  obtain ⟨r1, e1⟩ : ∃ r, r = sub5 p.y p.x := ⟨_, rfl⟩
  rw [← e1] at c1 t1
  replace t1 := hid t1
  have E1 := hid e1
  clear e1
  have c2 := hid fun w => sub5_any q.y q.x w hq.y hq.x
  have t2 := sub5_t q.y q.x hq.y hq.x
  obtain ⟨r2, e2⟩ : ∃ r, r = sub5 q.y q.x := ⟨_, rfl⟩
  rw [← e2] at c2 t2
  replace t2 := hid t2
  have E2 := hid e2
  clear e2
  have c3 := hid fun w => mul5_any r1 r2 w t1.out t2.out
  have t3 := mul5_t r1 r2 t1.out t2.out
  obtain ⟨r3, e3⟩ : ∃ r, r = mul5 r1 r2 := ⟨_, rfl⟩
  rw [← e3] at c3 t3
  replace t3 := hid t3
  have E3 := hid e3
  clear e3
  have c4 := hid fun w => add5_any p.y p.x w hp.y hp.x
  have t4 := add5_t p.y p.x hp.y hp.x
  obtain ⟨r4, e4⟩ : ∃ r, r = add5 p.y p.x := ⟨_, rfl⟩
  rw [← e4] at c4 t4
  replace t4 := hid t4
  have E4 := hid e4
  clear e4
  have c5 := hid fun w => add5_any q.y q.x w hq.y hq.x
  have t5 := add5_t q.y q.x hq.y hq.x
  obtain ⟨r5, e5⟩ : ∃ r, r = add5 q.y q.x := ⟨_, rfl⟩
  rw [← e5] at c5 t5
  replace t5 := hid t5
  have E5 := hid e5
  clear e5
  have c6 := hid fun w => mul5_any r4 r5 w t4.out t5.out
  have t6 := mul5_t r4 r5 t4.out t5.out
  obtain ⟨r6, e6⟩ : ∃ r, r = mul5 r4 r5 := ⟨_, rfl⟩
  rw [← e6] at c6 t6
  replace t6 := hid t6
  have E6 := hid e6
  clear e6
  have c7 := hid fun w => mul5_any p.t q.t w hp.t hq.t
  have t7 := mul5_t p.t q.t hp.t hq.t
  obtain ⟨r7, e7⟩ : ∃ r, r = mul5 p.t q.t := ⟨_, rfl⟩
  rw [← e7] at c7 t7
  replace t7 := hid t7
  have E7 := hid e7
  clear e7
  have cd := hid fun w => d_any w
  have c8 := hid fun w => wadd_any dN dN w dN_lt dN_lt
  obtain ⟨r8, e8⟩ : ∃ r, r = (dN + dN) % 2 ^ 256 := ⟨_, rfl⟩
  rw [← e8] at c8
  have E8 := hid e8
  clear e8
  have hs256 : r8 < 2 ^ 256 := by rw [E8.out]; exact Nat.mod_lt _ (by decide)
  have c9 := hid fun w => feOf_any r8 w hs256
  have t9 := fOf_t r8 hs256
  obtain ⟨r9, e9⟩ : ∃ r, r = fOf r8 := ⟨_, rfl⟩
  rw [← e9] at c9 t9
  replace t9 := hid t9
  have E9 := hid e9
  clear e9
  have c10 := hid fun w => mul5_any r7 r9 w t7.out t9.out
  have t10 := mul5_t r7 r9 t7.out t9.out
  obtain ⟨r10, e10⟩ : ∃ r, r = mul5 r7 r9 := ⟨_, rfl⟩
  rw [← e10] at c10 t10
  replace t10 := hid t10
  have E10 := hid e10
  clear e10
  have c11 := hid fun w => mul5_any p.z q.z w hp.z hq.z
  have t11 := mul5_t p.z q.z hp.z hq.z
  obtain ⟨r11, e11⟩ : ∃ r, r = mul5 p.z q.z := ⟨_, rfl⟩
  rw [← e11] at c11 t11
  replace t11 := hid t11
  have E11 := hid e11
  clear e11
  have c12 := hid fun w => add5_any r11 r11 w t11.out t11.out
  have t12 := add5_t r11 r11 t11.out t11.out
  obtain ⟨r12, e12⟩ : ∃ r, r = add5 r11 r11 := ⟨_, rfl⟩
  rw [← e12] at c12 t12
  replace t12 := hid t12
  have E12 := hid e12
  clear e12
  have c13 := hid fun w => sub5_any r6 r3 w t6.out t3.out
  have t13 := sub5_t r6 r3 t6.out t3.out
  obtain ⟨r13, e13⟩ : ∃ r, r = sub5 r6 r3 := ⟨_, rfl⟩
  rw [← e13] at c13 t13
  replace t13 := hid t13
  have E13 := hid e13
  clear e13
  have c14 := hid fun w => sub5_any r12 r10 w t12.out t10.out
  have t14 := sub5_t r12 r10 t12.out t10.out
  obtain ⟨r14, e14⟩ : ∃ r, r = sub5 r12 r10 := ⟨_, rfl⟩
  rw [← e14] at c14 t14
  replace t14 := hid t14
  have E14 := hid e14
  clear e14
  have c15 := hid fun w => add5_any r12 r10 w t12.out t10.out
  have t15 := add5_t r12 r10 t12.out t10.out
  obtain ⟨r15, e15⟩ : ∃ r, r = add5 r12 r10 := ⟨_, rfl⟩
  rw [← e15] at c15 t15
  replace t15 := hid t15
  have E15 := hid e15
  clear e15
  have c16 := hid fun w => add5_any r6 r3 w t6.out t3.out
  have t16 := add5_t r6 r3 t6.out t3.out
  obtain ⟨r16, e16⟩ : ∃ r, r = add5 r6 r3 := ⟨_, rfl⟩
  rw [← e16] at c16 t16
  replace t16 := hid t16
  have E16 := hid e16
  clear e16
  have c17 := hid fun w => from_any r13 r14 r15 r16 w t13.out t14.out t15.out t16.out
  obtain ⟨r17, e17⟩ : ∃ r, r = fromW r13 r14 r15 r16 := ⟨_, rfl⟩
  rw [← e17] at c17
  have E17 := hid e17
  clear e17
  clear hp hq hs256
  unfold fe w4 wd at *
  obtain ⟨w0, hw0, k2, k3, k4, hbl0⟩ := entry3 w 66 (cells4 p) 66 (cells4 q) 66 (cells4 zero4)
  have hb2_0 := hid k2
  have hb3_0 := hid k3
  have hb4_0 := hid k4
  clear k2 k3 k4
  go_enter Try.func45, Try.ntmps45
  (repeat ((fail_if_success (with_reducible refine Go.at_region ?_)); go_step))
  refine wp_region_lit ?_
  (refine wpList_box 66 (.tmp 0) rfl rfl (cells4 p) rfl ?_; simp only [Act.put, pvA, pv0, pv1]; (try simp only [World.size_alloc]))
  (refine wpList_box 66 (.tmp 1) rfl rfl (cells4 q) rfl ?_; simp only [Act.put, pvA, pv0, pv1]; (try simp only [World.size_alloc]))
  (refine wpList_alloc_new rfl 66 rfl (cells4 zero4) z4 ?_; simp only [Act.put, pvA, pv0, pv1]; (try simp only [World.size_alloc]))
  refine wpList_nil ?_
  rw [← hw0]
  clear hw0
  (repeat ((fail_if_success (with_reducible refine Go.at_region ?_)); go_step))
  refine draw_new1 11 _ rfl 64 (cells5 zero5) 5 rfl rfl rfl (by simp) z5 (by kernel_rfl) (by kernel_rfl) (by kernel_rfl) ?_
  simp only [List.take_succ_cons, List.take_zero]
  (apply calm_on rfl; (focus (intro W hB; go_simp; exact ⟨rfl, Below.refl _ _⟩)); simp only [Act.put, pvA, pv0, pv1])
  (refine calm_part rfl _ _ rfl _ _ rfl _ _ (cells5 (p).y) hb2_0.out (in4_y p) g5 (i5 (p).y) ?_; simp only [Act.put, pvA, pv0, pv1])
  (apply calm_on rfl; (focus (intro W hB; go_simp; exact ⟨rfl, Below.refl _ _⟩)); simp only [Act.put, pvA, pv0, pv1])
  (refine calm_part rfl _ _ rfl _ _ rfl _ _ (cells5 (p).x) hb2_0.out (in4_x p) g5 (i5 (p).x) ?_; simp only [Act.put, pvA, pv0, pv1])
  (apply calm_on rfl; (focus (intro W hB; go_simp; refine (c1.out W).mono ?_; rintro _ _ ⟨rfl, hb'⟩; exact ⟨rfl, hb'⟩)); simp only [Act.put, pvA, pv0, pv1])
  (apply calm_on rfl; (focus (intro W hB; go_simp; exact ⟨rfl, Below.refl _ _⟩)); simp only [Act.put, pvA, pv0, pv1])
  (refine calm_part rfl _ _ rfl _ _ rfl _ _ (cells5 (q).y) hb3_0.out (in4_y q) g5 (i5 (q).y) ?_; simp only [Act.put, pvA, pv0, pv1])
  (apply calm_on rfl; (focus (intro W hB; go_simp; exact ⟨rfl, Below.refl _ _⟩)); simp only [Act.put, pvA, pv0, pv1])
  (refine calm_part rfl _ _ rfl _ _ rfl _ _ (cells5 (q).x) hb3_0.out (in4_x q) g5 (i5 (q).x) ?_; simp only [Act.put, pvA, pv0, pv1])
  (apply calm_on rfl; (focus (intro W hB; go_simp; refine (c2.out W).mono ?_; rintro _ _ ⟨rfl, hb'⟩; exact ⟨rfl, hb'⟩)); simp only [Act.put, pvA, pv0, pv1])
  (apply calm_on rfl; (focus (intro W hB; go_simp; refine (c3.out W).mono ?_; rintro _ _ ⟨rfl, hb'⟩; exact ⟨rfl, hb'⟩)); simp only [Act.put, pvA, pv0, pv1])
  refine calm_nil ?_
  intro bk5 wx1 hle5 hx1 hn5
  simp only [List.drop_succ_cons, List.drop_zero]
  (try simp only [Act.put, pvA, pv0, pv1])
  have fb2 := hb2_0.out.step hx1
  have fb3 := hb3_0.out.step hx1
  have fb4 := hb4_0.out.step hx1
  have hbb := hbl0.trans (hx1.mono hbl0.size)
  have fb5 := hn5
  have ne2_5 : w.heap.size ≠ bk5 := by have := hb2_0.out.lt; omega
  have ne3_5 : (w.heap.size + 1) ≠ bk5 := by have := hb3_0.out.lt; omega
  have ne4_5 : (w.heap.size + 1 + 1) ≠ bk5 := by have := hb4_0.out.lt; omega
  have ge5 : w.heap.size ≤ bk5 := Nat.le_trans hbl0.size hle5
  refine wpList_set _ _ _ rfl rfl rfl _ _ rfl rfl _ _ fb5 (i5 r3) rfl (one_cells5 r3) ?_
  replace fb2 := fb2.other ne2_5 (cells5 r3)
  replace fb3 := fb3.other ne3_5 (cells5 r3)
  replace fb4 := fb4.other ne4_5 (cells5 r3)
  replace fb5 := fb5.set (cells5 r3)
  replace hbb := below_set hbb bk5 (ge5) (cells5 r3)
  refine wpList_nil ?_
  obtain ⟨w1, hw⟩ : ∃ z, z = (wx1.setRow bk5 (cells5 r3)) := ⟨_, rfl⟩
  rw [← hw] at hbb fb2 fb3 fb4 fb5 ⊢
  have hb2_1 := hid fb2
  have hb3_1 := hid fb3
  have hb4_1 := hid fb4
  have hb5_1 := hid fb5
  have hbl1 := hbb
  clear hw hbb fb2 fb3 fb4 fb5 hx1 hbl0 hb2_0 hb3_0 hb4_0 hle5 hn5
  (repeat ((fail_if_success (with_reducible refine Go.at_region ?_)); go_step))
  refine draw_new1 11 _ rfl 64 (cells5 zero5) 6 rfl rfl rfl (by simp) z5 (by kernel_rfl) (by kernel_rfl) (by kernel_rfl) ?_
  simp only [List.take_succ_cons, List.take_zero]
  (apply calm_on rfl; (focus (intro W hB; go_simp; exact ⟨rfl, Below.refl _ _⟩)); simp only [Act.put, pvA, pv0, pv1])
  (refine calm_part rfl _ _ rfl _ _ rfl _ _ (cells5 (p).y) hb2_1.out (in4_y p) g5 (i5 (p).y) ?_; simp only [Act.put, pvA, pv0, pv1])
  (apply calm_on rfl; (focus (intro W hB; go_simp; exact ⟨rfl, Below.refl _ _⟩)); simp only [Act.put, pvA, pv0, pv1])
  (refine calm_part rfl _ _ rfl _ _ rfl _ _ (cells5 (p).x) hb2_1.out (in4_x p) g5 (i5 (p).x) ?_; simp only [Act.put, pvA, pv0, pv1])
  (apply calm_on rfl; (focus (intro W hB; go_simp; refine (c4.out W).mono ?_; rintro _ _ ⟨rfl, hb'⟩; exact ⟨rfl, hb'⟩)); simp only [Act.put, pvA, pv0, pv1])
  (apply calm_on rfl; (focus (intro W hB; go_simp; exact ⟨rfl, Below.refl _ _⟩)); simp only [Act.put, pvA, pv0, pv1])
  (refine calm_part rfl _ _ rfl _ _ rfl _ _ (cells5 (q).y) hb3_1.out (in4_y q) g5 (i5 (q).y) ?_; simp only [Act.put, pvA, pv0, pv1])
  (apply calm_on rfl; (focus (intro W hB; go_simp; exact ⟨rfl, Below.refl _ _⟩)); simp only [Act.put, pvA, pv0, pv1])
  (refine calm_part rfl _ _ rfl _ _ rfl _ _ (cells5 (q).x) hb3_1.out (in4_x q) g5 (i5 (q).x) ?_; simp only [Act.put, pvA, pv0, pv1])
  (apply calm_on rfl; (focus (intro W hB; go_simp; refine (c5.out W).mono ?_; rintro _ _ ⟨rfl, hb'⟩; exact ⟨rfl, hb'⟩)); simp only [Act.put, pvA, pv0, pv1])
  (apply calm_on rfl; (focus (intro W hB; go_simp; refine (c6.out W).mono ?_; rintro _ _ ⟨rfl, hb'⟩; exact ⟨rfl, hb'⟩)); simp only [Act.put, pvA, pv0, pv1])
  refine calm_nil ?_
  intro bk6 wx2 hle6 hx2 hn6
  simp only [List.drop_succ_cons, List.drop_zero]
  (try simp only [Act.put, pvA, pv0, pv1])
  have fb2 := hb2_1.out.step hx2
  have fb3 := hb3_1.out.step hx2
  have fb4 := hb4_1.out.step hx2
  have fb5 := hb5_1.out.step hx2
  have hbb := hbl1.trans (hx2.mono hbl1.size)
  have fb6 := hn6
  have ne2_6 : w.heap.size ≠ bk6 := by have := hb2_1.out.lt; omega
  have ne3_6 : (w.heap.size + 1) ≠ bk6 := by have := hb3_1.out.lt; omega
  have ne4_6 : (w.heap.size + 1 + 1) ≠ bk6 := by have := hb4_1.out.lt; omega
  have ne5_6 : bk5 ≠ bk6 := by have := hb5_1.out.lt; omega
  have ge6 : w.heap.size ≤ bk6 := Nat.le_trans hbl1.size hle6
  refine wpList_set _ _ _ rfl rfl rfl _ _ rfl rfl _ _ fb6 (i5 r6) rfl (one_cells5 r6) ?_
  replace fb2 := fb2.other ne2_6 (cells5 r6)
  replace fb3 := fb3.other ne3_6 (cells5 r6)
  replace fb4 := fb4.other ne4_6 (cells5 r6)
  replace fb5 := fb5.other ne5_6 (cells5 r6)
  replace fb6 := fb6.set (cells5 r6)
  replace hbb := below_set hbb bk6 (ge6) (cells5 r6)
  refine wpList_nil ?_
  obtain ⟨w2, hw⟩ : ∃ z, z = (wx2.setRow bk6 (cells5 r6)) := ⟨_, rfl⟩
  rw [← hw] at hbb fb2 fb3 fb4 fb5 fb6 ⊢
  have hb2_2 := hid fb2
  have hb3_2 := hid fb3
  have hb4_2 := hid fb4
  have hb5_2 := hid fb5
  have hb6_2 := hid fb6
  have hbl2 := hbb
  clear hw hbb fb2 fb3 fb4 fb5 fb6 hx2 hbl1 hb2_1 hb3_1 hb4_1 hb5_1 hle6 hn6
  (repeat ((fail_if_success (with_reducible refine Go.at_region ?_)); go_step))
  refine list_tail 10 ?_
  simp only [List.take_succ_cons, List.take_zero]
  (apply calm_on rfl; (focus (intro W hB; go_simp; exact ⟨rfl, Below.refl _ _⟩)); simp only [Act.put, pvA, pv0, pv1])
  (refine calm_part rfl _ _ rfl _ _ rfl _ _ (cells5 (p).t) hb2_2.out (in4_t p) g5 (i5 (p).t) ?_; simp only [Act.put, pvA, pv0, pv1])
  (apply calm_on rfl; (focus (intro W hB; go_simp; exact ⟨rfl, Below.refl _ _⟩)); simp only [Act.put, pvA, pv0, pv1])
  (refine calm_part rfl _ _ rfl _ _ rfl _ _ (cells5 (q).t) hb3_2.out (in4_t q) g5 (i5 (q).t) ?_; simp only [Act.put, pvA, pv0, pv1])
  (apply calm_on rfl; (focus (intro W hB; go_simp; refine (c7.out W).mono ?_; rintro _ _ ⟨rfl, hb'⟩; exact ⟨rfl, hb'⟩)); simp only [Act.put, pvA, pv0, pv1])
  iterate 2 (apply calm_on rfl; (focus (intro W hB; go_simp; refine (cd.out W).mono ?_; rintro _ _ ⟨rfl, hb'⟩; exact ⟨rfl, hb'⟩)); simp only [Act.put, pvA, pv0, pv1])
  (apply calm_on rfl; (focus (intro W hB; go_simp; refine (c8.out W).mono ?_; rintro _ _ ⟨rfl, hb'⟩; exact ⟨rfl, hb'⟩)); simp only [Act.put, pvA, pv0, pv1])
  (apply calm_on rfl; (focus (intro W hB; go_simp; refine (c9.out W).mono ?_; rintro _ _ ⟨rfl, hb'⟩; exact ⟨rfl, hb'⟩)); simp only [Act.put, pvA, pv0, pv1])
  (apply calm_on rfl; (focus (intro W hB; go_simp; refine (c10.out W).mono ?_; rintro _ _ ⟨rfl, hb'⟩; exact ⟨rfl, hb'⟩)); simp only [Act.put, pvA, pv0, pv1])
  refine calm_nil ?_
  intro wx3 hx3
  simp only [List.drop_succ_cons, List.drop_zero]
  (try simp only [Act.put, pvA, pv0, pv1])
  refine wpList_new 64 (cells5 zero5) rfl rfl z5 ?_
  intro bk7 wy3 hle7 hy3 hn7
  (try simp only [Act.put, pvA, pv0, pv1])
  replace hle7 := Nat.le_trans hx3.size hle7
  replace hx3 := hx3.trans (hy3.mono hx3.size)
  clear hy3
  have fb2 := hb2_2.out.step hx3
  have fb3 := hb3_2.out.step hx3
  have fb4 := hb4_2.out.step hx3
  have fb5 := hb5_2.out.step hx3
  have fb6 := hb6_2.out.step hx3
  have hbb := hbl2.trans (hx3.mono hbl2.size)
  have fb7 := hn7
  have ne2_7 : w.heap.size ≠ bk7 := by have := hb2_2.out.lt; omega
  have ne3_7 : (w.heap.size + 1) ≠ bk7 := by have := hb3_2.out.lt; omega
  have ne4_7 : (w.heap.size + 1 + 1) ≠ bk7 := by have := hb4_2.out.lt; omega
  have ne5_7 : bk5 ≠ bk7 := by have := hb5_2.out.lt; omega
  have ne6_7 : bk6 ≠ bk7 := by have := hb6_2.out.lt; omega
  have ge7 : w.heap.size ≤ bk7 := Nat.le_trans hbl2.size hle7
  refine wpList_set _ _ _ rfl rfl rfl _ _ rfl rfl _ _ fb7 (i5 r10) rfl (one_cells5 r10) ?_
  replace fb2 := fb2.other ne2_7 (cells5 r10)
  replace fb3 := fb3.other ne3_7 (cells5 r10)
  replace fb4 := fb4.other ne4_7 (cells5 r10)
  replace fb5 := fb5.other ne5_7 (cells5 r10)
  replace fb6 := fb6.other ne6_7 (cells5 r10)
  replace fb7 := fb7.set (cells5 r10)
  replace hbb := below_set hbb bk7 (ge7) (cells5 r10)
  refine wpList_nil ?_
  obtain ⟨w3, hw⟩ : ∃ z, z = (wy3.setRow bk7 (cells5 r10)) := ⟨_, rfl⟩
  rw [← hw] at hbb fb2 fb3 fb4 fb5 fb6 fb7 ⊢
  have hb2_3 := hid fb2
  have hb3_3 := hid fb3
  have hb4_3 := hid fb4
  have hb5_3 := hid fb5
  have hb6_3 := hid fb6
  have hb7_3 := hid fb7
  have hbl3 := hbb
  clear hw hbb fb2 fb3 fb4 fb5 fb6 fb7 hx3 hbl2 hb2_2 hb3_2 hb4_2 hb5_2 hb6_2 hle7 hn7
  (repeat ((fail_if_success (with_reducible refine Go.at_region ?_)); go_step))
  refine list_tail 5 ?_
  simp only [List.take_succ_cons, List.take_zero]
  (apply calm_on rfl; (focus (intro W hB; go_simp; exact ⟨rfl, Below.refl _ _⟩)); simp only [Act.put, pvA, pv0, pv1])
  (refine calm_part rfl _ _ rfl _ _ rfl _ _ (cells5 (p).z) hb2_3.out (in4_z p) g5 (i5 (p).z) ?_; simp only [Act.put, pvA, pv0, pv1])
  (apply calm_on rfl; (focus (intro W hB; go_simp; exact ⟨rfl, Below.refl _ _⟩)); simp only [Act.put, pvA, pv0, pv1])
  (refine calm_part rfl _ _ rfl _ _ rfl _ _ (cells5 (q).z) hb3_3.out (in4_z q) g5 (i5 (q).z) ?_; simp only [Act.put, pvA, pv0, pv1])
  (apply calm_on rfl; (focus (intro W hB; go_simp; refine (c11.out W).mono ?_; rintro _ _ ⟨rfl, hb'⟩; exact ⟨rfl, hb'⟩)); simp only [Act.put, pvA, pv0, pv1])
  refine calm_nil ?_
  intro wx4 hx4
  simp only [List.drop_succ_cons, List.drop_zero]
  (try simp only [Act.put, pvA, pv0, pv1])
  refine wpList_new 64 (cells5 zero5) rfl rfl z5 ?_
  intro bk8 wy4 hle8 hy4 hn8
  (try simp only [Act.put, pvA, pv0, pv1])
  replace hle8 := Nat.le_trans hx4.size hle8
  replace hx4 := hx4.trans (hy4.mono hx4.size)
  clear hy4
  have fb2 := hb2_3.out.step hx4
  have fb3 := hb3_3.out.step hx4
  have fb4 := hb4_3.out.step hx4
  have fb5 := hb5_3.out.step hx4
  have fb6 := hb6_3.out.step hx4
  have fb7 := hb7_3.out.step hx4
  have hbb := hbl3.trans (hx4.mono hbl3.size)
  have fb8 := hn8
  have ne2_8 : w.heap.size ≠ bk8 := by have := hb2_3.out.lt; omega
  have ne3_8 : (w.heap.size + 1) ≠ bk8 := by have := hb3_3.out.lt; omega
  have ne4_8 : (w.heap.size + 1 + 1) ≠ bk8 := by have := hb4_3.out.lt; omega
  have ne5_8 : bk5 ≠ bk8 := by have := hb5_3.out.lt; omega
  have ne6_8 : bk6 ≠ bk8 := by have := hb6_3.out.lt; omega
  have ne7_8 : bk7 ≠ bk8 := by have := hb7_3.out.lt; omega
  have ge8 : w.heap.size ≤ bk8 := Nat.le_trans hbl3.size hle8
  refine wpList_set _ _ _ rfl rfl rfl _ _ rfl rfl _ _ fb8 (i5 r11) rfl (one_cells5 r11) ?_
  replace fb2 := fb2.other ne2_8 (cells5 r11)
  replace fb3 := fb3.other ne3_8 (cells5 r11)
  replace fb4 := fb4.other ne4_8 (cells5 r11)
  replace fb5 := fb5.other ne5_8 (cells5 r11)
  replace fb6 := fb6.other ne6_8 (cells5 r11)
  replace fb7 := fb7.other ne7_8 (cells5 r11)
  replace fb8 := fb8.set (cells5 r11)
  replace hbb := below_set hbb bk8 (ge8) (cells5 r11)
  refine wpList_nil ?_
  obtain ⟨w4, hw⟩ : ∃ z, z = (wy4.setRow bk8 (cells5 r11)) := ⟨_, rfl⟩
  rw [← hw] at hbb fb2 fb3 fb4 fb5 fb6 fb7 fb8 ⊢
  have hb2_4 := hid fb2
  have hb3_4 := hid fb3
  have hb4_4 := hid fb4
  have hb5_4 := hid fb5
  have hb6_4 := hid fb6
  have hb7_4 := hid fb7
  have hb8_4 := hid fb8
  have hbl4 := hbb
  clear hw hbb fb2 fb3 fb4 fb5 fb6 fb7 fb8 hx4 hbl3 hb2_3 hb3_3 hb4_3 hb5_3 hb6_3 hb7_3 hle8 hn8
  (repeat ((fail_if_success (with_reducible refine Go.at_region ?_)); go_step))
  refine list_tail 3 ?_
  simp only [List.take_succ_cons, List.take_zero]
  iterate 2 (refine calm_whole rfl _ _ rfl _ rfl _ _ hb8_4.out g5 (i5 r11) ?_; simp only [Act.put, pvA, pv0, pv1])
  (apply calm_on rfl; (focus (intro W hB; go_simp; refine (c12.out W).mono ?_; rintro _ _ ⟨rfl, hb'⟩; exact ⟨rfl, hb'⟩)); simp only [Act.put, pvA, pv0, pv1])
  refine calm_nil ?_
  intro wx5 hx5
  simp only [List.drop_succ_cons, List.drop_zero]
  (try simp only [Act.put, pvA, pv0, pv1])
  have fb2 := hb2_4.out.step hx5
  have fb3 := hb3_4.out.step hx5
  have fb4 := hb4_4.out.step hx5
  have fb5 := hb5_4.out.step hx5
  have fb6 := hb6_4.out.step hx5
  have fb7 := hb7_4.out.step hx5
  have fb8 := hb8_4.out.step hx5
  have hbb := hbl4.trans (hx5.mono hbl4.size)
  refine wpList_set _ _ _ rfl rfl rfl _ _ rfl rfl _ _ fb8 (i5 r12) rfl (one_cells5 r12) ?_
  replace fb2 := fb2.other ne2_8 (cells5 r12)
  replace fb3 := fb3.other ne3_8 (cells5 r12)
  replace fb4 := fb4.other ne4_8 (cells5 r12)
  replace fb5 := fb5.other ne5_8 (cells5 r12)
  replace fb6 := fb6.other ne6_8 (cells5 r12)
  replace fb7 := fb7.other ne7_8 (cells5 r12)
  replace fb8 := fb8.set (cells5 r12)
  replace hbb := below_set hbb bk8 (ge8) (cells5 r12)
  refine wpList_nil ?_
  obtain ⟨w5, hw⟩ : ∃ z, z = (wx5.setRow bk8 (cells5 r12)) := ⟨_, rfl⟩
  rw [← hw] at hbb fb2 fb3 fb4 fb5 fb6 fb7 fb8 ⊢
  have hb2_5 := hid fb2
  have hb3_5 := hid fb3
  have hb4_5 := hid fb4
  have hb5_5 := hid fb5
  have hb6_5 := hid fb6
  have hb7_5 := hid fb7
  have hb8_5 := hid fb8
  have hbl5 := hbb
  clear hw hbb fb2 fb3 fb4 fb5 fb6 fb7 fb8 hx5 hbl4 hb2_4 hb3_4 hb4_4 hb5_4 hb6_4 hb7_4 hb8_4 
  (repeat ((fail_if_success (with_reducible refine Go.at_region ?_)); go_step))
  refine draw_tail 13 (by kernel_rfl) (by kernel_rfl) (by kernel_rfl) ?_
  simp only [List.take_succ_cons, List.take_zero]
  (refine calm_whole rfl _ _ rfl _ rfl _ _ hb6_5.out g5 (i5 r6) ?_; simp only [Act.put, pvA, pv0, pv1])
  (refine calm_whole rfl _ _ rfl _ rfl _ _ hb5_5.out g5 (i5 r3) ?_; simp only [Act.put, pvA, pv0, pv1])
  (apply calm_on rfl; (focus (intro W hB; go_simp; refine (c13.out W).mono ?_; rintro _ _ ⟨rfl, hb'⟩; exact ⟨rfl, hb'⟩)); simp only [Act.put, pvA, pv0, pv1])
  (refine calm_whole rfl _ _ rfl _ rfl _ _ hb8_5.out g5 (i5 r12) ?_; simp only [Act.put, pvA, pv0, pv1])
  (refine calm_whole rfl _ _ rfl _ rfl _ _ hb7_5.out g5 (i5 r10) ?_; simp only [Act.put, pvA, pv0, pv1])
  (apply calm_on rfl; (focus (intro W hB; go_simp; refine (c14.out W).mono ?_; rintro _ _ ⟨rfl, hb'⟩; exact ⟨rfl, hb'⟩)); simp only [Act.put, pvA, pv0, pv1])
  (refine calm_whole rfl _ _ rfl _ rfl _ _ hb8_5.out g5 (i5 r12) ?_; simp only [Act.put, pvA, pv0, pv1])
  (refine calm_whole rfl _ _ rfl _ rfl _ _ hb7_5.out g5 (i5 r10) ?_; simp only [Act.put, pvA, pv0, pv1])
  (apply calm_on rfl; (focus (intro W hB; go_simp; refine (c15.out W).mono ?_; rintro _ _ ⟨rfl, hb'⟩; exact ⟨rfl, hb'⟩)); simp only [Act.put, pvA, pv0, pv1])
  (refine calm_whole rfl _ _ rfl _ rfl _ _ hb6_5.out g5 (i5 r6) ?_; simp only [Act.put, pvA, pv0, pv1])
  (refine calm_whole rfl _ _ rfl _ rfl _ _ hb5_5.out g5 (i5 r3) ?_; simp only [Act.put, pvA, pv0, pv1])
  (apply calm_on rfl; (focus (intro W hB; go_simp; refine (c16.out W).mono ?_; rintro _ _ ⟨rfl, hb'⟩; exact ⟨rfl, hb'⟩)); simp only [Act.put, pvA, pv0, pv1])
  (apply calm_on rfl; (focus (intro W hB; go_simp; refine (c17.out W).mono ?_; rintro _ _ ⟨rfl, hb'⟩; exact ⟨rfl, hb'⟩)); simp only [Act.put, pvA, pv0, pv1])
  refine calm_nil ?_
  intro wx6 hx6
  simp only [List.drop_succ_cons, List.drop_zero]
  (try simp only [Act.put, pvA, pv0, pv1])
  have fb2 := hb2_5.out.step hx6
  have fb3 := hb3_5.out.step hx6
  have fb4 := hb4_5.out.step hx6
  have fb5 := hb5_5.out.step hx6
  have fb6 := hb6_5.out.step hx6
  have fb7 := hb7_5.out.step hx6
  have fb8 := hb8_5.out.step hx6
  have hbb := hbl5.trans (hx6.mono hbl5.size)
  refine wpList_set _ _ _ rfl rfl rfl _ _ rfl rfl _ _ fb4 (i4 r17) rfl (one_cells4 r17) ?_
  replace fb2 := fb2.other (show w.heap.size ≠ (w.heap.size + 1 + 1) by omega) (cells4 r17)
  replace fb3 := fb3.other (show (w.heap.size + 1) ≠ (w.heap.size + 1 + 1) by omega) (cells4 r17)
  replace fb4 := fb4.set (cells4 r17)
  replace fb5 := fb5.other (Ne.symm ne4_5) (cells4 r17)
  replace fb6 := fb6.other (Ne.symm ne4_6) (cells4 r17)
  replace fb7 := fb7.other (Ne.symm ne4_7) (cells4 r17)
  replace fb8 := fb8.other (Ne.symm ne4_8) (cells4 r17)
  replace hbb := below_set hbb (w.heap.size + 1 + 1) (by omega) (cells4 r17)
  refine wpList_nil ?_
  obtain ⟨w6, hw⟩ : ∃ z, z = (wx6.setRow (w.heap.size + 1 + 1) (cells4 r17)) := ⟨_, rfl⟩
  rw [← hw] at hbb fb2 fb3 fb4 fb5 fb6 fb7 fb8 ⊢
  have hb2_6 := hid fb2
  have hb3_6 := hid fb3
  have hb4_6 := hid fb4
  have hb5_6 := hid fb5
  have hb6_6 := hid fb6
  have hb7_6 := hid fb7
  have hb8_6 := hid fb8
  have hbl6 := hbb
  clear hw hbb fb2 fb3 fb4 fb5 fb6 fb7 fb8 hx6 hbl5 hb2_5 hb3_5 hb4_5 hb5_5 hb6_5 hb7_5 hb8_5 
  (repeat ((fail_if_success (with_reducible refine Go.at_region ?_)); go_step))
  refine ret_blk (w.heap.size + 1 + 1) 66 (cells4 r17) rfl rfl hb4_6.out g4 (i4 r17) rfl ?_
  exact ⟨(by rw [E17.out, E16.out, E15.out, E14.out, E13.out, E12.out, E11.out, E10.out, E9.out, E8.out, E7.out, E6.out, E5.out, E4.out, E3.out, E2.out, E1.out]; first | done | rfl), hbl6⟩
set_option maxRecDepth 100000 in
set_option maxHeartbeats 4000000 in
theorem twiceW_any (p : W4) (w : World) (hp : TW p) : Calls Try.prog 43 #[w4 p] w fun e w' => e = .returned (w4 (twiceW p)) ∧ Below w.heap.size w w' := by
  have c1 := hid fun w => mul5_any p.x p.x w hp.x hp.x
  have t1 := mul5_t p.x p.x hp.x hp.x
  obtain ⟨r1, e1⟩ : ∃ r, r = mul5 p.x p.x := ⟨_, rfl⟩
  rw [← e1] at c1 t1
  replace t1 := hid t1
  have E1 := hid e1
  clear e1
  have c2 := hid fun w => mul5_any p.y p.y w hp.y hp.y
  have t2 := mul5_t p.y p.y hp.y hp.y
  obtain ⟨r2, e2⟩ : ∃ r, r = mul5 p.y p.y := ⟨_, rfl⟩
  rw [← e2] at c2 t2
  replace t2 := hid t2
  have E2 := hid e2
  clear e2
  have c3 := hid fun w => mul5_any p.z p.z w hp.z hp.z
  have t3 := mul5_t p.z p.z hp.z hp.z
  obtain ⟨r3, e3⟩ : ∃ r, r = mul5 p.z p.z := ⟨_, rfl⟩
  rw [← e3] at c3 t3
  replace t3 := hid t3
  have E3 := hid e3
  clear e3
  have c4 := hid fun w => add5_any r1 r2 w t1.out t2.out
  have t4 := add5_t r1 r2 t1.out t2.out
  obtain ⟨r4, e4⟩ : ∃ r, r = add5 r1 r2 := ⟨_, rfl⟩
  rw [← e4] at c4 t4
  replace t4 := hid t4
  have E4 := hid e4
  clear e4
  have c5 := hid fun w => add5_any p.x p.y w hp.x hp.y
  have t5 := add5_t p.x p.y hp.x hp.y
  obtain ⟨r5, e5⟩ : ∃ r, r = add5 p.x p.y := ⟨_, rfl⟩
  rw [← e5] at c5 t5
  replace t5 := hid t5
  have E5 := hid e5
  clear e5
  have c6 := hid fun w => sub5_any r1 r2 w t1.out t2.out
  have t6 := sub5_t r1 r2 t1.out t2.out
  obtain ⟨r6, e6⟩ : ∃ r, r = sub5 r1 r2 := ⟨_, rfl⟩
  rw [← e6] at c6 t6
  replace t6 := hid t6
  have E6 := hid e6
  clear e6
  have c7 := hid fun w => mul5_any r5 r5 w t5.out t5.out
  have t7 := mul5_t r5 r5 t5.out t5.out
  obtain ⟨r7, e7⟩ : ∃ r, r = mul5 r5 r5 := ⟨_, rfl⟩
  rw [← e7] at c7 t7
  replace t7 := hid t7
  have E7 := hid e7
  clear e7
  have c8 := hid fun w => sub5_any r4 r7 w t4.out t7.out
  have t8 := sub5_t r4 r7 t4.out t7.out
  obtain ⟨r8, e8⟩ : ∃ r, r = sub5 r4 r7 := ⟨_, rfl⟩
  rw [← e8] at c8 t8
  replace t8 := hid t8
  have E8 := hid e8
  clear e8
  have c9 := hid fun w => add5_any r3 r3 w t3.out t3.out
  have t9 := add5_t r3 r3 t3.out t3.out
  obtain ⟨r9, e9⟩ : ∃ r, r = add5 r3 r3 := ⟨_, rfl⟩
  rw [← e9] at c9 t9
  replace t9 := hid t9
  have E9 := hid e9
  clear e9
  have c10 := hid fun w => add5_any r9 r6 w t9.out t6.out
  have t10 := add5_t r9 r6 t9.out t6.out
  obtain ⟨r10, e10⟩ : ∃ r, r = add5 r9 r6 := ⟨_, rfl⟩
  rw [← e10] at c10 t10
  replace t10 := hid t10
  have E10 := hid e10
  clear e10
  have c11 := hid fun w => from_any r8 r10 r6 r4 w t8.out t10.out t6.out t4.out
  obtain ⟨r11, e11⟩ : ∃ r, r = fromW r8 r10 r6 r4 := ⟨_, rfl⟩
  rw [← e11] at c11
  have E11 := hid e11
  clear e11
  clear hp
  unfold fe w4 at *
  obtain ⟨w0, hw0, k1, k2, hbl0⟩ := entry2 w 66 (cells4 p) 66 (cells4 zero4)
  have hb1_0 := hid k1
  have hb2_0 := hid k2
  clear k1 k2
  go_enter Try.func43, Try.ntmps43
  (repeat ((fail_if_success (with_reducible refine Go.at_region ?_)); go_step))
  refine wp_region_lit ?_
  (refine wpList_box 66 (.tmp 0) rfl rfl (cells4 p) rfl ?_; simp only [Act.put, pvA, pv0, pv1]; (try simp only [World.size_alloc]))
  (refine wpList_alloc_new rfl 66 rfl (cells4 zero4) z4 ?_; simp only [Act.put, pvA, pv0, pv1]; (try simp only [World.size_alloc]))
  refine wpList_nil ?_
  rw [← hw0]
  clear hw0
  (repeat ((fail_if_success (with_reducible refine Go.at_region ?_)); go_step))
  refine draw_new2 10 _ _ rfl 64 64 (cells5 zero5) (cells5 zero5) 3 4 rfl rfl rfl (by simp) z5 rfl rfl rfl (by simp) z5 (by decide) (by kernel_rfl) (by kernel_rfl) (by kernel_rfl) (by kernel_rfl) ?_
  simp only [List.take_succ_cons, List.take_zero]
  (apply calm_on rfl; (focus (intro W hB; go_simp; exact ⟨rfl, Below.refl _ _⟩)); simp only [Act.put, pvA, pv0, pv1])
  (refine calm_part rfl _ _ rfl _ _ rfl _ _ (cells5 (p).x) hb1_0.out (in4_x p) g5 (i5 (p).x) ?_; simp only [Act.put, pvA, pv0, pv1])
  (apply calm_on rfl; (focus (intro W hB; go_simp; exact ⟨rfl, Below.refl _ _⟩)); simp only [Act.put, pvA, pv0, pv1])
  (refine calm_part rfl _ _ rfl _ _ rfl _ _ (cells5 (p).x) hb1_0.out (in4_x p) g5 (i5 (p).x) ?_; simp only [Act.put, pvA, pv0, pv1])
  (apply calm_on rfl; (focus (intro W hB; go_simp; refine (c1.out W).mono ?_; rintro _ _ ⟨rfl, hb'⟩; exact ⟨rfl, hb'⟩)); simp only [Act.put, pvA, pv0, pv1])
  (apply calm_on rfl; (focus (intro W hB; go_simp; exact ⟨rfl, Below.refl _ _⟩)); simp only [Act.put, pvA, pv0, pv1])
  (refine calm_part rfl _ _ rfl _ _ rfl _ _ (cells5 (p).y) hb1_0.out (in4_y p) g5 (i5 (p).y) ?_; simp only [Act.put, pvA, pv0, pv1])
  (apply calm_on rfl; (focus (intro W hB; go_simp; exact ⟨rfl, Below.refl _ _⟩)); simp only [Act.put, pvA, pv0, pv1])
  (refine calm_part rfl _ _ rfl _ _ rfl _ _ (cells5 (p).y) hb1_0.out (in4_y p) g5 (i5 (p).y) ?_; simp only [Act.put, pvA, pv0, pv1])
  (apply calm_on rfl; (focus (intro W hB; go_simp; refine (c2.out W).mono ?_; rintro _ _ ⟨rfl, hb'⟩; exact ⟨rfl, hb'⟩)); simp only [Act.put, pvA, pv0, pv1])
  refine calm_nil ?_
  intro bk3 bk4 wx1 hle3 hle4 hne3 hx1 hn3 hn4
  simp only [List.drop_succ_cons, List.drop_zero]
  (try simp only [Act.put, pvA, pv0, pv1])
  have fb1 := hb1_0.out.step hx1
  have fb2 := hb2_0.out.step hx1
  have hbb := hbl0.trans (hx1.mono hbl0.size)
  have fb3 := hn3
  have fb4 := hn4
  have ne1_3 : w.heap.size ≠ bk3 := by have := hb1_0.out.lt; omega
  have ne2_3 : (w.heap.size + 1) ≠ bk3 := by have := hb2_0.out.lt; omega
  have ne1_4 : w.heap.size ≠ bk4 := by have := hb1_0.out.lt; omega
  have ne2_4 : (w.heap.size + 1) ≠ bk4 := by have := hb2_0.out.lt; omega
  have ge3 : w.heap.size ≤ bk3 := Nat.le_trans hbl0.size hle3
  have ge4 : w.heap.size ≤ bk4 := Nat.le_trans hbl0.size hle4
  refine wpList_set _ _ _ rfl rfl rfl _ _ rfl rfl _ _ fb3 (i5 r1) rfl (one_cells5 r1) ?_
  replace fb1 := fb1.other ne1_3 (cells5 r1)
  replace fb2 := fb2.other ne2_3 (cells5 r1)
  replace fb3 := fb3.set (cells5 r1)
  replace fb4 := fb4.other (Ne.symm hne3) (cells5 r1)
  replace hbb := below_set hbb bk3 (ge3) (cells5 r1)
  refine wpList_set _ _ _ rfl rfl rfl _ _ rfl rfl _ _ fb4 (i5 r2) rfl (one_cells5 r2) ?_
  replace fb1 := fb1.other ne1_4 (cells5 r2)
  replace fb2 := fb2.other ne2_4 (cells5 r2)
  replace fb3 := fb3.other hne3 (cells5 r2)
  replace fb4 := fb4.set (cells5 r2)
  replace hbb := below_set hbb bk4 (ge4) (cells5 r2)
  refine wpList_nil ?_
  obtain ⟨w1, hw⟩ : ∃ z, z = ((wx1.setRow bk3 (cells5 r1)).setRow bk4 (cells5 r2)) := ⟨_, rfl⟩
  rw [← hw] at hbb fb1 fb2 fb3 fb4 ⊢
  have hb1_1 := hid fb1
  have hb2_1 := hid fb2
  have hb3_1 := hid fb3
  have hb4_1 := hid fb4
  have hbl1 := hbb
  clear hw hbb fb1 fb2 fb3 fb4 hx1 hbl0 hb1_0 hb2_0 hle3 hn3 hle4 hn4
  (repeat ((fail_if_success (with_reducible refine Go.at_region ?_)); go_step))
  refine list_tail 5 ?_
  simp only [List.take_succ_cons, List.take_zero]
  (apply calm_on rfl; (focus (intro W hB; go_simp; exact ⟨rfl, Below.refl _ _⟩)); simp only [Act.put, pvA, pv0, pv1])
  (refine calm_part rfl _ _ rfl _ _ rfl _ _ (cells5 (p).z) hb1_1.out (in4_z p) g5 (i5 (p).z) ?_; simp only [Act.put, pvA, pv0, pv1])
  (apply calm_on rfl; (focus (intro W hB; go_simp; exact ⟨rfl, Below.refl _ _⟩)); simp only [Act.put, pvA, pv0, pv1])
  (refine calm_part rfl _ _ rfl _ _ rfl _ _ (cells5 (p).z) hb1_1.out (in4_z p) g5 (i5 (p).z) ?_; simp only [Act.put, pvA, pv0, pv1])
  (apply calm_on rfl; (focus (intro W hB; go_simp; refine (c3.out W).mono ?_; rintro _ _ ⟨rfl, hb'⟩; exact ⟨rfl, hb'⟩)); simp only [Act.put, pvA, pv0, pv1])
  refine calm_nil ?_
  intro wx2 hx2
  simp only [List.drop_succ_cons, List.drop_zero]
  (try simp only [Act.put, pvA, pv0, pv1])
  refine wpList_new 64 (cells5 zero5) rfl rfl z5 ?_
  intro bk5 wy2 hle5 hy2 hn5
  (try simp only [Act.put, pvA, pv0, pv1])
  replace hle5 := Nat.le_trans hx2.size hle5
  replace hx2 := hx2.trans (hy2.mono hx2.size)
  clear hy2
  have fb1 := hb1_1.out.step hx2
  have fb2 := hb2_1.out.step hx2
  have fb3 := hb3_1.out.step hx2
  have fb4 := hb4_1.out.step hx2
  have hbb := hbl1.trans (hx2.mono hbl1.size)
  have fb5 := hn5
  have ne1_5 : w.heap.size ≠ bk5 := by have := hb1_1.out.lt; omega
  have ne2_5 : (w.heap.size + 1) ≠ bk5 := by have := hb2_1.out.lt; omega
  have ne3_5 : bk3 ≠ bk5 := by have := hb3_1.out.lt; omega
  have ne4_5 : bk4 ≠ bk5 := by have := hb4_1.out.lt; omega
  have ge5 : w.heap.size ≤ bk5 := Nat.le_trans hbl1.size hle5
  refine wpList_set _ _ _ rfl rfl rfl _ _ rfl rfl _ _ fb5 (i5 r3) rfl (one_cells5 r3) ?_
  replace fb1 := fb1.other ne1_5 (cells5 r3)
  replace fb2 := fb2.other ne2_5 (cells5 r3)
  replace fb3 := fb3.other ne3_5 (cells5 r3)
  replace fb4 := fb4.other ne4_5 (cells5 r3)
  replace fb5 := fb5.set (cells5 r3)
  replace hbb := below_set hbb bk5 (ge5) (cells5 r3)
  refine wpList_nil ?_
  obtain ⟨w2, hw⟩ : ∃ z, z = (wy2.setRow bk5 (cells5 r3)) := ⟨_, rfl⟩
  rw [← hw] at hbb fb1 fb2 fb3 fb4 fb5 ⊢
  have hb1_2 := hid fb1
  have hb2_2 := hid fb2
  have hb3_2 := hid fb3
  have hb4_2 := hid fb4
  have hb5_2 := hid fb5
  have hbl2 := hbb
  clear hw hbb fb1 fb2 fb3 fb4 fb5 hx2 hbl1 hb1_1 hb2_1 hb3_1 hb4_1 hle5 hn5
  (repeat ((fail_if_success (with_reducible refine Go.at_region ?_)); go_step))
  refine list_tail 3 ?_
  simp only [List.take_succ_cons, List.take_zero]
  (refine calm_whole rfl _ _ rfl _ rfl _ _ hb3_2.out g5 (i5 r1) ?_; simp only [Act.put, pvA, pv0, pv1])
  (refine calm_whole rfl _ _ rfl _ rfl _ _ hb4_2.out g5 (i5 r2) ?_; simp only [Act.put, pvA, pv0, pv1])
  (apply calm_on rfl; (focus (intro W hB; go_simp; refine (c4.out W).mono ?_; rintro _ _ ⟨rfl, hb'⟩; exact ⟨rfl, hb'⟩)); simp only [Act.put, pvA, pv0, pv1])
  refine calm_nil ?_
  intro wx3 hx3
  simp only [List.drop_succ_cons, List.drop_zero]
  (try simp only [Act.put, pvA, pv0, pv1])
  refine wpList_new 64 (cells5 zero5) rfl rfl z5 ?_
  intro bk6 wy3 hle6 hy3 hn6
  (try simp only [Act.put, pvA, pv0, pv1])
  replace hle6 := Nat.le_trans hx3.size hle6
  replace hx3 := hx3.trans (hy3.mono hx3.size)
  clear hy3
  have fb1 := hb1_2.out.step hx3
  have fb2 := hb2_2.out.step hx3
  have fb3 := hb3_2.out.step hx3
  have fb4 := hb4_2.out.step hx3
  have fb5 := hb5_2.out.step hx3
  have hbb := hbl2.trans (hx3.mono hbl2.size)
  have fb6 := hn6
  have ne1_6 : w.heap.size ≠ bk6 := by have := hb1_2.out.lt; omega
  have ne2_6 : (w.heap.size + 1) ≠ bk6 := by have := hb2_2.out.lt; omega
  have ne3_6 : bk3 ≠ bk6 := by have := hb3_2.out.lt; omega
  have ne4_6 : bk4 ≠ bk6 := by have := hb4_2.out.lt; omega
  have ne5_6 : bk5 ≠ bk6 := by have := hb5_2.out.lt; omega
  have ge6 : w.heap.size ≤ bk6 := Nat.le_trans hbl2.size hle6
  refine wpList_set _ _ _ rfl rfl rfl _ _ rfl rfl _ _ fb6 (i5 r4) rfl (one_cells5 r4) ?_
  replace fb1 := fb1.other ne1_6 (cells5 r4)
  replace fb2 := fb2.other ne2_6 (cells5 r4)
  replace fb3 := fb3.other ne3_6 (cells5 r4)
  replace fb4 := fb4.other ne4_6 (cells5 r4)
  replace fb5 := fb5.other ne5_6 (cells5 r4)
  replace fb6 := fb6.set (cells5 r4)
  replace hbb := below_set hbb bk6 (ge6) (cells5 r4)
  refine wpList_nil ?_
  obtain ⟨w3, hw⟩ : ∃ z, z = (wy3.setRow bk6 (cells5 r4)) := ⟨_, rfl⟩
  rw [← hw] at hbb fb1 fb2 fb3 fb4 fb5 fb6 ⊢
  have hb1_3 := hid fb1
  have hb2_3 := hid fb2
  have hb3_3 := hid fb3
  have hb4_3 := hid fb4
  have hb5_3 := hid fb5
  have hb6_3 := hid fb6
  have hbl3 := hbb
  clear hw hbb fb1 fb2 fb3 fb4 fb5 fb6 hx3 hbl2 hb1_2 hb2_2 hb3_2 hb4_2 hb5_2 hle6 hn6
  (repeat ((fail_if_success (with_reducible refine Go.at_region ?_)); go_step))
  refine list_tail 5 ?_
  simp only [List.take_succ_cons, List.take_zero]
  (apply calm_on rfl; (focus (intro W hB; go_simp; exact ⟨rfl, Below.refl _ _⟩)); simp only [Act.put, pvA, pv0, pv1])
  (refine calm_part rfl _ _ rfl _ _ rfl _ _ (cells5 (p).x) hb1_3.out (in4_x p) g5 (i5 (p).x) ?_; simp only [Act.put, pvA, pv0, pv1])
  (apply calm_on rfl; (focus (intro W hB; go_simp; exact ⟨rfl, Below.refl _ _⟩)); simp only [Act.put, pvA, pv0, pv1])
  (refine calm_part rfl _ _ rfl _ _ rfl _ _ (cells5 (p).y) hb1_3.out (in4_y p) g5 (i5 (p).y) ?_; simp only [Act.put, pvA, pv0, pv1])
  (apply calm_on rfl; (focus (intro W hB; go_simp; refine (c5.out W).mono ?_; rintro _ _ ⟨rfl, hb'⟩; exact ⟨rfl, hb'⟩)); simp only [Act.put, pvA, pv0, pv1])
  refine calm_nil ?_
  intro wx4 hx4
  simp only [List.drop_succ_cons, List.drop_zero]
  (try simp only [Act.put, pvA, pv0, pv1])
  refine wpList_new 64 (cells5 zero5) rfl rfl z5 ?_
  intro bk7 wy4 hle7 hy4 hn7
  (try simp only [Act.put, pvA, pv0, pv1])
  replace hle7 := Nat.le_trans hx4.size hle7
  replace hx4 := hx4.trans (hy4.mono hx4.size)
  clear hy4
  have fb1 := hb1_3.out.step hx4
  have fb2 := hb2_3.out.step hx4
  have fb3 := hb3_3.out.step hx4
  have fb4 := hb4_3.out.step hx4
  have fb5 := hb5_3.out.step hx4
  have fb6 := hb6_3.out.step hx4
  have hbb := hbl3.trans (hx4.mono hbl3.size)
  have fb7 := hn7
  have ne1_7 : w.heap.size ≠ bk7 := by have := hb1_3.out.lt; omega
  have ne2_7 : (w.heap.size + 1) ≠ bk7 := by have := hb2_3.out.lt; omega
  have ne3_7 : bk3 ≠ bk7 := by have := hb3_3.out.lt; omega
  have ne4_7 : bk4 ≠ bk7 := by have := hb4_3.out.lt; omega
  have ne5_7 : bk5 ≠ bk7 := by have := hb5_3.out.lt; omega
  have ne6_7 : bk6 ≠ bk7 := by have := hb6_3.out.lt; omega
  have ge7 : w.heap.size ≤ bk7 := Nat.le_trans hbl3.size hle7
  refine wpList_set _ _ _ rfl rfl rfl _ _ rfl rfl _ _ fb7 (i5 r5) rfl (one_cells5 r5) ?_
  replace fb1 := fb1.other ne1_7 (cells5 r5)
  replace fb2 := fb2.other ne2_7 (cells5 r5)
  replace fb3 := fb3.other ne3_7 (cells5 r5)
  replace fb4 := fb4.other ne4_7 (cells5 r5)
  replace fb5 := fb5.other ne5_7 (cells5 r5)
  replace fb6 := fb6.other ne6_7 (cells5 r5)
  replace fb7 := fb7.set (cells5 r5)
  replace hbb := below_set hbb bk7 (ge7) (cells5 r5)
  refine wpList_nil ?_
  obtain ⟨w4, hw⟩ : ∃ z, z = (wy4.setRow bk7 (cells5 r5)) := ⟨_, rfl⟩
  rw [← hw] at hbb fb1 fb2 fb3 fb4 fb5 fb6 fb7 ⊢
  have hb1_4 := hid fb1
  have hb2_4 := hid fb2
  have hb3_4 := hid fb3
  have hb4_4 := hid fb4
  have hb5_4 := hid fb5
  have hb6_4 := hid fb6
  have hb7_4 := hid fb7
  have hbl4 := hbb
  clear hw hbb fb1 fb2 fb3 fb4 fb5 fb6 fb7 hx4 hbl3 hb1_3 hb2_3 hb3_3 hb4_3 hb5_3 hb6_3 hle7 hn7
  (repeat ((fail_if_success (with_reducible refine Go.at_region ?_)); go_step))
  refine list_tail 3 ?_
  simp only [List.take_succ_cons, List.take_zero]
  (refine calm_whole rfl _ _ rfl _ rfl _ _ hb3_4.out g5 (i5 r1) ?_; simp only [Act.put, pvA, pv0, pv1])
  (refine calm_whole rfl _ _ rfl _ rfl _ _ hb4_4.out g5 (i5 r2) ?_; simp only [Act.put, pvA, pv0, pv1])
  (apply calm_on rfl; (focus (intro W hB; go_simp; refine (c6.out W).mono ?_; rintro _ _ ⟨rfl, hb'⟩; exact ⟨rfl, hb'⟩)); simp only [Act.put, pvA, pv0, pv1])
  refine calm_nil ?_
  intro wx5 hx5
  simp only [List.drop_succ_cons, List.drop_zero]
  (try simp only [Act.put, pvA, pv0, pv1])
  refine wpList_new 64 (cells5 zero5) rfl rfl z5 ?_
  intro bk8 wy5 hle8 hy5 hn8
  (try simp only [Act.put, pvA, pv0, pv1])
  replace hle8 := Nat.le_trans hx5.size hle8
  replace hx5 := hx5.trans (hy5.mono hx5.size)
  clear hy5
  have fb1 := hb1_4.out.step hx5
  have fb2 := hb2_4.out.step hx5
  have fb3 := hb3_4.out.step hx5
  have fb4 := hb4_4.out.step hx5
  have fb5 := hb5_4.out.step hx5
  have fb6 := hb6_4.out.step hx5
  have fb7 := hb7_4.out.step hx5
  have hbb := hbl4.trans (hx5.mono hbl4.size)
  have fb8 := hn8
  have ne1_8 : w.heap.size ≠ bk8 := by have := hb1_4.out.lt; omega
  have ne2_8 : (w.heap.size + 1) ≠ bk8 := by have := hb2_4.out.lt; omega
  have ne3_8 : bk3 ≠ bk8 := by have := hb3_4.out.lt; omega
  have ne4_8 : bk4 ≠ bk8 := by have := hb4_4.out.lt; omega
  have ne5_8 : bk5 ≠ bk8 := by have := hb5_4.out.lt; omega
  have ne6_8 : bk6 ≠ bk8 := by have := hb6_4.out.lt; omega
  have ne7_8 : bk7 ≠ bk8 := by have := hb7_4.out.lt; omega
  have ge8 : w.heap.size ≤ bk8 := Nat.le_trans hbl4.size hle8
  refine wpList_set _ _ _ rfl rfl rfl _ _ rfl rfl _ _ fb8 (i5 r6) rfl (one_cells5 r6) ?_
  replace fb1 := fb1.other ne1_8 (cells5 r6)
  replace fb2 := fb2.other ne2_8 (cells5 r6)
  replace fb3 := fb3.other ne3_8 (cells5 r6)
  replace fb4 := fb4.other ne4_8 (cells5 r6)
  replace fb5 := fb5.other ne5_8 (cells5 r6)
  replace fb6 := fb6.other ne6_8 (cells5 r6)
  replace fb7 := fb7.other ne7_8 (cells5 r6)
  replace fb8 := fb8.set (cells5 r6)
  replace hbb := below_set hbb bk8 (ge8) (cells5 r6)
  refine wpList_nil ?_
  obtain ⟨w5, hw⟩ : ∃ z, z = (wy5.setRow bk8 (cells5 r6)) := ⟨_, rfl⟩
  rw [← hw] at hbb fb1 fb2 fb3 fb4 fb5 fb6 fb7 fb8 ⊢
  have hb1_5 := hid fb1
  have hb2_5 := hid fb2
  have hb3_5 := hid fb3
  have hb4_5 := hid fb4
  have hb5_5 := hid fb5
  have hb6_5 := hid fb6
  have hb7_5 := hid fb7
  have hb8_5 := hid fb8
  have hbl5 := hbb
  clear hw hbb fb1 fb2 fb3 fb4 fb5 fb6 fb7 fb8 hx5 hbl4 hb1_4 hb2_4 hb3_4 hb4_4 hb5_4 hb6_4 hb7_4 hle8 hn8
  (repeat ((fail_if_success (with_reducible refine Go.at_region ?_)); go_step))
  refine draw_tail 13 (by kernel_rfl) (by kernel_rfl) (by kernel_rfl) ?_
  simp only [List.take_succ_cons, List.take_zero]
  (refine calm_whole rfl _ _ rfl _ rfl _ _ hb6_5.out g5 (i5 r4) ?_; simp only [Act.put, pvA, pv0, pv1])
  iterate 2 (refine calm_whole rfl _ _ rfl _ rfl _ _ hb7_5.out g5 (i5 r5) ?_; simp only [Act.put, pvA, pv0, pv1])
  (apply calm_on rfl; (focus (intro W hB; go_simp; refine (c7.out W).mono ?_; rintro _ _ ⟨rfl, hb'⟩; exact ⟨rfl, hb'⟩)); simp only [Act.put, pvA, pv0, pv1])
  (apply calm_on rfl; (focus (intro W hB; go_simp; refine (c8.out W).mono ?_; rintro _ _ ⟨rfl, hb'⟩; exact ⟨rfl, hb'⟩)); simp only [Act.put, pvA, pv0, pv1])
  iterate 2 (refine calm_whole rfl _ _ rfl _ rfl _ _ hb5_5.out g5 (i5 r3) ?_; simp only [Act.put, pvA, pv0, pv1])
  (apply calm_on rfl; (focus (intro W hB; go_simp; refine (c9.out W).mono ?_; rintro _ _ ⟨rfl, hb'⟩; exact ⟨rfl, hb'⟩)); simp only [Act.put, pvA, pv0, pv1])
  (refine calm_whole rfl _ _ rfl _ rfl _ _ hb8_5.out g5 (i5 r6) ?_; simp only [Act.put, pvA, pv0, pv1])
  (apply calm_on rfl; (focus (intro W hB; go_simp; refine (c10.out W).mono ?_; rintro _ _ ⟨rfl, hb'⟩; exact ⟨rfl, hb'⟩)); simp only [Act.put, pvA, pv0, pv1])
  (refine calm_whole rfl _ _ rfl _ rfl _ _ hb8_5.out g5 (i5 r6) ?_; simp only [Act.put, pvA, pv0, pv1])
  (refine calm_whole rfl _ _ rfl _ rfl _ _ hb6_5.out g5 (i5 r4) ?_; simp only [Act.put, pvA, pv0, pv1])
  (apply calm_on rfl; (focus (intro W hB; go_simp; refine (c11.out W).mono ?_; rintro _ _ ⟨rfl, hb'⟩; exact ⟨rfl, hb'⟩)); simp only [Act.put, pvA, pv0, pv1])
  refine calm_nil ?_
  intro wx6 hx6
  simp only [List.drop_succ_cons, List.drop_zero]
  (try simp only [Act.put, pvA, pv0, pv1])
  have fb1 := hb1_5.out.step hx6
  have fb2 := hb2_5.out.step hx6
  have fb3 := hb3_5.out.step hx6
  have fb4 := hb4_5.out.step hx6
  have fb5 := hb5_5.out.step hx6
  have fb6 := hb6_5.out.step hx6
  have fb7 := hb7_5.out.step hx6
  have fb8 := hb8_5.out.step hx6
  have hbb := hbl5.trans (hx6.mono hbl5.size)
  refine wpList_set _ _ _ rfl rfl rfl _ _ rfl rfl _ _ fb2 (i4 r11) rfl (one_cells4 r11) ?_
  replace fb1 := fb1.other (show w.heap.size ≠ (w.heap.size + 1) by omega) (cells4 r11)
  replace fb2 := fb2.set (cells4 r11)
  replace fb3 := fb3.other (Ne.symm ne2_3) (cells4 r11)
  replace fb4 := fb4.other (Ne.symm ne2_4) (cells4 r11)
  replace fb5 := fb5.other (Ne.symm ne2_5) (cells4 r11)
  replace fb6 := fb6.other (Ne.symm ne2_6) (cells4 r11)
  replace fb7 := fb7.other (Ne.symm ne2_7) (cells4 r11)
  replace fb8 := fb8.other (Ne.symm ne2_8) (cells4 r11)
  replace hbb := below_set hbb (w.heap.size + 1) (by omega) (cells4 r11)
  refine wpList_nil ?_
  obtain ⟨w6, hw⟩ : ∃ z, z = (wx6.setRow (w.heap.size + 1) (cells4 r11)) := ⟨_, rfl⟩
  rw [← hw] at hbb fb1 fb2 fb3 fb4 fb5 fb6 fb7 fb8 ⊢
  have hb1_6 := hid fb1
  have hb2_6 := hid fb2
  have hb3_6 := hid fb3
  have hb4_6 := hid fb4
  have hb5_6 := hid fb5
  have hb6_6 := hid fb6
  have hb7_6 := hid fb7
  have hb8_6 := hid fb8
  have hbl6 := hbb
  clear hw hbb fb1 fb2 fb3 fb4 fb5 fb6 fb7 fb8 hx6 hbl5 hb1_5 hb2_5 hb3_5 hb4_5 hb5_5 hb6_5 hb7_5 hb8_5 
  (repeat ((fail_if_success (with_reducible refine Go.at_region ?_)); go_step))
  refine ret_blk (w.heap.size + 1) 66 (cells4 r11) rfl rfl hb2_6.out g4 (i4 r11) rfl ?_
  exact ⟨(by rw [E11.out, E10.out, E9.out, E8.out, E7.out, E6.out, E5.out, E4.out, E3.out, E2.out, E1.out]; first | done | rfl), hbl6⟩
set_option maxRecDepth 100000 in
set_option maxHeartbeats 4000000 in
theorem pointW_any (p : W4) (w : World) (hp : TW p) : Calls Try.prog 44 #[w4 p] w fun e w' => e = .returned (pt (pointW p)) ∧ Below w.heap.size w w' := by
  have c1 := hid fun w => inv5_any p.z w hp.z
  have t1 := inv5_t p.z hp.z
  obtain ⟨r1, e1⟩ : ∃ r, r = inv5 p.z := ⟨_, rfl⟩
  rw [← e1] at c1 t1
  replace t1 := hid t1
  have E1 := hid e1
  clear e1
  have c2 := hid fun w => mul5_any p.x r1 w hp.x t1.out
  have t2 := mul5_t p.x r1 hp.x t1.out
  obtain ⟨r2, e2⟩ : ∃ r, r = mul5 p.x r1 := ⟨_, rfl⟩
  rw [← e2] at c2 t2
  replace t2 := hid t2
  have E2 := hid e2
  clear e2
  have c3 := hid fun w => word5_any r2 w t2.out
  obtain ⟨r3, e3⟩ : ∃ r, r = val5 r2 % pN := ⟨_, rfl⟩
  rw [← e3] at c3
  have E3 := hid e3
  clear e3
  have c4 := hid fun w => mul5_any p.y r1 w hp.y t1.out
  have t4 := mul5_t p.y r1 hp.y t1.out
  obtain ⟨r4, e4⟩ : ∃ r, r = mul5 p.y r1 := ⟨_, rfl⟩
  rw [← e4] at c4 t4
  replace t4 := hid t4
  have E4 := hid e4
  clear e4
  have c5 := hid fun w => word5_any r4 w t4.out
  obtain ⟨r5, e5⟩ : ∃ r, r = val5 r4 % pN := ⟨_, rfl⟩
  rw [← e5] at c5
  have E5 := hid e5
  clear e5
  clear hp
  unfold fe w4 pt wd at *
  obtain ⟨w0, hw0, k1, k2, hbl0⟩ := entry2 w 66 (cells4 p) 44 (cellsP zeroP)
  have hb1_0 := hid k1
  have hb2_0 := hid k2
  clear k1 k2
  go_enter Try.func44, Try.ntmps44
  (repeat ((fail_if_success (with_reducible refine Go.at_region ?_)); go_step))
  refine wp_region_lit ?_
  (refine wpList_box 66 (.tmp 0) rfl rfl (cells4 p) rfl ?_; simp only [Act.put, pvA, pv0, pv1]; (try simp only [World.size_alloc]))
  (refine wpList_alloc_new rfl 44 rfl (cellsP zeroP) zPe ?_; simp only [Act.put, pvA, pv0, pv1]; (try simp only [World.size_alloc]))
  refine wpList_nil ?_
  rw [← hw0]
  clear hw0
  (repeat ((fail_if_success (with_reducible refine Go.at_region ?_)); go_step))
  refine list_tail 3 ?_
  simp only [List.take_succ_cons, List.take_zero]
  (apply calm_on rfl; (focus (intro W hB; go_simp; exact ⟨rfl, Below.refl _ _⟩)); simp only [Act.put, pvA, pv0, pv1])
  (refine calm_part rfl _ _ rfl _ _ rfl _ _ (cells5 (p).z) hb1_0.out (in4_z p) g5 (i5 (p).z) ?_; simp only [Act.put, pvA, pv0, pv1])
  (apply calm_on rfl; (focus (intro W hB; go_simp; refine (c1.out W).mono ?_; rintro _ _ ⟨rfl, hb'⟩; exact ⟨rfl, hb'⟩)); simp only [Act.put, pvA, pv0, pv1])
  refine calm_nil ?_
  intro wx1 hx1
  simp only [List.drop_succ_cons, List.drop_zero]
  (try simp only [Act.put, pvA, pv0, pv1])
  refine wpList_new 64 (cells5 zero5) rfl rfl z5 ?_
  intro bk3 wy1 hle3 hy1 hn3
  (try simp only [Act.put, pvA, pv0, pv1])
  replace hle3 := Nat.le_trans hx1.size hle3
  replace hx1 := hx1.trans (hy1.mono hx1.size)
  clear hy1
  have fb1 := hb1_0.out.step hx1
  have fb2 := hb2_0.out.step hx1
  have hbb := hbl0.trans (hx1.mono hbl0.size)
  have fb3 := hn3
  have ne1_3 : w.heap.size ≠ bk3 := by have := hb1_0.out.lt; omega
  have ne2_3 : (w.heap.size + 1) ≠ bk3 := by have := hb2_0.out.lt; omega
  have ge3 : w.heap.size ≤ bk3 := Nat.le_trans hbl0.size hle3
  refine wpList_set _ _ _ rfl rfl rfl _ _ rfl rfl _ _ fb3 (i5 r1) rfl (one_cells5 r1) ?_
  replace fb1 := fb1.other ne1_3 (cells5 r1)
  replace fb2 := fb2.other ne2_3 (cells5 r1)
  replace fb3 := fb3.set (cells5 r1)
  replace hbb := below_set hbb bk3 (ge3) (cells5 r1)
  refine wpList_nil ?_
  obtain ⟨w1, hw⟩ : ∃ z, z = (wy1.setRow bk3 (cells5 r1)) := ⟨_, rfl⟩
  rw [← hw] at hbb fb1 fb2 fb3 ⊢
  have hb1_1 := hid fb1
  have hb2_1 := hid fb2
  have hb3_1 := hid fb3
  have hbl1 := hbb
  clear hw hbb fb1 fb2 fb3 hx1 hbl0 hb1_0 hb2_0 hle3 hn3
  (repeat ((fail_if_success (with_reducible refine Go.at_region ?_)); go_step))
  refine draw_tail 11 (by kernel_rfl) (by kernel_rfl) (by kernel_rfl) ?_
  simp only [List.take_succ_cons, List.take_zero]
  (apply calm_on rfl; (focus (intro W hB; go_simp; exact ⟨rfl, Below.refl _ _⟩)); simp only [Act.put, pvA, pv0, pv1])
  (refine calm_part rfl _ _ rfl _ _ rfl _ _ (cells5 (p).x) hb1_1.out (in4_x p) g5 (i5 (p).x) ?_; simp only [Act.put, pvA, pv0, pv1])
  (refine calm_whole rfl _ _ rfl _ rfl _ _ hb3_1.out g5 (i5 r1) ?_; simp only [Act.put, pvA, pv0, pv1])
  (apply calm_on rfl; (focus (intro W hB; go_simp; refine (c2.out W).mono ?_; rintro _ _ ⟨rfl, hb'⟩; exact ⟨rfl, hb'⟩)); simp only [Act.put, pvA, pv0, pv1])
  (apply calm_on rfl; (focus (intro W hB; go_simp; refine (c3.out W).mono ?_; rintro _ _ ⟨rfl, hb'⟩; exact ⟨rfl, hb'⟩)); simp only [Act.put, pvA, pv0, pv1])
  (apply calm_on rfl; (focus (intro W hB; go_simp; exact ⟨rfl, Below.refl _ _⟩)); simp only [Act.put, pvA, pv0, pv1])
  (refine calm_part rfl _ _ rfl _ _ rfl _ _ (cells5 (p).y) hb1_1.out (in4_y p) g5 (i5 (p).y) ?_; simp only [Act.put, pvA, pv0, pv1])
  (refine calm_whole rfl _ _ rfl _ rfl _ _ hb3_1.out g5 (i5 r1) ?_; simp only [Act.put, pvA, pv0, pv1])
  (apply calm_on rfl; (focus (intro W hB; go_simp; refine (c4.out W).mono ?_; rintro _ _ ⟨rfl, hb'⟩; exact ⟨rfl, hb'⟩)); simp only [Act.put, pvA, pv0, pv1])
  (apply calm_on rfl; (focus (intro W hB; go_simp; refine (c5.out W).mono ?_; rintro _ _ ⟨rfl, hb'⟩; exact ⟨rfl, hb'⟩)); simp only [Act.put, pvA, pv0, pv1])
  (refine calm_build rfl 44 _ rfl (cellsP ⟨r3, r5⟩) (by first | (simp only [List.map_toArray, List.map_cons, List.map_nil]; exact (bPe r3 r5)) | exact (bPe r3 r5)) ?_; simp only [Act.put, pvA, pv0, pv1])
  refine calm_nil ?_
  intro wx2 hx2
  simp only [List.drop_succ_cons, List.drop_zero]
  (try simp only [Act.put, pvA, pv0, pv1])
  have fb1 := hb1_1.out.step hx2
  have fb2 := hb2_1.out.step hx2
  have fb3 := hb3_1.out.step hx2
  have hbb := hbl1.trans (hx2.mono hbl1.size)
  refine wpList_set _ _ _ rfl rfl rfl _ _ rfl rfl _ _ fb2 (iPe ⟨r3, r5⟩) rfl (one_cellsP ⟨r3, r5⟩) ?_
  replace fb1 := fb1.other (show w.heap.size ≠ (w.heap.size + 1) by omega) (cellsP ⟨r3, r5⟩)
  replace fb2 := fb2.set (cellsP ⟨r3, r5⟩)
  replace fb3 := fb3.other (Ne.symm ne2_3) (cellsP ⟨r3, r5⟩)
  replace hbb := below_set hbb (w.heap.size + 1) (by omega) (cellsP ⟨r3, r5⟩)
  refine wpList_nil ?_
  obtain ⟨w2, hw⟩ : ∃ z, z = (wx2.setRow (w.heap.size + 1) (cellsP ⟨r3, r5⟩)) := ⟨_, rfl⟩
  rw [← hw] at hbb fb1 fb2 fb3 ⊢
  have hb1_2 := hid fb1
  have hb2_2 := hid fb2
  have hb3_2 := hid fb3
  have hbl2 := hbb
  clear hw hbb fb1 fb2 fb3 hx2 hbl1 hb1_1 hb2_1 hb3_1 
  (repeat ((fail_if_success (with_reducible refine Go.at_region ?_)); go_step))
  refine ret_blk (w.heap.size + 1) 44 (cellsP ⟨r3, r5⟩) rfl rfl hb2_2.out gPe (iPe ⟨r3, r5⟩) rfl ?_
  exact ⟨(by rw [E5.out, E4.out, E3.out, E2.out, E1.out]; first | done | rfl), hbl2⟩
end Go.Proofs.Ytejnnghfelpioaa
namespace Go
open Go.RowKit
section
variable {P : Program} {ops : Array Oper}
theorem rowsIn_of_rows {r n : Nat} {row : String} {args : Array Value} {w : World} {R : Value → World → Prop} (h : Rows P row args w R) : RowsIn (Fence.wide.inRound r) n P row args w R :=
  fun c cs _ => let ⟨v, w', hr, s⟩ := h c cs; ⟨v, w', hr, stepsIn_wide.2 s⟩
theorem Oper.wpIn_of_wp {r n : Nat} {o : Oper} {a : Act} {w : World} {K K' : Act → World → Prop} {Q : Exit → Act → World → Prop} (hd : ∀ c, o.op ≠ .defer c) (hK : ∀ a w, K a w → K' a w) (h : o.wp P a w K Q) : o.wpIn (Fence.wide.inRound r) n P a w K' Q := by
  refine ⟨fun _ _ => trivial, ?_⟩
  unfold Oper.wp at h
  rw [Fence.inRound_round, Oper.semAt_some r _ _ hd]
  generalize (execOp a.eval o).run P w = res at h
  match res, h with
  | .ok (.value v) w', h => exact hK _ _ h
  | .ok .skip w', h => exact hK _ _ h
  | .ok (.defer d) w', h => exact hK _ _ h
  | .ok (.enter f args) w', h =>
    refine ⟨fun e => by simp [Fence.wide] at e, CallsIn.inRound r (callsIn_wide.2 (Calls.mono h ?_))⟩
    intro e w'' he
    match e, he with
    | .returned v, he => exact hK _ _ he
    | .panicked c, he => exact he
    | .outgrown, he => exact he
  | .ok (.row row args) w', h => exact ⟨fun e => by simp [Fence.wide] at e, rowsIn_of_rows (Rows.mono h fun v w'' he => hK _ _ he)⟩
  | .halt (.panic v) w', h => exact h
theorem wpOpsIn_of_wpOps {r n : Nat} {Q : Exit → Act → World → Prop} (hQ : ¬ LetsOut Q) (hd : ∀ (i : Nat) (o : Oper) c, ops[i]? = some o → o.op ≠ .defer c) : ∀ (l : List Nat) (a : Act) (w : World), wpOps P ops Q l a w → wpOpsIn (Fence.wide.inRound r) n P ops Q l a w
  | [], a, w, h => h
  | i :: rest, a, w, h => by
    unfold wpOps at h
    unfold wpOpsIn
    cases ho : ops[i]? with
    | none => simp only [ho] at h ⊢; exact wpOpsIn_of_wpOps hQ hd rest a w h
    | some o =>
      simp only [ho] at h ⊢
      split
      · rename_i hw
        rw [if_pos hw] at h
        rcases h with h | ⟨_, h⟩
        · exact Oper.wpIn_of_wp (fun c => hd i o c ho) (fun a w => wpOpsIn_of_wpOps hQ hd rest a w) h
        · exact absurd h hQ
      · rename_i hw
        rw [if_neg hw] at h
        exact ⟨fun _ _ => trivial, wpOpsIn_of_wpOps hQ hd rest _ _ h⟩
theorem noDefer_of {l : List Oper} (h : l.all (fun o => match o.op with | .defer _ => false | _ => true) = true) : ∀ (i : Nat) (o : Oper) c, l.toArray[i]? = some o → o.op ≠ .defer c := by
  intro i o c ho e
  rw [List.all_eq_true] at h
  have := h o (List.mem_of_getElem? (by simpa using ho))
  rw [e] at this
  cases this
theorem wpIn_region_any_round {r n id : Nat} {Q : Exit → Act → World → Prop} {a : Act} {w : World} (hQ : ¬ LetsOut Q) (hd : ∀ (i : Nat) (o : Oper) c, ops[i]? = some o → o.op ≠ .defer c) (hm : P.follows .mixedOrders = true)
    (h : wpAny P .any ops Q ops.size (Array.replicate ops.size false) a w.drew) : (Code.region id ops true).wpIn (Fence.wide.inRound r) n P Q a w :=
  wpIn_region_draw fun t => by
    simp only [Region.schedule, hm, Bool.true_or, if_true]
    exact wpOpsIn_of_wpOps hQ hd _ _ _ (wpAny_sound ops.size t _ a _ h)
theorem wpIn_region_plain {r m id : Nat} {Q : Exit → Act → World → Prop} {a : Act} {w : World} {l : List Oper} (hQ : ¬ LetsOut Q) (hd : l.all (fun o => match o.op with | .defer _ => false | _ => true) = true)
    (h : wpOps P l.toArray Q (List.range l.toArray.size) a w) : (Code.region id l.toArray false).wpIn (Fence.wide.inRound r) m P Q a w :=
  wpIn_region (wpOpsIn_of_wpOps hQ (noDefer_of hd) _ _ _ h)
end
end Go
namespace Go.Proofs.Ytejnnghfelpioaa
open Go.RowKit Go.Shelf
attribute [local go_sem] Oper.semAt_some
def dbit (x k : Nat) : Bool := decide (x / 2 ^ (255 - k) % 2 = 1)
def KpD (B : Nat) (W W' : World) : Prop := W'.heap[B]? = W.heap[B]?
def seqD (B : Nat) : Value := .func (.func 79) #[] #[.pointer (some ⟨B, 0, none⟩)]
set_option maxHeartbeats 1000000 in
theorem edown_any (x : Nat) (w : World) : Calls Try.prog 55 #[wd x] w fun e w' => e = .returned (seqD w.heap.size) ∧ Below w.heap.size w w' ∧ Blk 25 w' w.heap.size (cellsW x) := by
  have hA := hid (Blk.new 25 w (cellsW x))
  unfold wd
  go_enter Try.func55, Try.ntmps55
  go_wp2
  go_ret
  exact ⟨rfl, (by repeat (first | (with_reducible first | exact Below.refl _ _ | assumption | refine World.ext_below_of ?_ ?_ _ | refine Below.setCell ?_ ?_ _ | refine Below.alloc ?_ ?_ _ | refine Below.drew ?_ | refine World.size_le_ext _ _ _ ?_) | (solve | simp [go_sem] | (simp [go_sem]; omega) | omega))), hA.out⟩
set_option maxHeartbeats 2000000 in
theorem down_stops (n x B : Nat) (w : World) (hn : 1 ≤ n) (h0 : Blk 25 w B (cellsW x)) :
    SeqStopsK Fence.wide n Try.prog 79 #[.pointer (some ⟨B, 0, none⟩)] (fun k : Fin 256 => #[.bool (dbit x k.val)]) (KpD B) (fun xs => xs.map Fin.val = List.range 256) (fun _ => True) 256 w := by
  intro l J Jx W hW hJ hJx hY hj0
  have b0 : Blk 25 W B (cellsW x) := (hW.block B h0.lt).trans h0
  refine callsIn_of_wp Try.func79 rfl trivial ?_ rfl
  simp only [Try.ntmps79, List.size_toArray, List.length_cons, List.length_nil, Nat.reduceAdd, Nat.reduceSub, Array.replicate_succ, Array.replicate_zero, List.push_toArray, List.append_toArray, List.nil_append, List.cons_append]
  gi_wp2
  gi_loopw [3] (fun i wr => ∃ (k : Nat) (y : Int) (pre : List (Fin 256)), k ≤ 256 ∧ y + (k : Int) = 255 ∧ i = .int .i64 y ∧ pre.map Fin.val = List.range k ∧ J pre wr ∧ Hid (Blk 25 wr B (cellsW x)))
    (fun i wr => (intOf i + 1).toNat)
  case atStart => exact ⟨0, 255, [], by omega, by omega, rfl, rfl, hj0, hid b0⟩
  case round =>
    obtain ⟨k, y, pre, hk, hy0, rfl, hpre, hjk, b0⟩ := hrel
    by_cases hlt : k < 256
    · obtain ⟨j, hj⟩ : ∃ j : Nat, j = 255 - k := ⟨_, rfl⟩
      obtain rfl : y = (j : Int) := by omega
      have c0 := b0.out.cell (j / 64) _ (cellsW_at x (j / 64) (by omega))
      have l0 := b0.out.lt
      have hbit := lm_bit x j
      have hpl : pre.length = k := by have := congrArg List.length hpre; simpa using this
      obtain ⟨fn, tmps, assign, body, hy, hR⟩ := hY pre ⟨k, hlt⟩ wr hjk (by omega)
      dsimp only at hy
      have hj255 : (j : Int) ≤ 255 := by omega
      have hdb : dbit x k = decide (x / 2 ^ j % 2 = 1) := by unfold dbit; rw [hj]
      rw [hdb] at hy
      have HK := hid hj
      clear hj hdb hy0
      rcases (show x / 2 ^ j % 2 = 0 ∨ x / 2 ^ j % 2 = 1 by omega) with hb | hb
      all_goals
        rw [hb] at hbit hy
        (try rw [show decide ((0 : Nat) = 1) = false from rfl] at hy)
        (try rw [show decide ((1 : Nat) = 1) = true from rfl] at hy)
        clear hb
        gi_wp2
        refine hR.mono ?_
        rintro e W3 (⟨rfl, hJ3, hk3⟩ | ⟨rfl, hJx3⟩)
        · have b03 := hid (show Blk 25 W3 B (cellsW x) from hk3.trans b0.out)
          gi_wp2
          go_roundw
          case rel => exact ⟨k + 1, (j : Int) - 1, pre ++ [⟨k, hlt⟩], by omega, by have := HK.out; omega, by go_num, by rw [List.map_append, hpre, List.range_succ]; rfl, hJ3, b03⟩
          case measure => simp [intOf]
        · gi_wp2
          refine bodyPost_ret (results_none rfl _ _ _) rfl ?_
          exact ⟨⟨_, rfl⟩, .inr ⟨_, trivial, hJx3⟩⟩
    · obtain rfl : k = 256 := by omega
      obtain rfl : y = -1 := by omega
      gi_wp2
      go_end0
      exact ⟨⟨_, rfl⟩, .inl ⟨pre, hpre, hjk⟩⟩
end Go.Proofs.Ytejnnghfelpioaa
namespace Go
open Go.RowKit
theorem wpIn_list {P : Program} {r m id : Nat} {Q : Exit → Act → World → Prop} {a : Act} {w : World} {l : List Oper} (hQ : ¬ LetsOut Q) (hd : l.all (fun o => match o.op with | .defer _ => false | _ => true) = true)
    (h : wpList P l.toArray Q l a w) : (Code.region id l.toArray false).wpIn (Fence.wide.inRound r) m P Q a w :=
  wpIn_region_plain hQ hd (by rw [List.range_eq_range', ← Array.length_toList, wpOps_eq_wpList l.toArray.toList 0 (by simp)]; simpa using h)
theorem wpIn_calm {P : Program} {r m id : Nat} {Q : Exit → Act → World → Prop} {a : Act} {w : World} {l : List Oper} (n : Nat) (hQ : ¬ LetsOut Q) (hd : l.all (fun o => match o.op with | .defer _ => false | _ => true) = true)
    (h : wpCalm P l.toArray w (fun a' => ∀ w', Below w.heap.size w w' → wpList P l.toArray Q (l.drop n) a' w') (l.take n) a) : (Code.region id l.toArray false).wpIn (Fence.wide.inRound r) m P Q a w :=
  wpIn_list hQ hd (by
    have := wpList_calm (tail := l.drop n) (l.take n) a w (Below.refl _ _) h
    rwa [List.take_append_drop] at this)
theorem at_regionIn {P : Program} {F : Fence} {n id : Nat} {b : Bool} {ops : Array Oper} {Q : Exit → Act → World → Prop} {a : Act} {w : World} (h : (Code.region id ops b).wpIn F n P Q a w) : (Code.region id ops b).wpIn F n P Q a w := h
theorem grown_row {W Wx : World} (hx : Below W.heap.size W Wx) (G : Nat) (cs : Array Value) : W.grownBy (Wx.setRow G cs) (some G) :=
  ⟨hx.os, hx.tape, hx.output, by have := hx.size; simpa [World.setRow] using this, fun k hk hne => by
    have : k ≠ G := fun e => hne (by rw [e])
    simp only [World.setRow, Array.getElem?_modify]
    rw [if_neg (by omega)]; exact hx.block k hk⟩
theorem grown_trans {a b c : World} {row : Option Nat} (h : a.grownBy b row) (k : b.grownBy c row) : a.grownBy c row :=
  ⟨k.os.trans h.os, k.tape.trans h.tape, k.output.trans h.output, Nat.le_trans h.size k.size, fun i hi hne => (k.block i (Nat.lt_of_lt_of_le hi h.size) hne).trans (h.block i hi hne)⟩
theorem Blk.grown {t : TypeId} {w w' : World} {g : Nat} {cs : Array Value} {row : Option Nat} (h : Blk t w g cs) (hg : w.grownBy w' row) (hne : some g ≠ row) : Blk t w' g cs := (hg.block g h.lt hne).trans h
end Go
namespace Go.Proofs.Ytejnnghfelpioaa
open Go.RowKit Go.Shelf
attribute [local go_sem] Oper.semAt_some
def stepW (x : Nat) (p o : W4) (k : Nat) : W4 := if dbit x k = true then plusW (twiceW o) p else twiceW o
theorem stepW_t (x : Nat) (p o : W4) (k : Nat) (hp : TW p) (ho : TW o) : TW (stepW x p o k) := by
  unfold stepW; split
  · exact plusW_t _ _ (twiceW_t _ ho) hp
  · exact twiceW_t _ ho
theorem foldW_t (x : Nat) (p : W4) (hp : TW p) : ∀ (l : List Nat) (o : W4), TW o → TW (l.foldl (stepW x p) o)
  | [], _, h => h
  | k :: l, o, h => foldW_t x p hp l _ (stepW_t x p o k hp h)
def mW (x : Nat) (p : W4) : W4 := (List.range 256).foldl (stepW x p) noneW
theorem mW_t (x : Nat) (p : W4) (hp : TW p) : TW (mW x p) := foldW_t x p hp _ _ noneW_t
def mP (x : Nat) (p : W4) (pre : List (Fin 256)) : W4 := (pre.map Fin.val).foldl (stepW x p) noneW
theorem mP_snoc (x : Nat) (p : W4) (pre : List (Fin 256)) (k : Fin 256) : mP x p (pre ++ [k]) = stepW x p (mP x p pre) k.val := by
  unfold mP; rw [List.map_append, List.foldl_append]; rfl
set_option maxRecDepth 100000 in
set_option maxHeartbeats 8000000 in
theorem timesW_any (p : W4) (x : Nat) (w : World) (hp : TW p) : Calls Try.prog 46 #[w4 p, wd x] w fun e w' => e = .returned (w4 (mW x p)) ∧ Below w.heap.size w w' := by
  have hN := hid fun w => none_any w
  have hD := hid fun w => edown_any x w
  have hT := hid fun q w (h : TW q) => twiceW_any q w h
  have hP := hid fun q w (h : TW q) => plusW_any q p w h hp
  have hM := hid fun pre => (show TW (mP x p pre) from foldW_t x p hp _ _ noneW_t)
  clear hp
  obtain ⟨w0, hw0, k2, k3, k4, hb0⟩ := entry3 w 66 (cells4 p) 25 (cellsW x) 66 (cells4 zero4)
  have hA0 := hid k2
  have hX0 := hid k3
  have hR0 := hid k4
  clear k2 k3 k4
  unfold w4 wd at *
  refine (callsIn_wide (n := 3)).1 (callsIn_of_wp_marks Try.func46 rfl trivial (wpIn_wide.2 ?_) rfl)
  simp only [Try.ntmps46, List.size_toArray, List.length_cons, List.length_nil, Nat.reduceAdd, Nat.reduceSub, Array.replicate_succ, Array.replicate_zero, List.push_toArray, List.append_toArray, List.nil_append, List.cons_append]
  go_wp2_with (refine wpList_alloc_new rfl 66 rfl (cells4 zero4) z4 ?_; simp only [Act.put, pvA, pv0, pv1, World.size_alloc])
  rw [← hw0]
  clear hw0
  refine (hN.out _).mono ?_
  rintro e w1 ⟨rfl, hs1⟩
  have hA1 := hid ((hA0.out.step hs1).alloc (.cells (cells4 noneW) 66))
  have hX1 := hid ((hX0.out.step hs1).alloc (.cells (cells4 noneW) 66))
  have hR1 := hid ((hR0.out.step hs1).alloc (.cells (cells4 noneW) 66))
  have hO1 := hid (Blk.new 66 w1 (cells4 noneW))
  have hc1 := hb0.trans (hs1.mono hb0.size)
  have hb1 := hc1.alloc hc1.size (.cells (cells4 noneW) 66)
  have hlt1 := (hR0.out.step hs1).lt
  clear hA0 hX0 hR0 hb0 hs1
  go_wp2_with (first | (refine wpList_allocStore 66 7 5 (cells4 noneW) (cells4 zero4) rfl rfl rfl rfl rfl rfl (by decide) (by simp) rfl (by kernel_rfl) rfl (i4 _) (one_cells4 _) ?_; simp only [Act.put, pvA, pv0, pv1]) | (refine wpList_get _ _ rfl rfl _ rfl _ _ hX1.out gWd (iW x) ?_; simp only [Act.put, pvA, pv0, pv1]))
  obtain ⟨G, hG⟩ : ∃ G, G = w1.heap.size := ⟨_, rfl⟩
  rw [← hG] at hO1 hlt1 ⊢
  clear hG hc1
  generalize w1.alloc (.cells (cells4 noneW) 66) = w2 at hA1 hX1 hR1 hO1 hb1 ⊢
  refine (hD.out _).mono ?_
  rintro e w3 ⟨rfl, hs3, hB3⟩
  have hA3 := hid (hA1.out.step hs3)
  have hR3 := hid (hR1.out.step hs3)
  have hO3 := hid (hO1.out.step hs3)
  have hb3 := hb1.trans (hs3.mono hb1.size)
  have hG3 := hO1.out.lt
  have hB := hid hB3
  have hBl := hB3.lt
  obtain ⟨B, hBB⟩ : ∃ B, B = w2.heap.size := ⟨_, rfl⟩
  rw [← hBB] at hB hBl hG3 ⊢
  clear hA1 hX1 hR1 hO1 hb1 hs3 hB3 hBB
  go_wp2
  refine (wpIn_wide (n := 3)).1 (wpIn_rangeFunc_ownG rfl (by omega) (gf := 79) (lb := #[.pointer (some ⟨B, 0, none⟩)]) rfl trivial (enters_of Try.func79 (by kernel_rfl) rfl)
    (down_stops 2 x B w3 (by omega) hB.out) (fun h k => k.trans h) ?hKb (Below.refl _ _) (fun _ => rfl)
    (fun pre W => Hid (w3.grownBy W (some G) ∧ Blk 66 W G (cells4 (mP x p pre)))) (fun _ _ _ => False) ?hI (fun _ _ _ _ _ hs _ _ => hs) ?h0
    (fun k => { tmps := #[.agg (cells4 p), .agg (cellsW x), .pointer (some ⟨w.heap.size, 0, none⟩), .pointer (some ⟨w.heap.size + 1, 0, none⟩), .pointer (some ⟨w.heap.size + 1 + 1, 0, none⟩), .pointer (some ⟨G, 0, none⟩), .bool (dbit x k.val), .agg (cells4 noneW), .agg (cellsW x), seqD B, .bool (dbit x k.val), undef, undef, undef, undef, undef, undef, undef], defers := [] }) ?assign ?body ?done ?stop)
  case assign =>
    intro l k W K hK
    gi_wp2
    exact hK
  case hKb =>
    intro W l o o' hl _ _ _
    exact World.putObj_heap_other (by omega)
  case hI =>
    intro pre W W' row hs hg hr
    obtain ⟨h1, h2⟩ := hs.out
    have hrow : ∀ k, k < w3.heap.size → some k ≠ row := fun k hk e => by have := (hr k e.symm).1; omega
    refine hid ⟨⟨hg.os.trans h1.os, hg.tape.trans h1.tape, hg.output.trans h1.output, Nat.le_trans h1.size hg.size, fun k hk hne => (hg.block k (Nat.lt_of_lt_of_le hk h1.size) (hrow k hk)).trans (h1.block k hk hne)⟩, (hg.block G h2.lt (hrow G (by omega))).trans h2⟩
  case h0 => exact hid ⟨⟨rfl, rfl, rfl, Nat.le_refl _, fun _ _ _ => rfl⟩, hO3.out⟩
  case stop => intro D c pre W _ _ h; exact h.elim
  case body =>
    intro l pre k W hI hlen
    obtain ⟨hg, hW⟩ := hI.out
    have hTq := hM.out pre
    have hNx := mP_snoc x p pre k
    obtain ⟨q, hq⟩ : ∃ q, q = mP x p pre := ⟨_, rfl⟩
    rw [← hq] at hW hTq hNx
    have hT1 := hid fun w => hT.out q w hTq
    have hTr := twiceW_t q hTq
    have hP1 := hid fun w => hP.out (twiceW q) w hTr
    obtain ⟨b, hb⟩ : ∃ b, b = dbit x k.val := ⟨_, rfl⟩
    unfold stepW at hNx
    rw [← hb] at hNx ⊢
    obtain ⟨t, ht⟩ : ∃ t, t = twiceW q := ⟨_, rfl⟩
    rw [← ht] at hT1 hP1 hNx
    clear hTq hTr hq hb ht hI
    have hGl : w.heap.size + 1 + 1 < G := hlt1
    have hAW := hid (hA3.out.grown hg (by simp; omega))
    have hQW := hid hW
    have hg0 := hg
    clear hW hg
    refine wpIn_block ?_
    (repeat ((fail_if_success (with_reducible refine Go.at_regionIn ?_)); gi_step))
    refine wpIn_calm 2 (by rintro ⟨_, _, h⟩; exact h) (by kernel_rfl) ?_
    simp only [List.take_succ_cons, List.take_zero]
    (refine calm_whole rfl _ _ rfl _ rfl _ _ hQW.out g4 (i4 q) ?_; simp only [Act.put, pvA, pv0, pv1])
    (apply calm_on rfl; (focus (intro W hB; go_simp; refine (hT1.out W).mono ?_; rintro _ _ ⟨rfl, hb'⟩; exact ⟨rfl, hb'⟩)); simp only [Act.put, pvA, pv0, pv1])
    refine calm_nil ?_
    intro Wx hx
    simp only [List.drop_succ_cons, List.drop_zero]
    refine wpList_set 66 (.tmp 5) (.tmp 12) rfl rfl rfl G (cells4 t) rfl rfl 66 (cells4 q) (hQW.out.step hx) (i4 t) rfl (one_cells4 t) ?_
    refine wpList_nil ?_
    have hg1 := grown_row hx G (cells4 t)
    have hQ1 := hid ((hQW.out.step hx).set (cells4 t))
    have hA1 := hid ((hAW.out.step hx).other (show w.heap.size ≠ G by omega) (cells4 t))
    obtain ⟨W1, hW1⟩ : ∃ z, z = Wx.setRow G (cells4 t) := ⟨_, rfl⟩
    rw [← hW1] at hg1 hQ1 hA1 ⊢
    clear hW1 hx hQW hAW hT1
    cases b
    · rw [if_neg (by decide)] at hNx
      have HN := hid hNx
      clear hNx
      gi_wp2
      exact ⟨KeepsFrom.of_grownBy hg1 (fun j e => by cases e; omega), hg1.block B (by have := hg0.size; omega) (by simp; omega), hid ⟨grown_trans hg0 hg1, by rw [HN.out]; exact hQ1.out⟩⟩
    · rw [if_pos rfl] at hNx
      have HN := hid hNx
      clear hNx
      (repeat ((fail_if_success (with_reducible refine Go.at_regionIn ?_)); gi_step))
      refine wpIn_calm 1 (by rintro ⟨_, _, h⟩; exact h) (by kernel_rfl) ?_
      simp only [List.take_succ_cons, List.take_zero]
      (apply calm_on rfl; (focus (intro W hB; go_simp; exact ⟨rfl, Below.refl _ _⟩)); simp only [Act.put, pvA, pv0, pv1])
      refine calm_nil ?_
      intro W2 h2
      simp only [List.drop_succ_cons, List.drop_zero]
      refine wpList_nil ?_
      have hQ2 := hid (hQ1.out.step h2)
      have hA2 := hid (hA1.out.step h2)
      (repeat ((fail_if_success (with_reducible refine Go.at_regionIn ?_)); gi_step))
      refine wpIn_calm 3 (by rintro ⟨_, _, h⟩; exact h) (by kernel_rfl) ?_
      simp only [List.take_succ_cons, List.take_zero]
      (refine calm_whole rfl _ _ rfl _ rfl _ _ hQ2.out g4 (i4 t) ?_; simp only [Act.put, pvA, pv0, pv1])
      (refine calm_whole rfl _ _ rfl _ rfl _ _ hA2.out g4 (i4 p) ?_; simp only [Act.put, pvA, pv0, pv1])
      (apply calm_on rfl; (focus (intro W hB; go_simp; refine (hP1.out W).mono ?_; rintro _ _ ⟨rfl, hb'⟩; exact ⟨rfl, hb'⟩)); simp only [Act.put, pvA, pv0, pv1])
      refine calm_nil ?_
      intro Wy hy
      simp only [List.drop_succ_cons, List.drop_zero]
      obtain ⟨u, hu⟩ : ∃ u, u = plusW t p := ⟨_, rfl⟩
      rw [← hu]
      refine wpList_set 66 (.tmp 5) (.tmp 16) rfl rfl rfl G (cells4 u) rfl rfl 66 (cells4 t) (hQ2.out.step hy) (i4 u) rfl (one_cells4 u) ?_
      refine wpList_nil ?_
      have hg2 : W1.grownBy (Wy.setRow G (cells4 u)) (some G) := grown_row (h2.trans (hy.mono h2.size)) G (cells4 u)
      have hg3 := grown_trans hg1 hg2
      have hQ3 := (hQ2.out.step hy).set (cells4 u)
      exact ⟨KeepsFrom.of_grownBy hg3 (fun j e => by cases e; omega), hg3.block B (by have := hg0.size; omega) (by simp; omega), hid ⟨grown_trans hg0 hg3, by rw [HN.out, ← hu]; exact hQ3⟩⟩
  case done =>
    intro D xs W hD hS hI hKD
    obtain ⟨hg, hW⟩ := hI.out
    have hxs : mP x p xs = mW x p := by unfold mP mW; rw [hS]
    rw [hxs] at hW
    have hRW := hid (hR3.out.grown hg (by simp; omega))
    have hQW := hid hW
    obtain ⟨r, hr⟩ : ∃ r, r = mW x p := ⟨_, rfl⟩
    rw [← hr] at hQW
    have HR := hid hr
    clear hxs hr hW hS hI
    go_wp2_with (first | (refine wpList_get _ _ rfl rfl _ rfl _ _ hQW.out g4 (i4 r) ?_; simp only [Act.put, pvA, pv0, pv1]) | (refine wpList_set _ _ _ rfl rfl rfl _ _ rfl rfl _ _ hRW.out (i4 r) rfl (one_cells4 r) ?_))
    have hne : w.heap.size + 1 + 1 ≠ D := by omega
    have hK' : (W.setRow (w.heap.size + 1 + 1) (cells4 r)).heap[D]? = some (.deferred (some [])) := by
      simp only [World.setRow, Array.getElem?_modify]
      rw [if_neg (by omega)]; exact hKD
    have hRb := hRW.out.set (cells4 r)
    have hbW : Below w.heap.size w (W.setRow (w.heap.size + 1 + 1) (cells4 r)) := below_set (hb3.grown hg hb3.size (fun k e => by cases e; omega)) _ (by omega) _
    refine ⟨by simp, .inl ⟨_, _, rfl, run_takeDeferred hK', ?_⟩⟩
    obtain ⟨d, h1, h2⟩ := aggT_spec g4
    refine ⟨_, results_cell_row rfl _ _ (w.heap.size + 1 + 1) 66 (cells4 r) (0, 0) d rfl ((World.putObj_heap_other hne).trans hRb) h1 (by cases d <;> first | rfl | cases h2) (i4 r), by rw [HR.out], ?_⟩
    exact hbW.grown (grownBy_putObj' _ D _) hbW.size (fun k e => by cases e; omega)
end Go.Proofs.Ytejnnghfelpioaa
namespace Go
open Go.RowKit
theorem wpIn_draw_all {P : Program} {r m id : Nat} {Q : Exit → Act → World → Prop} {a0 : Act} {w0 : World} {l : List Oper} (hQ : ¬ LetsOut Q) (hd : l.all (fun o => match o.op with | .defer _ => false | _ => true) = true)
    (hm : P.follows .mixedOrders = true) (hB : looseB l l.length = true) (hS : specB l = true)
    (h : wpCalm P l.toArray w0 (fun a' => ∀ w, Below w0.heap.size w0 w → Q .normal a' w) l a0) : (Code.region id l.toArray true).wpIn (Fence.wide.inRound r) m P Q a0 w0 := by
  obtain ⟨es, h1, h2, a', h3, h4, h5⟩ := calm_ents l a0 0 h
  have hL := h5 es l.length (fun a w => Q .normal a w) [] (fun j e hj => by rw [Nat.zero_add]; exact hj) (fun w hb _ => h3 w hb)
  rw [List.append_nil] at hL
  have h' : looseL P l es w0 l.length (fun a w => Q .normal a w) 0 (l.take l.length) a0 := by rw [List.take_length]; exact hL
  refine wpIn_region_any_round hQ (noDefer_of hd) hm ?_
  refine wpAny_of_spec (Φ := phiOf es) (w0 := w0) (a0 := a0) hS (phiOf_keeps es h2) (fun i o ho a w hl => ?_) (fun f w hb hf => ?_) _ _ a0 _ (by simp [unlisted]) ⟨by simp, (Below.refl _ _).drew, rfl, rfl, fun d _ => rfl, fun i o d hi hl _ _ => ?_⟩
  · have hi : i < l.length := by
      rcases Nat.lt_or_ge i l.length with h1 | h1
      · exact h1
      · rw [List.getElem?_eq_none h1] at ho; cases ho
    exact loose_each hB hS (Nat.le_refl _) h' i o hi ho a w hl
  · have := loose_fin hS (Nat.le_refl _) h' f w hb (fun i o d _ h1 h2 h3 => hf i o d h1 h2 h3)
    rw [List.take_length] at this
    exact this
  · have hlt : i < l.length := by
      rcases Nat.lt_or_ge i l.length with h' | h'
      · exact h'
      · rw [List.getElem?_eq_none h'] at hi; cases hi
    simp [Array.getD, hlt] at hl
structure World.two (w w' : World) (G H : Nat) : Prop where
  os : w'.os = w.os
  tape : w'.tape = w.tape
  output : w'.output = w.output
  size : w.heap.size ≤ w'.heap.size
  block : ∀ k, k < w.heap.size → k ≠ G → k ≠ H → w'.heap[k]? = w.heap[k]?
theorem World.two.refl (w : World) (G H : Nat) : w.two w G H := ⟨rfl, rfl, rfl, Nat.le_refl _, fun _ _ _ _ => rfl⟩
theorem World.two.trans {a b c : World} {G H : Nat} (h : a.two b G H) (k : b.two c G H) : a.two c G H :=
  ⟨k.os.trans h.os, k.tape.trans h.tape, k.output.trans h.output, Nat.le_trans h.size k.size, fun i hi h1 h2 => (k.block i (Nat.lt_of_lt_of_le hi h.size) h1 h2).trans (h.block i hi h1 h2)⟩
theorem World.two.of_below {a b : World} (h : Below a.heap.size a b) (G H : Nat) : a.two b G H := ⟨h.os, h.tape, h.output, h.size, fun k hk _ _ => h.block k hk⟩
theorem World.two.setG {a b : World} {G H : Nat} (h : a.two b G H) (cs : Array Value) : a.two (b.setRow G cs) G H :=
  ⟨h.os, h.tape, h.output, by have := h.size; simpa [World.setRow] using this, fun k hk h1 h2 => by
    simp only [World.setRow, Array.getElem?_modify]
    rw [if_neg (by omega)]; exact h.block k hk h1 h2⟩
theorem World.two.setH {a b : World} {G H : Nat} (h : a.two b G H) (cs : Array Value) : a.two (b.setRow H cs) G H :=
  ⟨h.os, h.tape, h.output, by have := h.size; simpa [World.setRow] using this, fun k hk h1 h2 => by
    simp only [World.setRow, Array.getElem?_modify]
    rw [if_neg (by omega)]; exact h.block k hk h1 h2⟩
theorem Blk.two {t : TypeId} {w w' : World} {g G H : Nat} {cs : Array Value} (h : Blk t w g cs) (hg : w.two w' G H) (h1 : g ≠ G) (h2 : g ≠ H) : Blk t w' g cs := (hg.block g h.lt h1 h2).trans h
theorem KeepsFrom.of_two {B : Nat} {W W' : World} {G H : Nat} (hg : W.two W' G H) (h1 : G < B) (h2 : H < B) : KeepsFrom B W W' :=
  ⟨hg.size, fun k o hB hk _ => (hg.block k (Array.getElem?_eq_some_iff.1 hk).1 (by omega) (by omega)).trans hk⟩
theorem World.two.grown {a b c : World} {G H : Nat} {row : Option Nat} (h : a.two b G H) (k : b.grownBy c row) (hr : ∀ j, row = some j → a.heap.size ≤ j) : a.two c G H :=
  ⟨k.os.trans h.os, k.tape.trans h.tape, k.output.trans h.output, Nat.le_trans h.size k.size, fun i hi h1 h2 => (k.block i (Nat.lt_of_lt_of_le hi h.size) (fun e => by have := hr i e.symm; omega)).trans (h.block i hi h1 h2)⟩
theorem Below.two {B : Nat} {a b c : World} {G H : Nat} (h : Below B a b) (k : b.two c G H) (hB : B ≤ b.heap.size) (h1 : B ≤ G) (h2 : B ≤ H) : Below B a c :=
  h.trans ⟨k.os, k.tape, k.output, k.size, fun i hi => k.block i (by omega) (by omega) (by omega)⟩
theorem run_storeVar_int {P : Program} (w : World) (g : Nat) (t ty : TypeId) (u : Value) (k : IntKind) (n : Int) (hg : Blk t w g #[u]) (hi : (P.info? ty).map (·.size) = some 1) :
    (storeVar ty ⟨g, 0, none⟩ (.int k n)).run P w = .ok () (w.setRow g #[.int k n]) := by
  have := run_storeCells_at P g 0 t [.int k n] 0 #[u] w hg (by simp) (fun v hv => by simp at hv; subst hv; rfl)
  cases hq : P.info? ty with
  | none => simp [hq] at hi
  | some i =>
    have hs : i.size = 1 := by simpa [hq] using hi
    simp only [Nat.add_zero, Nat.zero_add] at this
    simp [storeVar, sizeOf, typeInfo, hq, Value.cells, hs, this]
theorem wpList_put {P : Program} {ops : Array Oper} {rest : List Oper} {o : Oper} {a : Act} {w : World} {Q' : Exit → Act → World → Prop} (T : TypeId) (x y : Operand) (ho : o.op = .store T x y) (hg : o.guard = none) (hd : o.dst = none) (b : Nat) (k : IntKind) (n : Int) (hx : a.eval x = .pointer (some ⟨b, 0, none⟩)) (hy : a.eval y = .int k n)
    (t : TypeId) (u : Value) (hb : Blk t w b #[u]) (hi : (P.info? T).map (·.size) = some 1) (h : wpList P ops Q' rest a (w.setRow b #[.int k n])) : wpList P ops Q' (o :: rest) a w :=
  wpList_plain hg fun K hK => by
    unfold Oper.wp execOp
    simp only [ho, hx, hy, Instr.storeAt, Instr.sureAddr, Sem.run_bind, Sem.run_pure, Result.andThen_ok, run_storeVar_int w b t T u k n hb hi, Oper.upon]
    have := hK _ _ h
    rw [hd]; exact this
end Go
namespace Go.Proofs.Ytejnnghfelpioaa
open Go.RowKit Go.Shelf
attribute [local go_sem] Oper.semAt_some
theorem iIn1 : (Try.prog.info? 3).map (·.size) = some 1 := by kernel_rfl
theorem oIn : oneT Try.prog 3 = true := by kernel_rfl
def bstep (x y : Nat) (p q s o : W4) (k c : Nat) : W4 :=
  if dbit x k = true then (if dbit y c = true then plusW (twiceW o) s else plusW (twiceW o) p) else (if dbit y c = true then plusW (twiceW o) q else twiceW o)
theorem bstep_t (x y : Nat) (p q s o : W4) (k c : Nat) (hp : TW p) (hq : TW q) (hs : TW s) (ho : TW o) : TW (bstep x y p q s o k c) := by
  unfold bstep
  split
  · split
    · exact plusW_t _ _ (twiceW_t _ ho) hs
    · exact plusW_t _ _ (twiceW_t _ ho) hp
  · split
    · exact plusW_t _ _ (twiceW_t _ ho) hq
    · exact twiceW_t _ ho
def bfold (x y : Nat) (p q s : W4) (l : List Nat) : W4 × Nat := l.foldl (fun st k => (bstep x y p q s st.1 k st.2, st.2 + 1)) (noneW, 0)
theorem bfold_snoc (x y : Nat) (p q s : W4) (l : List Nat) (k : Nat) : bfold x y p q s (l ++ [k]) = (bstep x y p q s (bfold x y p q s l).1 k (bfold x y p q s l).2, (bfold x y p q s l).2 + 1) := by
  unfold bfold; rw [List.foldl_append]; rfl
theorem bfold_len0 (x y : Nat) (p q s : W4) : ∀ (l : List Nat) (st : W4 × Nat), (l.foldl (fun st k => (bstep x y p q s st.1 k st.2, st.2 + 1)) st).2 = st.2 + l.length
  | [], st => rfl
  | k :: l, st => by rw [List.foldl_cons, bfold_len0 x y p q s l, List.length_cons]; simp only; omega
theorem bfold_len (x y : Nat) (p q s : W4) (l : List Nat) : (bfold x y p q s l).2 = l.length := by unfold bfold; rw [bfold_len0]; simp
theorem bfold_t0 (x y : Nat) (p q s : W4) (hp : TW p) (hq : TW q) (hs : TW s) : ∀ (l : List Nat) (st : W4 × Nat), TW st.1 → TW (l.foldl (fun st k => (bstep x y p q s st.1 k st.2, st.2 + 1)) st).1
  | [], st, h => h
  | k :: l, st, h => by rw [List.foldl_cons]; exact bfold_t0 x y p q s hp hq hs l _ (bstep_t _ _ _ _ _ _ _ _ hp hq hs h)
theorem bfold_t (x y : Nat) (p q s : W4) (hp : TW p) (hq : TW q) (hs : TW s) (l : List Nat) : TW (bfold x y p q s l).1 := bfold_t0 x y p q s hp hq hs l _ noneW_t
def bothW (x : Nat) (p : W4) (y : Nat) (q : W4) : W4 := (bfold x y p q (plusW p q) (List.range 256)).1
theorem bothW_t (x : Nat) (p : W4) (y : Nat) (q : W4) (hp : TW p) (hq : TW q) : TW (bothW x p y q) := bfold_t _ _ _ _ _ hp hq (plusW_t _ _ hp hq) _
set_option maxRecDepth 100000 in
set_option maxHeartbeats 16000000 in
theorem bothW_any (x : Nat) (p : W4) (y : Nat) (q : W4) (w : World) (hp : TW p) (hq : TW q) : Calls Try.prog 27 #[wd x, w4 p, wd y, w4 q] w fun e w' => e = .returned (w4 (bothW x p y q)) ∧ Below w.heap.size w w' := by
  have hN := hid fun w => none_any w
  have hD := hid fun w => edown_any x w
  have hS := hid fun w => plusW_any p q w hp hq
  have hTS := plusW_t p q hp hq
  have hres : bothW x p y q = (bfold x y p q (plusW p q) (List.range 256)).1 := rfl
  rw [hres]
  obtain ⟨s, hs⟩ : ∃ s, s = plusW p q := ⟨_, rfl⟩
  rw [← hs] at hS hTS ⊢
  have hT := hid fun o w (h : TW o) => twiceW_any o w h
  have hP1 := hid fun o w (h : TW o) => plusW_any o p w h hp
  have hP2 := hid fun o w (h : TW o) => plusW_any o q w h hq
  have hP3 := hid fun o w (h : TW o) => plusW_any o s w h hTS
  have hM := hid (bfold_t x y p q s hp hq hTS)
  clear hs hp hq hTS hres
  obtain ⟨w0, hw0, k4, k5, k6, k7, k8, hb0⟩ := entry5 w 25 (cellsW x) 66 (cells4 p) 25 (cellsW y) 66 (cells4 q) 66 (cells4 zero4)
  have hX0 := hid k4
  have hP0 := hid k5
  have hY0 := hid k6
  have hQ0 := hid k7
  have hR0 := hid k8
  clear k4 k5 k6 k7 k8
  unfold w4 wd at *
  refine (callsIn_wide (n := 3)).1 (callsIn_of_wp_marks Try.func27 rfl trivial (wpIn_wide.2 ?_) rfl)
  simp only [Try.ntmps27, List.size_toArray, List.length_cons, List.length_nil, Nat.reduceAdd, Nat.reduceSub, Array.replicate_succ, Array.replicate_zero, List.push_toArray, List.append_toArray, List.nil_append, List.cons_append]
  (repeat ((fail_if_success (with_reducible refine Go.at_region ?_)); go_step))
  refine wp_region_lit ?_
  (refine wpList_box 25 (.tmp 0) rfl rfl (cellsW x) rfl ?_; simp only [Act.put, pvA, pv0, pv1]; (try simp only [World.size_alloc]))
  (refine wpList_box 66 (.tmp 1) rfl rfl (cells4 p) rfl ?_; simp only [Act.put, pvA, pv0, pv1]; (try simp only [World.size_alloc]))
  (refine wpList_box 25 (.tmp 2) rfl rfl (cellsW y) rfl ?_; simp only [Act.put, pvA, pv0, pv1]; (try simp only [World.size_alloc]))
  (refine wpList_box 66 (.tmp 3) rfl rfl (cells4 q) rfl ?_; simp only [Act.put, pvA, pv0, pv1]; (try simp only [World.size_alloc]))
  (refine wpList_alloc_new rfl 66 rfl (cells4 zero4) z4 ?_; simp only [Act.put, pvA, pv0, pv1]; (try simp only [World.size_alloc]))
  refine wpList_nil ?_
  rw [← hw0]
  clear hw0
  go_wp2_with (first | (refine wpList_get _ _ rfl rfl _ rfl _ _ hP0.out g4 (i4 p) ?_; simp only [Act.put, pvA, pv0, pv1]) | (refine wpList_get _ _ rfl rfl _ rfl _ _ hQ0.out g4 (i4 q) ?_; simp only [Act.put, pvA, pv0, pv1]))
  refine (hS.out _).mono ?_
  rintro e w1 ⟨rfl, hs1⟩
  have hX1 := hid ((hX0.out.step hs1).alloc (.cells (cells4 s) 66))
  have hP1 := hid ((hP0.out.step hs1).alloc (.cells (cells4 s) 66))
  have hY1 := hid ((hY0.out.step hs1).alloc (.cells (cells4 s) 66))
  have hQ1 := hid ((hQ0.out.step hs1).alloc (.cells (cells4 s) 66))
  have hR1 := hid ((hR0.out.step hs1).alloc (.cells (cells4 s) 66))
  have hS1 := hid (Blk.new 66 w1 (cells4 s))
  have hc1 := hb0.trans (hs1.mono hb0.size)
  have hb1 := hc1.alloc hc1.size (.cells (cells4 s) 66)
  have hlt1 := (hR0.out.step hs1).lt
  obtain ⟨G9, hG9⟩ : ∃ G, G = w1.heap.size := ⟨_, rfl⟩
  have HG9 := hid hG9
  rw [← hG9] at hlt1
  clear hX0 hP0 hY0 hQ0 hR0 hb0 hs1 hc1 hG9
  go_wp2_with (refine wpList_allocStore 66 16 9 (cells4 s) (cells4 zero4) rfl rfl rfl rfl rfl rfl (by decide) (by simp) rfl (by kernel_rfl) rfl (i4 _) (one_cells4 _) ?_; simp only [Act.put, pvA, pv0, pv1])
  rw [← HG9.out] at hS1 ⊢
  generalize w1.alloc (.cells (cells4 s) 66) = w2 at hX1 hP1 hY1 hQ1 hR1 hS1 hb1 ⊢
  refine (hN.out _).mono ?_
  rintro e w3 ⟨rfl, hs3⟩
  have hX3 := hid (((hX1.out.step hs3).alloc (.cells (cells4 noneW) 66)).alloc (.cells #[.int .i64 255] 3))
  have hP3 := hid (((hP1.out.step hs3).alloc (.cells (cells4 noneW) 66)).alloc (.cells #[.int .i64 255] 3))
  have hY3 := hid (((hY1.out.step hs3).alloc (.cells (cells4 noneW) 66)).alloc (.cells #[.int .i64 255] 3))
  have hQ3 := hid (((hQ1.out.step hs3).alloc (.cells (cells4 noneW) 66)).alloc (.cells #[.int .i64 255] 3))
  have hR3 := hid (((hR1.out.step hs3).alloc (.cells (cells4 noneW) 66)).alloc (.cells #[.int .i64 255] 3))
  have hS3 := hid (((hS1.out.step hs3).alloc (.cells (cells4 noneW) 66)).alloc (.cells #[.int .i64 255] 3))
  have hO3 := hid ((Blk.new 66 w3 (cells4 noneW)).alloc (.cells #[.int .i64 255] 3))
  have hI3 := Blk.new 3 (w3.alloc (.cells (cells4 noneW) 66)) #[.int .i64 255]
  simp only [World.size_alloc] at hI3
  have hc3 := hb1.trans (hs3.mono hb1.size)
  have hb3 := (hc3.alloc hc3.size (.cells (cells4 noneW) 66)).alloc (by rw [World.size_alloc]; have := hc3.size; omega) (.cells #[.int .i64 255] 3)
  have hlt3 := (hS1.out.step hs3).lt
  obtain ⟨G, hG⟩ : ∃ G, G = w3.heap.size := ⟨_, rfl⟩
  have HG := hid hG
  rw [← hG] at hlt3 hI3
  have hI4 := hid hI3
  clear hX1 hP1 hY1 hQ1 hR1 hS1 hb1 hs3 hc3 hG hI3 HG9
  go_wp2_with (first | (refine wpList_allocStore 66 17 10 (cells4 noneW) (cells4 zero4) rfl rfl rfl rfl rfl rfl (by decide) (by simp) rfl (by kernel_rfl) rfl (i4 _) (one_cells4 _) ?_; simp only [Act.put, pvA, pv0, pv1]) | (refine wpList_get _ _ rfl rfl _ rfl _ _ hX3.out gWd (iW x) ?_; simp only [Act.put, pvA, pv0, pv1]))
  (try simp only [World.size_alloc])
  rw [← HG.out] at hO3 ⊢
  generalize (w3.alloc (.cells (cells4 noneW) 66)).alloc (.cells #[.int .i64 255] 3) = w4 at hX3 hP3 hY3 hQ3 hR3 hS3 hO3 hI4 hb3 ⊢
  clear HG
  refine (hD.out _).mono ?_
  rintro e w5 ⟨rfl, hs5, hB5⟩
  have hX5 := hid (hX3.out.step hs5)
  have hP5 := hid (hP3.out.step hs5)
  have hY5 := hid (hY3.out.step hs5)
  have hQ5 := hid (hQ3.out.step hs5)
  have hR5 := hid (hR3.out.step hs5)
  have hS5 := hid (hS3.out.step hs5)
  have hO5 := hid (hO3.out.step hs5)
  have hI5 := hid (hI4.out.step hs5)
  have hb5 := hb3.trans (hs5.mono hb3.size)
  have hG5 := hI4.out.lt
  have hB := hid hB5
  have hBl := hB5.lt
  obtain ⟨B, hBB⟩ : ∃ B, B = w4.heap.size := ⟨_, rfl⟩
  rw [← hBB] at hB hBl hG5 ⊢
  clear hX3 hP3 hY3 hQ3 hR3 hS3 hO3 hI4 hb3 hs5 hB5 hBB hX5
  go_wp2
  refine (wpIn_wide (n := 3)).1 (wpIn_rangeFunc_ownG rfl (by omega) (gf := 79) (lb := #[.pointer (some ⟨B, 0, none⟩)]) rfl trivial (enters_of Try.func79 (by kernel_rfl) rfl)
    (down_stops 2 x B w5 (by omega) hB.out) (fun h k => k.trans h) ?hKb (Below.refl _ _) (fun _ => rfl)
    (fun pre W => Hid (w5.two W G (G + 1) ∧ Blk 66 W G (cells4 (bfold x y p q s (pre.map Fin.val)).1) ∧ Blk 3 W (G + 1) #[.int .i64 (255 - ((bfold x y p q s (pre.map Fin.val)).2 : Int))])) (fun _ _ _ => False) ?hI (fun _ _ _ _ _ hs _ _ => hs) ?h0
    (fun k => { tmps := #[.agg (cellsW x), .agg (cells4 p), .agg (cellsW y), .agg (cells4 q), .pointer (some ⟨w.heap.size, 0, none⟩), .pointer (some ⟨w.heap.size + 1, 0, none⟩), .pointer (some ⟨w.heap.size + 1 + 1, 0, none⟩), .pointer (some ⟨w.heap.size + 1 + 1 + 1, 0, none⟩), .pointer (some ⟨w.heap.size + 1 + 1 + 1 + 1, 0, none⟩), .pointer (some ⟨G9, 0, none⟩), .pointer (some ⟨G, 0, none⟩), .pointer (some ⟨G + 1, 0, none⟩), .bool (dbit x k.val), undef, .agg (cells4 p), .agg (cells4 q), .agg (cells4 s), .agg (cells4 noneW), .agg (cellsW x), seqD B, .bool (dbit x k.val), undef, undef, undef, undef, undef, undef, undef, undef, undef, undef, undef, undef, undef, undef, undef, undef, undef, undef, undef, undef, undef, undef, undef, undef, undef, undef, undef, undef, undef, undef, undef, undef], defers := [] }) ?assign ?body ?done ?stop)
  case assign =>
    intro l k W K hK
    gi_wp2
    exact hK
  case hKb =>
    intro W l o o' hl _ _ _
    exact World.putObj_heap_other (by omega)
  case hI =>
    intro pre W W' row hs hg hr
    obtain ⟨h1, h2, h3⟩ := hs.out
    have hrow : ∀ j, row = some j → w5.heap.size ≤ j := fun j e => (hr j e).1
    exact hid ⟨h1.grown hg hrow, h2.grown hg (fun e => by have := hrow _ e.symm; omega), h3.grown hg (fun e => by have := hrow _ e.symm; omega)⟩
  case h0 => exact hid ⟨World.two.refl _ _ _, hO5.out, hI5.out⟩
  case stop => intro D c pre W _ _ h; exact h.elim
  case body =>
    intro l pre k W hI hlen
    obtain ⟨hg, hW, hJ⟩ := hI.out
    have hTo := hM.out (pre.map Fin.val)
    have hNx := bfold_snoc x y p q s (pre.map Fin.val) k.val
    have hcl := bfold_len x y p q s (pre.map Fin.val)
    rw [List.length_map] at hcl
    have hmp : (pre ++ [k]).map Fin.val = pre.map Fin.val ++ [k.val] := by rw [List.map_append]; rfl
    obtain ⟨o, ho⟩ : ∃ o, o = (bfold x y p q s (pre.map Fin.val)).1 := ⟨_, rfl⟩
    obtain ⟨c, hc⟩ : ∃ c, c = (bfold x y p q s (pre.map Fin.val)).2 := ⟨_, rfl⟩
    rw [← ho] at hW hTo hNx
    rw [← hc] at hJ hNx hcl
    rw [← hmp] at hNx
    obtain ⟨j, hj⟩ : ∃ j, j = 255 - c := ⟨_, rfl⟩
    have hji : (255 : Int) - (c : Int) = (j : Int) := by omega
    rw [hji] at hJ
    have hnext : (255 : Int) - ((c + 1 : Nat) : Int) = (j : Int) - 1 := by omega
    have hT1 := hid fun w => hT.out o w hTo
    have hTt := twiceW_t o hTo
    have hA1 := hid fun w => hP1.out (twiceW o) w hTt
    have hA2 := hid fun w => hP2.out (twiceW o) w hTt
    have hA3 := hid fun w => hP3.out (twiceW o) w hTt
    unfold bstep at hNx
    obtain ⟨b, hb⟩ : ∃ b, b = dbit x k.val := ⟨_, rfl⟩
    rw [← hb] at hNx ⊢
    rw [show dbit y c = decide (y / 2 ^ j % 2 = 1) by unfold dbit; rw [hj]] at hNx
    obtain ⟨t, ht⟩ : ∃ t, t = twiceW o := ⟨_, rfl⟩
    rw [← ht] at hT1 hA1 hA2 hA3 hNx
    have hbit := lm_bit y j
    have hj255 : j ≤ 255 := by omega
    have hj255i : (j : Int) ≤ 255 := by omega
    have HNX := hid hnext
    have qs : IntKind.i64.wrap ((j : Int) - 1) = (j : Int) - 1 := by rw [IntKind.wrap_i64]; omega
    have qt : (j : Int).tmod 64 = ((j % 64 : Nat) : Int) := by rw [Int.tmod_eq_emod_of_nonneg (by omega)]; omega
    have qm : min (j % 64) 64 = j % 64 := by omega
    have qf : (lm y (j / 64)).fdiv (2 ^ (j % 64)) = lm y (j / 64) / 2 ^ (j % 64) := Int.fdiv_eq_ediv_of_nonneg _ (Int.le_of_lt (Int.pow_pos (by omega)))
    have qw1 : IntKind.i64.wrap ((j : Int) / 64) = (j : Int) / 64 := by rw [IntKind.wrap_i64]; omega
    have qw2 : IntKind.i64.wrap ((j : Int) % 64) = (j : Int) % 64 := by rw [IntKind.wrap_i64]; omega
    have qn1 : ((j : Int) / 64).toNat = j / 64 := by omega
    have qn2 : ((j : Int) % 64).toNat = j % 64 := by omega
    have qp1 : (0 : Int) ≤ (j : Int) / 64 := by omega
    have qp2 : (0 : Int) ≤ (j : Int) % 64 := by omega
    have ql1 : (j : Int) / 64 < 4 := by omega
    have ql2 : (j : Int) % 64 < 64 := by omega
    clear hTo hTt ho hc hcl hj hji hnext hb ht hI hmp hlen
    have hPW := hid (hP5.out.two hg (by omega) (by omega))
    have hYW := hid (hY5.out.two hg (by omega) (by omega))
    have hQW := hid (hQ5.out.two hg (by omega) (by omega))
    have hSW := hid (hS5.out.two hg (by omega) (by omega))
    have hOW := hid hW
    have hJW := hid hJ
    have hg0 := hg
    clear hW hJ hg
    refine wpIn_block ?_
    (repeat ((fail_if_success (with_reducible refine Go.at_regionIn ?_)); gi_step))
    refine wpIn_calm 2 (by rintro ⟨_, _, h⟩; exact h) (by kernel_rfl) ?_
    simp only [List.take_succ_cons, List.take_zero]
    (refine calm_whole rfl _ _ rfl _ rfl _ _ hOW.out g4 (i4 o) ?_; simp only [Act.put, pvA, pv0, pv1])
    (apply calm_on rfl; (focus (intro W hB; go_simp; refine (hT1.out W).mono ?_; rintro _ _ ⟨rfl, hb'⟩; exact ⟨rfl, hb'⟩)); simp only [Act.put, pvA, pv0, pv1])
    refine calm_nil ?_
    intro Wx hx
    simp only [List.drop_succ_cons, List.drop_zero]
    refine wpList_set 66 (.tmp 10) (.tmp 22) rfl rfl rfl G (cells4 t) rfl rfl 66 (cells4 o) (hOW.out.step hx) (i4 t) rfl (one_cells4 t) ?_
    refine wpList_nil ?_
    have hg1 := (hg0.trans (World.two.of_below hx G (G + 1))).setG (cells4 t)
    have hr1 := (World.two.of_below hx G (G + 1)).setG (cells4 t)
    have hO1 := hid ((hOW.out.step hx).set (cells4 t))
    have hJ1 := hid ((hJW.out.step hx).other (show G + 1 ≠ G by omega) (cells4 t))
    have hP1x := hid ((hPW.out.step hx).other (show w.heap.size + 1 ≠ G by omega) (cells4 t))
    have hY1 := hid ((hYW.out.step hx).other (show w.heap.size + 1 + 1 ≠ G by omega) (cells4 t))
    have hQ1x := hid ((hQW.out.step hx).other (show w.heap.size + 1 + 1 + 1 ≠ G by omega) (cells4 t))
    have hS1x := hid ((hSW.out.step hx).other (show G9 ≠ G by omega) (cells4 t))
    obtain ⟨W1, hW1⟩ : ∃ z, z = Wx.setRow G (cells4 t) := ⟨_, rfl⟩
    rw [← hW1] at hg1 hr1 hO1 hJ1 hP1x hY1 hQ1x hS1x ⊢
    clear hW1 hx hOW hJW hPW hYW hQW hSW hT1
    rcases (show y / 2 ^ j % 2 = 0 ∨ y / 2 ^ j % 2 = 1 by omega) with hb2 | hb2
    · rw [hb2] at hbit hNx
      clear hb2
      (repeat ((fail_if_success (with_reducible refine Go.at_regionIn ?_)); gi_step))
      refine wpIn_draw_all (by rintro ⟨_, _, h⟩; exact h) (by kernel_rfl) (by kernel_rfl) (by kernel_rfl) (by kernel_rfl) ?_
      (refine calm_cell rfl _ _ rfl _ _ rfl _ _ hJ1.out (.int .i64 (j : Int)) rfl oIn ?_; simp only [Act.put, pvA, pv0, pv1])
      iterate 2 (apply calm_on rfl; (focus (intro W hB; go_simp; exact ⟨rfl, Below.refl _ _⟩)); simp only [Act.put, pvA, pv0, pv1])
      (refine calm_cell rfl _ _ rfl _ _ rfl _ _ hY1.out (.int .u64 (lm y (j / 64))) (cellsW_at y _ (by omega)) o64 ?_; simp only [Act.put, pvA, pv0, pv1])
      (refine calm_cell rfl _ _ rfl _ _ rfl _ _ hJ1.out (.int .i64 (j : Int)) rfl oIn ?_; simp only [Act.put, pvA, pv0, pv1])
      iterate 5 (apply calm_on rfl; (focus (intro W hB; go_simp; exact ⟨rfl, Below.refl _ _⟩)); simp only [Act.put, pvA, pv0, pv1])
      refine calm_nil ?_
      intro W2 h2
      (try dsimp only)
      have hP2 := hid (hP1x.out.step h2)
      have hQ2 := hid (hQ1x.out.step h2)
      have hS2 := hid (hS1x.out.step h2)
      have hO2 := hid (hO1.out.step h2)
      have hJ2 := hid (hJ1.out.step h2)
      have hr2 := hr1.trans (World.two.of_below h2 G (G + 1))
      (repeat ((fail_if_success (with_reducible refine Go.at_regionIn ?_)); gi_step))
      refine wpIn_calm 2 (by rintro ⟨_, _, h⟩; exact h) (by kernel_rfl) ?_
      simp only [List.take_succ_cons, List.take_zero]
      (refine calm_cell rfl _ _ rfl _ _ rfl _ _ hJ2.out (.int .i64 (j : Int)) rfl oIn ?_; simp only [Act.put, pvA, pv0, pv1])
      (apply calm_on rfl; (focus (intro W hB; go_simp; exact ⟨rfl, Below.refl _ _⟩)); simp only [Act.put, pvA, pv0, pv1])
      refine calm_nil ?_
      intro Wy hy
      simp only [List.drop_succ_cons, List.drop_zero]
      refine wpList_put 3 (.tmp 11) (.tmp 33) rfl rfl rfl (G + 1) .i64 ((j : Int) - 1) rfl rfl 3 _ (hJ2.out.step hy) iIn1 ?_
      refine wpList_nil ?_
      have hP3 := hid ((hP2.out.step hy).other (show w.heap.size + 1 ≠ G + 1 by omega) #[.int .i64 ((j : Int) - 1)])
      have hQ3 := hid ((hQ2.out.step hy).other (show w.heap.size + 1 + 1 + 1 ≠ G + 1 by omega) #[.int .i64 ((j : Int) - 1)])
      have hS3 := hid ((hS2.out.step hy).other (show G9 ≠ G + 1 by omega) #[.int .i64 ((j : Int) - 1)])
      have hO3 := hid ((hO2.out.step hy).other (show G ≠ G + 1 by omega) #[.int .i64 ((j : Int) - 1)])
      have hJ3 := hid ((hJ2.out.step hy).set #[.int .i64 ((j : Int) - 1)])
      have hr3 := (hr2.trans (World.two.of_below hy G (G + 1))).setH #[.int .i64 ((j : Int) - 1)]
      obtain ⟨W3, hW3⟩ : ∃ z, z = Wy.setRow (G + 1) #[.int .i64 ((j : Int) - 1)] := ⟨_, rfl⟩
      rw [← hW3] at hP3 hQ3 hS3 hO3 hJ3 hr3 ⊢
      clear hW3 hy h2 hP2 hQ2 hS2 hO2 hJ2 hr2
      cases b
      · rw [if_neg (by decide), if_neg (by decide)] at hNx
        have HN := hid hNx
        clear hNx
        (repeat ((fail_if_success (with_reducible refine Go.at_regionIn ?_)); gi_step))
        refine wpIn_calm 5 (by rintro ⟨_, _, h⟩; exact h) (by kernel_rfl) ?_
        simp only [List.take_succ_cons, List.take_zero]
        iterate 2 (apply calm_on rfl; (focus (intro W hB; go_simp; exact ⟨rfl, Below.refl _ _⟩)); simp only [Act.put, pvA, pv0, pv1])
        (refine calm_off rfl ?_; simp only [Act.put, pvA, pv0, pv1])
        iterate 2 (apply calm_on rfl; (focus (intro W hB; go_simp; exact ⟨rfl, Below.refl _ _⟩)); simp only [Act.put, pvA, pv0, pv1])
        refine calm_nil ?_
        intro W4 h4
        simp only [List.drop_succ_cons, List.drop_zero]
        refine wpList_nil ?_
        have hP4 := hid (hP3.out.step h4)
        have hQ4 := hid (hQ3.out.step h4)
        have hS4 := hid (hS3.out.step h4)
        have hO4 := hid (hO3.out.step h4)
        have hJ4 := hid (hJ3.out.step h4)
        have hr4 := hr3.trans (World.two.of_below h4 G (G + 1))
        (repeat ((fail_if_success (with_reducible refine Go.at_regionIn ?_)); gi_step))
        refine wpIn_calm 2 (by rintro ⟨_, _, h⟩; exact h) (by kernel_rfl) ?_
        simp only [List.take_succ_cons, List.take_zero]
        iterate 2 (apply calm_on rfl; (focus (intro W hB; go_simp; exact ⟨rfl, Below.refl _ _⟩)); simp only [Act.put, pvA, pv0, pv1])
        refine calm_nil ?_
        intro W5 h5
        simp only [List.drop_succ_cons, List.drop_zero]
        refine wpList_nil ?_
        have hP5 := hid (hP4.out.step h5)
        have hQ5 := hid (hQ4.out.step h5)
        have hS5 := hid (hS4.out.step h5)
        have hO5 := hid (hO4.out.step h5)
        have hJ5 := hid (hJ4.out.step h5)
        have hr5 := hr4.trans (World.two.of_below h5 G (G + 1))
        (repeat ((fail_if_success (with_reducible refine Go.at_regionIn ?_)); gi_step))
        refine wpIn_calm 2 (by rintro ⟨_, _, h⟩; exact h) (by kernel_rfl) ?_
        simp only [List.take_succ_cons, List.take_zero]
        iterate 2 (apply calm_on rfl; (focus (intro W hB; go_simp; exact ⟨rfl, Below.refl _ _⟩)); simp only [Act.put, pvA, pv0, pv1])
        refine calm_nil ?_
        intro W6 h6
        simp only [List.drop_succ_cons, List.drop_zero]
        refine wpList_nil ?_
        have hP6 := hid (hP5.out.step h6)
        have hQ6 := hid (hQ5.out.step h6)
        have hS6 := hid (hS5.out.step h6)
        have hO6 := hid (hO5.out.step h6)
        have hJ6 := hid (hJ5.out.step h6)
        have hr6 := hr5.trans (World.two.of_below h6 G (G + 1))
        gi_wp2
        exact ⟨KeepsFrom.of_two hr6 (by omega) (by omega), hr6.block B (by have := hg0.size; omega) (by omega) (by omega), hid ⟨hg0.trans hr6, by rw [HN.out]; exact hO6.out, by rw [HN.out, HNX.out]; exact hJ6.out⟩⟩
      · rw [if_pos rfl, if_neg (by decide)] at hNx
        have HN := hid hNx
        clear hNx
        (repeat ((fail_if_success (with_reducible refine Go.at_regionIn ?_)); gi_step))
        refine wpIn_calm 5 (by rintro ⟨_, _, h⟩; exact h) (by kernel_rfl) ?_
        simp only [List.take_succ_cons, List.take_zero]
        iterate 5 (apply calm_on rfl; (focus (intro W hB; go_simp; exact ⟨rfl, Below.refl _ _⟩)); simp only [Act.put, pvA, pv0, pv1])
        refine calm_nil ?_
        intro W4 h4
        simp only [List.drop_succ_cons, List.drop_zero]
        refine wpList_nil ?_
        have hP4 := hid (hP3.out.step h4)
        have hQ4 := hid (hQ3.out.step h4)
        have hS4 := hid (hS3.out.step h4)
        have hO4 := hid (hO3.out.step h4)
        have hJ4 := hid (hJ3.out.step h4)
        have hr4 := hr3.trans (World.two.of_below h4 G (G + 1))
        (repeat ((fail_if_success (with_reducible refine Go.at_regionIn ?_)); gi_step))
        refine wpIn_calm 2 (by rintro ⟨_, _, h⟩; exact h) (by kernel_rfl) ?_
        simp only [List.take_succ_cons, List.take_zero]
        iterate 2 (apply calm_on rfl; (focus (intro W hB; go_simp; exact ⟨rfl, Below.refl _ _⟩)); simp only [Act.put, pvA, pv0, pv1])
        refine calm_nil ?_
        intro W5 h5
        simp only [List.drop_succ_cons, List.drop_zero]
        refine wpList_nil ?_
        have hP5 := hid (hP4.out.step h5)
        have hQ5 := hid (hQ4.out.step h5)
        have hS5 := hid (hS4.out.step h5)
        have hO5 := hid (hO4.out.step h5)
        have hJ5 := hid (hJ4.out.step h5)
        have hr5 := hr4.trans (World.two.of_below h5 G (G + 1))
        (repeat ((fail_if_success (with_reducible refine Go.at_regionIn ?_)); gi_step))
        refine wpIn_calm 3 (by rintro ⟨_, _, h⟩; exact h) (by kernel_rfl) ?_
        simp only [List.take_succ_cons, List.take_zero]
        (refine calm_whole rfl _ _ rfl _ rfl _ _ hO5.out g4 (i4 t) ?_; simp only [Act.put, pvA, pv0, pv1])
        (refine calm_whole rfl _ _ rfl _ rfl _ _ hP5.out g4 (i4 p) ?_; simp only [Act.put, pvA, pv0, pv1])
        (apply calm_on rfl; (focus (intro W hB; go_simp; refine (hA1.out W).mono ?_; rintro _ _ ⟨rfl, hb'⟩; exact ⟨rfl, hb'⟩)); simp only [Act.put, pvA, pv0, pv1])
        refine calm_nil ?_
        intro Wz hz
        simp only [List.drop_succ_cons, List.drop_zero]
        obtain ⟨u, hu⟩ : ∃ u, u = plusW t p := ⟨_, rfl⟩
        rw [← hu]
        refine wpList_set 66 (.tmp 10) (.tmp 46) rfl rfl rfl G (cells4 u) rfl rfl 66 (cells4 t) (hO5.out.step hz) (i4 u) rfl (one_cells4 u) ?_
        refine wpList_nil ?_
        have hr9 := (hr5.trans (World.two.of_below hz G (G + 1))).setG (cells4 u)
        have hO9 := (hO5.out.step hz).set (cells4 u)
        have hJ9 := (hJ5.out.step hz).other (show G + 1 ≠ G by omega) (cells4 u)
        gi_wp2
        exact ⟨KeepsFrom.of_two hr9 (by omega) (by omega), hr9.block B (by have := hg0.size; omega) (by omega) (by omega), hid ⟨hg0.trans hr9, by rw [HN.out, ← hu]; exact hO9, by rw [HN.out, HNX.out]; exact hJ9⟩⟩
    · rw [hb2] at hbit hNx
      clear hb2
      (repeat ((fail_if_success (with_reducible refine Go.at_regionIn ?_)); gi_step))
      refine wpIn_draw_all (by rintro ⟨_, _, h⟩; exact h) (by kernel_rfl) (by kernel_rfl) (by kernel_rfl) (by kernel_rfl) ?_
      (refine calm_cell rfl _ _ rfl _ _ rfl _ _ hJ1.out (.int .i64 (j : Int)) rfl oIn ?_; simp only [Act.put, pvA, pv0, pv1])
      iterate 2 (apply calm_on rfl; (focus (intro W hB; go_simp; exact ⟨rfl, Below.refl _ _⟩)); simp only [Act.put, pvA, pv0, pv1])
      (refine calm_cell rfl _ _ rfl _ _ rfl _ _ hY1.out (.int .u64 (lm y (j / 64))) (cellsW_at y _ (by omega)) o64 ?_; simp only [Act.put, pvA, pv0, pv1])
      (refine calm_cell rfl _ _ rfl _ _ rfl _ _ hJ1.out (.int .i64 (j : Int)) rfl oIn ?_; simp only [Act.put, pvA, pv0, pv1])
      iterate 5 (apply calm_on rfl; (focus (intro W hB; go_simp; exact ⟨rfl, Below.refl _ _⟩)); simp only [Act.put, pvA, pv0, pv1])
      refine calm_nil ?_
      intro W2 h2
      (try dsimp only)
      have hP2 := hid (hP1x.out.step h2)
      have hQ2 := hid (hQ1x.out.step h2)
      have hS2 := hid (hS1x.out.step h2)
      have hO2 := hid (hO1.out.step h2)
      have hJ2 := hid (hJ1.out.step h2)
      have hr2 := hr1.trans (World.two.of_below h2 G (G + 1))
      (repeat ((fail_if_success (with_reducible refine Go.at_regionIn ?_)); gi_step))
      refine wpIn_calm 2 (by rintro ⟨_, _, h⟩; exact h) (by kernel_rfl) ?_
      simp only [List.take_succ_cons, List.take_zero]
      (refine calm_cell rfl _ _ rfl _ _ rfl _ _ hJ2.out (.int .i64 (j : Int)) rfl oIn ?_; simp only [Act.put, pvA, pv0, pv1])
      (apply calm_on rfl; (focus (intro W hB; go_simp; exact ⟨rfl, Below.refl _ _⟩)); simp only [Act.put, pvA, pv0, pv1])
      refine calm_nil ?_
      intro Wy hy
      simp only [List.drop_succ_cons, List.drop_zero]
      refine wpList_put 3 (.tmp 11) (.tmp 33) rfl rfl rfl (G + 1) .i64 ((j : Int) - 1) rfl rfl 3 _ (hJ2.out.step hy) iIn1 ?_
      refine wpList_nil ?_
      have hP3 := hid ((hP2.out.step hy).other (show w.heap.size + 1 ≠ G + 1 by omega) #[.int .i64 ((j : Int) - 1)])
      have hQ3 := hid ((hQ2.out.step hy).other (show w.heap.size + 1 + 1 + 1 ≠ G + 1 by omega) #[.int .i64 ((j : Int) - 1)])
      have hS3 := hid ((hS2.out.step hy).other (show G9 ≠ G + 1 by omega) #[.int .i64 ((j : Int) - 1)])
      have hO3 := hid ((hO2.out.step hy).other (show G ≠ G + 1 by omega) #[.int .i64 ((j : Int) - 1)])
      have hJ3 := hid ((hJ2.out.step hy).set #[.int .i64 ((j : Int) - 1)])
      have hr3 := (hr2.trans (World.two.of_below hy G (G + 1))).setH #[.int .i64 ((j : Int) - 1)]
      obtain ⟨W3, hW3⟩ : ∃ z, z = Wy.setRow (G + 1) #[.int .i64 ((j : Int) - 1)] := ⟨_, rfl⟩
      rw [← hW3] at hP3 hQ3 hS3 hO3 hJ3 hr3 ⊢
      clear hW3 hy h2 hP2 hQ2 hS2 hO2 hJ2 hr2
      cases b
      · rw [if_neg (by decide), if_pos (by decide)] at hNx
        have HN := hid hNx
        clear hNx
        (repeat ((fail_if_success (with_reducible refine Go.at_regionIn ?_)); gi_step))
        refine wpIn_calm 5 (by rintro ⟨_, _, h⟩; exact h) (by kernel_rfl) ?_
        simp only [List.take_succ_cons, List.take_zero]
        iterate 2 (apply calm_on rfl; (focus (intro W hB; go_simp; exact ⟨rfl, Below.refl _ _⟩)); simp only [Act.put, pvA, pv0, pv1])
        (refine calm_off rfl ?_; simp only [Act.put, pvA, pv0, pv1])
        iterate 2 (apply calm_on rfl; (focus (intro W hB; go_simp; exact ⟨rfl, Below.refl _ _⟩)); simp only [Act.put, pvA, pv0, pv1])
        refine calm_nil ?_
        intro W4 h4
        simp only [List.drop_succ_cons, List.drop_zero]
        refine wpList_nil ?_
        have hP4 := hid (hP3.out.step h4)
        have hQ4 := hid (hQ3.out.step h4)
        have hS4 := hid (hS3.out.step h4)
        have hO4 := hid (hO3.out.step h4)
        have hJ4 := hid (hJ3.out.step h4)
        have hr4 := hr3.trans (World.two.of_below h4 G (G + 1))
        (repeat ((fail_if_success (with_reducible refine Go.at_regionIn ?_)); gi_step))
        refine wpIn_calm 2 (by rintro ⟨_, _, h⟩; exact h) (by kernel_rfl) ?_
        simp only [List.take_succ_cons, List.take_zero]
        iterate 2 (apply calm_on rfl; (focus (intro W hB; go_simp; exact ⟨rfl, Below.refl _ _⟩)); simp only [Act.put, pvA, pv0, pv1])
        refine calm_nil ?_
        intro W5 h5
        simp only [List.drop_succ_cons, List.drop_zero]
        refine wpList_nil ?_
        have hP5 := hid (hP4.out.step h5)
        have hQ5 := hid (hQ4.out.step h5)
        have hS5 := hid (hS4.out.step h5)
        have hO5 := hid (hO4.out.step h5)
        have hJ5 := hid (hJ4.out.step h5)
        have hr5 := hr4.trans (World.two.of_below h5 G (G + 1))
        (repeat ((fail_if_success (with_reducible refine Go.at_regionIn ?_)); gi_step))
        refine wpIn_calm 2 (by rintro ⟨_, _, h⟩; exact h) (by kernel_rfl) ?_
        simp only [List.take_succ_cons, List.take_zero]
        iterate 2 (apply calm_on rfl; (focus (intro W hB; go_simp; exact ⟨rfl, Below.refl _ _⟩)); simp only [Act.put, pvA, pv0, pv1])
        refine calm_nil ?_
        intro W6 h6
        simp only [List.drop_succ_cons, List.drop_zero]
        refine wpList_nil ?_
        have hP6 := hid (hP5.out.step h6)
        have hQ6 := hid (hQ5.out.step h6)
        have hS6 := hid (hS5.out.step h6)
        have hO6 := hid (hO5.out.step h6)
        have hJ6 := hid (hJ5.out.step h6)
        have hr6 := hr5.trans (World.two.of_below h6 G (G + 1))
        (repeat ((fail_if_success (with_reducible refine Go.at_regionIn ?_)); gi_step))
        refine wpIn_calm 3 (by rintro ⟨_, _, h⟩; exact h) (by kernel_rfl) ?_
        simp only [List.take_succ_cons, List.take_zero]
        (refine calm_whole rfl _ _ rfl _ rfl _ _ hO6.out g4 (i4 t) ?_; simp only [Act.put, pvA, pv0, pv1])
        (refine calm_whole rfl _ _ rfl _ rfl _ _ hQ6.out g4 (i4 q) ?_; simp only [Act.put, pvA, pv0, pv1])
        (apply calm_on rfl; (focus (intro W hB; go_simp; refine (hA2.out W).mono ?_; rintro _ _ ⟨rfl, hb'⟩; exact ⟨rfl, hb'⟩)); simp only [Act.put, pvA, pv0, pv1])
        refine calm_nil ?_
        intro Wz hz
        simp only [List.drop_succ_cons, List.drop_zero]
        obtain ⟨u, hu⟩ : ∃ u, u = plusW t q := ⟨_, rfl⟩
        rw [← hu]
        refine wpList_set 66 (.tmp 10) (.tmp 51) rfl rfl rfl G (cells4 u) rfl rfl 66 (cells4 t) (hO6.out.step hz) (i4 u) rfl (one_cells4 u) ?_
        refine wpList_nil ?_
        have hr9 := (hr6.trans (World.two.of_below hz G (G + 1))).setG (cells4 u)
        have hO9 := (hO6.out.step hz).set (cells4 u)
        have hJ9 := (hJ6.out.step hz).other (show G + 1 ≠ G by omega) (cells4 u)
        gi_wp2
        exact ⟨KeepsFrom.of_two hr9 (by omega) (by omega), hr9.block B (by have := hg0.size; omega) (by omega) (by omega), hid ⟨hg0.trans hr9, by rw [HN.out, ← hu]; exact hO9, by rw [HN.out, HNX.out]; exact hJ9⟩⟩
      · rw [if_pos rfl, if_pos (by decide)] at hNx
        have HN := hid hNx
        clear hNx
        (repeat ((fail_if_success (with_reducible refine Go.at_regionIn ?_)); gi_step))
        refine wpIn_calm 5 (by rintro ⟨_, _, h⟩; exact h) (by kernel_rfl) ?_
        simp only [List.take_succ_cons, List.take_zero]
        iterate 5 (apply calm_on rfl; (focus (intro W hB; go_simp; exact ⟨rfl, Below.refl _ _⟩)); simp only [Act.put, pvA, pv0, pv1])
        refine calm_nil ?_
        intro W4 h4
        simp only [List.drop_succ_cons, List.drop_zero]
        refine wpList_nil ?_
        have hP4 := hid (hP3.out.step h4)
        have hQ4 := hid (hQ3.out.step h4)
        have hS4 := hid (hS3.out.step h4)
        have hO4 := hid (hO3.out.step h4)
        have hJ4 := hid (hJ3.out.step h4)
        have hr4 := hr3.trans (World.two.of_below h4 G (G + 1))
        (repeat ((fail_if_success (with_reducible refine Go.at_regionIn ?_)); gi_step))
        refine wpIn_calm 3 (by rintro ⟨_, _, h⟩; exact h) (by kernel_rfl) ?_
        simp only [List.take_succ_cons, List.take_zero]
        (refine calm_whole rfl _ _ rfl _ rfl _ _ hO4.out g4 (i4 t) ?_; simp only [Act.put, pvA, pv0, pv1])
        (refine calm_whole rfl _ _ rfl _ rfl _ _ hS4.out g4 (i4 s) ?_; simp only [Act.put, pvA, pv0, pv1])
        (apply calm_on rfl; (focus (intro W hB; go_simp; refine (hA3.out W).mono ?_; rintro _ _ ⟨rfl, hb'⟩; exact ⟨rfl, hb'⟩)); simp only [Act.put, pvA, pv0, pv1])
        refine calm_nil ?_
        intro Wz hz
        simp only [List.drop_succ_cons, List.drop_zero]
        obtain ⟨u, hu⟩ : ∃ u, u = plusW t s := ⟨_, rfl⟩
        rw [← hu]
        refine wpList_set 66 (.tmp 10) (.tmp 41) rfl rfl rfl G (cells4 u) rfl rfl 66 (cells4 t) (hO4.out.step hz) (i4 u) rfl (one_cells4 u) ?_
        refine wpList_nil ?_
        have hr9 := (hr4.trans (World.two.of_below hz G (G + 1))).setG (cells4 u)
        have hO9 := (hO4.out.step hz).set (cells4 u)
        have hJ9 := (hJ4.out.step hz).other (show G + 1 ≠ G by omega) (cells4 u)
        gi_wp2
        exact ⟨KeepsFrom.of_two hr9 (by omega) (by omega), hr9.block B (by have := hg0.size; omega) (by omega) (by omega), hid ⟨hg0.trans hr9, by rw [HN.out, ← hu]; exact hO9, by rw [HN.out, HNX.out]; exact hJ9⟩⟩
  case done =>
    intro D xs W hD hS hI hKD
    obtain ⟨hg, hW, _⟩ := hI.out
    rw [hS] at hW
    have hRW := hid (hR5.out.two hg (by omega) (by omega))
    have hQW := hid hW
    obtain ⟨r, hr⟩ : ∃ r, r = (bfold x y p q s (List.range 256)).1 := ⟨_, rfl⟩
    rw [← hr] at hQW
    have HR := hid hr
    clear hr hW hS hI
    go_wp2_with (first | (refine wpList_get _ _ rfl rfl _ rfl _ _ hQW.out g4 (i4 r) ?_; simp only [Act.put, pvA, pv0, pv1]) | (refine wpList_set _ _ _ rfl rfl rfl _ _ rfl rfl _ _ hRW.out (i4 r) rfl (one_cells4 r) ?_))
    have hne : w.heap.size + 1 + 1 + 1 + 1 ≠ D := by omega
    have hK' : (W.setRow (w.heap.size + 1 + 1 + 1 + 1) (cells4 r)).heap[D]? = some (.deferred (some [])) := by
      simp only [World.setRow, Array.getElem?_modify]
      rw [if_neg (by omega)]; exact hKD
    have hRb := hRW.out.set (cells4 r)
    have hbW : Below w.heap.size w (W.setRow (w.heap.size + 1 + 1 + 1 + 1) (cells4 r)) := below_set (Below.two hb5 hg hb5.size (by omega) (by omega)) _ (by omega) _
    refine ⟨by simp, .inl ⟨_, _, rfl, run_takeDeferred hK', ?_⟩⟩
    obtain ⟨d, h1, h2⟩ := aggT_spec g4
    refine ⟨_, results_cell_row rfl _ _ (w.heap.size + 1 + 1 + 1 + 1) 66 (cells4 r) (0, 0) d rfl ((World.putObj_heap_other hne).trans hRb) h1 (by cases d <;> first | rfl | cases h2) (i4 r), by rw [HR.out], ?_⟩
    exact hbW.grown (grownBy_putObj' _ D _) hbW.size (fun k e => by cases e; omega)
end Go.Proofs.Ytejnnghfelpioaa
namespace Go.Proofs.Ytejnnghfelpioaa
open Go.RowKit
def bsxN : Nat := 15112221349535400772501151409588531511454012693041857206046113283949847762202
theorem bsxN_cells : cellsW bsxN = #[.int .u64 14507833142362363162, .int .u64 7578651490590762930, .int .u64 13881468655802702940, .int .u64 2407515759118799870] := by
  have e : ∀ i, i < 4 → lm bsxN i = if i = 0 then 14507833142362363162 else if i = 1 then 7578651490590762930 else if i = 2 then 13881468655802702940 else 2407515759118799870 := by decide +kernel
  unfold cellsW; rw [e 0 (by decide), e 1 (by decide), e 2 (by decide), e 3 (by decide)]; rfl
theorem bsxN_built : Try.prog.built 25 [(0, .int .u64 14507833142362363162), (1, .int .u64 7578651490590762930), (2, .int .u64 13881468655802702940), (3, .int .u64 2407515759118799870)] = some (cellsW bsxN) := by rw [bsxN_cells]; kernel_rfl
theorem bsxN_lt : bsxN < 2 ^ 256 := by decide +kernel
def bsyN : Nat := 46316835694926478169428394003475163141307993866256225615783033603165251855960
theorem bsyN_cells : cellsW bsyN = #[.int .u64 7378697629483820632, .int .u64 7378697629483820646, .int .u64 7378697629483820646, .int .u64 7378697629483820646] := by
  have e : ∀ i, i < 4 → lm bsyN i = if i = 0 then 7378697629483820632 else if i = 1 then 7378697629483820646 else if i = 2 then 7378697629483820646 else 7378697629483820646 := by decide +kernel
  unfold cellsW; rw [e 0 (by decide), e 1 (by decide), e 2 (by decide), e 3 (by decide)]; rfl
theorem bsyN_built : Try.prog.built 25 [(0, .int .u64 7378697629483820632), (1, .int .u64 7378697629483820646), (2, .int .u64 7378697629483820646), (3, .int .u64 7378697629483820646)] = some (cellsW bsyN) := by rw [bsyN_cells]; kernel_rfl
theorem bsyN_lt : bsyN < 2 ^ 256 := by decide +kernel
def baseP : P2 := ⟨bsxN, bsyN⟩
def onL (p : P2) : Nat := subP (p.y * p.y % pN) (p.x * p.x % pN)
def onR (p : P2) : Nat := (1 + dN * ((p.x * p.x % pN) * (p.y * p.y % pN) % pN) % pN) % pN
def onB (p : P2) : Bool := decide (p.x < pN) && (decide (p.y < pN) && decide (onL p = onR p))
def propB (x : Nat) : Bool := decide (x < pN)
theorem prop_eq (x : Nat) (h : x < 2 ^ 256) : decide (x % pN = x) = propB x := by
  unfold propB
  by_cases hx : x < pN
  · rw [Nat.mod_eq_of_lt hx, decide_eq_true rfl, decide_eq_true hx]
  · rw [decide_eq_false hx, decide_eq_false (fun e => hx (by rw [← e]; exact Nat.mod_lt _ pN_pos))]
set_option maxRecDepth 100000 in
set_option maxHeartbeats 4000000 in
theorem base_any (w : World) : Calls Try.prog 20 #[] w fun e w' => e = .returned (pt baseP) ∧ Below w.heap.size w w' := by
  have kx := hid bsxN_built
  have ky := hid bsyN_built
  have hbp : baseP = ⟨bsxN, bsyN⟩ := rfl
  rw [hbp]
  clear hbp
  obtain ⟨x, hx⟩ : ∃ x, x = bsxN := ⟨_, rfl⟩
  obtain ⟨y, hy⟩ : ∃ y, y = bsyN := ⟨_, rfl⟩
  rw [← hx] at kx ⊢
  rw [← hy] at ky ⊢
  clear hx hy
  unfold pt
  obtain ⟨w0, hw0, k0, hbl0⟩ := entry1 w 44 (cellsP zeroP)
  have hb0_0 := hid k0
  clear k0
  go_enter Try.func20, Try.ntmps20
  (repeat ((fail_if_success (with_reducible refine Go.at_region ?_)); go_step))
  refine wp_region_lit ?_
  (refine wpList_alloc_new rfl 44 rfl (cellsP zeroP) zPe ?_; simp only [Act.put, pvA, pv0, pv1]; (try simp only [World.size_alloc]))
  refine wpList_nil ?_
  rw [← hw0]
  clear hw0
  (repeat ((fail_if_success (with_reducible refine Go.at_region ?_)); go_step))
  refine list_tail 3 ?_
  simp only [List.take_succ_cons, List.take_zero]
  (refine calm_build rfl 25 _ rfl (cellsW x) (by first | (simp only [List.map_toArray, List.map_cons, List.map_nil]; exact kx.out) | exact kx.out) ?_; simp only [Act.put, pvA, pv0, pv1])
  (refine calm_build rfl 25 _ rfl (cellsW y) (by first | (simp only [List.map_toArray, List.map_cons, List.map_nil]; exact ky.out) | exact ky.out) ?_; simp only [Act.put, pvA, pv0, pv1])
  (refine calm_build rfl 44 _ rfl (cellsP ⟨x, y⟩) (by first | (simp only [List.map_toArray, List.map_cons, List.map_nil]; exact (bPe x y)) | exact (bPe x y)) ?_; simp only [Act.put, pvA, pv0, pv1])
  refine calm_nil ?_
  intro wx1 hx1
  simp only [List.drop_succ_cons, List.drop_zero]
  (try simp only [Act.put, pvA, pv0, pv1])
  have fb0 := hb0_0.out.step hx1
  have hbb := hbl0.trans (hx1.mono hbl0.size)
  refine wpList_set _ _ _ rfl rfl rfl _ _ rfl rfl _ _ fb0 (iPe ⟨x, y⟩) rfl (one_cellsP ⟨x, y⟩) ?_
  replace fb0 := fb0.set (cellsP ⟨x, y⟩)
  replace hbb := below_set hbb w.heap.size (by omega) (cellsP ⟨x, y⟩)
  refine wpList_nil ?_
  obtain ⟨w1, hw⟩ : ∃ z, z = (wx1.setRow w.heap.size (cellsP ⟨x, y⟩)) := ⟨_, rfl⟩
  rw [← hw] at hbb fb0 ⊢
  have hb0_1 := hid fb0
  have hbl1 := hbb
  clear hw hbb fb0 hx1 hbl0 hb0_0 
  (repeat ((fail_if_success (with_reducible refine Go.at_region ?_)); go_step))
  refine ret_blk w.heap.size 44 (cellsP ⟨x, y⟩) rfl rfl hb0_1.out gPe (iPe ⟨x, y⟩) rfl ?_
  exact ⟨rfl, hbl1⟩
set_option maxRecDepth 100000 in
set_option maxHeartbeats 4000000 in
theorem proper_any (x : Nat) (w : World) (hx : x < 2 ^ 256) : Calls Try.prog 39 #[wd x] w fun e w' => e = .returned (.bool (propB x)) ∧ Below w.heap.size w w' := by
  have hq := eq_wd (x % pN) x (p_mod_lt x) hx
  rw [prop_eq x hx] at hq
  have c1 := hid fun w => (show Calls _ _ _ _ _ from by have := fadd_any x 0 w hx (by decide); rw [Nat.add_zero] at this; exact this)
  obtain ⟨r1, e1⟩ : ∃ r, r = x % pN := ⟨_, rfl⟩
  rw [← e1] at c1
  have E1 := hid e1
  clear e1
  rw [← E1.out] at hq
  have hBn := hid nil_built
  clear hx
  unfold wd at *
  obtain ⟨w0, hw0, k1, hbl0⟩ := entry1 w 25 (cellsW x)
  have hb1_0 := hid k1
  clear k1
  go_enter Try.func39, Try.ntmps39
  (repeat ((fail_if_success (with_reducible refine Go.at_region ?_)); go_step))
  refine wp_region_lit ?_
  (refine wpList_box 25 (.tmp 0) rfl rfl (cellsW x) rfl ?_; simp only [Act.put, pvA, pv0, pv1]; (try simp only [World.size_alloc]))
  (refine wpList_plain rfl fun K hK => ?_; go_simp; refine hK _ _ ?_; clear hK K; (try simp only [Act.put, pvA, pv0, pv1]))
  refine wpList_nil ?_
  rw [← hw0]
  clear hw0
  (repeat ((fail_if_success (with_reducible refine Go.at_region ?_)); go_step))
  refine draw_all (by kernel_rfl) (by kernel_rfl) (by kernel_rfl) ?_
  (refine calm_whole rfl _ _ rfl _ rfl _ _ hb1_0.out gWd (iW x) ?_; simp only [Act.put, pvA, pv0, pv1])
  (refine calm_build rfl 25 _ rfl (cellsW 0) (by first | (simp only [List.map_toArray, List.map_cons, List.map_nil]; exact hBn.out) | exact hBn.out) ?_; simp only [Act.put, pvA, pv0, pv1])
  (apply calm_on rfl; (focus (intro W hB; go_simp; refine (c1.out W).mono ?_; rintro _ _ ⟨rfl, hb'⟩; exact ⟨rfl, hb'⟩)); simp only [Act.put, pvA, pv0, pv1])
  (refine calm_whole rfl _ _ rfl _ rfl _ _ hb1_0.out gWd (iW x) ?_; simp only [Act.put, pvA, pv0, pv1])
  iterate 2 (apply calm_on rfl; (focus (intro W hB; go_simp; exact ⟨rfl, Below.refl _ _⟩)); simp only [Act.put, pvA, pv0, pv1])
  refine calm_nil ?_
  intro w1 hs1
  (try dsimp only)
  have hb1_1 := hid (hb1_0.out.step hs1)
  have hbl1 := hbl0.trans (hs1.mono hbl0.size)
  clear hs1 hbl0 hb1_0
  (repeat ((fail_if_success (with_reducible refine Go.at_region ?_)); go_step))
  go_ret
  exact ⟨rfl, hbl1⟩
set_option maxRecDepth 100000 in
set_option maxHeartbeats 4000000 in
theorem on_x (p : P2) (w : World) (hp : LtP p) (hx : propB p.x = false) : Calls Try.prog 13 #[pt p] w fun e w' => e = .returned (.bool false) ∧ Below w.heap.size w w' := by
  have cx := hid fun w => proper_any p.x w hp.x
  have cy := hid fun w => proper_any p.y w hp.y
  rw [hx] at cx
  clear hp hx cy
  unfold pt wd at *
  obtain ⟨w0, hw0, k1, hbl0⟩ := entry1 w 44 (cellsP p)
  have hb1_0 := hid k1
  clear k1
  go_enter Try.func13, Try.ntmps13
  (repeat ((fail_if_success (with_reducible refine Go.at_region ?_)); go_step))
  refine wp_region_lit ?_
  (refine wpList_box 44 (.tmp 0) rfl rfl (cellsP p) rfl ?_; simp only [Act.put, pvA, pv0, pv1]; (try simp only [World.size_alloc]))
  (refine wpList_plain rfl fun K hK => ?_; go_simp; refine hK _ _ ?_; clear hK K; (try simp only [Act.put, pvA, pv0, pv1]))
  refine wpList_nil ?_
  rw [← hw0]
  clear hw0
  (repeat ((fail_if_success (with_reducible refine Go.at_region ?_)); go_step))
  refine list_all ?_
  (apply calm_on rfl; (focus (intro W hB; go_simp; exact ⟨rfl, Below.refl _ _⟩)); simp only [Act.put, pvA, pv0, pv1])
  (refine calm_part rfl _ _ rfl _ _ rfl _ _ (cellsW (p).x) hb1_0.out (inP_x p) gWd (iW (p).x) ?_; simp only [Act.put, pvA, pv0, pv1])
  (apply calm_on rfl; (focus (intro W hB; go_simp; refine (cx.out W).mono ?_; rintro _ _ ⟨rfl, hb'⟩; exact ⟨rfl, hb'⟩)); simp only [Act.put, pvA, pv0, pv1])
  iterate 2 (apply calm_on rfl; (focus (intro W hB; go_simp; exact ⟨rfl, Below.refl _ _⟩)); simp only [Act.put, pvA, pv0, pv1])
  iterate 4 (refine calm_off rfl ?_; simp only [Act.put, pvA, pv0, pv1])
  (apply calm_on rfl; (focus (intro W hB; go_simp; exact ⟨rfl, Below.refl _ _⟩)); simp only [Act.put, pvA, pv0, pv1])
  refine calm_nil ?_
  intro w1 hs1
  (try dsimp only)
  have hb1_1 := hid (hb1_0.out.step hs1)
  have hbl1 := hbl0.trans (hs1.mono hbl0.size)
  clear hs1 hbl0 hb1_0
  (repeat ((fail_if_success (with_reducible refine Go.at_region ?_)); go_step))
  refine list_all ?_
  (apply calm_on rfl; (focus (intro W hB; go_simp; exact ⟨rfl, Below.refl _ _⟩)); simp only [Act.put, pvA, pv0, pv1])
  refine calm_nil ?_
  intro w2 hs2
  (try dsimp only)
  have hb1_2 := hid (hb1_1.out.step hs2)
  have hbl2 := hbl1.trans (hs2.mono hbl1.size)
  clear hs2 hbl1 hb1_1
  (repeat ((fail_if_success (with_reducible refine Go.at_region ?_)); go_step))
  go_ret
  exact ⟨rfl, hbl2⟩
set_option maxRecDepth 100000 in
set_option maxHeartbeats 4000000 in
theorem on_y (p : P2) (w : World) (hp : LtP p) (hx : propB p.x = true) (hy : propB p.y = false) : Calls Try.prog 13 #[pt p] w fun e w' => e = .returned (.bool false) ∧ Below w.heap.size w w' := by
  have cx := hid fun w => proper_any p.x w hp.x
  have cy := hid fun w => proper_any p.y w hp.y
  rw [hx] at cx
  rw [hy] at cy
  clear hp hx hy
  unfold pt wd at *
  obtain ⟨w0, hw0, k1, hbl0⟩ := entry1 w 44 (cellsP p)
  have hb1_0 := hid k1
  clear k1
  go_enter Try.func13, Try.ntmps13
  (repeat ((fail_if_success (with_reducible refine Go.at_region ?_)); go_step))
  refine wp_region_lit ?_
  (refine wpList_box 44 (.tmp 0) rfl rfl (cellsP p) rfl ?_; simp only [Act.put, pvA, pv0, pv1]; (try simp only [World.size_alloc]))
  (refine wpList_plain rfl fun K hK => ?_; go_simp; refine hK _ _ ?_; clear hK K; (try simp only [Act.put, pvA, pv0, pv1]))
  refine wpList_nil ?_
  rw [← hw0]
  clear hw0
  (repeat ((fail_if_success (with_reducible refine Go.at_region ?_)); go_step))
  refine list_all ?_
  (apply calm_on rfl; (focus (intro W hB; go_simp; exact ⟨rfl, Below.refl _ _⟩)); simp only [Act.put, pvA, pv0, pv1])
  (refine calm_part rfl _ _ rfl _ _ rfl _ _ (cellsW (p).x) hb1_0.out (inP_x p) gWd (iW (p).x) ?_; simp only [Act.put, pvA, pv0, pv1])
  (apply calm_on rfl; (focus (intro W hB; go_simp; refine (cx.out W).mono ?_; rintro _ _ ⟨rfl, hb'⟩; exact ⟨rfl, hb'⟩)); simp only [Act.put, pvA, pv0, pv1])
  iterate 3 (apply calm_on rfl; (focus (intro W hB; go_simp; exact ⟨rfl, Below.refl _ _⟩)); simp only [Act.put, pvA, pv0, pv1])
  (refine calm_part rfl _ _ rfl _ _ rfl _ _ (cellsW (p).y) hb1_0.out (inP_y p) gWd (iW (p).y) ?_; simp only [Act.put, pvA, pv0, pv1])
  (apply calm_on rfl; (focus (intro W hB; go_simp; refine (cy.out W).mono ?_; rintro _ _ ⟨rfl, hb'⟩; exact ⟨rfl, hb'⟩)); simp only [Act.put, pvA, pv0, pv1])
  iterate 2 (apply calm_on rfl; (focus (intro W hB; go_simp; exact ⟨rfl, Below.refl _ _⟩)); simp only [Act.put, pvA, pv0, pv1])
  refine calm_nil ?_
  intro w1 hs1
  (try dsimp only)
  have hb1_1 := hid (hb1_0.out.step hs1)
  have hbl1 := hbl0.trans (hs1.mono hbl0.size)
  clear hs1 hbl0 hb1_0
  (repeat ((fail_if_success (with_reducible refine Go.at_region ?_)); go_step))
  refine list_all ?_
  (apply calm_on rfl; (focus (intro W hB; go_simp; exact ⟨rfl, Below.refl _ _⟩)); simp only [Act.put, pvA, pv0, pv1])
  refine calm_nil ?_
  intro w2 hs2
  (try dsimp only)
  have hb1_2 := hid (hb1_1.out.step hs2)
  have hbl2 := hbl1.trans (hs2.mono hbl1.size)
  clear hs2 hbl1 hb1_1
  (repeat ((fail_if_success (with_reducible refine Go.at_region ?_)); go_step))
  go_ret
  exact ⟨rfl, hbl2⟩
set_option maxRecDepth 100000 in
set_option maxHeartbeats 4000000 in
theorem on_on (p : P2) (w : World) (hp : LtP p) (hx : propB p.x = true) (hy : propB p.y = true) : Calls Try.prog 13 #[pt p] w fun e w' => e = .returned (.bool (decide (onL p = onR p))) ∧ Below w.heap.size w w' := by
  have cx := hid fun w => proper_any p.x w hp.x
  have cy := hid fun w => proper_any p.y w hp.y
  rw [hx] at cx
  rw [hy] at cy
  unfold onL onR
  have c1 := hid fun w => fmul_any p.x p.x w hp.x hp.x
  obtain ⟨r1, e1⟩ : ∃ r, r = p.x * p.x % pN := ⟨_, rfl⟩
  rw [← e1] at c1
  have E1 := hid e1
  clear e1
  have c2 := hid fun w => fmul_any p.y p.y w hp.y hp.y
  obtain ⟨r2, e2⟩ : ∃ r, r = p.y * p.y % pN := ⟨_, rfl⟩
  rw [← e2] at c2
  have E2 := hid e2
  clear e2
  have lx2 : r1 < 2 ^ 256 := by rw [E1.out]; exact p_mod_lt _
  have ly2 : r2 < 2 ^ 256 := by rw [E2.out]; exact p_mod_lt _
  have c3 := hid fun w => fsub_any r2 r1 w ly2 lx2
  obtain ⟨r3, e3⟩ : ∃ r, r = subP r2 r1 := ⟨_, rfl⟩
  rw [← e3] at c3
  have E3 := hid e3
  clear e3
  have cd := hid fun w => d_any w
  have c4 := hid fun w => fmul_any r1 r2 w lx2 ly2
  obtain ⟨r4, e4⟩ : ∃ r, r = r1 * r2 % pN := ⟨_, rfl⟩
  rw [← e4] at c4
  have E4 := hid e4
  clear e4
  have l4 : r4 < 2 ^ 256 := by rw [E4.out]; exact p_mod_lt _
  have c5 := hid fun w => fmul_any dN r4 w dN_lt l4
  obtain ⟨r5, e5⟩ : ∃ r, r = dN * r4 % pN := ⟨_, rfl⟩
  rw [← e5] at c5
  have E5 := hid e5
  clear e5
  have l5 : r5 < 2 ^ 256 := by rw [E5.out]; exact p_mod_lt _
  have c6 := hid fun w => fadd_any 1 r5 w (by decide) l5
  obtain ⟨r6, e6⟩ : ∃ r, r = (1 + r5) % pN := ⟨_, rfl⟩
  rw [← e6] at c6
  have E6 := hid e6
  clear e6
  have hq := eq_wd r3 r6 (by rw [E3.out]; exact p_mod_lt _) (by rw [E6.out]; exact p_mod_lt _)
  rw [← E1.out, ← E2.out, ← E3.out, ← E4.out, ← E5.out, ← E6.out]
  obtain ⟨res, hres⟩ : ∃ b, b = decide (r3 = r6) := ⟨_, rfl⟩
  rw [← hres] at hq ⊢
  have h1b := hid one_built
  clear hp hx hy lx2 ly2 l4 l5 hres
  unfold pt wd at *
  obtain ⟨w0, hw0, k1, hbl0⟩ := entry1 w 44 (cellsP p)
  have hb1_0 := hid k1
  clear k1
  go_enter Try.func13, Try.ntmps13
  (repeat ((fail_if_success (with_reducible refine Go.at_region ?_)); go_step))
  refine wp_region_lit ?_
  (refine wpList_box 44 (.tmp 0) rfl rfl (cellsP p) rfl ?_; simp only [Act.put, pvA, pv0, pv1]; (try simp only [World.size_alloc]))
  (refine wpList_plain rfl fun K hK => ?_; go_simp; refine hK _ _ ?_; clear hK K; (try simp only [Act.put, pvA, pv0, pv1]))
  refine wpList_nil ?_
  rw [← hw0]
  clear hw0
  (repeat ((fail_if_success (with_reducible refine Go.at_region ?_)); go_step))
  refine list_all ?_
  (apply calm_on rfl; (focus (intro W hB; go_simp; exact ⟨rfl, Below.refl _ _⟩)); simp only [Act.put, pvA, pv0, pv1])
  (refine calm_part rfl _ _ rfl _ _ rfl _ _ (cellsW (p).x) hb1_0.out (inP_x p) gWd (iW (p).x) ?_; simp only [Act.put, pvA, pv0, pv1])
  (apply calm_on rfl; (focus (intro W hB; go_simp; refine (cx.out W).mono ?_; rintro _ _ ⟨rfl, hb'⟩; exact ⟨rfl, hb'⟩)); simp only [Act.put, pvA, pv0, pv1])
  iterate 3 (apply calm_on rfl; (focus (intro W hB; go_simp; exact ⟨rfl, Below.refl _ _⟩)); simp only [Act.put, pvA, pv0, pv1])
  (refine calm_part rfl _ _ rfl _ _ rfl _ _ (cellsW (p).y) hb1_0.out (inP_y p) gWd (iW (p).y) ?_; simp only [Act.put, pvA, pv0, pv1])
  (apply calm_on rfl; (focus (intro W hB; go_simp; refine (cy.out W).mono ?_; rintro _ _ ⟨rfl, hb'⟩; exact ⟨rfl, hb'⟩)); simp only [Act.put, pvA, pv0, pv1])
  iterate 2 (apply calm_on rfl; (focus (intro W hB; go_simp; exact ⟨rfl, Below.refl _ _⟩)); simp only [Act.put, pvA, pv0, pv1])
  refine calm_nil ?_
  intro w1 hs1
  (try dsimp only)
  have hb1_1 := hid (hb1_0.out.step hs1)
  have hbl1 := hbl0.trans (hs1.mono hbl0.size)
  clear hs1 hbl0 hb1_0
  (repeat ((fail_if_success (with_reducible refine Go.at_region ?_)); go_step))
  refine draw_new2 10 _ _ rfl 25 25 (cellsW 0) (cellsW 0) 3 4 rfl rfl rfl (by simp) zWd rfl rfl rfl (by simp) zWd (by decide) (by kernel_rfl) (by kernel_rfl) (by kernel_rfl) (by kernel_rfl) ?_
  simp only [List.take_succ_cons, List.take_zero]
  (apply calm_on rfl; (focus (intro W hB; go_simp; exact ⟨rfl, Below.refl _ _⟩)); simp only [Act.put, pvA, pv0, pv1])
  (refine calm_part rfl _ _ rfl _ _ rfl _ _ (cellsW (p).x) hb1_1.out (inP_x p) gWd (iW (p).x) ?_; simp only [Act.put, pvA, pv0, pv1])
  (apply calm_on rfl; (focus (intro W hB; go_simp; exact ⟨rfl, Below.refl _ _⟩)); simp only [Act.put, pvA, pv0, pv1])
  (refine calm_part rfl _ _ rfl _ _ rfl _ _ (cellsW (p).x) hb1_1.out (inP_x p) gWd (iW (p).x) ?_; simp only [Act.put, pvA, pv0, pv1])
  (apply calm_on rfl; (focus (intro W hB; go_simp; refine (c1.out W).mono ?_; rintro _ _ ⟨rfl, hb'⟩; exact ⟨rfl, hb'⟩)); simp only [Act.put, pvA, pv0, pv1])
  (apply calm_on rfl; (focus (intro W hB; go_simp; exact ⟨rfl, Below.refl _ _⟩)); simp only [Act.put, pvA, pv0, pv1])
  (refine calm_part rfl _ _ rfl _ _ rfl _ _ (cellsW (p).y) hb1_1.out (inP_y p) gWd (iW (p).y) ?_; simp only [Act.put, pvA, pv0, pv1])
  (apply calm_on rfl; (focus (intro W hB; go_simp; exact ⟨rfl, Below.refl _ _⟩)); simp only [Act.put, pvA, pv0, pv1])
  (refine calm_part rfl _ _ rfl _ _ rfl _ _ (cellsW (p).y) hb1_1.out (inP_y p) gWd (iW (p).y) ?_; simp only [Act.put, pvA, pv0, pv1])
  (apply calm_on rfl; (focus (intro W hB; go_simp; refine (c2.out W).mono ?_; rintro _ _ ⟨rfl, hb'⟩; exact ⟨rfl, hb'⟩)); simp only [Act.put, pvA, pv0, pv1])
  refine calm_nil ?_
  intro bk3 bk4 wx2 hle3 hle4 hne3 hx2 hn3 hn4
  simp only [List.drop_succ_cons, List.drop_zero]
  (try simp only [Act.put, pvA, pv0, pv1])
  have fb1 := hb1_1.out.step hx2
  have hbb := hbl1.trans (hx2.mono hbl1.size)
  have fb3 := hn3
  have fb4 := hn4
  have ne1_3 : w.heap.size ≠ bk3 := by have := hb1_1.out.lt; omega
  have ne1_4 : w.heap.size ≠ bk4 := by have := hb1_1.out.lt; omega
  have ge3 : w.heap.size ≤ bk3 := Nat.le_trans hbl1.size hle3
  have ge4 : w.heap.size ≤ bk4 := Nat.le_trans hbl1.size hle4
  refine wpList_set _ _ _ rfl rfl rfl _ _ rfl rfl _ _ fb3 (iW r1) rfl (one_cellsW r1) ?_
  replace fb1 := fb1.other ne1_3 (cellsW r1)
  replace fb3 := fb3.set (cellsW r1)
  replace fb4 := fb4.other (Ne.symm hne3) (cellsW r1)
  replace hbb := below_set hbb bk3 (ge3) (cellsW r1)
  refine wpList_set _ _ _ rfl rfl rfl _ _ rfl rfl _ _ fb4 (iW r2) rfl (one_cellsW r2) ?_
  replace fb1 := fb1.other ne1_4 (cellsW r2)
  replace fb3 := fb3.other hne3 (cellsW r2)
  replace fb4 := fb4.set (cellsW r2)
  replace hbb := below_set hbb bk4 (ge4) (cellsW r2)
  refine wpList_nil ?_
  obtain ⟨w2, hw⟩ : ∃ z, z = ((wx2.setRow bk3 (cellsW r1)).setRow bk4 (cellsW r2)) := ⟨_, rfl⟩
  rw [← hw] at hbb fb1 fb3 fb4 ⊢
  have hb1_2 := hid fb1
  have hb3_2 := hid fb3
  have hb4_2 := hid fb4
  have hbl2 := hbb
  clear hw hbb fb1 fb3 fb4 hx2 hbl1 hb1_1 hle3 hn3 hle4 hn4
  (repeat ((fail_if_success (with_reducible refine Go.at_region ?_)); go_step))
  refine draw_all (by kernel_rfl) (by kernel_rfl) (by kernel_rfl) ?_
  (refine calm_whole rfl _ _ rfl _ rfl _ _ hb4_2.out gWd (iW r2) ?_; simp only [Act.put, pvA, pv0, pv1])
  (refine calm_whole rfl _ _ rfl _ rfl _ _ hb3_2.out gWd (iW r1) ?_; simp only [Act.put, pvA, pv0, pv1])
  (apply calm_on rfl; (focus (intro W hB; go_simp; refine (c3.out W).mono ?_; rintro _ _ ⟨rfl, hb'⟩; exact ⟨rfl, hb'⟩)); simp only [Act.put, pvA, pv0, pv1])
  (refine calm_build rfl 25 _ rfl (cellsW 1) (by first | (simp only [List.map_toArray, List.map_cons, List.map_nil]; exact h1b.out) | exact h1b.out) ?_; simp only [Act.put, pvA, pv0, pv1])
  (apply calm_on rfl; (focus (intro W hB; go_simp; refine (cd.out W).mono ?_; rintro _ _ ⟨rfl, hb'⟩; exact ⟨rfl, hb'⟩)); simp only [Act.put, pvA, pv0, pv1])
  (refine calm_whole rfl _ _ rfl _ rfl _ _ hb3_2.out gWd (iW r1) ?_; simp only [Act.put, pvA, pv0, pv1])
  (refine calm_whole rfl _ _ rfl _ rfl _ _ hb4_2.out gWd (iW r2) ?_; simp only [Act.put, pvA, pv0, pv1])
  (apply calm_on rfl; (focus (intro W hB; go_simp; refine (c4.out W).mono ?_; rintro _ _ ⟨rfl, hb'⟩; exact ⟨rfl, hb'⟩)); simp only [Act.put, pvA, pv0, pv1])
  (apply calm_on rfl; (focus (intro W hB; go_simp; refine (c5.out W).mono ?_; rintro _ _ ⟨rfl, hb'⟩; exact ⟨rfl, hb'⟩)); simp only [Act.put, pvA, pv0, pv1])
  (apply calm_on rfl; (focus (intro W hB; go_simp; refine (c6.out W).mono ?_; rintro _ _ ⟨rfl, hb'⟩; exact ⟨rfl, hb'⟩)); simp only [Act.put, pvA, pv0, pv1])
  iterate 2 (apply calm_on rfl; (focus (intro W hB; go_simp; exact ⟨rfl, Below.refl _ _⟩)); simp only [Act.put, pvA, pv0, pv1])
  refine calm_nil ?_
  intro w3 hs3
  (try dsimp only)
  have hb1_3 := hid (hb1_2.out.step hs3)
  have hb3_3 := hid (hb3_2.out.step hs3)
  have hb4_3 := hid (hb4_2.out.step hs3)
  have hbl3 := hbl2.trans (hs3.mono hbl2.size)
  clear hs3 hbl2 hb1_2 hb3_2 hb4_2
  (repeat ((fail_if_success (with_reducible refine Go.at_region ?_)); go_step))
  go_ret
  exact ⟨rfl, hbl3⟩
theorem on_any (p : P2) (w : World) (hp : LtP p) : Calls Try.prog 13 #[pt p] w fun e w' => e = .returned (.bool (onB p)) ∧ Below w.heap.size w w' := by
  cases hx : propB p.x with
  | false =>
    have h : onB p = false := by unfold onB; rw [show decide (p.x < pN) = false from hx]; rfl
    rw [h]; exact on_x p w hp hx
  | true =>
    cases hy : propB p.y with
    | false =>
      have h : onB p = false := by unfold onB; rw [show decide (p.y < pN) = false from hy, Bool.false_and, Bool.and_false]
      rw [h]; exact on_y p w hp hx hy
    | true =>
      have h : onB p = decide (onL p = onR p) := by unfold onB; rw [show decide (p.x < pN) = true from hx, show decide (p.y < pN) = true from hy, Bool.true_and, Bool.true_and]
      rw [h]; exact on_on p w hp hx hy
end Go.Proofs.Ytejnnghfelpioaa
namespace Go.Proofs.Ytejnnghfelpioaa
open Go.RowKit
theorem bzPe : Try.prog.built 44 [] = some (cellsP zeroP) := by kernel_rfl
def mulP (n : Nat) (p : P2) : P2 := if onB p = true then pointW (mW n (widenW p)) else zeroP
theorem pointW_lt (p : W4) : LtP (pointW p) := ⟨p_mod_lt _, p_mod_lt _⟩
theorem zeroP_lt : LtP zeroP := ⟨by decide, by decide⟩
theorem mulP_lt (n : Nat) (p : P2) : LtP (mulP n p) := by
  unfold mulP
  split
  · exact pointW_lt _
  · exact zeroP_lt
set_option maxRecDepth 100000 in
set_option maxHeartbeats 4000000 in
theorem mul_off (n : Nat) (p : P2) (w : World) (hp : LtP p) (h1 : onB p = false) : Calls Try.prog 18 #[wd n, pt p] w fun e w' => e = .returned (pt zeroP) ∧ Below w.heap.size w w' := by
  have ca := hid fun w => on_any p w hp
  rw [h1] at ca
  clear hp h1
  unfold pt wd at *
  obtain ⟨w0, hw0, k2, k3, k4, hbl0⟩ := entry3 w 25 (cellsW n) 44 (cellsP p) 44 (cellsP zeroP)
  have hb2_0 := hid k2
  have hb3_0 := hid k3
  have hb4_0 := hid k4
  clear k2 k3 k4
  go_enter Try.func18, Try.ntmps18
  (repeat ((fail_if_success (with_reducible refine Go.at_region ?_)); go_step))
  refine wp_region_lit ?_
  (refine wpList_box 25 (.tmp 0) rfl rfl (cellsW n) rfl ?_; simp only [Act.put, pvA, pv0, pv1]; (try simp only [World.size_alloc]))
  (refine wpList_box 44 (.tmp 1) rfl rfl (cellsP p) rfl ?_; simp only [Act.put, pvA, pv0, pv1]; (try simp only [World.size_alloc]))
  (refine wpList_alloc_new rfl 44 rfl (cellsP zeroP) zPe ?_; simp only [Act.put, pvA, pv0, pv1]; (try simp only [World.size_alloc]))
  refine wpList_nil ?_
  rw [← hw0]
  clear hw0
  (repeat ((fail_if_success (with_reducible refine Go.at_region ?_)); go_step))
  refine list_all ?_
  (refine calm_whole rfl _ _ rfl _ rfl _ _ hb3_0.out gPe (iPe p) ?_; simp only [Act.put, pvA, pv0, pv1])
  (apply calm_on rfl; (focus (intro W hB; go_simp; refine (ca.out W).mono ?_; rintro _ _ ⟨rfl, hb'⟩; exact ⟨rfl, hb'⟩)); simp only [Act.put, pvA, pv0, pv1])
  (apply calm_on rfl; (focus (intro W hB; go_simp; exact ⟨rfl, Below.refl _ _⟩)); simp only [Act.put, pvA, pv0, pv1])
  refine calm_nil ?_
  intro w1 hs1
  (try dsimp only)
  have hb2_1 := hid (hb2_0.out.step hs1)
  have hb3_1 := hid (hb3_0.out.step hs1)
  have hb4_1 := hid (hb4_0.out.step hs1)
  have hbl1 := hbl0.trans (hs1.mono hbl0.size)
  clear hs1 hbl0 hb2_0 hb3_0 hb4_0
  (repeat ((fail_if_success (with_reducible refine Go.at_region ?_)); go_step))
  refine list_tail 1 ?_
  simp only [List.take_succ_cons, List.take_zero]
  (refine calm_build rfl 44 _ rfl (cellsP zeroP) (by first | (simp only [List.map_toArray, List.map_cons, List.map_nil]; exact bzPe) | exact bzPe) ?_; simp only [Act.put, pvA, pv0, pv1])
  refine calm_nil ?_
  intro wx2 hx2
  simp only [List.drop_succ_cons, List.drop_zero]
  (try simp only [Act.put, pvA, pv0, pv1])
  have fb2 := hb2_1.out.step hx2
  have fb3 := hb3_1.out.step hx2
  have fb4 := hb4_1.out.step hx2
  have hbb := hbl1.trans (hx2.mono hbl1.size)
  refine wpList_set _ _ _ rfl rfl rfl _ _ rfl rfl _ _ fb4 (iPe zeroP) rfl (one_cellsP zeroP) ?_
  replace fb2 := fb2.other (show w.heap.size ≠ (w.heap.size + 1 + 1) by omega) (cellsP zeroP)
  replace fb3 := fb3.other (show (w.heap.size + 1) ≠ (w.heap.size + 1 + 1) by omega) (cellsP zeroP)
  replace fb4 := fb4.set (cellsP zeroP)
  replace hbb := below_set hbb (w.heap.size + 1 + 1) (by omega) (cellsP zeroP)
  refine wpList_nil ?_
  obtain ⟨w2, hw⟩ : ∃ z, z = (wx2.setRow (w.heap.size + 1 + 1) (cellsP zeroP)) := ⟨_, rfl⟩
  rw [← hw] at hbb fb2 fb3 fb4 ⊢
  have hb2_2 := hid fb2
  have hb3_2 := hid fb3
  have hb4_2 := hid fb4
  have hbl2 := hbb
  clear hw hbb fb2 fb3 fb4 hx2 hbl1 hb2_1 hb3_1 hb4_1 
  (repeat ((fail_if_success (with_reducible refine Go.at_region ?_)); go_step))
  refine ret_blk (w.heap.size + 1 + 1) 44 (cellsP zeroP) rfl rfl hb4_2.out gPe (iPe zeroP) rfl ?_
  exact ⟨rfl, hbl2⟩
set_option maxRecDepth 100000 in
set_option maxHeartbeats 4000000 in
theorem mul_on (n : Nat) (p : P2) (w : World) (hp : LtP p) (h1 : onB p = true) : Calls Try.prog 18 #[wd n, pt p] w fun e w' => e = .returned (pt (pointW (mW n (widenW p)))) ∧ Below w.heap.size w w' := by
  have ca := hid fun w => on_any p w hp
  rw [h1] at ca
  have c1 := hid fun w => widen_any p w hp
  have t1 := widenW_t p hp
  obtain ⟨r1, e1⟩ : ∃ r, r = widenW p := ⟨_, rfl⟩
  rw [← e1] at c1 t1
  replace t1 := hid t1
  have E1 := hid e1
  clear e1
  have c2 := hid fun w => timesW_any r1 n w t1.out
  have t2 := mW_t n r1 t1.out
  obtain ⟨r2, e2⟩ : ∃ r, r = mW n r1 := ⟨_, rfl⟩
  rw [← e2] at c2 t2
  replace t2 := hid t2
  have E2 := hid e2
  clear e2
  have c3 := hid fun w => pointW_any r2 w t2.out
  obtain ⟨r3, e3⟩ : ∃ r, r = pointW r2 := ⟨_, rfl⟩
  rw [← e3] at c3
  have E3 := hid e3
  clear e3
  clear hp h1
  unfold pt w4 wd at *
  obtain ⟨w0, hw0, k2, k3, k4, hbl0⟩ := entry3 w 25 (cellsW n) 44 (cellsP p) 44 (cellsP zeroP)
  have hb2_0 := hid k2
  have hb3_0 := hid k3
  have hb4_0 := hid k4
  clear k2 k3 k4
  go_enter Try.func18, Try.ntmps18
  (repeat ((fail_if_success (with_reducible refine Go.at_region ?_)); go_step))
  refine wp_region_lit ?_
  (refine wpList_box 25 (.tmp 0) rfl rfl (cellsW n) rfl ?_; simp only [Act.put, pvA, pv0, pv1]; (try simp only [World.size_alloc]))
  (refine wpList_box 44 (.tmp 1) rfl rfl (cellsP p) rfl ?_; simp only [Act.put, pvA, pv0, pv1]; (try simp only [World.size_alloc]))
  (refine wpList_alloc_new rfl 44 rfl (cellsP zeroP) zPe ?_; simp only [Act.put, pvA, pv0, pv1]; (try simp only [World.size_alloc]))
  refine wpList_nil ?_
  rw [← hw0]
  clear hw0
  (repeat ((fail_if_success (with_reducible refine Go.at_region ?_)); go_step))
  refine list_all ?_
  (refine calm_whole rfl _ _ rfl _ rfl _ _ hb3_0.out gPe (iPe p) ?_; simp only [Act.put, pvA, pv0, pv1])
  (apply calm_on rfl; (focus (intro W hB; go_simp; refine (ca.out W).mono ?_; rintro _ _ ⟨rfl, hb'⟩; exact ⟨rfl, hb'⟩)); simp only [Act.put, pvA, pv0, pv1])
  (apply calm_on rfl; (focus (intro W hB; go_simp; exact ⟨rfl, Below.refl _ _⟩)); simp only [Act.put, pvA, pv0, pv1])
  refine calm_nil ?_
  intro w1 hs1
  (try dsimp only)
  have hb2_1 := hid (hb2_0.out.step hs1)
  have hb3_1 := hid (hb3_0.out.step hs1)
  have hb4_1 := hid (hb4_0.out.step hs1)
  have hbl1 := hbl0.trans (hs1.mono hbl0.size)
  clear hs1 hbl0 hb2_0 hb3_0 hb4_0
  (repeat ((fail_if_success (with_reducible refine Go.at_region ?_)); go_step))
  refine draw_tail 5 (by kernel_rfl) (by kernel_rfl) (by kernel_rfl) ?_
  simp only [List.take_succ_cons, List.take_zero]
  (refine calm_whole rfl _ _ rfl _ rfl _ _ hb3_1.out gPe (iPe p) ?_; simp only [Act.put, pvA, pv0, pv1])
  (apply calm_on rfl; (focus (intro W hB; go_simp; refine (c1.out W).mono ?_; rintro _ _ ⟨rfl, hb'⟩; exact ⟨rfl, hb'⟩)); simp only [Act.put, pvA, pv0, pv1])
  (refine calm_whole rfl _ _ rfl _ rfl _ _ hb2_1.out gWd (iW n) ?_; simp only [Act.put, pvA, pv0, pv1])
  (apply calm_on rfl; (focus (intro W hB; go_simp; refine (c2.out W).mono ?_; rintro _ _ ⟨rfl, hb'⟩; exact ⟨rfl, hb'⟩)); simp only [Act.put, pvA, pv0, pv1])
  (apply calm_on rfl; (focus (intro W hB; go_simp; refine (c3.out W).mono ?_; rintro _ _ ⟨rfl, hb'⟩; exact ⟨rfl, hb'⟩)); simp only [Act.put, pvA, pv0, pv1])
  refine calm_nil ?_
  intro wx2 hx2
  simp only [List.drop_succ_cons, List.drop_zero]
  (try simp only [Act.put, pvA, pv0, pv1])
  have fb2 := hb2_1.out.step hx2
  have fb3 := hb3_1.out.step hx2
  have fb4 := hb4_1.out.step hx2
  have hbb := hbl1.trans (hx2.mono hbl1.size)
  refine wpList_set _ _ _ rfl rfl rfl _ _ rfl rfl _ _ fb4 (iPe r3) rfl (one_cellsP r3) ?_
  replace fb2 := fb2.other (show w.heap.size ≠ (w.heap.size + 1 + 1) by omega) (cellsP r3)
  replace fb3 := fb3.other (show (w.heap.size + 1) ≠ (w.heap.size + 1 + 1) by omega) (cellsP r3)
  replace fb4 := fb4.set (cellsP r3)
  replace hbb := below_set hbb (w.heap.size + 1 + 1) (by omega) (cellsP r3)
  refine wpList_nil ?_
  obtain ⟨w2, hw⟩ : ∃ z, z = (wx2.setRow (w.heap.size + 1 + 1) (cellsP r3)) := ⟨_, rfl⟩
  rw [← hw] at hbb fb2 fb3 fb4 ⊢
  have hb2_2 := hid fb2
  have hb3_2 := hid fb3
  have hb4_2 := hid fb4
  have hbl2 := hbb
  clear hw hbb fb2 fb3 fb4 hx2 hbl1 hb2_1 hb3_1 hb4_1 
  (repeat ((fail_if_success (with_reducible refine Go.at_region ?_)); go_step))
  refine ret_blk (w.heap.size + 1 + 1) 44 (cellsP r3) rfl rfl hb4_2.out gPe (iPe r3) rfl ?_
  exact ⟨(by rw [E3.out, E2.out, E1.out]; first | done | rfl), hbl2⟩
theorem mul_any (n : Nat) (p : P2) (w : World) (hp : LtP p) : Calls Try.prog 18 #[wd n, pt p] w fun e w' => e = .returned (pt (mulP n p)) ∧ Below w.heap.size w w' := by
  unfold mulP
  cases h1 : onB p with
  | false => exact mul_off n p w hp h1
  | true => exact mul_on n p w hp h1
end Go.Proofs.Ytejnnghfelpioaa
namespace Go.Proofs.Ytejnnghfelpioaa
def IsP (r : Nat) : Prop := 2 ≤ r ∧ ∀ d, d ∣ r → d = 1 ∨ d = r
theorem IsP.euclid {r a b : Nat} (h : IsP r) (hd : r ∣ a * b) : r ∣ a ∨ r ∣ b := by
  rcases h.2 (Nat.gcd r a) (Nat.gcd_dvd_left r a) with h1 | h1
  · exact .inr (Nat.Coprime.dvd_of_dvd_mul_left h1 hd)
  · exact .inl (h1 ▸ Nat.gcd_dvd_right r a)
theorem IsP.coprime {r a : Nat} (h : IsP r) (hn : ¬ r ∣ a) : Nat.gcd r a = 1 := by
  rcases h.2 (Nat.gcd r a) (Nat.gcd_dvd_left r a) with h1 | h1
  · exact h1
  · exact absurd (h1 ▸ Nat.gcd_dvd_right r a) hn
theorem prime_div : ∀ (k n : Nat), n ≤ k → 2 ≤ n → ∃ r, IsP r ∧ r ∣ n ∧ (¬ IsP n → r * r ≤ n) := by
  intro k
  induction k with
  | zero => intro n h1 h2; omega
  | succ k ih =>
    intro n h1 h2
    by_cases hp : IsP n
    · exact ⟨n, hp, Nat.dvd_refl n, fun h => absurd hp h⟩
    · have hne : ∃ d, d ∣ n ∧ d ≠ 1 ∧ d ≠ n := by
        apply Classical.byContradiction
        intro hc
        apply hp
        refine ⟨h2, fun d hd => ?_⟩
        by_cases e1 : d = 1
        · exact .inl e1
        · by_cases e2 : d = n
          · exact .inr e2
          · exact absurd ⟨d, hd, e1, e2⟩ hc
      obtain ⟨d, ⟨e, he⟩, hd1, hd2⟩ := hne
      have hd0 : d ≠ 0 := by rintro rfl; rw [Nat.zero_mul] at he; omega
      have he0 : e ≠ 0 := by rintro rfl; rw [Nat.mul_zero] at he; omega
      have he1 : e ≠ 1 := by rintro rfl; rw [Nat.mul_one] at he; exact hd2 he.symm
      have hdl : d < n := by rw [he]; have := Nat.mul_lt_mul_of_pos_left (show 1 < e by omega) (show 0 < d by omega); omega
      have hel : e < n := by rw [he]; have := Nat.mul_lt_mul_of_pos_right (show 1 < d by omega) (show 0 < e by omega); omega
      rcases Nat.le_total d e with hle | hle
      · obtain ⟨r, hr, hrd, _⟩ := ih d (by omega) (by omega)
        refine ⟨r, hr, Nat.dvd_trans hrd ⟨e, he⟩, fun _ => ?_⟩
        have hrl := Nat.le_of_dvd (by omega) hrd
        rw [he]; exact Nat.mul_le_mul hrl (Nat.le_trans hrl hle)
      · obtain ⟨r, hr, hrd, _⟩ := ih e (by omega) (by omega)
        refine ⟨r, hr, Nat.dvd_trans hrd ⟨d, by rw [he, Nat.mul_comm]⟩, fun _ => ?_⟩
        have hrl := Nat.le_of_dvd (by omega) hrd
        rw [he]; exact Nat.mul_le_mul (Nat.le_trans hrl hle) hrl
def noDiv (n : Nat) : Nat → Bool
  | 0 => true
  | d + 1 => (decide (d < 2) || decide (n % d ≠ 0)) && noDiv n d
theorem noDiv_spec (n : Nat) : ∀ k, noDiv n k = true → ∀ d, 2 ≤ d → d < k → ¬ d ∣ n := by
  intro k
  induction k with
  | zero => intro _ d _ h; omega
  | succ k ih =>
    intro h d h2 hl
    rw [noDiv, Bool.and_eq_true] at h
    by_cases e : d = k
    · subst e
      intro hd
      have h1 := h.1
      rw [Bool.or_eq_true, decide_eq_true_eq, decide_eq_true_eq] at h1
      rcases h1 with h1 | h1
      · omega
      · exact h1 (Nat.mod_eq_zero_of_dvd hd)
    · exact ih h.2 d h2 (by omega)
theorem prime_trial (n k : Nat) (h2 : 2 ≤ n) (hk : n < k * k) (h : noDiv n k = true) : IsP n := by
  obtain ⟨r, hr, hd, hs⟩ := prime_div n n (Nat.le_refl _) h2
  apply Classical.byContradiction
  intro hn
  have h3 := hs hn
  have hrk : r < k := by
    rcases Nat.lt_or_ge r k with h4 | h4
    · exact h4
    · exact absurd (Nat.le_trans (Nat.mul_le_mul h4 h4) h3) (by omega)
  exact noDiv_spec n k h r hr.1 hrk hd
theorem pow_mod_cong {a b n : Nat} (h : a % n = b % n) : ∀ k, a ^ k % n = b ^ k % n := by
  intro k
  induction k with
  | zero => rfl
  | succ k ih => rw [Nat.pow_succ, Nat.pow_succ, Nat.mul_mod, ih, h, ← Nat.mul_mod]
theorem pow_one_mul {a n k : Nat} (h : a ^ k % n = 1 % n) (m : Nat) : a ^ (k * m) % n = 1 % n := by
  rw [Nat.pow_mul, pow_mod_cong h m, Nat.one_pow]
theorem pow_one_gcd {a n : Nat} : ∀ x y : Nat, a ^ x % n = 1 % n → a ^ y % n = 1 % n → a ^ (Nat.gcd x y) % n = 1 % n := by
  intro x
  induction x using Nat.strongRecOn with
  | ind x ih =>
    intro y hx hy
    by_cases h0 : x = 0
    · subst h0; rw [Nat.gcd_zero_left]; exact hy
    · rw [Nat.gcd_rec]
      refine ih (y % x) (Nat.mod_lt _ (by omega)) x ?_ hx
      have e : a ^ y = a ^ (x * (y / x)) * a ^ (y % x) := by rw [← Nat.pow_add, Nat.div_add_mod]
      have h1 := pow_one_mul hx (y / x)
      rw [e, Nat.mul_mod, h1, ← Nat.mul_mod, Nat.one_mul] at hy
      exact hy
def ch : Nat → Nat → Nat
  | _, 0 => 1
  | 0, _ + 1 => 0
  | n + 1, k + 1 => ch n k + ch n (k + 1)
theorem ch_over : ∀ n k, n < k → ch n k = 0 := by
  intro n
  induction n with
  | zero => intro k h; cases k with
    | zero => omega
    | succ k => rfl
  | succ n ih => intro k h; cases k with
    | zero => omega
    | succ k => rw [ch, ih k (by omega), ih (k + 1) (by omega)]
theorem ch_self : ∀ n, ch n n = 1 := by
  intro n
  induction n with
  | zero => rfl
  | succ n ih => rw [ch, ih, ch_over n (n + 1) (by omega)]
theorem ch_zero (n : Nat) : ch n 0 = 1 := by cases n <;> rfl
theorem ch_mul : ∀ n k, ch (n + 1) (k + 1) * (k + 1) = (n + 1) * ch n k := by
  intro n
  induction n with
  | zero => intro k; cases k with
    | zero => rfl
    | succ k => simp [ch]
  | succ n ih =>
    intro k
    cases k with
    | zero =>
      have h0 := ih 0
      rw [ch_zero, Nat.zero_add, Nat.mul_one, Nat.mul_one] at h0
      rw [show ch (n + 1 + 1) (0 + 1) = ch (n + 1) 0 + ch (n + 1) (0 + 1) from rfl, ch_zero, Nat.zero_add, Nat.mul_one, Nat.mul_one]; omega
    | succ k =>
      have h1 := ih k
      have h2 := ih (k + 1)
      rw [show ch (n + 1 + 1) (k + 1 + 1) = ch (n + 1) (k + 1) + ch (n + 1) (k + 1 + 1) from rfl]
      have h3 : ch (n + 1) (k + 1) * (k + 1 + 1) = (n + 1) * ch n k + ch (n + 1) (k + 1) := by rw [Nat.mul_succ, h1]
      rw [Nat.add_mul, h3, h2]
      have h4 : ch (n + 1) (k + 1) = ch n k + ch n (k + 1) := rfl
      have h5 : (n + 1 + 1) * ch (n + 1) (k + 1) = (n + 1) * ch (n + 1) (k + 1) + ch (n + 1) (k + 1) := Nat.succ_mul _ _
      rw [h5]
      have h6 : (n + 1) * ch (n + 1) (k + 1) = (n + 1) * ch n k + (n + 1) * ch n (k + 1) := by rw [h4, Nat.mul_add]
      omega
theorem dvd_sub_mod (a b r : Nat) (h : b % r = a % r) : r ∣ b - a := by
  rcases Nat.lt_or_ge b a with h1 | h1
  · rw [Nat.sub_eq_zero_of_le (Nat.le_of_lt h1)]; exact ⟨0, rfl⟩
  · exact ⟨b / r - a / r, by have e1 := Nat.div_add_mod b r; have e2 := Nat.div_add_mod a r; rw [Nat.mul_sub]; omega⟩
def sumTo (f : Nat → Nat) : Nat → Nat
  | 0 => 0
  | n + 1 => sumTo f n + f n
theorem sumTo_front (f : Nat → Nat) : ∀ n, sumTo f (n + 1) = f 0 + sumTo (fun k => f (k + 1)) n := by
  intro n
  induction n with
  | zero => simp [sumTo]
  | succ n ih => rw [sumTo, ih, sumTo, Nat.add_assoc]
theorem sumTo_add (f g : Nat → Nat) : ∀ n, sumTo (fun k => f k + g k) n = sumTo f n + sumTo g n := by
  intro n
  induction n with
  | zero => rfl
  | succ n ih => simp only [sumTo, ih]; omega
theorem sumTo_mul (f : Nat → Nat) (a : Nat) : ∀ n, sumTo (fun k => a * f k) n = a * sumTo f n := by
  intro n
  induction n with
  | zero => rfl
  | succ n ih => simp only [sumTo, ih, Nat.mul_add]
theorem sumTo_congr {f g : Nat → Nat} : ∀ n, (∀ k, k < n → f k = g k) → sumTo f n = sumTo g n := by
  intro n
  induction n with
  | zero => intro _; rfl
  | succ n ih => intro h; rw [sumTo, sumTo, ih fun k hk => h k (by omega), h n (by omega)]
theorem sumTo_dvd (r : Nat) (f : Nat → Nat) : ∀ n, (∀ k, k < n → r ∣ f k) → r ∣ sumTo f n := by
  intro n
  induction n with
  | zero => intro _; exact ⟨0, rfl⟩
  | succ n ih => intro h; exact Nat.dvd_add (ih fun k hk => h k (by omega)) (h n (by omega))
theorem binom (a : Nat) : ∀ n, (a + 1) ^ n = sumTo (fun k => ch n k * a ^ k) (n + 1) := by
  intro n
  induction n with
  | zero => simp [sumTo, ch]
  | succ n ih =>
    rw [sumTo_front, ch_zero]
    have e1 : sumTo (fun k => ch (n + 1) (k + 1) * a ^ (k + 1)) (n + 1) = sumTo (fun k => a * (ch n k * a ^ k) + ch n (k + 1) * a ^ (k + 1)) (n + 1) :=
      sumTo_congr _ fun k _ => by
        rw [show ch (n + 1) (k + 1) = ch n k + ch n (k + 1) from rfl, Nat.add_mul, Nat.pow_succ]
        rw [show ch n k * (a ^ k * a) = a * (ch n k * a ^ k) by rw [← Nat.mul_assoc, Nat.mul_comm]]
    have e2 : sumTo (fun k => ch n k * a ^ k) (n + 1 + 1) = ch n 0 * a ^ 0 + sumTo (fun k => ch n (k + 1) * a ^ (k + 1)) (n + 1) := sumTo_front _ _
    have e3 : sumTo (fun k => ch n k * a ^ k) (n + 1 + 1) = sumTo (fun k => ch n k * a ^ k) (n + 1) := by
      rw [sumTo, ch_over n (n + 1) (by omega), Nat.zero_mul, Nat.add_zero]
    rw [e1, sumTo_add, sumTo_mul, ← ih]
    rw [ch_zero] at e2
    rw [e3, ← ih] at e2
    rw [Nat.pow_succ, Nat.mul_add, Nat.mul_one, Nat.mul_comm _ a]
    omega
theorem fermat_add (r : Nat) (h : IsP r) (a : Nat) : (a + 1) ^ r % r = (a ^ r + 1) % r := by
  obtain ⟨m, rfl⟩ : ∃ m, r = m + 1 := ⟨r - 1, by have := h.1; omega⟩
  rw [binom a (m + 1), sumTo, sumTo_front, ch_self, ch_zero, Nat.pow_zero, Nat.one_mul, Nat.one_mul]
  have hd : (m + 1) ∣ sumTo (fun k => ch (m + 1) (k + 1) * a ^ (k + 1)) m := sumTo_dvd _ _ _ fun k hk => by
    have h1 : (m + 1) ∣ ch (m + 1) (k + 1) * (k + 1) := ⟨ch m k, ch_mul m k⟩
    rcases h.euclid h1 with h2 | h2
    · exact Nat.dvd_trans h2 ⟨_, rfl⟩
    · have := Nat.le_of_dvd (by omega) h2; omega
  obtain ⟨c, hc⟩ := hd
  rw [hc, show 1 + (m + 1) * c + a ^ (m + 1) = a ^ (m + 1) + 1 + (m + 1) * c by omega, Nat.add_mul_mod_self_left]
theorem fermat0 (r : Nat) (h : IsP r) : ∀ a, a ^ r % r = a % r := by
  intro a
  induction a with
  | zero => rw [Nat.zero_pow (by have := h.1; omega)]
  | succ a ih => rw [fermat_add r h a, Nat.add_mod, ih, ← Nat.add_mod]
theorem fermat (r : Nat) (h : IsP r) (a : Nat) (hn : a % r ≠ 0) : a ^ (r - 1) % r = 1 := by
  have h2 := h.1
  have h0 := fermat0 r h a
  obtain ⟨m, rfl⟩ : ∃ m, r = m + 1 := ⟨r - 1, by omega⟩
  rw [Nat.add_sub_cancel]
  have hpos : 0 < a ^ m := Nat.pow_pos (by rcases Nat.eq_zero_or_pos a with e | e; (subst e; simp at hn); exact e)
  have hd : (m + 1) ∣ a * (a ^ m - 1) := by
    rw [Nat.mul_sub, Nat.mul_one, Nat.mul_comm, ← Nat.pow_succ]
    exact (dvd_sub_mod a (a ^ (m + 1)) (m + 1) h0)
  rcases h.euclid hd with h3 | h3
  · exact absurd (Nat.mod_eq_zero_of_dvd h3) hn
  · obtain ⟨c, hc⟩ := h3
    rw [show a ^ m = 1 + (m + 1) * c by omega, Nat.add_mul_mod_self_left, Nat.mod_eq_of_lt (by omega)]
theorem pock_one {n q c a r : Nat} (hq : IsP q) (hc : n - 1 = q * c) (h1 : a ^ (n - 1) % n = 1) (h2 : Nat.gcd (a ^ c % n + (n - 1)) n = 1) (hn : 2 ≤ n) (hr : IsP r) (hd : r ∣ n) : q ∣ r - 1 := by
  have h1r : a ^ (n - 1) % r = 1 % r := by
    rw [← Nat.mod_mod_of_dvd (a ^ (n - 1)) hd, h1]
  have har : a % r ≠ 0 := by
    intro h0
    have h3 : a ^ (n - 1) % r = 0 := by
      obtain ⟨k, hk⟩ : ∃ k, n - 1 = k + 1 := ⟨n - 2, by omega⟩
      rw [hk, Nat.pow_succ, Nat.mul_mod, h0, Nat.mul_zero, Nat.zero_mod]
    have := hr.1
    rw [h3, Nat.mod_eq_of_lt (by omega)] at h1r; omega
  have hf : a ^ (r - 1) % r = 1 % r := by rw [fermat r hr a har, Nat.mod_eq_of_lt (by have := hr.1; omega)]
  apply Classical.byContradiction
  intro hqn
  have hg : Nat.gcd (q * c) (r - 1) ∣ c := by
    have hcop : Nat.Coprime (Nat.gcd (q * c) (r - 1)) q :=
      (show Nat.Coprime (r - 1) q from Nat.Coprime.symm (hq.coprime hqn)).coprime_dvd_left (Nat.gcd_dvd_right _ _)
    exact hcop.dvd_of_dvd_mul_left (Nat.gcd_dvd_left _ _)
  have h4 := pow_one_gcd (a := a) (n := r) (n - 1) (r - 1) h1r hf
  rw [hc] at h4
  obtain ⟨k, hk⟩ := hg
  have h5 : a ^ c % r = 1 % r := by
    obtain ⟨g, hgd⟩ : ∃ g, g = Nat.gcd (q * c) (r - 1) := ⟨_, rfl⟩
    rw [← hgd] at h4 hk
    rw [hk]; exact pow_one_mul h4 k
  have hr1 : r ∣ a ^ c % n + (n - 1) := by
    obtain ⟨e, he⟩ := hd
    have h6 : (a ^ c % n) % r = 1 % r := by rw [Nat.mod_mod_of_dvd _ ⟨e, he⟩]; exact h5
    have h7 : (a ^ c % n + (n - 1)) % r = (1 + (n - 1)) % r := by rw [Nat.add_mod, h6, ← Nat.add_mod]
    rw [show 1 + (n - 1) = n by omega, he, Nat.mul_mod_right] at h7
    rw [← he] at h7
    exact Nat.dvd_of_mod_eq_zero h7
  have h8 := Nat.dvd_gcd hr1 hd
  rw [h2] at h8
  have := Nat.le_of_dvd (by omega) h8
  have := hr.1
  omega
theorem prime_of {n F : Nat} (hn : 2 ≤ n) (hF : n < F * F) (hF2 : 1 ≤ F) (h : ∀ r, IsP r → r ∣ n → F ∣ r - 1) : IsP n := by
  obtain ⟨r, hr, hd, hs⟩ := prime_div n n (Nat.le_refl _) hn
  apply Classical.byContradiction
  intro hnp
  have h3 := hs hnp
  have hle := Nat.le_of_dvd (by have := hr.1; omega) (h r hr hd)
  have : F * F ≤ r * r := Nat.mul_le_mul (by omega) (by omega)
  omega
theorem pock1 {n q c a : Nat} (hq : IsP q) (hn : 2 ≤ n) (hc : n - 1 = q * c) (h1 : a ^ (n - 1) % n = 1) (h2 : Nat.gcd (a ^ c % n + (n - 1)) n = 1) (hF : n < q * q) : IsP n :=
  prime_of hn hF (by have := hq.1; omega) fun r hr hd => pock_one hq hc h1 h2 hn hr hd
theorem pock2 {n q c s d a : Nat} (hq : IsP q) (hs : IsP s) (hqs : Nat.gcd q s = 1) (hn : 2 ≤ n) (hc : n - 1 = q * c) (hd : n - 1 = s * d) (h1 : a ^ (n - 1) % n = 1)
    (h2 : Nat.gcd (a ^ c % n + (n - 1)) n = 1) (h3 : Nat.gcd (a ^ d % n + (n - 1)) n = 1) (hF : n < (q * s) * (q * s)) : IsP n :=
  prime_of hn hF (by have := Nat.mul_le_mul hq.1 hs.1; omega) fun r hr hd' =>
    Nat.Coprime.mul_dvd_of_dvd_of_dvd hqs (pock_one hq hc h1 h2 hn hr hd') (pock_one hs hd h1 h3 hn hr hd')
def pmG (n a : Nat) : Nat → Nat → Nat
  | 0, _ => 1 % n
  | f + 1, e => (if e % 2 = 1 then a else 1) * (pmG n a f (e / 2) * pmG n a f (e / 2) % n) % n
theorem pmG_eq (n a : Nat) : ∀ f e, e < 2 ^ f → pmG n a f e = a ^ e % n := by
  intro f
  induction f with
  | zero => intro e h; obtain rfl : e = 0 := by simp at h; exact h
            rfl
  | succ f ih =>
    intro e h
    have h2 : e / 2 < 2 ^ f := by rw [Nat.pow_succ] at h; omega
    rw [pmG, ih _ h2]
    have e1 : a ^ e = (if e % 2 = 1 then a else 1) * (a ^ (e / 2) * a ^ (e / 2)) := by
      rw [← Nat.pow_add]
      by_cases h1 : e % 2 = 1
      · rw [if_pos h1, Nat.mul_comm, ← Nat.pow_succ]; congr 1; omega
      · rw [if_neg h1, Nat.one_mul]; congr 1; omega
    rw [e1, Nat.mul_mod _ ((a ^ (e / 2) % n) * (a ^ (e / 2) % n) % n), Nat.mod_mod, ← Nat.mul_mod (a ^ (e / 2)), ← Nat.mul_mod]
theorem pockF1 {n q c a : Nat} (f : Nat) (hq : IsP q) (hn : 2 ≤ n) (hc : n - 1 = q * c) (hl : n - 1 < 2 ^ f) (hlc : c < 2 ^ f) (h1 : pmG n a f (n - 1) = 1) (h2 : Nat.gcd (pmG n a f c + (n - 1)) n = 1) (hF : n < q * q) : IsP n := by
  rw [pmG_eq _ _ _ _ hl] at h1
  rw [pmG_eq _ _ _ _ hlc] at h2
  exact pock1 hq hn hc h1 h2 hF
theorem pockF2 {n q c s d a : Nat} (f : Nat) (hq : IsP q) (hs : IsP s) (hqs : Nat.gcd q s = 1) (hn : 2 ≤ n) (hc : n - 1 = q * c) (hd : n - 1 = s * d) (hl : n - 1 < 2 ^ f) (hlc : c < 2 ^ f) (hld : d < 2 ^ f)
    (h1 : pmG n a f (n - 1) = 1) (h2 : Nat.gcd (pmG n a f c + (n - 1)) n = 1) (h3 : Nat.gcd (pmG n a f d + (n - 1)) n = 1) (hF : n < (q * s) * (q * s)) : IsP n := by
  rw [pmG_eq _ _ _ _ hl] at h1
  rw [pmG_eq _ _ _ _ hlc] at h2
  rw [pmG_eq _ _ _ _ hld] at h3
  exact pock2 hq hs hqs hn hc hd h1 h2 h3 hF
theorem ip_47 : IsP 47 := prime_trial 47 7 (by decide) (by decide) (by decide +kernel)
theorem ip_353 : IsP 353 := prime_trial 353 19 (by decide) (by decide) (by decide +kernel)
theorem ip_75707 : IsP 75707 := prime_trial 75707 276 (by decide) (by decide) (by decide +kernel)
theorem ip_C : IsP 8574133 := prime_trial 8574133 2929 (by decide) (by decide) (by decide +kernel)
theorem ip_B : IsP 1919519569386763 :=
  pockF2 (q := 8574133) (c := 223873314) (s := 47) (d := 40840841901846) (a := 2) 64 ip_C ip_47 (by decide +kernel) (by decide +kernel) (by decide +kernel) (by decide +kernel) (by decide +kernel) (by decide +kernel) (by decide +kernel) (by decide +kernel) (by decide +kernel) (by decide +kernel) (by decide +kernel)
theorem ip_A : IsP 75445702479781427272750846543864801 :=
  pockF2 (q := 1919519569386763) (c := 39304471641247389600) (s := 75707) (d := 996548568557483816196003626400) (a := 2) 128 ip_B ip_75707 (by decide +kernel) (by decide +kernel) (by decide +kernel) (by decide +kernel) (by decide +kernel) (by decide +kernel) (by decide +kernel) (by decide +kernel) (by decide +kernel) (by decide +kernel) (by decide +kernel)
theorem ip_q1 : IsP 74058212732561358302231226437062788676166966415465897661863160754340907 :=
  pockF2 (q := 75445702479781427272750846543864801) (c := 981609426360740691344999861639072106) (s := 353) (d := 209796636636151156663544550813209033076960244803019540118592523383402) (a := 2) 256 ip_A ip_353 (by decide +kernel) (by decide +kernel) (by decide +kernel) (by decide +kernel) (by decide +kernel) (by decide +kernel) (by decide +kernel) (by decide +kernel) (by decide +kernel) (by decide +kernel) (by decide +kernel)
theorem ip_p : IsP 57896044618658097711785492504343953926634992332820282019728792003956564819949 :=
  pockF1 (q := 74058212732561358302231226437062788676166966415465897661863160754340907) (c := 781764) (a := 2) 256 ip_q1 (by decide +kernel) (by decide +kernel) (by decide +kernel) (by decide +kernel) (by decide +kernel) (by decide +kernel) (by decide +kernel)
end Go.Proofs.Ytejnnghfelpioaa
namespace Go.Proofs.Ytejnnghfelpioaa
open Go.RowKit
instance pN_ne : NeZero pN := ⟨by decide +kernel⟩
theorem pN_isP : IsP pN := ip_p
abbrev FP := Fin pN
def nF (n : Nat) : FP := ⟨n % pN, Nat.mod_lt _ pN_pos⟩
theorem nF_val (n : Nat) : (nF n).val = n % pN := rfl
theorem nF_eq {a b : Nat} (h : a % pN = b % pN) : nF a = nF b := Fin.ext h
theorem nF_back (z : FP) : nF z.val = z := Fin.ext (Nat.mod_eq_of_lt z.isLt)
theorem nF_mul (a b : Nat) : nF (a * b) = nF a * nF b := Fin.ext (by rw [Fin.val_mul, nF_val, nF_val, nF_val, ← Nat.mul_mod])
theorem nF_add (a b : Nat) : nF (a + b) = nF a + nF b := Fin.ext (by rw [Fin.val_add, nF_val, nF_val, nF_val, ← Nat.add_mod])
theorem nF_one : nF 1 = 1 := Fin.ext (by decide +kernel)
theorem nF_zero : nF 0 = 0 := Fin.ext (by decide +kernel)
def iF (z : FP) : FP := nF (powP z.val (pN - 2))
theorem iF_nF (a : Nat) : iF (nF a) = nF (powP a (pN - 2)) := by
  unfold iF powP; rw [nF_val, ← Nat.pow_mod]
theorem mul_iF (a : FP) (h : a ≠ 0) : a * iF a = 1 := by
  rw [← nF_one]
  unfold iF powP
  refine Fin.ext ?_
  rw [Fin.val_mul, nF_val, nF_val, Nat.mod_mod, Nat.mul_mod, Nat.mod_mod, ← Nat.mul_mod, Nat.mul_comm, ← Nat.pow_succ, show (pN - 2).succ = pN - 1 by decide +kernel]
  rw [fermat pN pN_isP a.val ?_, Nat.mod_eq_of_lt (show 1 < pN by decide +kernel)]
  intro h0
  rw [Nat.mod_eq_of_lt a.isLt] at h0
  exact h (Fin.ext (by rw [h0]; rfl))
theorem F_zero_of {a b : FP} (h : a * b = 0) (ha : a ≠ 0) : b = 0 := by
  have h1 := mul_iF a ha
  have : b = iF a * (a * b) := by grind
  rw [this, h]; grind
theorem F_cancel {k a b : FP} (hk : k ≠ 0) (h : k * a = k * b) : a = b := by
  have h1 := mul_iF k hk
  have : a = iF k * (k * a) := by grind
  rw [this, h]; grind
def fv (f : F5) : FP := nF (val5 f)
theorem fv_mul (f g : F5) : fv (mul5 f g) = fv f * fv g := by
  unfold fv; rw [← nF_mul]; exact nF_eq (mul5_mod f g)
theorem fv_add (f g : F5) : fv (add5 f g) = fv f + fv g := by
  unfold fv; rw [← nF_add]; exact nF_eq (add5_mod f g)
theorem fv_sub (f g : F5) (hg : T5 g) : fv (sub5 f g) = fv f - fv g := by
  have h : nF (val5 (sub5 f g)) + nF (val5 g) = nF (val5 f) := by rw [← nF_add]; exact nF_eq (sub5_mod f g hg)
  unfold fv; grind
theorem fv_inv (f : F5) : fv (inv5 f) = iF (fv f) := by
  unfold fv; rw [iF_nF]
  refine nF_eq ?_
  rw [inv5_val]; unfold powP; rw [Nat.mod_mod]
theorem fv_of (x : Nat) : fv (fOf x) = nF x := by unfold fv; rw [fOf_val]
theorem fv_one : fv one5 = 1 := nF_one
theorem fv_zero : fv zero5 = 0 := nF_zero
def iI (v : Int) : FP := nF (v % pI).toNat
def gv (g : G16) : FP := iI (val g.l)
structure QF where
  x : FP
  y : FP
  z : FP
  t : FP
theorem QF.ext4 {p q : QF} (h1 : p.x = q.x) (h2 : p.y = q.y) (h3 : p.z = q.z) (h4 : p.t = q.t) : p = q := by
  cases p; cases q; simp only [QF.mk.injEq]; exact ⟨h1, h2, h3, h4⟩
def dF : FP := nF dN
def qfrom (e f g h : FP) : QF := ⟨e * f, g * h, f * g, e * h⟩
def qsum (p q : QF) : QF :=
  qfrom ((p.y + p.x) * (q.y + q.x) - (p.y - p.x) * (q.y - q.x)) (p.z * q.z + p.z * q.z - (p.t * q.t * dF + p.t * q.t * dF)) (p.z * q.z + p.z * q.z + (p.t * q.t * dF + p.t * q.t * dF)) ((p.y + p.x) * (q.y + q.x) + (p.y - p.x) * (q.y - q.x))
def qtwice (p : QF) : QF :=
  qfrom (p.x * p.x + p.y * p.y - (p.x + p.y) * (p.x + p.y)) (p.z * p.z + p.z * p.z + (p.x * p.x - p.y * p.y)) (p.x * p.x - p.y * p.y) (p.x * p.x + p.y * p.y)
def qopen (p : P2) : QF := ⟨nF p.x, nF p.y, 1, nF p.x * nF p.y⟩
def qnone : QF := ⟨0, 1, 1, 0⟩
def qclose (q : QF) : P2 := ⟨(q.x * iF q.z).val, (q.y * iF q.z).val⟩
def qW (p : W4) : QF := ⟨fv p.x, fv p.y, fv p.z, fv p.t⟩
theorem d25_fv : fv d25 = dF + dF := by
  unfold d25 dF
  rw [fv_of, ← nF_add, Nat.mod_eq_of_lt (show dN + dN < 2 ^ 256 by decide +kernel)]
theorem qW_plus (p q : W4) (hp : TW p) (hq : TW q) : qW (plusW p q) = qsum (qW p) (qW q) := by
  have a := mul5_t _ _ (sub5_t _ _ hp.y hp.x) (sub5_t _ _ hq.y hq.x)
  have c := mul5_t _ _ (mul5_t _ _ hp.t hq.t) d25_t
  unfold plusW fromW qW qsum qfrom
  simp only [fv_mul, fv_add, fv_sub _ _ hp.x, fv_sub _ _ hq.x, fv_sub _ _ a, fv_sub _ _ c, d25_fv]
  refine QF.ext4 ?_ ?_ ?_ ?_ <;> simp only <;> grind
theorem qW_twice (p : W4) (hp : TW p) : qW (twiceW p) = qtwice (qW p) := by
  have s := mul5_t _ _ (add5_t _ _ hp.x hp.y) (add5_t _ _ hp.x hp.y)
  have y2 := mul5_t _ _ hp.y hp.y
  unfold twiceW fromW qW qtwice qfrom
  simp only [fv_mul, fv_add, fv_sub _ _ s, fv_sub _ _ y2]
theorem qW_widen (p : P2) : qW (widenW p) = qopen p := by
  unfold widenW qW qopen
  simp only [fv_mul, fv_of, fv_one]
theorem qW_none : qW noneW = qnone := by
  unfold noneW qW qnone
  simp only [fv_one, fv_zero]
theorem qW_point (p : W4) : pointW p = qclose (qW p) := by
  unfold pointW qclose qW
  simp only [← fv_inv, ← fv_mul]
  rfl
def qmul (n : Nat) (p : QF) : Nat → QF
  | 0 => qnone
  | m + 1 => if n / 2 ^ (255 - m) % 2 = 1 then qsum (qtwice (qmul n p m)) p else qtwice (qmul n p m)
theorem qW_fold (n : Nat) (p : W4) (hp : TW p) : ∀ m, qW ((List.range m).foldl (stepW n p) noneW) = qmul n (qW p) m
  | 0 => qW_none
  | m + 1 => by
    have ih := qW_fold n p hp m
    have hb := foldW_t n p hp (List.range m) _ noneW_t
    rw [List.range_succ, List.foldl_append, qmul]
    show qW (stepW n p _ m) = _
    obtain ⟨o, ho⟩ : ∃ o, o = List.foldl (stepW n p) noneW (List.range m) := ⟨_, rfl⟩
    rw [← ho] at ih hb ⊢
    unfold stepW dbit
    by_cases h : n / 2 ^ (255 - m) % 2 = 1
    · rw [if_pos h, if_pos (by rw [h]; rfl), qW_plus _ _ (twiceW_t _ hb) hp, qW_twice _ hb, ih]
    · rw [if_neg h, if_neg (by rw [decide_eq_false h]; decide), qW_twice _ hb, ih]
def onC (x y : FP) : Prop := y * y - x * x = 1 + dF * (x * x * (y * y))
theorem sub_val (a b : Nat) : subP a b = (nF a - nF b).val := by
  have h : nF (subP a b) = nF a - nF b := by
    have : nF (subP a b) + nF b = nF a := by
      rw [← nF_add]
      refine nF_eq ?_
      unfold subP
      rw [Nat.add_mod, Nat.mod_mod, ← Nat.add_mod]
      have h1 := Nat.mod_lt b pN_pos
      have h2 := Nat.div_add_mod b pN
      rw [show a + (pN - b % pN) + b = a + pN * (b / pN + 1) by rw [Nat.mul_add, Nat.mul_one]; omega, Nat.add_mul_mod_self_left]
    grind
  rw [← h, nF_val]
  unfold subP; rw [Nat.mod_mod]
theorem onL_val (p : P2) : onL p = (nF p.y * nF p.y - nF p.x * nF p.x).val := by
  unfold onL
  rw [sub_val, ← nF_mul, ← nF_mul]
  rw [nF_eq (show p.y * p.y % pN % pN = p.y * p.y % pN from Nat.mod_mod _ _), nF_eq (show p.x * p.x % pN % pN = p.x * p.x % pN from Nat.mod_mod _ _)]
theorem onR_val (p : P2) : onR p = (1 + dF * (nF p.x * nF p.x * (nF p.y * nF p.y))).val := by
  unfold onR
  rw [← nF_one]
  unfold dF
  rw [← nF_mul, ← nF_mul, ← nF_mul, ← nF_mul, ← nF_add, nF_val]
  simp [Nat.add_mod, Nat.mul_mod]
theorem onB_onC {p : P2} (h : onB p = true) : p.x < pN ∧ p.y < pN ∧ onC (nF p.x) (nF p.y) := by
  unfold onB at h
  simp only [Bool.and_eq_true, decide_eq_true_eq] at h
  refine ⟨h.1, h.2.1, Fin.ext ?_⟩
  rw [← onL_val, ← onR_val]; exact h.2.2
theorem onB_of {p : P2} (hx : p.x < pN) (hy : p.y < pN) (h : onC (nF p.x) (nF p.y)) : onB p = true := by
  unfold onB
  simp only [Bool.and_eq_true, decide_eq_true_eq]
  refine ⟨hx, hy, ?_⟩
  rw [onL_val, onR_val]; exact congrArg Fin.val h
end Go.Proofs.Ytejnnghfelpioaa
namespace Go.Proofs.Ytejnnghfelpioaa
open Go.RowKit
def qboth (x y : Nat) (p q s : QF) : Nat → QF
  | 0 => qnone
  | m + 1 => if x / 2 ^ (255 - m) % 2 = 1 then (if y / 2 ^ (255 - m) % 2 = 1 then qsum (qtwice (qboth x y p q s m)) s else qsum (qtwice (qboth x y p q s m)) p) else (if y / 2 ^ (255 - m) % 2 = 1 then qsum (qtwice (qboth x y p q s m)) q else qtwice (qboth x y p q s m))
theorem qW_bfold (x y : Nat) (p q s : W4) (hp : TW p) (hq : TW q) (hs : TW s) : ∀ m, qW (bfold x y p q s (List.range m)).1 = qboth x y (qW p) (qW q) (qW s) m
  | 0 => qW_none
  | m + 1 => by
    have ih := qW_bfold x y p q s hp hq hs m
    have hb := bfold_t x y p q s hp hq hs (List.range m)
    have hl := bfold_len x y p q s (List.range m)
    rw [List.range_succ, bfold_snoc, qboth]
    rw [List.length_range] at hl
    rw [hl]
    obtain ⟨o, ho⟩ : ∃ o, o = (bfold x y p q s (List.range m)).1 := ⟨_, rfl⟩
    rw [← ho] at ih hb ⊢
    unfold bstep dbit
    by_cases h1 : x / 2 ^ (255 - m) % 2 = 1
    · rw [if_pos h1, if_pos (by rw [h1]; rfl)]
      by_cases h2 : y / 2 ^ (255 - m) % 2 = 1
      · rw [if_pos h2, if_pos (by rw [h2]; rfl), qW_plus _ _ (twiceW_t _ hb) hs, qW_twice _ hb, ih]
      · rw [if_neg h2, if_neg (by rw [decide_eq_false h2]; decide), qW_plus _ _ (twiceW_t _ hb) hp, qW_twice _ hb, ih]
    · rw [if_neg h1, if_neg (by rw [decide_eq_false h1]; decide)]
      by_cases h2 : y / 2 ^ (255 - m) % 2 = 1
      · rw [if_pos h2, if_pos (by rw [h2]; rfl), qW_plus _ _ (twiceW_t _ hb) hq, qW_twice _ hb, ih]
      · rw [if_neg h2, if_neg (by rw [decide_eq_false h2]; decide), qW_twice _ hb, ih]
theorem qW_both (x y : Nat) (p q : W4) (hp : TW p) (hq : TW q) : qW (bothW x p y q) = qboth x y (qW p) (qW q) (qsum (qW p) (qW q)) 256 := by
  unfold bothW
  rw [qW_bfold x y p q _ hp hq (plusW_t _ _ hp hq), qW_plus _ _ hp hq]
structure NQ where
  x : Nat
  y : Nat
  z : Nat
  t : Nat
def toQ (p : NQ) : QF := ⟨nF p.x, nF p.y, nF p.z, nF p.t⟩
theorem nF_mod (a : Nat) : nF (a % pN) = nF a := nF_eq (Nat.mod_mod _ _)
theorem nF_sub (a b : Nat) : nF (subP a b) = nF a - nF b := by
  refine Fin.ext ?_
  rw [← sub_val, nF_val]
  unfold subP; rw [Nat.mod_mod]
def nm (a b : Nat) : Nat := a * b % pN
theorem nF_nm (a b : Nat) : nF (nm a b) = nF a * nF b := by unfold nm; rw [nF_mod, nF_mul]
def nfrom (e f g h : Nat) : NQ := ⟨nm e f, nm g h, nm f g, nm e h⟩
def nsum (p q : NQ) : NQ :=
  nfrom (subP (nm (p.y + p.x) (q.y + q.x)) (nm (subP p.y p.x) (subP q.y q.x))) (subP (nm p.z q.z + nm p.z q.z) (nm (nm p.t q.t) dN + nm (nm p.t q.t) dN)) (nm p.z q.z + nm p.z q.z + (nm (nm p.t q.t) dN + nm (nm p.t q.t) dN)) (nm (p.y + p.x) (q.y + q.x) + nm (subP p.y p.x) (subP q.y q.x))
def ntwice (p : NQ) : NQ :=
  nfrom (subP (nm p.x p.x + nm p.y p.y) (nm (p.x + p.y) (p.x + p.y))) (nm p.z p.z + nm p.z p.z + subP (nm p.x p.x) (nm p.y p.y)) (subP (nm p.x p.x) (nm p.y p.y)) (nm p.x p.x + nm p.y p.y)
theorem toQ_sum (p q : NQ) : toQ (nsum p q) = qsum (toQ p) (toQ q) := by
  unfold nsum nfrom toQ qsum qfrom dF
  simp only [nF_nm, nF_sub, nF_add]
theorem toQ_twice (p : NQ) : toQ (ntwice p) = qtwice (toQ p) := by
  unfold ntwice nfrom toQ qtwice qfrom
  simp only [nF_nm, nF_sub, nF_add]
def nnone : NQ := ⟨0, 1, 1, 0⟩
theorem toQ_none : toQ nnone = qnone := by unfold toQ nnone qnone; rw [nF_zero, nF_one]
def nopen (p : P2) : NQ := ⟨p.x, p.y, 1, nm p.x p.y⟩
theorem toQ_open (p : P2) : toQ (nopen p) = qopen p := by unfold toQ nopen qopen; rw [nF_nm, nF_one]
def nmul (n : Nat) (p : NQ) : Nat → NQ
  | 0 => nnone
  | m + 1 => if n / 2 ^ (255 - m) % 2 = 1 then nsum (ntwice (nmul n p m)) p else ntwice (nmul n p m)
theorem toQ_mul (n : Nat) (p : NQ) : ∀ m, toQ (nmul n p m) = qmul n (toQ p) m
  | 0 => toQ_none
  | m + 1 => by
    have ih := toQ_mul n p m
    rw [nmul, qmul]
    split
    · rw [toQ_sum, toQ_twice, ih]
    · rw [toQ_twice, ih]
def nboth (x y : Nat) (p q s : NQ) : Nat → NQ
  | 0 => nnone
  | m + 1 => if x / 2 ^ (255 - m) % 2 = 1 then (if y / 2 ^ (255 - m) % 2 = 1 then nsum (ntwice (nboth x y p q s m)) s else nsum (ntwice (nboth x y p q s m)) p) else (if y / 2 ^ (255 - m) % 2 = 1 then nsum (ntwice (nboth x y p q s m)) q else ntwice (nboth x y p q s m))
theorem toQ_both (x y : Nat) (p q s : NQ) : ∀ m, toQ (nboth x y p q s m) = qboth x y (toQ p) (toQ q) (toQ s) m
  | 0 => toQ_none
  | m + 1 => by
    have ih := toQ_both x y p q s m
    rw [nboth, qboth]
    split
    · split
      · rw [toQ_sum, toQ_twice, ih]
      · rw [toQ_sum, toQ_twice, ih]
    · split
      · rw [toQ_sum, toQ_twice, ih]
      · rw [toQ_twice, ih]
theorem iF_pm (a : Nat) : iF (nF a) = nF (pmF a 256 (pN - 2)) := by rw [iF_nF, pow2 a _ (by decide +kernel)]
theorem qclose_toQ (p : NQ) : qclose (toQ p) = ⟨nm p.x (pmF p.z 256 (pN - 2)), nm p.y (pmF p.z 256 (pN - 2))⟩ := by
  unfold qclose toQ
  simp only
  rw [iF_pm, ← nF_mul, ← nF_mul]
  rfl
def nmulP (n : Nat) (p : P2) : P2 := let q := nmul n (nopen p) 256; ⟨nm q.x (pmF q.z 256 (pN - 2)), nm q.y (pmF q.z 256 (pN - 2))⟩
theorem mulP_eval (n : Nat) (p : P2) (hp : LtP p) (ho : onB p = true) : mulP n p = nmulP n p := by
  unfold mulP mW nmulP
  rw [if_pos ho, qW_point, qW_fold n _ (widenW_t p hp), qW_widen, ← toQ_open, ← toQ_mul, qclose_toQ]
end Go.Proofs.Ytejnnghfelpioaa
namespace Go.Proofs.Ytejnnghfelpioaa
open Go.RowKit
theorem rot_any (x : BitVec 64) (k : Int) (w : World) :
    Calls Try.prog 88 #[.int .u64 (iv x), .int .i64 k] w fun e w' => e = .returned (.int .u64 (iv (x.rotateLeft (k % 64).toNat))) ∧ Below w.heap.size w w' := by
  have hm := mask63 k
  obtain ⟨n, hn⟩ : ∃ n : Nat, (n : Int) = k % 64 := ⟨(k % 64).toNat, by omega⟩
  rw [← hn] at hm ⊢
  have hn64 : n < 64 := by omega
  clear hn
  have h0 := iv_nonneg x
  have HR := hid (rot_spell x n hn64)
  rw [Int.toNat_natCast]
  go_enter Try.func88, Try.ntmps88
  go_wp2
  go_ret
  exact ⟨ret_int HR.out, Below.refl _ _⟩
end Go.Proofs.Ytejnnghfelpioaa
