import Derived.RangeFuncNested
import Derived.RangeFuncBox
import Derived.RangeFuncBound
import Derived.RangeFuncCalls
import Derived.RangeFuncLeaves
import Derived.RangeFuncWrites
import Derived.Shelf.Abstract
import Derived.OwnWalkIn
import Derived.TacticsInMore
import Derived.LoopNIn
import Derived.LoopIn
import Derived.Test.YtejnnghfelpioaaGreatBEdPoints4
set_option maxRecDepth 4000
set_option linter.unusedVariables false
set_option linter.unusedSimpArgs false
namespace Go.Proofs.YtejnnghfelpioaaGreat
open Go.RowKit
def dN : Nat := 37095705934669439343138083508754565189542113879843219016388785533085940283555
theorem d_cells : cellsW dN = #[.int .u64 8496970652267935907, .int .u64 31536524315187371, .int .u64 10144147576115030168, .int .u64 5909686906226998899] := by
  have e : ∀ i, i < 4 → lm dN i = if i = 0 then 8496970652267935907 else if i = 1 then 31536524315187371 else if i = 2 then 10144147576115030168 else 5909686906226998899 := by decide +kernel
  unfold cellsW; rw [e 0 (by decide), e 1 (by decide), e 2 (by decide), e 3 (by decide)]; rfl
theorem d_built : Tryz.prog.built 24 [(0, .int .u64 8496970652267935907), (1, .int .u64 31536524315187371), (2, .int .u64 10144147576115030168), (3, .int .u64 5909686906226998899)] = some (cellsW dN) := by rw [d_cells]; kernel_rfl
theorem dN_lt : dN < 2 ^ 256 := by decide +kernel
def fromW (e f g h : F5) : W4 := ⟨mul5 e f, mul5 g h, mul5 f g, mul5 e h⟩
theorem fromW_t (e f g h : F5) (he : T5 e) (hf : T5 f) (hg : T5 g) (hh : T5 h) : TW (fromW e f g h) := ⟨mul5_t _ _ he hf, mul5_t _ _ hg hh, mul5_t _ _ hf hg, mul5_t _ _ he hh⟩
def d25 : F5 := fOf ((dN + dN) % 2 ^ 256)
theorem d25_t : T5 d25 := fOf_t _ (Nat.mod_lt _ (by decide))
def plusW (p q : W4) : W4 :=
  fromW (sub5 (mul5 (add5 p.y p.x) (add5 q.y q.x)) (mul5 (sub5 p.y p.x) (sub5 q.y q.x)))
    (sub5 (add5 (mul5 p.z q.z) (mul5 p.z q.z)) (mul5 (mul5 p.t q.t) d25))
    (add5 (add5 (mul5 p.z q.z) (mul5 p.z q.z)) (mul5 (mul5 p.t q.t) d25))
    (add5 (mul5 (add5 p.y p.x) (add5 q.y q.x)) (mul5 (sub5 p.y p.x) (sub5 q.y q.x)))
theorem plusW_t (p q : W4) (hp : TW p) (hq : TW q) : TW (plusW p q) := by
  have a := mul5_t _ _ (sub5_t _ _ hp.y hp.x) (sub5_t _ _ hq.y hq.x)
  have b := mul5_t _ _ (add5_t _ _ hp.y hp.x) (add5_t _ _ hq.y hq.x)
  have c := mul5_t _ _ (mul5_t _ _ hp.t hq.t) d25_t
  have z := mul5_t _ _ hp.z hq.z
  exact fromW_t _ _ _ _ (sub5_t _ _ b a) (sub5_t _ _ (add5_t _ _ z z) c) (add5_t _ _ (add5_t _ _ z z) c) (add5_t _ _ b a)
def twiceW (p : W4) : W4 :=
  fromW (sub5 (add5 (mul5 p.x p.x) (mul5 p.y p.y)) (mul5 (add5 p.x p.y) (add5 p.x p.y)))
    (add5 (add5 (mul5 p.z p.z) (mul5 p.z p.z)) (sub5 (mul5 p.x p.x) (mul5 p.y p.y)))
    (sub5 (mul5 p.x p.x) (mul5 p.y p.y)) (add5 (mul5 p.x p.x) (mul5 p.y p.y))
theorem twiceW_t (p : W4) (hp : TW p) : TW (twiceW p) := by
  have a := mul5_t _ _ hp.x hp.x
  have b := mul5_t _ _ hp.y hp.y
  have c := mul5_t _ _ hp.z hp.z
  have s := add5_t _ _ hp.x hp.y
  exact fromW_t _ _ _ _ (sub5_t _ _ (add5_t _ _ a b) (mul5_t _ _ s s)) (add5_t _ _ (add5_t _ _ c c) (sub5_t _ _ a b)) (sub5_t _ _ a b) (add5_t _ _ a b)
def widenW (p : P2) : W4 := ⟨fOf p.x, fOf p.y, one5, mul5 (fOf p.x) (fOf p.y)⟩
theorem widenW_t (p : P2) (hp : LtP p) : TW (widenW p) := ⟨fOf_t _ hp.x, fOf_t _ hp.y, t5_one, mul5_t _ _ (fOf_t _ hp.x) (fOf_t _ hp.y)⟩
def noneW : W4 := ⟨zero5, one5, one5, zero5⟩
theorem noneW_t : TW noneW := ⟨t5_zero, t5_one, t5_one, t5_zero⟩
def pointW (p : W4) : P2 := ⟨val5 (mul5 p.x (inv5 p.z)) % pN, val5 (mul5 p.y (inv5 p.z)) % pN⟩
theorem bNone : Tryz.prog.built 89 [(1, .agg (cells5 one5)), (2, .agg (cells5 one5))] = some (cells4 noneW) := by kernel_rfl
theorem d_any (w : World) : Calls Tryz.prog 34 #[] w fun e w' => e = .returned (wd dN) ∧ Below w.heap.size w w' := by
  have hC0 := hid (ArrW.new 24 w 0)
  have hb0 : Below w.heap.size w (w.alloc (.cells (cellsW 0) 24)) := (Below.refl _ _).alloc (Nat.le_refl _) _
  have hB := hid d_built
  obtain ⟨x, hx⟩ : ∃ x, x = dN := ⟨_, rfl⟩
  rw [← hx] at hB ⊢
  clear hx
  unfold wd
  have iX := hid (iW x)
  have nX := hid (one_cellsW x)
  go_enter Tryz.func34, Tryz.ntmps34
  go_wp2_with (first | (refine wpList_alloc_new rfl 24 rfl (cellsW 0) zWd ?_; simp only [Act.put, pvA, pv0, pv1, World.size_alloc]) | (refine wpList_buildStore 24 _ (.tmp 0) 1 (cellsW x) _ rfl rfl rfl rfl rfl rfl (by simp) (by first | exact hB.out | (simp only [List.map_toArray, List.map_cons, List.map_nil]; exact hB.out)) rfl 24 _ hC0.out iX.out rfl nX.out ?_; simp only [Act.put, pvA, pv0, pv1]))
  refine bodyPost_ret (results_cell_row rfl _ _ w.heap.size 24 (cellsW x) (0, 0) _ rfl (heap_setRow' _ _ _ _ _ hC0.out) uWd rfl iX.out) rfl ⟨rfl, below_setRow' hb0 _ (Nat.le_refl _) _⟩
set_option maxRecDepth 100000 in
set_option maxHeartbeats 4000000 in
theorem none_any (w : World) : Calls Tryz.prog 97 #[] w fun e w' => e = .returned (w4 noneW) ∧ Below w.heap.size w w' := by
  unfold w4
  obtain ⟨w0, hw0, k0, hbl0⟩ := entry1 w 89 (cells4 zero4)
  have hb0_0 := hid k0
  clear k0
  go_enter Tryz.func97, Tryz.ntmps97
  (repeat ((fail_if_success (with_reducible refine Go.at_region ?_)); go_step))
  refine wp_region_lit ?_
  (refine wpList_alloc_new rfl 89 rfl (cells4 zero4) z4 ?_; simp only [Act.put, pvA, pv0, pv1]; (try simp only [World.size_alloc]))
  refine wpList_nil ?_
  rw [← hw0]
  clear hw0
  (repeat ((fail_if_success (with_reducible refine Go.at_region ?_)); go_step))
  refine list_tail 3 ?_
  simp only [List.take_succ_cons, List.take_zero]
  iterate 2 (refine calm_build rfl 87 _ rfl (cells5 one5) (by first | (simp only [List.map_toArray, List.map_cons, List.map_nil]; exact b5_one) | exact b5_one) ?_; simp only [Act.put, pvA, pv0, pv1])
  (refine calm_build rfl 89 _ rfl (cells4 noneW) (by first | (simp only [List.map_toArray, List.map_cons, List.map_nil]; exact bNone) | exact bNone) ?_; simp only [Act.put, pvA, pv0, pv1])
  refine calm_nil ?_
  intro wx1 hx1
  simp only [List.drop_succ_cons, List.drop_zero]
  (try simp only [Act.put, pvA, pv0, pv1])
  have fb0 := hb0_0.out.step hx1
  have hbb := hbl0.trans (hx1.mono hbl0.size)
  refine wpList_set 89 (.tmp 0) (.tmp 3) rfl rfl rfl w.heap.size (cells4 noneW) rfl rfl 89 (cells4 zero4) fb0 (i4 noneW) rfl (one_cells4 noneW) ?_
  replace fb0 := fb0.set (cells4 noneW)
  replace hbb := below_set hbb w.heap.size (by omega) (cells4 noneW)
  refine wpList_nil ?_
  obtain ⟨w1, hw⟩ : ∃ z, z = (wx1.setRow w.heap.size (cells4 noneW)) := ⟨_, rfl⟩
  rw [← hw] at hbb fb0 ⊢
  have hb0_1 := hid fb0
  have hbl1 := hbb
  clear hw hbb fb0 hx1 hbl0 hb0_0 
  (repeat ((fail_if_success (with_reducible refine Go.at_region ?_)); go_step))
  refine ret_blk w.heap.size 89 (cells4 noneW) rfl rfl hb0_1.out g4 (i4 noneW) rfl ?_
  exact ⟨rfl, hbl1⟩
set_option maxRecDepth 100000 in
set_option maxHeartbeats 4000000 in
theorem from_any (a b c d : F5) (w : World) (ha : T5 a) (hb : T5 b) (hc : T5 c) (hd : T5 d) : Calls Tryz.prog 107 #[fe a, fe b, fe c, fe d] w fun e w' => e = .returned (w4 (fromW a b c d)) ∧ Below w.heap.size w w' := by
  have c1 := hid fun w => mul5_any a b w ha hb
  have t1 := mul5_t a b ha hb
  obtain ⟨r1, e1⟩ : ∃ r, r = mul5 a b := ⟨_, rfl⟩
  rw [← e1] at c1 t1
  replace t1 := hid t1
  have E1 := hid e1
  clear e1
  have c2 := hid fun w => mul5_any c d w hc hd
  have t2 := mul5_t c d hc hd
  obtain ⟨r2, e2⟩ : ∃ r, r = mul5 c d := ⟨_, rfl⟩
  rw [← e2] at c2 t2
  replace t2 := hid t2
  have E2 := hid e2
  clear e2
  have c3 := hid fun w => mul5_any b c w hb hc
  have t3 := mul5_t b c hb hc
  obtain ⟨r3, e3⟩ : ∃ r, r = mul5 b c := ⟨_, rfl⟩
  rw [← e3] at c3 t3
  replace t3 := hid t3
  have E3 := hid e3
  clear e3
  have c4 := hid fun w => mul5_any a d w ha hd
  have t4 := mul5_t a d ha hd
  obtain ⟨r4, e4⟩ : ∃ r, r = mul5 a d := ⟨_, rfl⟩
  rw [← e4] at c4 t4
  replace t4 := hid t4
  have E4 := hid e4
  clear e4
  clear ha hb hc hd
  unfold fe w4 at *
  obtain ⟨w0, hw0, k4, k5, k6, k7, k8, hbl0⟩ := entry5 w 87 (cells5 a) 87 (cells5 b) 87 (cells5 c) 87 (cells5 d) 89 (cells4 zero4)
  have hb4_0 := hid k4
  have hb5_0 := hid k5
  have hb6_0 := hid k6
  have hb7_0 := hid k7
  have hb8_0 := hid k8
  clear k4 k5 k6 k7 k8
  go_enter Tryz.func107, Tryz.ntmps107
  (repeat ((fail_if_success (with_reducible refine Go.at_region ?_)); go_step))
  refine wp_region_lit ?_
  (refine wpList_box 87 (.tmp 0) rfl rfl (cells5 a) rfl ?_; simp only [Act.put, pvA, pv0, pv1]; (try simp only [World.size_alloc]))
  (refine wpList_box 87 (.tmp 1) rfl rfl (cells5 b) rfl ?_; simp only [Act.put, pvA, pv0, pv1]; (try simp only [World.size_alloc]))
  (refine wpList_box 87 (.tmp 2) rfl rfl (cells5 c) rfl ?_; simp only [Act.put, pvA, pv0, pv1]; (try simp only [World.size_alloc]))
  (refine wpList_box 87 (.tmp 3) rfl rfl (cells5 d) rfl ?_; simp only [Act.put, pvA, pv0, pv1]; (try simp only [World.size_alloc]))
  (refine wpList_alloc_new rfl 89 rfl (cells4 zero4) z4 ?_; simp only [Act.put, pvA, pv0, pv1]; (try simp only [World.size_alloc]))
  refine wpList_nil ?_
  rw [← hw0]
  clear hw0
  (repeat ((fail_if_success (with_reducible refine Go.at_region ?_)); go_step))
  refine draw_tail 13 (by kernel_rfl) (by kernel_rfl) (by kernel_rfl) ?_
  simp only [List.take_succ_cons, List.take_zero]
  (refine calm_whole rfl 87 (.tmp 4) rfl w.heap.size rfl 87 (cells5 a) hb4_0.out g5 (i5 a) ?_; simp only [Act.put, pvA, pv0, pv1])
  (refine calm_whole rfl 87 (.tmp 5) rfl (w.heap.size + 1) rfl 87 (cells5 b) hb5_0.out g5 (i5 b) ?_; simp only [Act.put, pvA, pv0, pv1])
  (apply calm_on rfl; (focus (intro W hB; go_simp; refine (c1.out W).mono ?_; rintro _ _ ⟨rfl, hb'⟩; exact ⟨rfl, hb'⟩)); simp only [Act.put, pvA, pv0, pv1])
  (refine calm_whole rfl 87 (.tmp 6) rfl (w.heap.size + 1 + 1) rfl 87 (cells5 c) hb6_0.out g5 (i5 c) ?_; simp only [Act.put, pvA, pv0, pv1])
  (refine calm_whole rfl 87 (.tmp 7) rfl (w.heap.size + 1 + 1 + 1) rfl 87 (cells5 d) hb7_0.out g5 (i5 d) ?_; simp only [Act.put, pvA, pv0, pv1])
  (apply calm_on rfl; (focus (intro W hB; go_simp; refine (c2.out W).mono ?_; rintro _ _ ⟨rfl, hb'⟩; exact ⟨rfl, hb'⟩)); simp only [Act.put, pvA, pv0, pv1])
  (refine calm_whole rfl 87 (.tmp 5) rfl (w.heap.size + 1) rfl 87 (cells5 b) hb5_0.out g5 (i5 b) ?_; simp only [Act.put, pvA, pv0, pv1])
  (refine calm_whole rfl 87 (.tmp 6) rfl (w.heap.size + 1 + 1) rfl 87 (cells5 c) hb6_0.out g5 (i5 c) ?_; simp only [Act.put, pvA, pv0, pv1])
  (apply calm_on rfl; (focus (intro W hB; go_simp; refine (c3.out W).mono ?_; rintro _ _ ⟨rfl, hb'⟩; exact ⟨rfl, hb'⟩)); simp only [Act.put, pvA, pv0, pv1])
  (refine calm_whole rfl 87 (.tmp 4) rfl w.heap.size rfl 87 (cells5 a) hb4_0.out g5 (i5 a) ?_; simp only [Act.put, pvA, pv0, pv1])
  (refine calm_whole rfl 87 (.tmp 7) rfl (w.heap.size + 1 + 1 + 1) rfl 87 (cells5 d) hb7_0.out g5 (i5 d) ?_; simp only [Act.put, pvA, pv0, pv1])
  (apply calm_on rfl; (focus (intro W hB; go_simp; refine (c4.out W).mono ?_; rintro _ _ ⟨rfl, hb'⟩; exact ⟨rfl, hb'⟩)); simp only [Act.put, pvA, pv0, pv1])
  (refine calm_build rfl 89 _ rfl (cells4 ⟨r1, r2, r3, r4⟩) (by first | (simp only [List.map_toArray, List.map_cons, List.map_nil]; exact (b4 r1 r2 r3 r4)) | exact (b4 r1 r2 r3 r4)) ?_; simp only [Act.put, pvA, pv0, pv1])
  refine calm_nil ?_
  intro wx1 hx1
  simp only [List.drop_succ_cons, List.drop_zero]
  (try simp only [Act.put, pvA, pv0, pv1])
  have fb4 := hb4_0.out.step hx1
  have fb5 := hb5_0.out.step hx1
  have fb6 := hb6_0.out.step hx1
  have fb7 := hb7_0.out.step hx1
  have fb8 := hb8_0.out.step hx1
  have hbb := hbl0.trans (hx1.mono hbl0.size)
  refine wpList_set 89 (.tmp 8) (.tmp 21) rfl rfl rfl (w.heap.size + 1 + 1 + 1 + 1) (cells4 ⟨r1, r2, r3, r4⟩) rfl rfl 89 (cells4 zero4) fb8 (i4 ⟨r1, r2, r3, r4⟩) rfl (one_cells4 ⟨r1, r2, r3, r4⟩) ?_
  replace fb4 := fb4.other (show w.heap.size ≠ (w.heap.size + 1 + 1 + 1 + 1) by omega) (cells4 ⟨r1, r2, r3, r4⟩)
  replace fb5 := fb5.other (show (w.heap.size + 1) ≠ (w.heap.size + 1 + 1 + 1 + 1) by omega) (cells4 ⟨r1, r2, r3, r4⟩)
  replace fb6 := fb6.other (show (w.heap.size + 1 + 1) ≠ (w.heap.size + 1 + 1 + 1 + 1) by omega) (cells4 ⟨r1, r2, r3, r4⟩)
  replace fb7 := fb7.other (show (w.heap.size + 1 + 1 + 1) ≠ (w.heap.size + 1 + 1 + 1 + 1) by omega) (cells4 ⟨r1, r2, r3, r4⟩)
  replace fb8 := fb8.set (cells4 ⟨r1, r2, r3, r4⟩)
  replace hbb := below_set hbb (w.heap.size + 1 + 1 + 1 + 1) (by omega) (cells4 ⟨r1, r2, r3, r4⟩)
  refine wpList_nil ?_
  obtain ⟨w1, hw⟩ : ∃ z, z = (wx1.setRow (w.heap.size + 1 + 1 + 1 + 1) (cells4 ⟨r1, r2, r3, r4⟩)) := ⟨_, rfl⟩
  rw [← hw] at hbb fb4 fb5 fb6 fb7 fb8 ⊢
  have hb4_1 := hid fb4
  have hb5_1 := hid fb5
  have hb6_1 := hid fb6
  have hb7_1 := hid fb7
  have hb8_1 := hid fb8
  have hbl1 := hbb
  clear hw hbb fb4 fb5 fb6 fb7 fb8 hx1 hbl0 hb4_0 hb5_0 hb6_0 hb7_0 hb8_0 
  (repeat ((fail_if_success (with_reducible refine Go.at_region ?_)); go_step))
  refine ret_blk (w.heap.size + 1 + 1 + 1 + 1) 89 (cells4 ⟨r1, r2, r3, r4⟩) rfl rfl hb8_1.out g4 (i4 ⟨r1, r2, r3, r4⟩) rfl ?_
  exact ⟨(by rw [E4.out, E3.out, E2.out, E1.out]; first | done | rfl), hbl1⟩
set_option maxRecDepth 100000 in
set_option maxHeartbeats 4000000 in
theorem widen_any (p : P2) (w : World) (hp : LtP p) : Calls Tryz.prog 55 #[pt p] w fun e w' => e = .returned (w4 (widenW p)) ∧ Below w.heap.size w w' := by
  have c1 := hid fun w => feOf_any p.x w hp.x
  have t1 := fOf_t p.x hp.x
  obtain ⟨r1, e1⟩ : ∃ r, r = fOf p.x := ⟨_, rfl⟩
  rw [← e1] at c1 t1
  replace t1 := hid t1
  have E1 := hid e1
  clear e1
  have c2 := hid fun w => feOf_any p.y w hp.y
  have t2 := fOf_t p.y hp.y
  obtain ⟨r2, e2⟩ : ∃ r, r = fOf p.y := ⟨_, rfl⟩
  rw [← e2] at c2 t2
  replace t2 := hid t2
  have E2 := hid e2
  clear e2
  have c3 := hid fun w => mul5_any r1 r2 w t1.out t2.out
  have t3 := mul5_t r1 r2 t1.out t2.out
  obtain ⟨r3, e3⟩ : ∃ r, r = mul5 r1 r2 := ⟨_, rfl⟩
  rw [← e3] at c3 t3
  replace t3 := hid t3
  have E3 := hid e3
  clear e3
  clear hp
  unfold fe w4 pt wd at *
  obtain ⟨w0, hw0, k1, k2, hbl0⟩ := entry2 w 29 (cellsP p) 89 (cells4 zero4)
  have hb1_0 := hid k1
  have hb2_0 := hid k2
  clear k1 k2
  go_enter Tryz.func55, Tryz.ntmps55
  (repeat ((fail_if_success (with_reducible refine Go.at_region ?_)); go_step))
  refine wp_region_lit ?_
  (refine wpList_box 29 (.tmp 0) rfl rfl (cellsP p) rfl ?_; simp only [Act.put, pvA, pv0, pv1]; (try simp only [World.size_alloc]))
  (refine wpList_alloc_new rfl 89 rfl (cells4 zero4) z4 ?_; simp only [Act.put, pvA, pv0, pv1]; (try simp only [World.size_alloc]))
  refine wpList_nil ?_
  rw [← hw0]
  clear hw0
  (repeat ((fail_if_success (with_reducible refine Go.at_region ?_)); go_step))
  refine draw_new2 6 _ _ rfl 87 87 (cells5 zero5) (cells5 zero5) 3 4 rfl rfl rfl (by simp) z5 rfl rfl rfl (by simp) z5 (by decide) (by kernel_rfl) (by kernel_rfl) (by kernel_rfl) (by kernel_rfl) ?_
  simp only [List.take_succ_cons, List.take_zero]
  (apply calm_on rfl; (focus (intro W hB; go_simp; exact ⟨rfl, Below.refl _ _⟩)); simp only [Act.put, pvA, pv0, pv1])
  (refine calm_part rfl 24 (.tmp 5) rfl w.heap.size 0 rfl 29 (cellsP p) (cellsW (p).x) hb1_0.out (inP_x p) gWd (iW (p).x) ?_; simp only [Act.put, pvA, pv0, pv1])
  (apply calm_on rfl; (focus (intro W hB; go_simp; refine (c1.out W).mono ?_; rintro _ _ ⟨rfl, hb'⟩; exact ⟨rfl, hb'⟩)); simp only [Act.put, pvA, pv0, pv1])
  (apply calm_on rfl; (focus (intro W hB; go_simp; exact ⟨rfl, Below.refl _ _⟩)); simp only [Act.put, pvA, pv0, pv1])
  (refine calm_part rfl 24 (.tmp 8) rfl w.heap.size 4 rfl 29 (cellsP p) (cellsW (p).y) hb1_0.out (inP_y p) gWd (iW (p).y) ?_; simp only [Act.put, pvA, pv0, pv1])
  (apply calm_on rfl; (focus (intro W hB; go_simp; refine (c2.out W).mono ?_; rintro _ _ ⟨rfl, hb'⟩; exact ⟨rfl, hb'⟩)); simp only [Act.put, pvA, pv0, pv1])
  refine calm_nil ?_
  intro bk3 bk4 wx1 hle3 hle4 hne3 hx1 hn3 hn4
  simp only [List.drop_succ_cons, List.drop_zero]
  (try simp only [Act.put, pvA, pv0, pv1])
  have fb1 := hb1_0.out.step hx1
  have fb2 := hb2_0.out.step hx1
  have hbb := hbl0.trans (hx1.mono hbl0.size)
  have fb3 := hn3
  have fb4 := hn4
  have ne1_3 : w.heap.size ≠ bk3 := by have := hb1_0.out.lt; omega
  have ne2_3 : (w.heap.size + 1) ≠ bk3 := by have := hb2_0.out.lt; omega
  have ne1_4 : w.heap.size ≠ bk4 := by have := hb1_0.out.lt; omega
  have ne2_4 : (w.heap.size + 1) ≠ bk4 := by have := hb2_0.out.lt; omega
  have ge3 : w.heap.size ≤ bk3 := Nat.le_trans hbl0.size hle3
  have ge4 : w.heap.size ≤ bk4 := Nat.le_trans hbl0.size hle4
  refine wpList_set 87 (.tmp 3) (.tmp 7) rfl rfl rfl bk3 (cells5 r1) rfl rfl 87 (cells5 zero5) fb3 (i5 r1) rfl (one_cells5 r1) ?_
  replace fb1 := fb1.other ne1_3 (cells5 r1)
  replace fb2 := fb2.other ne2_3 (cells5 r1)
  replace fb3 := fb3.set (cells5 r1)
  replace fb4 := fb4.other (Ne.symm hne3) (cells5 r1)
  replace hbb := below_set hbb bk3 (ge3) (cells5 r1)
  refine wpList_set 87 (.tmp 4) (.tmp 10) rfl rfl rfl bk4 (cells5 r2) rfl rfl 87 (cells5 zero5) fb4 (i5 r2) rfl (one_cells5 r2) ?_
  replace fb1 := fb1.other ne1_4 (cells5 r2)
  replace fb2 := fb2.other ne2_4 (cells5 r2)
  replace fb3 := fb3.other hne3 (cells5 r2)
  replace fb4 := fb4.set (cells5 r2)
  replace hbb := below_set hbb bk4 (ge4) (cells5 r2)
  refine wpList_nil ?_
  obtain ⟨w1, hw⟩ : ∃ z, z = ((wx1.setRow bk3 (cells5 r1)).setRow bk4 (cells5 r2)) := ⟨_, rfl⟩
  rw [← hw] at hbb fb1 fb2 fb3 fb4 ⊢
  have hb1_1 := hid fb1
  have hb2_1 := hid fb2
  have hb3_1 := hid fb3
  have hb4_1 := hid fb4
  have hbl1 := hbb
  clear hw hbb fb1 fb2 fb3 fb4 hx1 hbl0 hb1_0 hb2_0 hle3 hn3 hle4 hn4
  (repeat ((fail_if_success (with_reducible refine Go.at_region ?_)); go_step))
  refine draw_tail 7 (by kernel_rfl) (by kernel_rfl) (by kernel_rfl) ?_
  simp only [List.take_succ_cons, List.take_zero]
  (refine calm_whole rfl 87 (.tmp 3) rfl bk3 rfl 87 (cells5 r1) hb3_1.out g5 (i5 r1) ?_; simp only [Act.put, pvA, pv0, pv1])
  (refine calm_whole rfl 87 (.tmp 4) rfl bk4 rfl 87 (cells5 r2) hb4_1.out g5 (i5 r2) ?_; simp only [Act.put, pvA, pv0, pv1])
  (refine calm_build rfl 87 _ rfl (cells5 one5) (by first | (simp only [List.map_toArray, List.map_cons, List.map_nil]; exact b5_one) | exact b5_one) ?_; simp only [Act.put, pvA, pv0, pv1])
  (refine calm_whole rfl 87 (.tmp 3) rfl bk3 rfl 87 (cells5 r1) hb3_1.out g5 (i5 r1) ?_; simp only [Act.put, pvA, pv0, pv1])
  (refine calm_whole rfl 87 (.tmp 4) rfl bk4 rfl 87 (cells5 r2) hb4_1.out g5 (i5 r2) ?_; simp only [Act.put, pvA, pv0, pv1])
  (apply calm_on rfl; (focus (intro W hB; go_simp; refine (c3.out W).mono ?_; rintro _ _ ⟨rfl, hb'⟩; exact ⟨rfl, hb'⟩)); simp only [Act.put, pvA, pv0, pv1])
  (refine calm_build rfl 89 _ rfl (cells4 ⟨r1, r2, one5, r3⟩) (by first | (simp only [List.map_toArray, List.map_cons, List.map_nil]; exact (b4 r1 r2 one5 r3)) | exact (b4 r1 r2 one5 r3)) ?_; simp only [Act.put, pvA, pv0, pv1])
  refine calm_nil ?_
  intro wx2 hx2
  simp only [List.drop_succ_cons, List.drop_zero]
  (try simp only [Act.put, pvA, pv0, pv1])
  have fb1 := hb1_1.out.step hx2
  have fb2 := hb2_1.out.step hx2
  have fb3 := hb3_1.out.step hx2
  have fb4 := hb4_1.out.step hx2
  have hbb := hbl1.trans (hx2.mono hbl1.size)
  refine wpList_set 89 (.tmp 2) (.tmp 17) rfl rfl rfl (w.heap.size + 1) (cells4 ⟨r1, r2, one5, r3⟩) rfl rfl 89 (cells4 zero4) fb2 (i4 ⟨r1, r2, one5, r3⟩) rfl (one_cells4 ⟨r1, r2, one5, r3⟩) ?_
  replace fb1 := fb1.other (show w.heap.size ≠ (w.heap.size + 1) by omega) (cells4 ⟨r1, r2, one5, r3⟩)
  replace fb2 := fb2.set (cells4 ⟨r1, r2, one5, r3⟩)
  replace fb3 := fb3.other (Ne.symm ne2_3) (cells4 ⟨r1, r2, one5, r3⟩)
  replace fb4 := fb4.other (Ne.symm ne2_4) (cells4 ⟨r1, r2, one5, r3⟩)
  replace hbb := below_set hbb (w.heap.size + 1) (by omega) (cells4 ⟨r1, r2, one5, r3⟩)
  refine wpList_nil ?_
  obtain ⟨w2, hw⟩ : ∃ z, z = (wx2.setRow (w.heap.size + 1) (cells4 ⟨r1, r2, one5, r3⟩)) := ⟨_, rfl⟩
  rw [← hw] at hbb fb1 fb2 fb3 fb4 ⊢
  have hb1_2 := hid fb1
  have hb2_2 := hid fb2
  have hb3_2 := hid fb3
  have hb4_2 := hid fb4
  have hbl2 := hbb
  clear hw hbb fb1 fb2 fb3 fb4 hx2 hbl1 hb1_1 hb2_1 hb3_1 hb4_1 
  (repeat ((fail_if_success (with_reducible refine Go.at_region ?_)); go_step))
  refine ret_blk (w.heap.size + 1) 89 (cells4 ⟨r1, r2, one5, r3⟩) rfl rfl hb2_2.out g4 (i4 ⟨r1, r2, one5, r3⟩) rfl ?_
  exact ⟨(by rw [E3.out, E2.out, E1.out]; first | done | rfl), hbl2⟩
set_option maxRecDepth 100000 in
set_option maxHeartbeats 4000000 in
theorem plusW_any (p q : W4) (w : World) (hp : TW p) (hq : TW q) : Calls Tryz.prog 70 #[w4 p, w4 q] w fun e w' => e = .returned (w4 (plusW p q)) ∧ Below w.heap.size w w' := by
  have c1 := hid fun w => sub5_any p.y p.x w hp.y hp.x
  have t1 := sub5_t p.y p.x hp.y hp.x
  obtain ⟨r1, e1⟩ : ∃ r, r = sub5 p.y p.x := ⟨_, rfl⟩
  rw [← e1] at c1 t1
  replace t1 := hid t1
  have E1 := hid e1
  clear e1
  have c2 := hid fun w => sub5_any q.y q.x w hq.y hq.x
  have t2 := sub5_t q.y q.x hq.y hq.x
  obtain ⟨r2, e2⟩ : ∃ r, r = sub5 q.y q.x := ⟨_, rfl⟩
  rw [← e2] at c2 t2
  replace t2 := hid t2
  have E2 := hid e2
  clear e2
  have c3 := hid fun w => mul5_any r1 r2 w t1.out t2.out
  have t3 := mul5_t r1 r2 t1.out t2.out
  obtain ⟨r3, e3⟩ : ∃ r, r = mul5 r1 r2 := ⟨_, rfl⟩
  rw [← e3] at c3 t3
  replace t3 := hid t3
  have E3 := hid e3
  clear e3
  have c4 := hid fun w => add5_any p.y p.x w hp.y hp.x
  have t4 := add5_t p.y p.x hp.y hp.x
  obtain ⟨r4, e4⟩ : ∃ r, r = add5 p.y p.x := ⟨_, rfl⟩
  rw [← e4] at c4 t4
  replace t4 := hid t4
  have E4 := hid e4
  clear e4
  have c5 := hid fun w => add5_any q.y q.x w hq.y hq.x
  have t5 := add5_t q.y q.x hq.y hq.x
  obtain ⟨r5, e5⟩ : ∃ r, r = add5 q.y q.x := ⟨_, rfl⟩
  rw [← e5] at c5 t5
  replace t5 := hid t5
  have E5 := hid e5
  clear e5
  have c6 := hid fun w => mul5_any r4 r5 w t4.out t5.out
  have t6 := mul5_t r4 r5 t4.out t5.out
  obtain ⟨r6, e6⟩ : ∃ r, r = mul5 r4 r5 := ⟨_, rfl⟩
  rw [← e6] at c6 t6
  replace t6 := hid t6
  have E6 := hid e6
  clear e6
  have c7 := hid fun w => mul5_any p.t q.t w hp.t hq.t
  have t7 := mul5_t p.t q.t hp.t hq.t
  obtain ⟨r7, e7⟩ : ∃ r, r = mul5 p.t q.t := ⟨_, rfl⟩
  rw [← e7] at c7 t7
  replace t7 := hid t7
  have E7 := hid e7
  clear e7
  have cd := hid fun w => d_any w
  have c8 := hid fun w => wadd_any dN dN w dN_lt dN_lt
  obtain ⟨r8, e8⟩ : ∃ r, r = (dN + dN) % 2 ^ 256 := ⟨_, rfl⟩
  rw [← e8] at c8
  have E8 := hid e8
  clear e8
  have hs256 : r8 < 2 ^ 256 := by rw [E8.out]; exact Nat.mod_lt _ (by decide)
  have c9 := hid fun w => feOf_any r8 w hs256
  have t9 := fOf_t r8 hs256
  obtain ⟨r9, e9⟩ : ∃ r, r = fOf r8 := ⟨_, rfl⟩
  rw [← e9] at c9 t9
  replace t9 := hid t9
  have E9 := hid e9
  clear e9
  have c10 := hid fun w => mul5_any r7 r9 w t7.out t9.out
  have t10 := mul5_t r7 r9 t7.out t9.out
  obtain ⟨r10, e10⟩ : ∃ r, r = mul5 r7 r9 := ⟨_, rfl⟩
  rw [← e10] at c10 t10
  replace t10 := hid t10
  have E10 := hid e10
  clear e10
  have c11 := hid fun w => mul5_any p.z q.z w hp.z hq.z
  have t11 := mul5_t p.z q.z hp.z hq.z
  obtain ⟨r11, e11⟩ : ∃ r, r = mul5 p.z q.z := ⟨_, rfl⟩
  rw [← e11] at c11 t11
  replace t11 := hid t11
  have E11 := hid e11
  clear e11
  have c12 := hid fun w => add5_any r11 r11 w t11.out t11.out
  have t12 := add5_t r11 r11 t11.out t11.out
  obtain ⟨r12, e12⟩ : ∃ r, r = add5 r11 r11 := ⟨_, rfl⟩
  rw [← e12] at c12 t12
  replace t12 := hid t12
  have E12 := hid e12
  clear e12
  have c13 := hid fun w => sub5_any r6 r3 w t6.out t3.out
  have t13 := sub5_t r6 r3 t6.out t3.out
  obtain ⟨r13, e13⟩ : ∃ r, r = sub5 r6 r3 := ⟨_, rfl⟩
  rw [← e13] at c13 t13
  replace t13 := hid t13
  have E13 := hid e13
  clear e13
  have c14 := hid fun w => sub5_any r12 r10 w t12.out t10.out
  have t14 := sub5_t r12 r10 t12.out t10.out
  obtain ⟨r14, e14⟩ : ∃ r, r = sub5 r12 r10 := ⟨_, rfl⟩
  rw [← e14] at c14 t14
  replace t14 := hid t14
  have E14 := hid e14
  clear e14
  have c15 := hid fun w => add5_any r12 r10 w t12.out t10.out
  have t15 := add5_t r12 r10 t12.out t10.out
  obtain ⟨r15, e15⟩ : ∃ r, r = add5 r12 r10 := ⟨_, rfl⟩
  rw [← e15] at c15 t15
  replace t15 := hid t15
  have E15 := hid e15
  clear e15
  have c16 := hid fun w => add5_any r6 r3 w t6.out t3.out
  have t16 := add5_t r6 r3 t6.out t3.out
  obtain ⟨r16, e16⟩ : ∃ r, r = add5 r6 r3 := ⟨_, rfl⟩
  rw [← e16] at c16 t16
  replace t16 := hid t16
  have E16 := hid e16
  clear e16
  have c17 := hid fun w => from_any r13 r14 r15 r16 w t13.out t14.out t15.out t16.out
  obtain ⟨r17, e17⟩ : ∃ r, r = fromW r13 r14 r15 r16 := ⟨_, rfl⟩
  rw [← e17] at c17
  have E17 := hid e17
  clear e17
  clear hp hq hs256
  unfold fe w4 wd at *
  obtain ⟨w0, hw0, k2, k3, k4, hbl0⟩ := entry3 w 89 (cells4 p) 89 (cells4 q) 89 (cells4 zero4)
  have hb2_0 := hid k2
  have hb3_0 := hid k3
  have hb4_0 := hid k4
  clear k2 k3 k4
  go_enter Tryz.func70, Tryz.ntmps70
  (repeat ((fail_if_success (with_reducible refine Go.at_region ?_)); go_step))
  refine wp_region_lit ?_
  (refine wpList_box 89 (.tmp 0) rfl rfl (cells4 p) rfl ?_; simp only [Act.put, pvA, pv0, pv1]; (try simp only [World.size_alloc]))
  (refine wpList_box 89 (.tmp 1) rfl rfl (cells4 q) rfl ?_; simp only [Act.put, pvA, pv0, pv1]; (try simp only [World.size_alloc]))
  (refine wpList_alloc_new rfl 89 rfl (cells4 zero4) z4 ?_; simp only [Act.put, pvA, pv0, pv1]; (try simp only [World.size_alloc]))
  refine wpList_nil ?_
  rw [← hw0]
  clear hw0
  (repeat ((fail_if_success (with_reducible refine Go.at_region ?_)); go_step))
  refine draw_new1 11 _ rfl 87 (cells5 zero5) 5 rfl rfl rfl (by simp) z5 (by kernel_rfl) (by kernel_rfl) (by kernel_rfl) ?_
  simp only [List.take_succ_cons, List.take_zero]
  (apply calm_on rfl; (focus (intro W hB; go_simp; exact ⟨rfl, Below.refl _ _⟩)); simp only [Act.put, pvA, pv0, pv1])
  (refine calm_part rfl 87 (.tmp 9) rfl w.heap.size 5 rfl 89 (cells4 p) (cells5 (p).y) hb2_0.out (in4_y p) g5 (i5 (p).y) ?_; simp only [Act.put, pvA, pv0, pv1])
  (apply calm_on rfl; (focus (intro W hB; go_simp; exact ⟨rfl, Below.refl _ _⟩)); simp only [Act.put, pvA, pv0, pv1])
  (refine calm_part rfl 87 (.tmp 11) rfl w.heap.size 0 rfl 89 (cells4 p) (cells5 (p).x) hb2_0.out (in4_x p) g5 (i5 (p).x) ?_; simp only [Act.put, pvA, pv0, pv1])
  (apply calm_on rfl; (focus (intro W hB; go_simp; refine (c1.out W).mono ?_; rintro _ _ ⟨rfl, hb'⟩; exact ⟨rfl, hb'⟩)); simp only [Act.put, pvA, pv0, pv1])
  (apply calm_on rfl; (focus (intro W hB; go_simp; exact ⟨rfl, Below.refl _ _⟩)); simp only [Act.put, pvA, pv0, pv1])
  (refine calm_part rfl 87 (.tmp 14) rfl (w.heap.size + 1) 5 rfl 89 (cells4 q) (cells5 (q).y) hb3_0.out (in4_y q) g5 (i5 (q).y) ?_; simp only [Act.put, pvA, pv0, pv1])
  (apply calm_on rfl; (focus (intro W hB; go_simp; exact ⟨rfl, Below.refl _ _⟩)); simp only [Act.put, pvA, pv0, pv1])
  (refine calm_part rfl 87 (.tmp 16) rfl (w.heap.size + 1) 0 rfl 89 (cells4 q) (cells5 (q).x) hb3_0.out (in4_x q) g5 (i5 (q).x) ?_; simp only [Act.put, pvA, pv0, pv1])
  (apply calm_on rfl; (focus (intro W hB; go_simp; refine (c2.out W).mono ?_; rintro _ _ ⟨rfl, hb'⟩; exact ⟨rfl, hb'⟩)); simp only [Act.put, pvA, pv0, pv1])
  (apply calm_on rfl; (focus (intro W hB; go_simp; refine (c3.out W).mono ?_; rintro _ _ ⟨rfl, hb'⟩; exact ⟨rfl, hb'⟩)); simp only [Act.put, pvA, pv0, pv1])
  refine calm_nil ?_
  intro bk5 wx1 hle5 hx1 hn5
  simp only [List.drop_succ_cons, List.drop_zero]
  (try simp only [Act.put, pvA, pv0, pv1])
  have fb2 := hb2_0.out.step hx1
  have fb3 := hb3_0.out.step hx1
  have fb4 := hb4_0.out.step hx1
  have hbb := hbl0.trans (hx1.mono hbl0.size)
  have fb5 := hn5
  have ne2_5 : w.heap.size ≠ bk5 := by have := hb2_0.out.lt; omega
  have ne3_5 : (w.heap.size + 1) ≠ bk5 := by have := hb3_0.out.lt; omega
  have ne4_5 : (w.heap.size + 1 + 1) ≠ bk5 := by have := hb4_0.out.lt; omega
  have ge5 : w.heap.size ≤ bk5 := Nat.le_trans hbl0.size hle5
  refine wpList_set 87 (.tmp 5) (.tmp 19) rfl rfl rfl bk5 (cells5 r3) rfl rfl 87 (cells5 zero5) fb5 (i5 r3) rfl (one_cells5 r3) ?_
  replace fb2 := fb2.other ne2_5 (cells5 r3)
  replace fb3 := fb3.other ne3_5 (cells5 r3)
  replace fb4 := fb4.other ne4_5 (cells5 r3)
  replace fb5 := fb5.set (cells5 r3)
  replace hbb := below_set hbb bk5 (ge5) (cells5 r3)
  refine wpList_nil ?_
  obtain ⟨w1, hw⟩ : ∃ z, z = (wx1.setRow bk5 (cells5 r3)) := ⟨_, rfl⟩
  rw [← hw] at hbb fb2 fb3 fb4 fb5 ⊢
  have hb2_1 := hid fb2
  have hb3_1 := hid fb3
  have hb4_1 := hid fb4
  have hb5_1 := hid fb5
  have hbl1 := hbb
  clear hw hbb fb2 fb3 fb4 fb5 hx1 hbl0 hb2_0 hb3_0 hb4_0 hle5 hn5
  (repeat ((fail_if_success (with_reducible refine Go.at_region ?_)); go_step))
  refine draw_new1 11 _ rfl 87 (cells5 zero5) 6 rfl rfl rfl (by simp) z5 (by kernel_rfl) (by kernel_rfl) (by kernel_rfl) ?_
  simp only [List.take_succ_cons, List.take_zero]
  (apply calm_on rfl; (focus (intro W hB; go_simp; exact ⟨rfl, Below.refl _ _⟩)); simp only [Act.put, pvA, pv0, pv1])
  (refine calm_part rfl 87 (.tmp 20) rfl w.heap.size 5 rfl 89 (cells4 p) (cells5 (p).y) hb2_1.out (in4_y p) g5 (i5 (p).y) ?_; simp only [Act.put, pvA, pv0, pv1])
  (apply calm_on rfl; (focus (intro W hB; go_simp; exact ⟨rfl, Below.refl _ _⟩)); simp only [Act.put, pvA, pv0, pv1])
  (refine calm_part rfl 87 (.tmp 22) rfl w.heap.size 0 rfl 89 (cells4 p) (cells5 (p).x) hb2_1.out (in4_x p) g5 (i5 (p).x) ?_; simp only [Act.put, pvA, pv0, pv1])
  (apply calm_on rfl; (focus (intro W hB; go_simp; refine (c4.out W).mono ?_; rintro _ _ ⟨rfl, hb'⟩; exact ⟨rfl, hb'⟩)); simp only [Act.put, pvA, pv0, pv1])
  (apply calm_on rfl; (focus (intro W hB; go_simp; exact ⟨rfl, Below.refl _ _⟩)); simp only [Act.put, pvA, pv0, pv1])
  (refine calm_part rfl 87 (.tmp 25) rfl (w.heap.size + 1) 5 rfl 89 (cells4 q) (cells5 (q).y) hb3_1.out (in4_y q) g5 (i5 (q).y) ?_; simp only [Act.put, pvA, pv0, pv1])
  (apply calm_on rfl; (focus (intro W hB; go_simp; exact ⟨rfl, Below.refl _ _⟩)); simp only [Act.put, pvA, pv0, pv1])
  (refine calm_part rfl 87 (.tmp 27) rfl (w.heap.size + 1) 0 rfl 89 (cells4 q) (cells5 (q).x) hb3_1.out (in4_x q) g5 (i5 (q).x) ?_; simp only [Act.put, pvA, pv0, pv1])
  (apply calm_on rfl; (focus (intro W hB; go_simp; refine (c5.out W).mono ?_; rintro _ _ ⟨rfl, hb'⟩; exact ⟨rfl, hb'⟩)); simp only [Act.put, pvA, pv0, pv1])
  (apply calm_on rfl; (focus (intro W hB; go_simp; refine (c6.out W).mono ?_; rintro _ _ ⟨rfl, hb'⟩; exact ⟨rfl, hb'⟩)); simp only [Act.put, pvA, pv0, pv1])
  refine calm_nil ?_
  intro bk6 wx2 hle6 hx2 hn6
  simp only [List.drop_succ_cons, List.drop_zero]
  (try simp only [Act.put, pvA, pv0, pv1])
  have fb2 := hb2_1.out.step hx2
  have fb3 := hb3_1.out.step hx2
  have fb4 := hb4_1.out.step hx2
  have fb5 := hb5_1.out.step hx2
  have hbb := hbl1.trans (hx2.mono hbl1.size)
  have fb6 := hn6
  have ne2_6 : w.heap.size ≠ bk6 := by have := hb2_1.out.lt; omega
  have ne3_6 : (w.heap.size + 1) ≠ bk6 := by have := hb3_1.out.lt; omega
  have ne4_6 : (w.heap.size + 1 + 1) ≠ bk6 := by have := hb4_1.out.lt; omega
  have ne5_6 : bk5 ≠ bk6 := by have := hb5_1.out.lt; omega
  have ge6 : w.heap.size ≤ bk6 := Nat.le_trans hbl1.size hle6
  refine wpList_set 87 (.tmp 6) (.tmp 30) rfl rfl rfl bk6 (cells5 r6) rfl rfl 87 (cells5 zero5) fb6 (i5 r6) rfl (one_cells5 r6) ?_
  replace fb2 := fb2.other ne2_6 (cells5 r6)
  replace fb3 := fb3.other ne3_6 (cells5 r6)
  replace fb4 := fb4.other ne4_6 (cells5 r6)
  replace fb5 := fb5.other ne5_6 (cells5 r6)
  replace fb6 := fb6.set (cells5 r6)
  replace hbb := below_set hbb bk6 (ge6) (cells5 r6)
  refine wpList_nil ?_
  obtain ⟨w2, hw⟩ : ∃ z, z = (wx2.setRow bk6 (cells5 r6)) := ⟨_, rfl⟩
  rw [← hw] at hbb fb2 fb3 fb4 fb5 fb6 ⊢
  have hb2_2 := hid fb2
  have hb3_2 := hid fb3
  have hb4_2 := hid fb4
  have hb5_2 := hid fb5
  have hb6_2 := hid fb6
  have hbl2 := hbb
  clear hw hbb fb2 fb3 fb4 fb5 fb6 hx2 hbl1 hb2_1 hb3_1 hb4_1 hb5_1 hle6 hn6
  (repeat ((fail_if_success (with_reducible refine Go.at_region ?_)); go_step))
  refine list_tail 10 ?_
  simp only [List.take_succ_cons, List.take_zero]
  (apply calm_on rfl; (focus (intro W hB; go_simp; exact ⟨rfl, Below.refl _ _⟩)); simp only [Act.put, pvA, pv0, pv1])
  (refine calm_part rfl 87 (.tmp 31) rfl w.heap.size 15 rfl 89 (cells4 p) (cells5 (p).t) hb2_2.out (in4_t p) g5 (i5 (p).t) ?_; simp only [Act.put, pvA, pv0, pv1])
  (apply calm_on rfl; (focus (intro W hB; go_simp; exact ⟨rfl, Below.refl _ _⟩)); simp only [Act.put, pvA, pv0, pv1])
  (refine calm_part rfl 87 (.tmp 33) rfl (w.heap.size + 1) 15 rfl 89 (cells4 q) (cells5 (q).t) hb3_2.out (in4_t q) g5 (i5 (q).t) ?_; simp only [Act.put, pvA, pv0, pv1])
  (apply calm_on rfl; (focus (intro W hB; go_simp; refine (c7.out W).mono ?_; rintro _ _ ⟨rfl, hb'⟩; exact ⟨rfl, hb'⟩)); simp only [Act.put, pvA, pv0, pv1])
  iterate 2 (apply calm_on rfl; (focus (intro W hB; go_simp; refine (cd.out W).mono ?_; rintro _ _ ⟨rfl, hb'⟩; exact ⟨rfl, hb'⟩)); simp only [Act.put, pvA, pv0, pv1])
  (apply calm_on rfl; (focus (intro W hB; go_simp; refine (c8.out W).mono ?_; rintro _ _ ⟨rfl, hb'⟩; exact ⟨rfl, hb'⟩)); simp only [Act.put, pvA, pv0, pv1])
  (apply calm_on rfl; (focus (intro W hB; go_simp; refine (c9.out W).mono ?_; rintro _ _ ⟨rfl, hb'⟩; exact ⟨rfl, hb'⟩)); simp only [Act.put, pvA, pv0, pv1])
  (apply calm_on rfl; (focus (intro W hB; go_simp; refine (c10.out W).mono ?_; rintro _ _ ⟨rfl, hb'⟩; exact ⟨rfl, hb'⟩)); simp only [Act.put, pvA, pv0, pv1])
  refine calm_nil ?_
  intro wx3 hx3
  simp only [List.drop_succ_cons, List.drop_zero]
  (try simp only [Act.put, pvA, pv0, pv1])
  refine wpList_new 87 (cells5 zero5) rfl rfl z5 ?_
  intro bk7 wy3 hle7 hy3 hn7
  (try simp only [Act.put, pvA, pv0, pv1])
  replace hle7 := Nat.le_trans hx3.size hle7
  replace hx3 := hx3.trans (hy3.mono hx3.size)
  clear hy3
  have fb2 := hb2_2.out.step hx3
  have fb3 := hb3_2.out.step hx3
  have fb4 := hb4_2.out.step hx3
  have fb5 := hb5_2.out.step hx3
  have fb6 := hb6_2.out.step hx3
  have hbb := hbl2.trans (hx3.mono hbl2.size)
  have fb7 := hn7
  have ne2_7 : w.heap.size ≠ bk7 := by have := hb2_2.out.lt; omega
  have ne3_7 : (w.heap.size + 1) ≠ bk7 := by have := hb3_2.out.lt; omega
  have ne4_7 : (w.heap.size + 1 + 1) ≠ bk7 := by have := hb4_2.out.lt; omega
  have ne5_7 : bk5 ≠ bk7 := by have := hb5_2.out.lt; omega
  have ne6_7 : bk6 ≠ bk7 := by have := hb6_2.out.lt; omega
  have ge7 : w.heap.size ≤ bk7 := Nat.le_trans hbl2.size hle7
  refine wpList_set 87 (.tmp 7) (.tmp 40) rfl rfl rfl bk7 (cells5 r10) rfl rfl 87 (cells5 zero5) fb7 (i5 r10) rfl (one_cells5 r10) ?_
  replace fb2 := fb2.other ne2_7 (cells5 r10)
  replace fb3 := fb3.other ne3_7 (cells5 r10)
  replace fb4 := fb4.other ne4_7 (cells5 r10)
  replace fb5 := fb5.other ne5_7 (cells5 r10)
  replace fb6 := fb6.other ne6_7 (cells5 r10)
  replace fb7 := fb7.set (cells5 r10)
  replace hbb := below_set hbb bk7 (ge7) (cells5 r10)
  refine wpList_nil ?_
  obtain ⟨w3, hw⟩ : ∃ z, z = (wy3.setRow bk7 (cells5 r10)) := ⟨_, rfl⟩
  rw [← hw] at hbb fb2 fb3 fb4 fb5 fb6 fb7 ⊢
  have hb2_3 := hid fb2
  have hb3_3 := hid fb3
  have hb4_3 := hid fb4
  have hb5_3 := hid fb5
  have hb6_3 := hid fb6
  have hb7_3 := hid fb7
  have hbl3 := hbb
  clear hw hbb fb2 fb3 fb4 fb5 fb6 fb7 hx3 hbl2 hb2_2 hb3_2 hb4_2 hb5_2 hb6_2 hle7 hn7
  (repeat ((fail_if_success (with_reducible refine Go.at_region ?_)); go_step))
  refine list_tail 5 ?_
  simp only [List.take_succ_cons, List.take_zero]
  (apply calm_on rfl; (focus (intro W hB; go_simp; exact ⟨rfl, Below.refl _ _⟩)); simp only [Act.put, pvA, pv0, pv1])
  (refine calm_part rfl 87 (.tmp 41) rfl w.heap.size 10 rfl 89 (cells4 p) (cells5 (p).z) hb2_3.out (in4_z p) g5 (i5 (p).z) ?_; simp only [Act.put, pvA, pv0, pv1])
  (apply calm_on rfl; (focus (intro W hB; go_simp; exact ⟨rfl, Below.refl _ _⟩)); simp only [Act.put, pvA, pv0, pv1])
  (refine calm_part rfl 87 (.tmp 43) rfl (w.heap.size + 1) 10 rfl 89 (cells4 q) (cells5 (q).z) hb3_3.out (in4_z q) g5 (i5 (q).z) ?_; simp only [Act.put, pvA, pv0, pv1])
  (apply calm_on rfl; (focus (intro W hB; go_simp; refine (c11.out W).mono ?_; rintro _ _ ⟨rfl, hb'⟩; exact ⟨rfl, hb'⟩)); simp only [Act.put, pvA, pv0, pv1])
  refine calm_nil ?_
  intro wx4 hx4
  simp only [List.drop_succ_cons, List.drop_zero]
  (try simp only [Act.put, pvA, pv0, pv1])
  refine wpList_new 87 (cells5 zero5) rfl rfl z5 ?_
  intro bk8 wy4 hle8 hy4 hn8
  (try simp only [Act.put, pvA, pv0, pv1])
  replace hle8 := Nat.le_trans hx4.size hle8
  replace hx4 := hx4.trans (hy4.mono hx4.size)
  clear hy4
  have fb2 := hb2_3.out.step hx4
  have fb3 := hb3_3.out.step hx4
  have fb4 := hb4_3.out.step hx4
  have fb5 := hb5_3.out.step hx4
  have fb6 := hb6_3.out.step hx4
  have fb7 := hb7_3.out.step hx4
  have hbb := hbl3.trans (hx4.mono hbl3.size)
  have fb8 := hn8
  have ne2_8 : w.heap.size ≠ bk8 := by have := hb2_3.out.lt; omega
  have ne3_8 : (w.heap.size + 1) ≠ bk8 := by have := hb3_3.out.lt; omega
  have ne4_8 : (w.heap.size + 1 + 1) ≠ bk8 := by have := hb4_3.out.lt; omega
  have ne5_8 : bk5 ≠ bk8 := by have := hb5_3.out.lt; omega
  have ne6_8 : bk6 ≠ bk8 := by have := hb6_3.out.lt; omega
  have ne7_8 : bk7 ≠ bk8 := by have := hb7_3.out.lt; omega
  have ge8 : w.heap.size ≤ bk8 := Nat.le_trans hbl3.size hle8
  refine wpList_set 87 (.tmp 8) (.tmp 45) rfl rfl rfl bk8 (cells5 r11) rfl rfl 87 (cells5 zero5) fb8 (i5 r11) rfl (one_cells5 r11) ?_
  replace fb2 := fb2.other ne2_8 (cells5 r11)
  replace fb3 := fb3.other ne3_8 (cells5 r11)
  replace fb4 := fb4.other ne4_8 (cells5 r11)
  replace fb5 := fb5.other ne5_8 (cells5 r11)
  replace fb6 := fb6.other ne6_8 (cells5 r11)
  replace fb7 := fb7.other ne7_8 (cells5 r11)
  replace fb8 := fb8.set (cells5 r11)
  replace hbb := below_set hbb bk8 (ge8) (cells5 r11)
  refine wpList_nil ?_
  obtain ⟨w4, hw⟩ : ∃ z, z = (wy4.setRow bk8 (cells5 r11)) := ⟨_, rfl⟩
  rw [← hw] at hbb fb2 fb3 fb4 fb5 fb6 fb7 fb8 ⊢
  have hb2_4 := hid fb2
  have hb3_4 := hid fb3
  have hb4_4 := hid fb4
  have hb5_4 := hid fb5
  have hb6_4 := hid fb6
  have hb7_4 := hid fb7
  have hb8_4 := hid fb8
  have hbl4 := hbb
  clear hw hbb fb2 fb3 fb4 fb5 fb6 fb7 fb8 hx4 hbl3 hb2_3 hb3_3 hb4_3 hb5_3 hb6_3 hb7_3 hle8 hn8
  (repeat ((fail_if_success (with_reducible refine Go.at_region ?_)); go_step))
  refine list_tail 3 ?_
  simp only [List.take_succ_cons, List.take_zero]
  iterate 2 (refine calm_whole rfl 87 (.tmp 8) rfl bk8 rfl 87 (cells5 r11) hb8_4.out g5 (i5 r11) ?_; simp only [Act.put, pvA, pv0, pv1])
  (apply calm_on rfl; (focus (intro W hB; go_simp; refine (c12.out W).mono ?_; rintro _ _ ⟨rfl, hb'⟩; exact ⟨rfl, hb'⟩)); simp only [Act.put, pvA, pv0, pv1])
  refine calm_nil ?_
  intro wx5 hx5
  simp only [List.drop_succ_cons, List.drop_zero]
  (try simp only [Act.put, pvA, pv0, pv1])
  have fb2 := hb2_4.out.step hx5
  have fb3 := hb3_4.out.step hx5
  have fb4 := hb4_4.out.step hx5
  have fb5 := hb5_4.out.step hx5
  have fb6 := hb6_4.out.step hx5
  have fb7 := hb7_4.out.step hx5
  have fb8 := hb8_4.out.step hx5
  have hbb := hbl4.trans (hx5.mono hbl4.size)
  refine wpList_set 87 (.tmp 8) (.tmp 48) rfl rfl rfl bk8 (cells5 r12) rfl rfl 87 (cells5 r11) fb8 (i5 r12) rfl (one_cells5 r12) ?_
  replace fb2 := fb2.other ne2_8 (cells5 r12)
  replace fb3 := fb3.other ne3_8 (cells5 r12)
  replace fb4 := fb4.other ne4_8 (cells5 r12)
  replace fb5 := fb5.other ne5_8 (cells5 r12)
  replace fb6 := fb6.other ne6_8 (cells5 r12)
  replace fb7 := fb7.other ne7_8 (cells5 r12)
  replace fb8 := fb8.set (cells5 r12)
  replace hbb := below_set hbb bk8 (ge8) (cells5 r12)
  refine wpList_nil ?_
  obtain ⟨w5, hw⟩ : ∃ z, z = (wx5.setRow bk8 (cells5 r12)) := ⟨_, rfl⟩
  rw [← hw] at hbb fb2 fb3 fb4 fb5 fb6 fb7 fb8 ⊢
  have hb2_5 := hid fb2
  have hb3_5 := hid fb3
  have hb4_5 := hid fb4
  have hb5_5 := hid fb5
  have hb6_5 := hid fb6
  have hb7_5 := hid fb7
  have hb8_5 := hid fb8
  have hbl5 := hbb
  clear hw hbb fb2 fb3 fb4 fb5 fb6 fb7 fb8 hx5 hbl4 hb2_4 hb3_4 hb4_4 hb5_4 hb6_4 hb7_4 hb8_4 
  (repeat ((fail_if_success (with_reducible refine Go.at_region ?_)); go_step))
  refine draw_tail 13 (by kernel_rfl) (by kernel_rfl) (by kernel_rfl) ?_
  simp only [List.take_succ_cons, List.take_zero]
  (refine calm_whole rfl 87 (.tmp 6) rfl bk6 rfl 87 (cells5 r6) hb6_5.out g5 (i5 r6) ?_; simp only [Act.put, pvA, pv0, pv1])
  (refine calm_whole rfl 87 (.tmp 5) rfl bk5 rfl 87 (cells5 r3) hb5_5.out g5 (i5 r3) ?_; simp only [Act.put, pvA, pv0, pv1])
  (apply calm_on rfl; (focus (intro W hB; go_simp; refine (c13.out W).mono ?_; rintro _ _ ⟨rfl, hb'⟩; exact ⟨rfl, hb'⟩)); simp only [Act.put, pvA, pv0, pv1])
  (refine calm_whole rfl 87 (.tmp 8) rfl bk8 rfl 87 (cells5 r12) hb8_5.out g5 (i5 r12) ?_; simp only [Act.put, pvA, pv0, pv1])
  (refine calm_whole rfl 87 (.tmp 7) rfl bk7 rfl 87 (cells5 r10) hb7_5.out g5 (i5 r10) ?_; simp only [Act.put, pvA, pv0, pv1])
  (apply calm_on rfl; (focus (intro W hB; go_simp; refine (c14.out W).mono ?_; rintro _ _ ⟨rfl, hb'⟩; exact ⟨rfl, hb'⟩)); simp only [Act.put, pvA, pv0, pv1])
  (refine calm_whole rfl 87 (.tmp 8) rfl bk8 rfl 87 (cells5 r12) hb8_5.out g5 (i5 r12) ?_; simp only [Act.put, pvA, pv0, pv1])
  (refine calm_whole rfl 87 (.tmp 7) rfl bk7 rfl 87 (cells5 r10) hb7_5.out g5 (i5 r10) ?_; simp only [Act.put, pvA, pv0, pv1])
  (apply calm_on rfl; (focus (intro W hB; go_simp; refine (c15.out W).mono ?_; rintro _ _ ⟨rfl, hb'⟩; exact ⟨rfl, hb'⟩)); simp only [Act.put, pvA, pv0, pv1])
  (refine calm_whole rfl 87 (.tmp 6) rfl bk6 rfl 87 (cells5 r6) hb6_5.out g5 (i5 r6) ?_; simp only [Act.put, pvA, pv0, pv1])
  (refine calm_whole rfl 87 (.tmp 5) rfl bk5 rfl 87 (cells5 r3) hb5_5.out g5 (i5 r3) ?_; simp only [Act.put, pvA, pv0, pv1])
  (apply calm_on rfl; (focus (intro W hB; go_simp; refine (c16.out W).mono ?_; rintro _ _ ⟨rfl, hb'⟩; exact ⟨rfl, hb'⟩)); simp only [Act.put, pvA, pv0, pv1])
  (apply calm_on rfl; (focus (intro W hB; go_simp; refine (c17.out W).mono ?_; rintro _ _ ⟨rfl, hb'⟩; exact ⟨rfl, hb'⟩)); simp only [Act.put, pvA, pv0, pv1])
  refine calm_nil ?_
  intro wx6 hx6
  simp only [List.drop_succ_cons, List.drop_zero]
  (try simp only [Act.put, pvA, pv0, pv1])
  have fb2 := hb2_5.out.step hx6
  have fb3 := hb3_5.out.step hx6
  have fb4 := hb4_5.out.step hx6
  have fb5 := hb5_5.out.step hx6
  have fb6 := hb6_5.out.step hx6
  have fb7 := hb7_5.out.step hx6
  have fb8 := hb8_5.out.step hx6
  have hbb := hbl5.trans (hx6.mono hbl5.size)
  refine wpList_set 89 (.tmp 4) (.tmp 61) rfl rfl rfl (w.heap.size + 1 + 1) (cells4 r17) rfl rfl 89 (cells4 zero4) fb4 (i4 r17) rfl (one_cells4 r17) ?_
  replace fb2 := fb2.other (show w.heap.size ≠ (w.heap.size + 1 + 1) by omega) (cells4 r17)
  replace fb3 := fb3.other (show (w.heap.size + 1) ≠ (w.heap.size + 1 + 1) by omega) (cells4 r17)
  replace fb4 := fb4.set (cells4 r17)
  replace fb5 := fb5.other (Ne.symm ne4_5) (cells4 r17)
  replace fb6 := fb6.other (Ne.symm ne4_6) (cells4 r17)
  replace fb7 := fb7.other (Ne.symm ne4_7) (cells4 r17)
  replace fb8 := fb8.other (Ne.symm ne4_8) (cells4 r17)
  replace hbb := below_set hbb (w.heap.size + 1 + 1) (by omega) (cells4 r17)
  refine wpList_nil ?_
  obtain ⟨w6, hw⟩ : ∃ z, z = (wx6.setRow (w.heap.size + 1 + 1) (cells4 r17)) := ⟨_, rfl⟩
  rw [← hw] at hbb fb2 fb3 fb4 fb5 fb6 fb7 fb8 ⊢
  have hb2_6 := hid fb2
  have hb3_6 := hid fb3
  have hb4_6 := hid fb4
  have hb5_6 := hid fb5
  have hb6_6 := hid fb6
  have hb7_6 := hid fb7
  have hb8_6 := hid fb8
  have hbl6 := hbb
  clear hw hbb fb2 fb3 fb4 fb5 fb6 fb7 fb8 hx6 hbl5 hb2_5 hb3_5 hb4_5 hb5_5 hb6_5 hb7_5 hb8_5 
  (repeat ((fail_if_success (with_reducible refine Go.at_region ?_)); go_step))
  refine ret_blk (w.heap.size + 1 + 1) 89 (cells4 r17) rfl rfl hb4_6.out g4 (i4 r17) rfl ?_
  exact ⟨(by rw [E17.out, E16.out, E15.out, E14.out, E13.out, E12.out, E11.out, E10.out, E9.out, E8.out, E7.out, E6.out, E5.out, E4.out, E3.out, E2.out, E1.out]; first | done | rfl), hbl6⟩
set_option maxRecDepth 100000 in
set_option maxHeartbeats 4000000 in
theorem twiceW_any (p : W4) (w : World) (hp : TW p) : Calls Tryz.prog 68 #[w4 p] w fun e w' => e = .returned (w4 (twiceW p)) ∧ Below w.heap.size w w' := by
  have c1 := hid fun w => mul5_any p.x p.x w hp.x hp.x
  have t1 := mul5_t p.x p.x hp.x hp.x
  obtain ⟨r1, e1⟩ : ∃ r, r = mul5 p.x p.x := ⟨_, rfl⟩
  rw [← e1] at c1 t1
  replace t1 := hid t1
  have E1 := hid e1
  clear e1
  have c2 := hid fun w => mul5_any p.y p.y w hp.y hp.y
  have t2 := mul5_t p.y p.y hp.y hp.y
  obtain ⟨r2, e2⟩ : ∃ r, r = mul5 p.y p.y := ⟨_, rfl⟩
  rw [← e2] at c2 t2
  replace t2 := hid t2
  have E2 := hid e2
  clear e2
  have c3 := hid fun w => mul5_any p.z p.z w hp.z hp.z
  have t3 := mul5_t p.z p.z hp.z hp.z
  obtain ⟨r3, e3⟩ : ∃ r, r = mul5 p.z p.z := ⟨_, rfl⟩
  rw [← e3] at c3 t3
  replace t3 := hid t3
  have E3 := hid e3
  clear e3
  have c4 := hid fun w => add5_any r1 r2 w t1.out t2.out
  have t4 := add5_t r1 r2 t1.out t2.out
  obtain ⟨r4, e4⟩ : ∃ r, r = add5 r1 r2 := ⟨_, rfl⟩
  rw [← e4] at c4 t4
  replace t4 := hid t4
  have E4 := hid e4
  clear e4
  have c5 := hid fun w => add5_any p.x p.y w hp.x hp.y
  have t5 := add5_t p.x p.y hp.x hp.y
  obtain ⟨r5, e5⟩ : ∃ r, r = add5 p.x p.y := ⟨_, rfl⟩
  rw [← e5] at c5 t5
  replace t5 := hid t5
  have E5 := hid e5
  clear e5
  have c6 := hid fun w => sub5_any r1 r2 w t1.out t2.out
  have t6 := sub5_t r1 r2 t1.out t2.out
  obtain ⟨r6, e6⟩ : ∃ r, r = sub5 r1 r2 := ⟨_, rfl⟩
  rw [← e6] at c6 t6
  replace t6 := hid t6
  have E6 := hid e6
  clear e6
  have c7 := hid fun w => mul5_any r5 r5 w t5.out t5.out
  have t7 := mul5_t r5 r5 t5.out t5.out
  obtain ⟨r7, e7⟩ : ∃ r, r = mul5 r5 r5 := ⟨_, rfl⟩
  rw [← e7] at c7 t7
  replace t7 := hid t7
  have E7 := hid e7
  clear e7
  have c8 := hid fun w => sub5_any r4 r7 w t4.out t7.out
  have t8 := sub5_t r4 r7 t4.out t7.out
  obtain ⟨r8, e8⟩ : ∃ r, r = sub5 r4 r7 := ⟨_, rfl⟩
  rw [← e8] at c8 t8
  replace t8 := hid t8
  have E8 := hid e8
  clear e8
  have c9 := hid fun w => add5_any r3 r3 w t3.out t3.out
  have t9 := add5_t r3 r3 t3.out t3.out
  obtain ⟨r9, e9⟩ : ∃ r, r = add5 r3 r3 := ⟨_, rfl⟩
  rw [← e9] at c9 t9
  replace t9 := hid t9
  have E9 := hid e9
  clear e9
  have c10 := hid fun w => add5_any r9 r6 w t9.out t6.out
  have t10 := add5_t r9 r6 t9.out t6.out
  obtain ⟨r10, e10⟩ : ∃ r, r = add5 r9 r6 := ⟨_, rfl⟩
  rw [← e10] at c10 t10
  replace t10 := hid t10
  have E10 := hid e10
  clear e10
  have c11 := hid fun w => from_any r8 r10 r6 r4 w t8.out t10.out t6.out t4.out
  obtain ⟨r11, e11⟩ : ∃ r, r = fromW r8 r10 r6 r4 := ⟨_, rfl⟩
  rw [← e11] at c11
  have E11 := hid e11
  clear e11
  clear hp
  unfold fe w4 at *
  obtain ⟨w0, hw0, k1, k2, hbl0⟩ := entry2 w 89 (cells4 p) 89 (cells4 zero4)
  have hb1_0 := hid k1
  have hb2_0 := hid k2
  clear k1 k2
  go_enter Tryz.func68, Tryz.ntmps68
  (repeat ((fail_if_success (with_reducible refine Go.at_region ?_)); go_step))
  refine wp_region_lit ?_
  (refine wpList_box 89 (.tmp 0) rfl rfl (cells4 p) rfl ?_; simp only [Act.put, pvA, pv0, pv1]; (try simp only [World.size_alloc]))
  (refine wpList_alloc_new rfl 89 rfl (cells4 zero4) z4 ?_; simp only [Act.put, pvA, pv0, pv1]; (try simp only [World.size_alloc]))
  refine wpList_nil ?_
  rw [← hw0]
  clear hw0
  (repeat ((fail_if_success (with_reducible refine Go.at_region ?_)); go_step))
  refine draw_new2 10 _ _ rfl 87 87 (cells5 zero5) (cells5 zero5) 3 4 rfl rfl rfl (by simp) z5 rfl rfl rfl (by simp) z5 (by decide) (by kernel_rfl) (by kernel_rfl) (by kernel_rfl) (by kernel_rfl) ?_
  simp only [List.take_succ_cons, List.take_zero]
  (apply calm_on rfl; (focus (intro W hB; go_simp; exact ⟨rfl, Below.refl _ _⟩)); simp only [Act.put, pvA, pv0, pv1])
  (refine calm_part rfl 87 (.tmp 9) rfl w.heap.size 0 rfl 89 (cells4 p) (cells5 (p).x) hb1_0.out (in4_x p) g5 (i5 (p).x) ?_; simp only [Act.put, pvA, pv0, pv1])
  (apply calm_on rfl; (focus (intro W hB; go_simp; exact ⟨rfl, Below.refl _ _⟩)); simp only [Act.put, pvA, pv0, pv1])
  (refine calm_part rfl 87 (.tmp 11) rfl w.heap.size 0 rfl 89 (cells4 p) (cells5 (p).x) hb1_0.out (in4_x p) g5 (i5 (p).x) ?_; simp only [Act.put, pvA, pv0, pv1])
  (apply calm_on rfl; (focus (intro W hB; go_simp; refine (c1.out W).mono ?_; rintro _ _ ⟨rfl, hb'⟩; exact ⟨rfl, hb'⟩)); simp only [Act.put, pvA, pv0, pv1])
  (apply calm_on rfl; (focus (intro W hB; go_simp; exact ⟨rfl, Below.refl _ _⟩)); simp only [Act.put, pvA, pv0, pv1])
  (refine calm_part rfl 87 (.tmp 14) rfl w.heap.size 5 rfl 89 (cells4 p) (cells5 (p).y) hb1_0.out (in4_y p) g5 (i5 (p).y) ?_; simp only [Act.put, pvA, pv0, pv1])
  (apply calm_on rfl; (focus (intro W hB; go_simp; exact ⟨rfl, Below.refl _ _⟩)); simp only [Act.put, pvA, pv0, pv1])
  (refine calm_part rfl 87 (.tmp 16) rfl w.heap.size 5 rfl 89 (cells4 p) (cells5 (p).y) hb1_0.out (in4_y p) g5 (i5 (p).y) ?_; simp only [Act.put, pvA, pv0, pv1])
  (apply calm_on rfl; (focus (intro W hB; go_simp; refine (c2.out W).mono ?_; rintro _ _ ⟨rfl, hb'⟩; exact ⟨rfl, hb'⟩)); simp only [Act.put, pvA, pv0, pv1])
  refine calm_nil ?_
  intro bk3 bk4 wx1 hle3 hle4 hne3 hx1 hn3 hn4
  simp only [List.drop_succ_cons, List.drop_zero]
  (try simp only [Act.put, pvA, pv0, pv1])
  have fb1 := hb1_0.out.step hx1
  have fb2 := hb2_0.out.step hx1
  have hbb := hbl0.trans (hx1.mono hbl0.size)
  have fb3 := hn3
  have fb4 := hn4
  have ne1_3 : w.heap.size ≠ bk3 := by have := hb1_0.out.lt; omega
  have ne2_3 : (w.heap.size + 1) ≠ bk3 := by have := hb2_0.out.lt; omega
  have ne1_4 : w.heap.size ≠ bk4 := by have := hb1_0.out.lt; omega
  have ne2_4 : (w.heap.size + 1) ≠ bk4 := by have := hb2_0.out.lt; omega
  have ge3 : w.heap.size ≤ bk3 := Nat.le_trans hbl0.size hle3
  have ge4 : w.heap.size ≤ bk4 := Nat.le_trans hbl0.size hle4
  refine wpList_set 87 (.tmp 3) (.tmp 13) rfl rfl rfl bk3 (cells5 r1) rfl rfl 87 (cells5 zero5) fb3 (i5 r1) rfl (one_cells5 r1) ?_
  replace fb1 := fb1.other ne1_3 (cells5 r1)
  replace fb2 := fb2.other ne2_3 (cells5 r1)
  replace fb3 := fb3.set (cells5 r1)
  replace fb4 := fb4.other (Ne.symm hne3) (cells5 r1)
  replace hbb := below_set hbb bk3 (ge3) (cells5 r1)
  refine wpList_set 87 (.tmp 4) (.tmp 18) rfl rfl rfl bk4 (cells5 r2) rfl rfl 87 (cells5 zero5) fb4 (i5 r2) rfl (one_cells5 r2) ?_
  replace fb1 := fb1.other ne1_4 (cells5 r2)
  replace fb2 := fb2.other ne2_4 (cells5 r2)
  replace fb3 := fb3.other hne3 (cells5 r2)
  replace fb4 := fb4.set (cells5 r2)
  replace hbb := below_set hbb bk4 (ge4) (cells5 r2)
  refine wpList_nil ?_
  obtain ⟨w1, hw⟩ : ∃ z, z = ((wx1.setRow bk3 (cells5 r1)).setRow bk4 (cells5 r2)) := ⟨_, rfl⟩
  rw [← hw] at hbb fb1 fb2 fb3 fb4 ⊢
  have hb1_1 := hid fb1
  have hb2_1 := hid fb2
  have hb3_1 := hid fb3
  have hb4_1 := hid fb4
  have hbl1 := hbb
  clear hw hbb fb1 fb2 fb3 fb4 hx1 hbl0 hb1_0 hb2_0 hle3 hn3 hle4 hn4
  (repeat ((fail_if_success (with_reducible refine Go.at_region ?_)); go_step))
  refine list_tail 5 ?_
  simp only [List.take_succ_cons, List.take_zero]
  (apply calm_on rfl; (focus (intro W hB; go_simp; exact ⟨rfl, Below.refl _ _⟩)); simp only [Act.put, pvA, pv0, pv1])
  (refine calm_part rfl 87 (.tmp 19) rfl w.heap.size 10 rfl 89 (cells4 p) (cells5 (p).z) hb1_1.out (in4_z p) g5 (i5 (p).z) ?_; simp only [Act.put, pvA, pv0, pv1])
  (apply calm_on rfl; (focus (intro W hB; go_simp; exact ⟨rfl, Below.refl _ _⟩)); simp only [Act.put, pvA, pv0, pv1])
  (refine calm_part rfl 87 (.tmp 21) rfl w.heap.size 10 rfl 89 (cells4 p) (cells5 (p).z) hb1_1.out (in4_z p) g5 (i5 (p).z) ?_; simp only [Act.put, pvA, pv0, pv1])
  (apply calm_on rfl; (focus (intro W hB; go_simp; refine (c3.out W).mono ?_; rintro _ _ ⟨rfl, hb'⟩; exact ⟨rfl, hb'⟩)); simp only [Act.put, pvA, pv0, pv1])
  refine calm_nil ?_
  intro wx2 hx2
  simp only [List.drop_succ_cons, List.drop_zero]
  (try simp only [Act.put, pvA, pv0, pv1])
  refine wpList_new 87 (cells5 zero5) rfl rfl z5 ?_
  intro bk5 wy2 hle5 hy2 hn5
  (try simp only [Act.put, pvA, pv0, pv1])
  replace hle5 := Nat.le_trans hx2.size hle5
  replace hx2 := hx2.trans (hy2.mono hx2.size)
  clear hy2
  have fb1 := hb1_1.out.step hx2
  have fb2 := hb2_1.out.step hx2
  have fb3 := hb3_1.out.step hx2
  have fb4 := hb4_1.out.step hx2
  have hbb := hbl1.trans (hx2.mono hbl1.size)
  have fb5 := hn5
  have ne1_5 : w.heap.size ≠ bk5 := by have := hb1_1.out.lt; omega
  have ne2_5 : (w.heap.size + 1) ≠ bk5 := by have := hb2_1.out.lt; omega
  have ne3_5 : bk3 ≠ bk5 := by have := hb3_1.out.lt; omega
  have ne4_5 : bk4 ≠ bk5 := by have := hb4_1.out.lt; omega
  have ge5 : w.heap.size ≤ bk5 := Nat.le_trans hbl1.size hle5
  refine wpList_set 87 (.tmp 5) (.tmp 23) rfl rfl rfl bk5 (cells5 r3) rfl rfl 87 (cells5 zero5) fb5 (i5 r3) rfl (one_cells5 r3) ?_
  replace fb1 := fb1.other ne1_5 (cells5 r3)
  replace fb2 := fb2.other ne2_5 (cells5 r3)
  replace fb3 := fb3.other ne3_5 (cells5 r3)
  replace fb4 := fb4.other ne4_5 (cells5 r3)
  replace fb5 := fb5.set (cells5 r3)
  replace hbb := below_set hbb bk5 (ge5) (cells5 r3)
  refine wpList_nil ?_
  obtain ⟨w2, hw⟩ : ∃ z, z = (wy2.setRow bk5 (cells5 r3)) := ⟨_, rfl⟩
  rw [← hw] at hbb fb1 fb2 fb3 fb4 fb5 ⊢
  have hb1_2 := hid fb1
  have hb2_2 := hid fb2
  have hb3_2 := hid fb3
  have hb4_2 := hid fb4
  have hb5_2 := hid fb5
  have hbl2 := hbb
  clear hw hbb fb1 fb2 fb3 fb4 fb5 hx2 hbl1 hb1_1 hb2_1 hb3_1 hb4_1 hle5 hn5
  (repeat ((fail_if_success (with_reducible refine Go.at_region ?_)); go_step))
  refine list_tail 3 ?_
  simp only [List.take_succ_cons, List.take_zero]
  (refine calm_whole rfl 87 (.tmp 3) rfl bk3 rfl 87 (cells5 r1) hb3_2.out g5 (i5 r1) ?_; simp only [Act.put, pvA, pv0, pv1])
  (refine calm_whole rfl 87 (.tmp 4) rfl bk4 rfl 87 (cells5 r2) hb4_2.out g5 (i5 r2) ?_; simp only [Act.put, pvA, pv0, pv1])
  (apply calm_on rfl; (focus (intro W hB; go_simp; refine (c4.out W).mono ?_; rintro _ _ ⟨rfl, hb'⟩; exact ⟨rfl, hb'⟩)); simp only [Act.put, pvA, pv0, pv1])
  refine calm_nil ?_
  intro wx3 hx3
  simp only [List.drop_succ_cons, List.drop_zero]
  (try simp only [Act.put, pvA, pv0, pv1])
  refine wpList_new 87 (cells5 zero5) rfl rfl z5 ?_
  intro bk6 wy3 hle6 hy3 hn6
  (try simp only [Act.put, pvA, pv0, pv1])
  replace hle6 := Nat.le_trans hx3.size hle6
  replace hx3 := hx3.trans (hy3.mono hx3.size)
  clear hy3
  have fb1 := hb1_2.out.step hx3
  have fb2 := hb2_2.out.step hx3
  have fb3 := hb3_2.out.step hx3
  have fb4 := hb4_2.out.step hx3
  have fb5 := hb5_2.out.step hx3
  have hbb := hbl2.trans (hx3.mono hbl2.size)
  have fb6 := hn6
  have ne1_6 : w.heap.size ≠ bk6 := by have := hb1_2.out.lt; omega
  have ne2_6 : (w.heap.size + 1) ≠ bk6 := by have := hb2_2.out.lt; omega
  have ne3_6 : bk3 ≠ bk6 := by have := hb3_2.out.lt; omega
  have ne4_6 : bk4 ≠ bk6 := by have := hb4_2.out.lt; omega
  have ne5_6 : bk5 ≠ bk6 := by have := hb5_2.out.lt; omega
  have ge6 : w.heap.size ≤ bk6 := Nat.le_trans hbl2.size hle6
  refine wpList_set 87 (.tmp 6) (.tmp 26) rfl rfl rfl bk6 (cells5 r4) rfl rfl 87 (cells5 zero5) fb6 (i5 r4) rfl (one_cells5 r4) ?_
  replace fb1 := fb1.other ne1_6 (cells5 r4)
  replace fb2 := fb2.other ne2_6 (cells5 r4)
  replace fb3 := fb3.other ne3_6 (cells5 r4)
  replace fb4 := fb4.other ne4_6 (cells5 r4)
  replace fb5 := fb5.other ne5_6 (cells5 r4)
  replace fb6 := fb6.set (cells5 r4)
  replace hbb := below_set hbb bk6 (ge6) (cells5 r4)
  refine wpList_nil ?_
  obtain ⟨w3, hw⟩ : ∃ z, z = (wy3.setRow bk6 (cells5 r4)) := ⟨_, rfl⟩
  rw [← hw] at hbb fb1 fb2 fb3 fb4 fb5 fb6 ⊢
  have hb1_3 := hid fb1
  have hb2_3 := hid fb2
  have hb3_3 := hid fb3
  have hb4_3 := hid fb4
  have hb5_3 := hid fb5
  have hb6_3 := hid fb6
  have hbl3 := hbb
  clear hw hbb fb1 fb2 fb3 fb4 fb5 fb6 hx3 hbl2 hb1_2 hb2_2 hb3_2 hb4_2 hb5_2 hle6 hn6
  (repeat ((fail_if_success (with_reducible refine Go.at_region ?_)); go_step))
  refine list_tail 5 ?_
  simp only [List.take_succ_cons, List.take_zero]
  (apply calm_on rfl; (focus (intro W hB; go_simp; exact ⟨rfl, Below.refl _ _⟩)); simp only [Act.put, pvA, pv0, pv1])
  (refine calm_part rfl 87 (.tmp 27) rfl w.heap.size 0 rfl 89 (cells4 p) (cells5 (p).x) hb1_3.out (in4_x p) g5 (i5 (p).x) ?_; simp only [Act.put, pvA, pv0, pv1])
  (apply calm_on rfl; (focus (intro W hB; go_simp; exact ⟨rfl, Below.refl _ _⟩)); simp only [Act.put, pvA, pv0, pv1])
  (refine calm_part rfl 87 (.tmp 29) rfl w.heap.size 5 rfl 89 (cells4 p) (cells5 (p).y) hb1_3.out (in4_y p) g5 (i5 (p).y) ?_; simp only [Act.put, pvA, pv0, pv1])
  (apply calm_on rfl; (focus (intro W hB; go_simp; refine (c5.out W).mono ?_; rintro _ _ ⟨rfl, hb'⟩; exact ⟨rfl, hb'⟩)); simp only [Act.put, pvA, pv0, pv1])
  refine calm_nil ?_
  intro wx4 hx4
  simp only [List.drop_succ_cons, List.drop_zero]
  (try simp only [Act.put, pvA, pv0, pv1])
  refine wpList_new 87 (cells5 zero5) rfl rfl z5 ?_
  intro bk7 wy4 hle7 hy4 hn7
  (try simp only [Act.put, pvA, pv0, pv1])
  replace hle7 := Nat.le_trans hx4.size hle7
  replace hx4 := hx4.trans (hy4.mono hx4.size)
  clear hy4
  have fb1 := hb1_3.out.step hx4
  have fb2 := hb2_3.out.step hx4
  have fb3 := hb3_3.out.step hx4
  have fb4 := hb4_3.out.step hx4
  have fb5 := hb5_3.out.step hx4
  have fb6 := hb6_3.out.step hx4
  have hbb := hbl3.trans (hx4.mono hbl3.size)
  have fb7 := hn7
  have ne1_7 : w.heap.size ≠ bk7 := by have := hb1_3.out.lt; omega
  have ne2_7 : (w.heap.size + 1) ≠ bk7 := by have := hb2_3.out.lt; omega
  have ne3_7 : bk3 ≠ bk7 := by have := hb3_3.out.lt; omega
  have ne4_7 : bk4 ≠ bk7 := by have := hb4_3.out.lt; omega
  have ne5_7 : bk5 ≠ bk7 := by have := hb5_3.out.lt; omega
  have ne6_7 : bk6 ≠ bk7 := by have := hb6_3.out.lt; omega
  have ge7 : w.heap.size ≤ bk7 := Nat.le_trans hbl3.size hle7
  refine wpList_set 87 (.tmp 7) (.tmp 31) rfl rfl rfl bk7 (cells5 r5) rfl rfl 87 (cells5 zero5) fb7 (i5 r5) rfl (one_cells5 r5) ?_
  replace fb1 := fb1.other ne1_7 (cells5 r5)
  replace fb2 := fb2.other ne2_7 (cells5 r5)
  replace fb3 := fb3.other ne3_7 (cells5 r5)
  replace fb4 := fb4.other ne4_7 (cells5 r5)
  replace fb5 := fb5.other ne5_7 (cells5 r5)
  replace fb6 := fb6.other ne6_7 (cells5 r5)
  replace fb7 := fb7.set (cells5 r5)
  replace hbb := below_set hbb bk7 (ge7) (cells5 r5)
  refine wpList_nil ?_
  obtain ⟨w4, hw⟩ : ∃ z, z = (wy4.setRow bk7 (cells5 r5)) := ⟨_, rfl⟩
  rw [← hw] at hbb fb1 fb2 fb3 fb4 fb5 fb6 fb7 ⊢
  have hb1_4 := hid fb1
  have hb2_4 := hid fb2
  have hb3_4 := hid fb3
  have hb4_4 := hid fb4
  have hb5_4 := hid fb5
  have hb6_4 := hid fb6
  have hb7_4 := hid fb7
  have hbl4 := hbb
  clear hw hbb fb1 fb2 fb3 fb4 fb5 fb6 fb7 hx4 hbl3 hb1_3 hb2_3 hb3_3 hb4_3 hb5_3 hb6_3 hle7 hn7
  (repeat ((fail_if_success (with_reducible refine Go.at_region ?_)); go_step))
  refine list_tail 3 ?_
  simp only [List.take_succ_cons, List.take_zero]
  (refine calm_whole rfl 87 (.tmp 3) rfl bk3 rfl 87 (cells5 r1) hb3_4.out g5 (i5 r1) ?_; simp only [Act.put, pvA, pv0, pv1])
  (refine calm_whole rfl 87 (.tmp 4) rfl bk4 rfl 87 (cells5 r2) hb4_4.out g5 (i5 r2) ?_; simp only [Act.put, pvA, pv0, pv1])
  (apply calm_on rfl; (focus (intro W hB; go_simp; refine (c6.out W).mono ?_; rintro _ _ ⟨rfl, hb'⟩; exact ⟨rfl, hb'⟩)); simp only [Act.put, pvA, pv0, pv1])
  refine calm_nil ?_
  intro wx5 hx5
  simp only [List.drop_succ_cons, List.drop_zero]
  (try simp only [Act.put, pvA, pv0, pv1])
  refine wpList_new 87 (cells5 zero5) rfl rfl z5 ?_
  intro bk8 wy5 hle8 hy5 hn8
  (try simp only [Act.put, pvA, pv0, pv1])
  replace hle8 := Nat.le_trans hx5.size hle8
  replace hx5 := hx5.trans (hy5.mono hx5.size)
  clear hy5
  have fb1 := hb1_4.out.step hx5
  have fb2 := hb2_4.out.step hx5
  have fb3 := hb3_4.out.step hx5
  have fb4 := hb4_4.out.step hx5
  have fb5 := hb5_4.out.step hx5
  have fb6 := hb6_4.out.step hx5
  have fb7 := hb7_4.out.step hx5
  have hbb := hbl4.trans (hx5.mono hbl4.size)
  have fb8 := hn8
  have ne1_8 : w.heap.size ≠ bk8 := by have := hb1_4.out.lt; omega
  have ne2_8 : (w.heap.size + 1) ≠ bk8 := by have := hb2_4.out.lt; omega
  have ne3_8 : bk3 ≠ bk8 := by have := hb3_4.out.lt; omega
  have ne4_8 : bk4 ≠ bk8 := by have := hb4_4.out.lt; omega
  have ne5_8 : bk5 ≠ bk8 := by have := hb5_4.out.lt; omega
  have ne6_8 : bk6 ≠ bk8 := by have := hb6_4.out.lt; omega
  have ne7_8 : bk7 ≠ bk8 := by have := hb7_4.out.lt; omega
  have ge8 : w.heap.size ≤ bk8 := Nat.le_trans hbl4.size hle8
  refine wpList_set 87 (.tmp 8) (.tmp 34) rfl rfl rfl bk8 (cells5 r6) rfl rfl 87 (cells5 zero5) fb8 (i5 r6) rfl (one_cells5 r6) ?_
  replace fb1 := fb1.other ne1_8 (cells5 r6)
  replace fb2 := fb2.other ne2_8 (cells5 r6)
  replace fb3 := fb3.other ne3_8 (cells5 r6)
  replace fb4 := fb4.other ne4_8 (cells5 r6)
  replace fb5 := fb5.other ne5_8 (cells5 r6)
  replace fb6 := fb6.other ne6_8 (cells5 r6)
  replace fb7 := fb7.other ne7_8 (cells5 r6)
  replace fb8 := fb8.set (cells5 r6)
  replace hbb := below_set hbb bk8 (ge8) (cells5 r6)
  refine wpList_nil ?_
  obtain ⟨w5, hw⟩ : ∃ z, z = (wy5.setRow bk8 (cells5 r6)) := ⟨_, rfl⟩
  rw [← hw] at hbb fb1 fb2 fb3 fb4 fb5 fb6 fb7 fb8 ⊢
  have hb1_5 := hid fb1
  have hb2_5 := hid fb2
  have hb3_5 := hid fb3
  have hb4_5 := hid fb4
  have hb5_5 := hid fb5
  have hb6_5 := hid fb6
  have hb7_5 := hid fb7
  have hb8_5 := hid fb8
  have hbl5 := hbb
  clear hw hbb fb1 fb2 fb3 fb4 fb5 fb6 fb7 fb8 hx5 hbl4 hb1_4 hb2_4 hb3_4 hb4_4 hb5_4 hb6_4 hb7_4 hle8 hn8
  (repeat ((fail_if_success (with_reducible refine Go.at_region ?_)); go_step))
  refine draw_tail 13 (by kernel_rfl) (by kernel_rfl) (by kernel_rfl) ?_
  simp only [List.take_succ_cons, List.take_zero]
  (refine calm_whole rfl 87 (.tmp 6) rfl bk6 rfl 87 (cells5 r4) hb6_5.out g5 (i5 r4) ?_; simp only [Act.put, pvA, pv0, pv1])
  iterate 2 (refine calm_whole rfl 87 (.tmp 7) rfl bk7 rfl 87 (cells5 r5) hb7_5.out g5 (i5 r5) ?_; simp only [Act.put, pvA, pv0, pv1])
  (apply calm_on rfl; (focus (intro W hB; go_simp; refine (c7.out W).mono ?_; rintro _ _ ⟨rfl, hb'⟩; exact ⟨rfl, hb'⟩)); simp only [Act.put, pvA, pv0, pv1])
  (apply calm_on rfl; (focus (intro W hB; go_simp; refine (c8.out W).mono ?_; rintro _ _ ⟨rfl, hb'⟩; exact ⟨rfl, hb'⟩)); simp only [Act.put, pvA, pv0, pv1])
  iterate 2 (refine calm_whole rfl 87 (.tmp 5) rfl bk5 rfl 87 (cells5 r3) hb5_5.out g5 (i5 r3) ?_; simp only [Act.put, pvA, pv0, pv1])
  (apply calm_on rfl; (focus (intro W hB; go_simp; refine (c9.out W).mono ?_; rintro _ _ ⟨rfl, hb'⟩; exact ⟨rfl, hb'⟩)); simp only [Act.put, pvA, pv0, pv1])
  (refine calm_whole rfl 87 (.tmp 8) rfl bk8 rfl 87 (cells5 r6) hb8_5.out g5 (i5 r6) ?_; simp only [Act.put, pvA, pv0, pv1])
  (apply calm_on rfl; (focus (intro W hB; go_simp; refine (c10.out W).mono ?_; rintro _ _ ⟨rfl, hb'⟩; exact ⟨rfl, hb'⟩)); simp only [Act.put, pvA, pv0, pv1])
  (refine calm_whole rfl 87 (.tmp 8) rfl bk8 rfl 87 (cells5 r6) hb8_5.out g5 (i5 r6) ?_; simp only [Act.put, pvA, pv0, pv1])
  (refine calm_whole rfl 87 (.tmp 6) rfl bk6 rfl 87 (cells5 r4) hb6_5.out g5 (i5 r4) ?_; simp only [Act.put, pvA, pv0, pv1])
  (apply calm_on rfl; (focus (intro W hB; go_simp; refine (c11.out W).mono ?_; rintro _ _ ⟨rfl, hb'⟩; exact ⟨rfl, hb'⟩)); simp only [Act.put, pvA, pv0, pv1])
  refine calm_nil ?_
  intro wx6 hx6
  simp only [List.drop_succ_cons, List.drop_zero]
  (try simp only [Act.put, pvA, pv0, pv1])
  have fb1 := hb1_5.out.step hx6
  have fb2 := hb2_5.out.step hx6
  have fb3 := hb3_5.out.step hx6
  have fb4 := hb4_5.out.step hx6
  have fb5 := hb5_5.out.step hx6
  have fb6 := hb6_5.out.step hx6
  have fb7 := hb7_5.out.step hx6
  have fb8 := hb8_5.out.step hx6
  have hbb := hbl5.trans (hx6.mono hbl5.size)
  refine wpList_set 89 (.tmp 2) (.tmp 47) rfl rfl rfl (w.heap.size + 1) (cells4 r11) rfl rfl 89 (cells4 zero4) fb2 (i4 r11) rfl (one_cells4 r11) ?_
  replace fb1 := fb1.other (show w.heap.size ≠ (w.heap.size + 1) by omega) (cells4 r11)
  replace fb2 := fb2.set (cells4 r11)
  replace fb3 := fb3.other (Ne.symm ne2_3) (cells4 r11)
  replace fb4 := fb4.other (Ne.symm ne2_4) (cells4 r11)
  replace fb5 := fb5.other (Ne.symm ne2_5) (cells4 r11)
  replace fb6 := fb6.other (Ne.symm ne2_6) (cells4 r11)
  replace fb7 := fb7.other (Ne.symm ne2_7) (cells4 r11)
  replace fb8 := fb8.other (Ne.symm ne2_8) (cells4 r11)
  replace hbb := below_set hbb (w.heap.size + 1) (by omega) (cells4 r11)
  refine wpList_nil ?_
  obtain ⟨w6, hw⟩ : ∃ z, z = (wx6.setRow (w.heap.size + 1) (cells4 r11)) := ⟨_, rfl⟩
  rw [← hw] at hbb fb1 fb2 fb3 fb4 fb5 fb6 fb7 fb8 ⊢
  have hb1_6 := hid fb1
  have hb2_6 := hid fb2
  have hb3_6 := hid fb3
  have hb4_6 := hid fb4
  have hb5_6 := hid fb5
  have hb6_6 := hid fb6
  have hb7_6 := hid fb7
  have hb8_6 := hid fb8
  have hbl6 := hbb
  clear hw hbb fb1 fb2 fb3 fb4 fb5 fb6 fb7 fb8 hx6 hbl5 hb1_5 hb2_5 hb3_5 hb4_5 hb5_5 hb6_5 hb7_5 hb8_5 
  (repeat ((fail_if_success (with_reducible refine Go.at_region ?_)); go_step))
  refine ret_blk (w.heap.size + 1) 89 (cells4 r11) rfl rfl hb2_6.out g4 (i4 r11) rfl ?_
  exact ⟨(by rw [E11.out, E10.out, E9.out, E8.out, E7.out, E6.out, E5.out, E4.out, E3.out, E2.out, E1.out]; first | done | rfl), hbl6⟩
set_option maxRecDepth 100000 in
set_option maxHeartbeats 4000000 in
theorem pointW_any (p : W4) (w : World) (hp : TW p) : Calls Tryz.prog 69 #[w4 p] w fun e w' => e = .returned (pt (pointW p)) ∧ Below w.heap.size w w' := by
  have c1 := hid fun w => inv5_any p.z w hp.z
  have t1 := inv5_t p.z hp.z
  obtain ⟨r1, e1⟩ : ∃ r, r = inv5 p.z := ⟨_, rfl⟩
  rw [← e1] at c1 t1
  replace t1 := hid t1
  have E1 := hid e1
  clear e1
  have c2 := hid fun w => mul5_any p.x r1 w hp.x t1.out
  have t2 := mul5_t p.x r1 hp.x t1.out
  obtain ⟨r2, e2⟩ : ∃ r, r = mul5 p.x r1 := ⟨_, rfl⟩
  rw [← e2] at c2 t2
  replace t2 := hid t2
  have E2 := hid e2
  clear e2
  have c3 := hid fun w => word5_any r2 w t2.out
  obtain ⟨r3, e3⟩ : ∃ r, r = val5 r2 % pN := ⟨_, rfl⟩
  rw [← e3] at c3
  have E3 := hid e3
  clear e3
  have c4 := hid fun w => mul5_any p.y r1 w hp.y t1.out
  have t4 := mul5_t p.y r1 hp.y t1.out
  obtain ⟨r4, e4⟩ : ∃ r, r = mul5 p.y r1 := ⟨_, rfl⟩
  rw [← e4] at c4 t4
  replace t4 := hid t4
  have E4 := hid e4
  clear e4
  have c5 := hid fun w => word5_any r4 w t4.out
  obtain ⟨r5, e5⟩ : ∃ r, r = val5 r4 % pN := ⟨_, rfl⟩
  rw [← e5] at c5
  have E5 := hid e5
  clear e5
  clear hp
  unfold fe w4 pt wd at *
  obtain ⟨w0, hw0, k1, k2, hbl0⟩ := entry2 w 89 (cells4 p) 29 (cellsP zeroP)
  have hb1_0 := hid k1
  have hb2_0 := hid k2
  clear k1 k2
  go_enter Tryz.func69, Tryz.ntmps69
  (repeat ((fail_if_success (with_reducible refine Go.at_region ?_)); go_step))
  refine wp_region_lit ?_
  (refine wpList_box 89 (.tmp 0) rfl rfl (cells4 p) rfl ?_; simp only [Act.put, pvA, pv0, pv1]; (try simp only [World.size_alloc]))
  (refine wpList_alloc_new rfl 29 rfl (cellsP zeroP) zPe ?_; simp only [Act.put, pvA, pv0, pv1]; (try simp only [World.size_alloc]))
  refine wpList_nil ?_
  rw [← hw0]
  clear hw0
  (repeat ((fail_if_success (with_reducible refine Go.at_region ?_)); go_step))
  refine list_tail 3 ?_
  simp only [List.take_succ_cons, List.take_zero]
  (apply calm_on rfl; (focus (intro W hB; go_simp; exact ⟨rfl, Below.refl _ _⟩)); simp only [Act.put, pvA, pv0, pv1])
  (refine calm_part rfl 87 (.tmp 4) rfl w.heap.size 10 rfl 89 (cells4 p) (cells5 (p).z) hb1_0.out (in4_z p) g5 (i5 (p).z) ?_; simp only [Act.put, pvA, pv0, pv1])
  (apply calm_on rfl; (focus (intro W hB; go_simp; refine (c1.out W).mono ?_; rintro _ _ ⟨rfl, hb'⟩; exact ⟨rfl, hb'⟩)); simp only [Act.put, pvA, pv0, pv1])
  refine calm_nil ?_
  intro wx1 hx1
  simp only [List.drop_succ_cons, List.drop_zero]
  (try simp only [Act.put, pvA, pv0, pv1])
  refine wpList_new 87 (cells5 zero5) rfl rfl z5 ?_
  intro bk3 wy1 hle3 hy1 hn3
  (try simp only [Act.put, pvA, pv0, pv1])
  replace hle3 := Nat.le_trans hx1.size hle3
  replace hx1 := hx1.trans (hy1.mono hx1.size)
  clear hy1
  have fb1 := hb1_0.out.step hx1
  have fb2 := hb2_0.out.step hx1
  have hbb := hbl0.trans (hx1.mono hbl0.size)
  have fb3 := hn3
  have ne1_3 : w.heap.size ≠ bk3 := by have := hb1_0.out.lt; omega
  have ne2_3 : (w.heap.size + 1) ≠ bk3 := by have := hb2_0.out.lt; omega
  have ge3 : w.heap.size ≤ bk3 := Nat.le_trans hbl0.size hle3
  refine wpList_set 87 (.tmp 3) (.tmp 6) rfl rfl rfl bk3 (cells5 r1) rfl rfl 87 (cells5 zero5) fb3 (i5 r1) rfl (one_cells5 r1) ?_
  replace fb1 := fb1.other ne1_3 (cells5 r1)
  replace fb2 := fb2.other ne2_3 (cells5 r1)
  replace fb3 := fb3.set (cells5 r1)
  replace hbb := below_set hbb bk3 (ge3) (cells5 r1)
  refine wpList_nil ?_
  obtain ⟨w1, hw⟩ : ∃ z, z = (wy1.setRow bk3 (cells5 r1)) := ⟨_, rfl⟩
  rw [← hw] at hbb fb1 fb2 fb3 ⊢
  have hb1_1 := hid fb1
  have hb2_1 := hid fb2
  have hb3_1 := hid fb3
  have hbl1 := hbb
  clear hw hbb fb1 fb2 fb3 hx1 hbl0 hb1_0 hb2_0 hle3 hn3
  (repeat ((fail_if_success (with_reducible refine Go.at_region ?_)); go_step))
  refine draw_tail 11 (by kernel_rfl) (by kernel_rfl) (by kernel_rfl) ?_
  simp only [List.take_succ_cons, List.take_zero]
  (apply calm_on rfl; (focus (intro W hB; go_simp; exact ⟨rfl, Below.refl _ _⟩)); simp only [Act.put, pvA, pv0, pv1])
  (refine calm_part rfl 87 (.tmp 7) rfl w.heap.size 0 rfl 89 (cells4 p) (cells5 (p).x) hb1_1.out (in4_x p) g5 (i5 (p).x) ?_; simp only [Act.put, pvA, pv0, pv1])
  (refine calm_whole rfl 87 (.tmp 3) rfl bk3 rfl 87 (cells5 r1) hb3_1.out g5 (i5 r1) ?_; simp only [Act.put, pvA, pv0, pv1])
  (apply calm_on rfl; (focus (intro W hB; go_simp; refine (c2.out W).mono ?_; rintro _ _ ⟨rfl, hb'⟩; exact ⟨rfl, hb'⟩)); simp only [Act.put, pvA, pv0, pv1])
  (apply calm_on rfl; (focus (intro W hB; go_simp; refine (c3.out W).mono ?_; rintro _ _ ⟨rfl, hb'⟩; exact ⟨rfl, hb'⟩)); simp only [Act.put, pvA, pv0, pv1])
  (apply calm_on rfl; (focus (intro W hB; go_simp; exact ⟨rfl, Below.refl _ _⟩)); simp only [Act.put, pvA, pv0, pv1])
  (refine calm_part rfl 87 (.tmp 12) rfl w.heap.size 5 rfl 89 (cells4 p) (cells5 (p).y) hb1_1.out (in4_y p) g5 (i5 (p).y) ?_; simp only [Act.put, pvA, pv0, pv1])
  (refine calm_whole rfl 87 (.tmp 3) rfl bk3 rfl 87 (cells5 r1) hb3_1.out g5 (i5 r1) ?_; simp only [Act.put, pvA, pv0, pv1])
  (apply calm_on rfl; (focus (intro W hB; go_simp; refine (c4.out W).mono ?_; rintro _ _ ⟨rfl, hb'⟩; exact ⟨rfl, hb'⟩)); simp only [Act.put, pvA, pv0, pv1])
  (apply calm_on rfl; (focus (intro W hB; go_simp; refine (c5.out W).mono ?_; rintro _ _ ⟨rfl, hb'⟩; exact ⟨rfl, hb'⟩)); simp only [Act.put, pvA, pv0, pv1])
  (refine calm_build rfl 29 _ rfl (cellsP ⟨r3, r5⟩) (by first | (simp only [List.map_toArray, List.map_cons, List.map_nil]; exact (bPe r3 r5)) | exact (bPe r3 r5)) ?_; simp only [Act.put, pvA, pv0, pv1])
  refine calm_nil ?_
  intro wx2 hx2
  simp only [List.drop_succ_cons, List.drop_zero]
  (try simp only [Act.put, pvA, pv0, pv1])
  have fb1 := hb1_1.out.step hx2
  have fb2 := hb2_1.out.step hx2
  have fb3 := hb3_1.out.step hx2
  have hbb := hbl1.trans (hx2.mono hbl1.size)
  refine wpList_set 29 (.tmp 2) (.tmp 17) rfl rfl rfl (w.heap.size + 1) (cellsP ⟨r3, r5⟩) rfl rfl 29 (cellsP zeroP) fb2 (iPe ⟨r3, r5⟩) rfl (one_cellsP ⟨r3, r5⟩) ?_
  replace fb1 := fb1.other (show w.heap.size ≠ (w.heap.size + 1) by omega) (cellsP ⟨r3, r5⟩)
  replace fb2 := fb2.set (cellsP ⟨r3, r5⟩)
  replace fb3 := fb3.other (Ne.symm ne2_3) (cellsP ⟨r3, r5⟩)
  replace hbb := below_set hbb (w.heap.size + 1) (by omega) (cellsP ⟨r3, r5⟩)
  refine wpList_nil ?_
  obtain ⟨w2, hw⟩ : ∃ z, z = (wx2.setRow (w.heap.size + 1) (cellsP ⟨r3, r5⟩)) := ⟨_, rfl⟩
  rw [← hw] at hbb fb1 fb2 fb3 ⊢
  have hb1_2 := hid fb1
  have hb2_2 := hid fb2
  have hb3_2 := hid fb3
  have hbl2 := hbb
  clear hw hbb fb1 fb2 fb3 hx2 hbl1 hb1_1 hb2_1 hb3_1 
  (repeat ((fail_if_success (with_reducible refine Go.at_region ?_)); go_step))
  refine ret_blk (w.heap.size + 1) 29 (cellsP ⟨r3, r5⟩) rfl rfl hb2_2.out gPe (iPe ⟨r3, r5⟩) rfl ?_
  exact ⟨(by rw [E5.out, E4.out, E3.out, E2.out, E1.out]; first | done | rfl), hbl2⟩
end Go.Proofs.YtejnnghfelpioaaGreat
namespace Go.Proofs.YtejnnghfelpioaaGreat
open Go.RowKit
def dG : G16 := ⟨30883, 4953, 19914, 30187, 55467, 16705, 2637, 112, 59544, 30585, 16505, 36039, 65139, 11119, 27886, 20995⟩
theorem dG_eq : dG = dgG dN := by
  have h : dG.l = dgL (dN : Int) := by decide +kernel
  unfold dgG
  rw [← h]; rfl
theorem dG_bd : BdG 65600 dG := by rw [dG_eq]; exact dgG_bd _
theorem bG_d : Tryz.prog.built 68 [(0, .int .i64 30883), (1, .int .i64 4953), (2, .int .i64 19914), (3, .int .i64 30187), (4, .int .i64 55467), (5, .int .i64 16705), (6, .int .i64 2637), (7, .int .i64 112), (8, .int .i64 59544), (9, .int .i64 30585), (10, .int .i64 16505), (11, .int .i64 36039), (12, .int .i64 65139), (13, .int .i64 11119), (14, .int .i64 27886), (15, .int .i64 20995)] = some (cellsG dG) := by kernel_rfl
def sumG (p q : F4) : F4 :=
  let a := timG (minsG p.y p.x) (minsG q.y q.x)
  let b := timG (plusG p.x p.y) (plusG q.x q.y)
  let c := timG (timG p.t q.t) dG
  let c2 := plusG c c
  let z := timG p.z q.z
  let z2 := plusG z z
  let e := minsG b a
  let f := minsG z2 c2
  let g := plusG z2 c2
  let h := plusG b a
  ⟨timG e f, timG g h, timG f g, timG e h⟩
def twiceG (p : F4) : F4 :=
  let a := timG p.x p.x
  let b := timG p.y p.y
  let c := timG p.z p.z
  let s := plusG p.x p.y
  let h := plusG a b
  let e := minsG h (timG s s)
  let g := minsG a b
  let f := plusG (plusG c c) g
  ⟨timG e f, timG g h, timG f g, timG e h⟩
def openG (p : P2) : F4 := ⟨dgG p.x, dgG p.y, oneG, timG (dgG p.x) (dgG p.y)⟩
def closeG (p : F4) : P2 := ⟨smG (timG p.x (invG p.z)), smG (timG p.y (invG p.z))⟩
theorem timG_bd6 (w : World) (a b : G16) (A B : Int) (ha : BdG A a) (hb : BdG B b) (hA : A ≤ 1048576) (hB : B ≤ 1048576) : BdG 65600 (timG a b) := timG_bd w a b (Gd.mono ha hA) (Gd.mono hb hB)
theorem openG_bd (w : World) (p : P2) : BdF (openG p) := ⟨dgG_bd _, dgG_bd _, oneG_bd, timG_bd6 w _ _ _ _ (dgG_bd _) (dgG_bd _) (by decide) (by decide)⟩
theorem sumG_bd (w : World) (p q : F4) (hp : BdF p) (hq : BdF q) : BdF (sumG p q) := by
  have a := timG_bd6 w _ _ _ _ (minsG_bd _ _ _ _ hp.y hp.x) (minsG_bd _ _ _ _ hq.y hq.x) (by decide) (by decide)
  have b := timG_bd6 w _ _ _ _ (plusG_bd _ _ _ _ hp.x hp.y) (plusG_bd _ _ _ _ hq.x hq.y) (by decide) (by decide)
  have c := timG_bd6 w _ _ _ _ (timG_bd6 w _ _ _ _ hp.t hq.t (by decide) (by decide)) dG_bd (by decide) (by decide)
  have c2 := plusG_bd _ _ _ _ c c
  have z := timG_bd6 w _ _ _ _ hp.z hq.z (by decide) (by decide)
  have z2 := plusG_bd _ _ _ _ z z
  have e := minsG_bd _ _ _ _ b a
  have f := minsG_bd _ _ _ _ z2 c2
  have g := plusG_bd _ _ _ _ z2 c2
  have h := plusG_bd _ _ _ _ b a
  exact ⟨timG_bd6 w _ _ _ _ e f (by decide) (by decide), timG_bd6 w _ _ _ _ g h (by decide) (by decide), timG_bd6 w _ _ _ _ f g (by decide) (by decide), timG_bd6 w _ _ _ _ e h (by decide) (by decide)⟩
theorem twiceG_bd (w : World) (p : F4) (hp : BdF p) : BdF (twiceG p) := by
  have a := timG_bd6 w _ _ _ _ hp.x hp.x (by decide) (by decide)
  have b := timG_bd6 w _ _ _ _ hp.y hp.y (by decide) (by decide)
  have c := timG_bd6 w _ _ _ _ hp.z hp.z (by decide) (by decide)
  have s := plusG_bd _ _ _ _ hp.x hp.y
  have h := plusG_bd _ _ _ _ a b
  have e := minsG_bd _ _ _ _ h (timG_bd6 w _ _ _ _ s s (by decide) (by decide))
  have g := minsG_bd _ _ _ _ a b
  have f := plusG_bd _ _ _ _ (plusG_bd _ _ _ _ c c) g
  exact ⟨timG_bd6 w _ _ _ _ e f (by decide) (by decide), timG_bd6 w _ _ _ _ g h (by decide) (by decide), timG_bd6 w _ _ _ _ f g (by decide) (by decide), timG_bd6 w _ _ _ _ e h (by decide) (by decide)⟩
set_option maxRecDepth 100000 in
set_option maxHeartbeats 4000000 in
theorem rd_any (w : World) : Calls Tryz.prog 43 #[] w fun e w' => e = .returned (gf dG) ∧ Below w.heap.size w w' := by
  unfold gf
  obtain ⟨w0, hw0, k0, hbl0⟩ := entry1 w 68 (cellsG zeroG)
  have hb0_0 := hid k0
  clear k0
  go_enter Tryz.func43, Tryz.ntmps43
  (repeat ((fail_if_success (with_reducible refine Go.at_region ?_)); go_step))
  refine wp_region_lit ?_
  (refine wpList_alloc_new rfl 68 rfl (cellsG zeroG) zG ?_; simp only [Act.put, pvA, pv0, pv1]; (try simp only [World.size_alloc]))
  refine wpList_nil ?_
  rw [← hw0]
  clear hw0
  (repeat ((fail_if_success (with_reducible refine Go.at_region ?_)); go_step))
  refine list_tail 1 ?_
  simp only [List.take_succ_cons, List.take_zero]
  (refine calm_build rfl 68 _ rfl (cellsG dG) (by first | (simp only [List.map_toArray, List.map_cons, List.map_nil]; exact bG_d) | exact bG_d) ?_; simp only [Act.put, pvA, pv0, pv1])
  refine calm_nil ?_
  intro wx1 hx1
  simp only [List.drop_succ_cons, List.drop_zero]
  (try simp only [Act.put, pvA, pv0, pv1])
  have fb0 := hb0_0.out.step hx1
  have hbb := hbl0.trans (hx1.mono hbl0.size)
  refine wpList_set 68 (.tmp 0) (.tmp 1) rfl rfl rfl w.heap.size (cellsG dG) rfl rfl 68 (cellsG zeroG) fb0 (iG dG) rfl (one_cellsG dG) ?_
  replace fb0 := fb0.set (cellsG dG)
  replace hbb := below_set hbb w.heap.size (by omega) (cellsG dG)
  refine wpList_nil ?_
  obtain ⟨w1, hw⟩ : ∃ z, z = (wx1.setRow w.heap.size (cellsG dG)) := ⟨_, rfl⟩
  rw [← hw] at hbb fb0 ⊢
  have hb0_1 := hid fb0
  have hbl1 := hbb
  clear hw hbb fb0 hx1 hbl0 hb0_0 
  (repeat ((fail_if_success (with_reducible refine Go.at_region ?_)); go_step))
  refine ret_blk w.heap.size 68 (cellsG dG) rfl rfl hb0_1.out gG (iG dG) rfl ?_
  exact ⟨rfl, hbl1⟩
set_option maxRecDepth 100000 in
set_option maxHeartbeats 4000000 in
theorem opened_any (p : P2) (w : World) (hp : LtP p) : Calls Tryz.prog 63 #[pt p] w fun e w' => e = .returned (full (openG p)) ∧ Below w.heap.size w w' := by
  have c1 := hid fun w => dgG_any p.x w hp.x
  have t1 := dgG_bd p.x
  obtain ⟨r1, e1⟩ : ∃ r, r = dgG p.x := ⟨_, rfl⟩
  rw [← e1] at c1 t1
  replace t1 := hid t1
  have E1 := hid e1
  clear e1
  have c2 := hid fun w => dgG_any p.y w hp.y
  have t2 := dgG_bd p.y
  obtain ⟨r2, e2⟩ : ∃ r, r = dgG p.y := ⟨_, rfl⟩
  rw [← e2] at c2 t2
  replace t2 := hid t2
  have E2 := hid e2
  clear e2
  have c3 := hid fun w => timG_any r1 r2 w (Gd.mono t1.out (by decide)) (Gd.mono t2.out (by decide))
  have t3 := timG_bd w r1 r2 (Gd.mono t1.out (by decide)) (Gd.mono t2.out (by decide))
  obtain ⟨r3, e3⟩ : ∃ r, r = timG r1 r2 := ⟨_, rfl⟩
  rw [← e3] at c3 t3
  replace t3 := hid t3
  have E3 := hid e3
  clear e3
  clear hp
  unfold gf full pt wd at *
  obtain ⟨w0, hw0, k1, k2, hbl0⟩ := entry2 w 26 (cellsP p) 96 (cellsF zeroF)
  have hb1_0 := hid k1
  have hb2_0 := hid k2
  clear k1 k2
  go_enter Tryz.func63, Tryz.ntmps63
  (repeat ((fail_if_success (with_reducible refine Go.at_region ?_)); go_step))
  refine wp_region_lit ?_
  (refine wpList_box 26 (.tmp 0) rfl rfl (cellsP p) rfl ?_; simp only [Act.put, pvA, pv0, pv1]; (try simp only [World.size_alloc]))
  (refine wpList_alloc_new rfl 96 rfl (cellsF zeroF) zF ?_; simp only [Act.put, pvA, pv0, pv1]; (try simp only [World.size_alloc]))
  refine wpList_nil ?_
  rw [← hw0]
  clear hw0
  (repeat ((fail_if_success (with_reducible refine Go.at_region ?_)); go_step))
  refine draw_new2 6 _ _ rfl 68 68 (cellsG zeroG) (cellsG zeroG) 3 4 rfl rfl rfl (by simp) zG rfl rfl rfl (by simp) zG (by decide) (by kernel_rfl) (by kernel_rfl) (by kernel_rfl) (by kernel_rfl) ?_
  simp only [List.take_succ_cons, List.take_zero]
  (apply calm_on rfl; (focus (intro W hB; go_simp; exact ⟨rfl, Below.refl _ _⟩)); simp only [Act.put, pvA, pv0, pv1])
  (refine calm_part rfl 24 (.tmp 5) rfl w.heap.size 0 rfl 26 (cellsP p) (cellsW (p).x) hb1_0.out (inP_x p) gWd (iW (p).x) ?_; simp only [Act.put, pvA, pv0, pv1])
  (apply calm_on rfl; (focus (intro W hB; go_simp; refine (c1.out W).mono ?_; rintro _ _ ⟨rfl, hb'⟩; exact ⟨rfl, hb'⟩)); simp only [Act.put, pvA, pv0, pv1])
  (apply calm_on rfl; (focus (intro W hB; go_simp; exact ⟨rfl, Below.refl _ _⟩)); simp only [Act.put, pvA, pv0, pv1])
  (refine calm_part rfl 24 (.tmp 8) rfl w.heap.size 4 rfl 26 (cellsP p) (cellsW (p).y) hb1_0.out (inP_y p) gWd (iW (p).y) ?_; simp only [Act.put, pvA, pv0, pv1])
  (apply calm_on rfl; (focus (intro W hB; go_simp; refine (c2.out W).mono ?_; rintro _ _ ⟨rfl, hb'⟩; exact ⟨rfl, hb'⟩)); simp only [Act.put, pvA, pv0, pv1])
  refine calm_nil ?_
  intro bk3 bk4 wx1 hle3 hle4 hne3 hx1 hn3 hn4
  simp only [List.drop_succ_cons, List.drop_zero]
  (try simp only [Act.put, pvA, pv0, pv1])
  have fb1 := hb1_0.out.step hx1
  have fb2 := hb2_0.out.step hx1
  have hbb := hbl0.trans (hx1.mono hbl0.size)
  have fb3 := hn3
  have fb4 := hn4
  have ne1_3 : w.heap.size ≠ bk3 := by have := hb1_0.out.lt; omega
  have ne2_3 : (w.heap.size + 1) ≠ bk3 := by have := hb2_0.out.lt; omega
  have ne1_4 : w.heap.size ≠ bk4 := by have := hb1_0.out.lt; omega
  have ne2_4 : (w.heap.size + 1) ≠ bk4 := by have := hb2_0.out.lt; omega
  have ge3 : w.heap.size ≤ bk3 := Nat.le_trans hbl0.size hle3
  have ge4 : w.heap.size ≤ bk4 := Nat.le_trans hbl0.size hle4
  refine wpList_set 68 (.tmp 3) (.tmp 7) rfl rfl rfl bk3 (cellsG r1) rfl rfl 68 (cellsG zeroG) fb3 (iG r1) rfl (one_cellsG r1) ?_
  replace fb1 := fb1.other ne1_3 (cellsG r1)
  replace fb2 := fb2.other ne2_3 (cellsG r1)
  replace fb3 := fb3.set (cellsG r1)
  replace fb4 := fb4.other (Ne.symm hne3) (cellsG r1)
  replace hbb := below_set hbb bk3 (ge3) (cellsG r1)
  refine wpList_set 68 (.tmp 4) (.tmp 10) rfl rfl rfl bk4 (cellsG r2) rfl rfl 68 (cellsG zeroG) fb4 (iG r2) rfl (one_cellsG r2) ?_
  replace fb1 := fb1.other ne1_4 (cellsG r2)
  replace fb2 := fb2.other ne2_4 (cellsG r2)
  replace fb3 := fb3.other hne3 (cellsG r2)
  replace fb4 := fb4.set (cellsG r2)
  replace hbb := below_set hbb bk4 (ge4) (cellsG r2)
  refine wpList_nil ?_
  obtain ⟨w1, hw⟩ : ∃ z, z = ((wx1.setRow bk3 (cellsG r1)).setRow bk4 (cellsG r2)) := ⟨_, rfl⟩
  rw [← hw] at hbb fb1 fb2 fb3 fb4 ⊢
  have hb1_1 := hid fb1
  have hb2_1 := hid fb2
  have hb3_1 := hid fb3
  have hb4_1 := hid fb4
  have hbl1 := hbb
  clear hw hbb fb1 fb2 fb3 fb4 hx1 hbl0 hb1_0 hb2_0 hle3 hn3 hle4 hn4
  (repeat ((fail_if_success (with_reducible refine Go.at_region ?_)); go_step))
  refine draw_tail 7 (by kernel_rfl) (by kernel_rfl) (by kernel_rfl) ?_
  simp only [List.take_succ_cons, List.take_zero]
  (refine calm_whole rfl 68 (.tmp 3) rfl bk3 rfl 68 (cellsG r1) hb3_1.out gG (iG r1) ?_; simp only [Act.put, pvA, pv0, pv1])
  (refine calm_whole rfl 68 (.tmp 4) rfl bk4 rfl 68 (cellsG r2) hb4_1.out gG (iG r2) ?_; simp only [Act.put, pvA, pv0, pv1])
  (refine calm_build rfl 68 _ rfl (cellsG oneG) (by first | (simp only [List.map_toArray, List.map_cons, List.map_nil]; exact bG1) | exact bG1) ?_; simp only [Act.put, pvA, pv0, pv1])
  (refine calm_whole rfl 68 (.tmp 3) rfl bk3 rfl 68 (cellsG r1) hb3_1.out gG (iG r1) ?_; simp only [Act.put, pvA, pv0, pv1])
  (refine calm_whole rfl 68 (.tmp 4) rfl bk4 rfl 68 (cellsG r2) hb4_1.out gG (iG r2) ?_; simp only [Act.put, pvA, pv0, pv1])
  (apply calm_on rfl; (focus (intro W hB; go_simp; refine (c3.out W).mono ?_; rintro _ _ ⟨rfl, hb'⟩; exact ⟨rfl, hb'⟩)); simp only [Act.put, pvA, pv0, pv1])
  (refine calm_build rfl 96 _ rfl (cellsF ⟨r1, r2, oneG, r3⟩) (by first | (simp only [List.map_toArray, List.map_cons, List.map_nil]; exact (bF r1 r2 oneG r3)) | exact (bF r1 r2 oneG r3)) ?_; simp only [Act.put, pvA, pv0, pv1])
  refine calm_nil ?_
  intro wx2 hx2
  simp only [List.drop_succ_cons, List.drop_zero]
  (try simp only [Act.put, pvA, pv0, pv1])
  have fb1 := hb1_1.out.step hx2
  have fb2 := hb2_1.out.step hx2
  have fb3 := hb3_1.out.step hx2
  have fb4 := hb4_1.out.step hx2
  have hbb := hbl1.trans (hx2.mono hbl1.size)
  refine wpList_set 96 (.tmp 2) (.tmp 17) rfl rfl rfl (w.heap.size + 1) (cellsF ⟨r1, r2, oneG, r3⟩) rfl rfl 96 (cellsF zeroF) fb2 (iF4 ⟨r1, r2, oneG, r3⟩) rfl (one_cellsF ⟨r1, r2, oneG, r3⟩) ?_
  replace fb1 := fb1.other (show w.heap.size ≠ (w.heap.size + 1) by omega) (cellsF ⟨r1, r2, oneG, r3⟩)
  replace fb2 := fb2.set (cellsF ⟨r1, r2, oneG, r3⟩)
  replace fb3 := fb3.other (Ne.symm ne2_3) (cellsF ⟨r1, r2, oneG, r3⟩)
  replace fb4 := fb4.other (Ne.symm ne2_4) (cellsF ⟨r1, r2, oneG, r3⟩)
  replace hbb := below_set hbb (w.heap.size + 1) (by omega) (cellsF ⟨r1, r2, oneG, r3⟩)
  refine wpList_nil ?_
  obtain ⟨w2, hw⟩ : ∃ z, z = (wx2.setRow (w.heap.size + 1) (cellsF ⟨r1, r2, oneG, r3⟩)) := ⟨_, rfl⟩
  rw [← hw] at hbb fb1 fb2 fb3 fb4 ⊢
  have hb1_2 := hid fb1
  have hb2_2 := hid fb2
  have hb3_2 := hid fb3
  have hb4_2 := hid fb4
  have hbl2 := hbb
  clear hw hbb fb1 fb2 fb3 fb4 hx2 hbl1 hb1_1 hb2_1 hb3_1 hb4_1 
  (repeat ((fail_if_success (with_reducible refine Go.at_region ?_)); go_step))
  refine ret_blk (w.heap.size + 1) 96 (cellsF ⟨r1, r2, oneG, r3⟩) rfl rfl hb2_2.out gF (iF4 ⟨r1, r2, oneG, r3⟩) rfl ?_
  exact ⟨(by rw [E3.out, E2.out, E1.out]; first | done | rfl), hbl2⟩
set_option maxRecDepth 100000 in
set_option maxHeartbeats 4000000 in
theorem closed_any (p : F4) (w : World) (hp : BdF p) : Calls Tryz.prog 61 #[full p] w fun e w' => e = .returned (pt (closeG p)) ∧ Below w.heap.size w w' := by
  have c1 := hid fun w => invG_any p.z w (Gd.mono hp.z (by decide))
  have t1 := invG_bd w p.z (Gd.mono hp.z (by decide))
  obtain ⟨r1, e1⟩ : ∃ r, r = invG p.z := ⟨_, rfl⟩
  rw [← e1] at c1 t1
  replace t1 := hid t1
  have E1 := hid e1
  clear e1
  have c2 := hid fun w => timG_any p.x r1 w (Gd.mono hp.x (by decide)) (Gd.mono t1.out (by decide))
  have t2 := timG_bd w p.x r1 (Gd.mono hp.x (by decide)) (Gd.mono t1.out (by decide))
  obtain ⟨r2, e2⟩ : ∃ r, r = timG p.x r1 := ⟨_, rfl⟩
  rw [← e2] at c2 t2
  replace t2 := hid t2
  have E2 := hid e2
  clear e2
  have c3 := hid fun w => smG_any r2 w (Gd.mono t2.out (by decide))
  obtain ⟨r3, e3⟩ : ∃ r, r = smG r2 := ⟨_, rfl⟩
  rw [← e3] at c3
  have E3 := hid e3
  clear e3
  have c4 := hid fun w => timG_any p.y r1 w (Gd.mono hp.y (by decide)) (Gd.mono t1.out (by decide))
  have t4 := timG_bd w p.y r1 (Gd.mono hp.y (by decide)) (Gd.mono t1.out (by decide))
  obtain ⟨r4, e4⟩ : ∃ r, r = timG p.y r1 := ⟨_, rfl⟩
  rw [← e4] at c4 t4
  replace t4 := hid t4
  have E4 := hid e4
  clear e4
  have c5 := hid fun w => smG_any r4 w (Gd.mono t4.out (by decide))
  obtain ⟨r5, e5⟩ : ∃ r, r = smG r4 := ⟨_, rfl⟩
  rw [← e5] at c5
  have E5 := hid e5
  clear e5
  clear hp
  unfold gf full pt wd at *
  obtain ⟨w0, hw0, k1, k2, hbl0⟩ := entry2 w 96 (cellsF p) 26 (cellsP zeroP)
  have hb1_0 := hid k1
  have hb2_0 := hid k2
  clear k1 k2
  go_enter Tryz.func61, Tryz.ntmps61
  (repeat ((fail_if_success (with_reducible refine Go.at_region ?_)); go_step))
  refine wp_region_lit ?_
  (refine wpList_box 96 (.tmp 0) rfl rfl (cellsF p) rfl ?_; simp only [Act.put, pvA, pv0, pv1]; (try simp only [World.size_alloc]))
  (refine wpList_alloc_new rfl 26 rfl (cellsP zeroP) zPr ?_; simp only [Act.put, pvA, pv0, pv1]; (try simp only [World.size_alloc]))
  refine wpList_nil ?_
  rw [← hw0]
  clear hw0
  (repeat ((fail_if_success (with_reducible refine Go.at_region ?_)); go_step))
  refine list_tail 3 ?_
  simp only [List.take_succ_cons, List.take_zero]
  (apply calm_on rfl; (focus (intro W hB; go_simp; exact ⟨rfl, Below.refl _ _⟩)); simp only [Act.put, pvA, pv0, pv1])
  (refine calm_part rfl 68 (.tmp 4) rfl w.heap.size 32 rfl 96 (cellsF p) (cellsG (p).z) hb1_0.out (inF_z p) gG (iG (p).z) ?_; simp only [Act.put, pvA, pv0, pv1])
  (apply calm_on rfl; (focus (intro W hB; go_simp; refine (c1.out W).mono ?_; rintro _ _ ⟨rfl, hb'⟩; exact ⟨rfl, hb'⟩)); simp only [Act.put, pvA, pv0, pv1])
  refine calm_nil ?_
  intro wx1 hx1
  simp only [List.drop_succ_cons, List.drop_zero]
  (try simp only [Act.put, pvA, pv0, pv1])
  refine wpList_new 68 (cellsG zeroG) rfl rfl zG ?_
  intro bk3 wy1 hle3 hy1 hn3
  (try simp only [Act.put, pvA, pv0, pv1])
  replace hle3 := Nat.le_trans hx1.size hle3
  replace hx1 := hx1.trans (hy1.mono hx1.size)
  clear hy1
  have fb1 := hb1_0.out.step hx1
  have fb2 := hb2_0.out.step hx1
  have hbb := hbl0.trans (hx1.mono hbl0.size)
  have fb3 := hn3
  have ne1_3 : w.heap.size ≠ bk3 := by have := hb1_0.out.lt; omega
  have ne2_3 : (w.heap.size + 1) ≠ bk3 := by have := hb2_0.out.lt; omega
  have ge3 : w.heap.size ≤ bk3 := Nat.le_trans hbl0.size hle3
  refine wpList_set 68 (.tmp 3) (.tmp 6) rfl rfl rfl bk3 (cellsG r1) rfl rfl 68 (cellsG zeroG) fb3 (iG r1) rfl (one_cellsG r1) ?_
  replace fb1 := fb1.other ne1_3 (cellsG r1)
  replace fb2 := fb2.other ne2_3 (cellsG r1)
  replace fb3 := fb3.set (cellsG r1)
  replace hbb := below_set hbb bk3 (ge3) (cellsG r1)
  refine wpList_nil ?_
  obtain ⟨w1, hw⟩ : ∃ z, z = (wy1.setRow bk3 (cellsG r1)) := ⟨_, rfl⟩
  rw [← hw] at hbb fb1 fb2 fb3 ⊢
  have hb1_1 := hid fb1
  have hb2_1 := hid fb2
  have hb3_1 := hid fb3
  have hbl1 := hbb
  clear hw hbb fb1 fb2 fb3 hx1 hbl0 hb1_0 hb2_0 hle3 hn3
  (repeat ((fail_if_success (with_reducible refine Go.at_region ?_)); go_step))
  refine draw_tail 11 (by kernel_rfl) (by kernel_rfl) (by kernel_rfl) ?_
  simp only [List.take_succ_cons, List.take_zero]
  (apply calm_on rfl; (focus (intro W hB; go_simp; exact ⟨rfl, Below.refl _ _⟩)); simp only [Act.put, pvA, pv0, pv1])
  (refine calm_part rfl 68 (.tmp 7) rfl w.heap.size 0 rfl 96 (cellsF p) (cellsG (p).x) hb1_1.out (inF_x p) gG (iG (p).x) ?_; simp only [Act.put, pvA, pv0, pv1])
  (refine calm_whole rfl 68 (.tmp 3) rfl bk3 rfl 68 (cellsG r1) hb3_1.out gG (iG r1) ?_; simp only [Act.put, pvA, pv0, pv1])
  (apply calm_on rfl; (focus (intro W hB; go_simp; refine (c2.out W).mono ?_; rintro _ _ ⟨rfl, hb'⟩; exact ⟨rfl, hb'⟩)); simp only [Act.put, pvA, pv0, pv1])
  (apply calm_on rfl; (focus (intro W hB; go_simp; refine (c3.out W).mono ?_; rintro _ _ ⟨rfl, hb'⟩; exact ⟨rfl, hb'⟩)); simp only [Act.put, pvA, pv0, pv1])
  (apply calm_on rfl; (focus (intro W hB; go_simp; exact ⟨rfl, Below.refl _ _⟩)); simp only [Act.put, pvA, pv0, pv1])
  (refine calm_part rfl 68 (.tmp 12) rfl w.heap.size 16 rfl 96 (cellsF p) (cellsG (p).y) hb1_1.out (inF_y p) gG (iG (p).y) ?_; simp only [Act.put, pvA, pv0, pv1])
  (refine calm_whole rfl 68 (.tmp 3) rfl bk3 rfl 68 (cellsG r1) hb3_1.out gG (iG r1) ?_; simp only [Act.put, pvA, pv0, pv1])
  (apply calm_on rfl; (focus (intro W hB; go_simp; refine (c4.out W).mono ?_; rintro _ _ ⟨rfl, hb'⟩; exact ⟨rfl, hb'⟩)); simp only [Act.put, pvA, pv0, pv1])
  (apply calm_on rfl; (focus (intro W hB; go_simp; refine (c5.out W).mono ?_; rintro _ _ ⟨rfl, hb'⟩; exact ⟨rfl, hb'⟩)); simp only [Act.put, pvA, pv0, pv1])
  (refine calm_build rfl 26 _ rfl (cellsP ⟨r3, r5⟩) (by first | (simp only [List.map_toArray, List.map_cons, List.map_nil]; exact (bPr r3 r5)) | exact (bPr r3 r5)) ?_; simp only [Act.put, pvA, pv0, pv1])
  refine calm_nil ?_
  intro wx2 hx2
  simp only [List.drop_succ_cons, List.drop_zero]
  (try simp only [Act.put, pvA, pv0, pv1])
  have fb1 := hb1_1.out.step hx2
  have fb2 := hb2_1.out.step hx2
  have fb3 := hb3_1.out.step hx2
  have hbb := hbl1.trans (hx2.mono hbl1.size)
  refine wpList_set 26 (.tmp 2) (.tmp 17) rfl rfl rfl (w.heap.size + 1) (cellsP ⟨r3, r5⟩) rfl rfl 26 (cellsP zeroP) fb2 (iPr ⟨r3, r5⟩) rfl (one_cellsP ⟨r3, r5⟩) ?_
  replace fb1 := fb1.other (show w.heap.size ≠ (w.heap.size + 1) by omega) (cellsP ⟨r3, r5⟩)
  replace fb2 := fb2.set (cellsP ⟨r3, r5⟩)
  replace fb3 := fb3.other (Ne.symm ne2_3) (cellsP ⟨r3, r5⟩)
  replace hbb := below_set hbb (w.heap.size + 1) (by omega) (cellsP ⟨r3, r5⟩)
  refine wpList_nil ?_
  obtain ⟨w2, hw⟩ : ∃ z, z = (wx2.setRow (w.heap.size + 1) (cellsP ⟨r3, r5⟩)) := ⟨_, rfl⟩
  rw [← hw] at hbb fb1 fb2 fb3 ⊢
  have hb1_2 := hid fb1
  have hb2_2 := hid fb2
  have hb3_2 := hid fb3
  have hbl2 := hbb
  clear hw hbb fb1 fb2 fb3 hx2 hbl1 hb1_1 hb2_1 hb3_1 
  (repeat ((fail_if_success (with_reducible refine Go.at_region ?_)); go_step))
  refine ret_blk (w.heap.size + 1) 26 (cellsP ⟨r3, r5⟩) rfl rfl hb2_2.out gPr (iPr ⟨r3, r5⟩) rfl ?_
  exact ⟨(by rw [E5.out, E4.out, E3.out, E2.out, E1.out]; first | done | rfl), hbl2⟩
set_option maxRecDepth 100000 in
set_option maxHeartbeats 4000000 in
theorem sum_any (p q : F4) (w : World) (hp : BdF p) (hq : BdF q) : Calls Tryz.prog 64 #[full p, full q] w fun e w' => e = .returned (full (sumG p q)) ∧ Below w.heap.size w w' := by
  have c1 := hid fun w => minsG_any p.y p.x w (Gd.mono hp.y (by decide)) (Gd.mono hp.x (by decide))
  have t1 := minsG_bd _ _ p.y p.x hp.y hp.x
  obtain ⟨r1, e1⟩ : ∃ r, r = minsG p.y p.x := ⟨_, rfl⟩
  rw [← e1] at c1 t1
  replace t1 := hid t1
  have E1 := hid e1
  clear e1
  have c2 := hid fun w => minsG_any q.y q.x w (Gd.mono hq.y (by decide)) (Gd.mono hq.x (by decide))
  have t2 := minsG_bd _ _ q.y q.x hq.y hq.x
  obtain ⟨r2, e2⟩ : ∃ r, r = minsG q.y q.x := ⟨_, rfl⟩
  rw [← e2] at c2 t2
  replace t2 := hid t2
  have E2 := hid e2
  clear e2
  have c3 := hid fun w => timG_any r1 r2 w (Gd.mono t1.out (by decide)) (Gd.mono t2.out (by decide))
  have t3 := timG_bd w r1 r2 (Gd.mono t1.out (by decide)) (Gd.mono t2.out (by decide))
  obtain ⟨r3, e3⟩ : ∃ r, r = timG r1 r2 := ⟨_, rfl⟩
  rw [← e3] at c3 t3
  replace t3 := hid t3
  have E3 := hid e3
  clear e3
  have c4 := hid fun w => plusG_any p.x p.y w (Gd.mono hp.x (by decide)) (Gd.mono hp.y (by decide))
  have t4 := plusG_bd _ _ p.x p.y hp.x hp.y
  obtain ⟨r4, e4⟩ : ∃ r, r = plusG p.x p.y := ⟨_, rfl⟩
  rw [← e4] at c4 t4
  replace t4 := hid t4
  have E4 := hid e4
  clear e4
  have c5 := hid fun w => plusG_any q.x q.y w (Gd.mono hq.x (by decide)) (Gd.mono hq.y (by decide))
  have t5 := plusG_bd _ _ q.x q.y hq.x hq.y
  obtain ⟨r5, e5⟩ : ∃ r, r = plusG q.x q.y := ⟨_, rfl⟩
  rw [← e5] at c5 t5
  replace t5 := hid t5
  have E5 := hid e5
  clear e5
  have c6 := hid fun w => timG_any r4 r5 w (Gd.mono t4.out (by decide)) (Gd.mono t5.out (by decide))
  have t6 := timG_bd w r4 r5 (Gd.mono t4.out (by decide)) (Gd.mono t5.out (by decide))
  obtain ⟨r6, e6⟩ : ∃ r, r = timG r4 r5 := ⟨_, rfl⟩
  rw [← e6] at c6 t6
  replace t6 := hid t6
  have E6 := hid e6
  clear e6
  have c7 := hid fun w => timG_any p.t q.t w (Gd.mono hp.t (by decide)) (Gd.mono hq.t (by decide))
  have t7 := timG_bd w p.t q.t (Gd.mono hp.t (by decide)) (Gd.mono hq.t (by decide))
  obtain ⟨r7, e7⟩ : ∃ r, r = timG p.t q.t := ⟨_, rfl⟩
  rw [← e7] at c7 t7
  replace t7 := hid t7
  have E7 := hid e7
  clear e7
  have cd := hid fun w => rd_any w
  have c8 := hid fun w => timG_any r7 dG w (Gd.mono t7.out (by decide)) (Gd.mono dG_bd (by decide))
  have t8 := timG_bd w r7 dG (Gd.mono t7.out (by decide)) (Gd.mono dG_bd (by decide))
  obtain ⟨r8, e8⟩ : ∃ r, r = timG r7 dG := ⟨_, rfl⟩
  rw [← e8] at c8 t8
  replace t8 := hid t8
  have E8 := hid e8
  clear e8
  have c9 := hid fun w => plusG_any r8 r8 w (Gd.mono t8.out (by decide)) (Gd.mono t8.out (by decide))
  have t9 := plusG_bd _ _ r8 r8 t8.out t8.out
  obtain ⟨r9, e9⟩ : ∃ r, r = plusG r8 r8 := ⟨_, rfl⟩
  rw [← e9] at c9 t9
  replace t9 := hid t9
  have E9 := hid e9
  clear e9
  have c10 := hid fun w => timG_any p.z q.z w (Gd.mono hp.z (by decide)) (Gd.mono hq.z (by decide))
  have t10 := timG_bd w p.z q.z (Gd.mono hp.z (by decide)) (Gd.mono hq.z (by decide))
  obtain ⟨r10, e10⟩ : ∃ r, r = timG p.z q.z := ⟨_, rfl⟩
  rw [← e10] at c10 t10
  replace t10 := hid t10
  have E10 := hid e10
  clear e10
  have c11 := hid fun w => plusG_any r10 r10 w (Gd.mono t10.out (by decide)) (Gd.mono t10.out (by decide))
  have t11 := plusG_bd _ _ r10 r10 t10.out t10.out
  obtain ⟨r11, e11⟩ : ∃ r, r = plusG r10 r10 := ⟨_, rfl⟩
  rw [← e11] at c11 t11
  replace t11 := hid t11
  have E11 := hid e11
  clear e11
  have c12 := hid fun w => minsG_any r6 r3 w (Gd.mono t6.out (by decide)) (Gd.mono t3.out (by decide))
  have t12 := minsG_bd _ _ r6 r3 t6.out t3.out
  obtain ⟨r12, e12⟩ : ∃ r, r = minsG r6 r3 := ⟨_, rfl⟩
  rw [← e12] at c12 t12
  replace t12 := hid t12
  have E12 := hid e12
  clear e12
  have c13 := hid fun w => minsG_any r11 r9 w (Gd.mono t11.out (by decide)) (Gd.mono t9.out (by decide))
  have t13 := minsG_bd _ _ r11 r9 t11.out t9.out
  obtain ⟨r13, e13⟩ : ∃ r, r = minsG r11 r9 := ⟨_, rfl⟩
  rw [← e13] at c13 t13
  replace t13 := hid t13
  have E13 := hid e13
  clear e13
  have c14 := hid fun w => plusG_any r11 r9 w (Gd.mono t11.out (by decide)) (Gd.mono t9.out (by decide))
  have t14 := plusG_bd _ _ r11 r9 t11.out t9.out
  obtain ⟨r14, e14⟩ : ∃ r, r = plusG r11 r9 := ⟨_, rfl⟩
  rw [← e14] at c14 t14
  replace t14 := hid t14
  have E14 := hid e14
  clear e14
  have c15 := hid fun w => plusG_any r6 r3 w (Gd.mono t6.out (by decide)) (Gd.mono t3.out (by decide))
  have t15 := plusG_bd _ _ r6 r3 t6.out t3.out
  obtain ⟨r15, e15⟩ : ∃ r, r = plusG r6 r3 := ⟨_, rfl⟩
  rw [← e15] at c15 t15
  replace t15 := hid t15
  have E15 := hid e15
  clear e15
  have c16 := hid fun w => timG_any r12 r13 w (Gd.mono t12.out (by decide)) (Gd.mono t13.out (by decide))
  have t16 := timG_bd w r12 r13 (Gd.mono t12.out (by decide)) (Gd.mono t13.out (by decide))
  obtain ⟨r16, e16⟩ : ∃ r, r = timG r12 r13 := ⟨_, rfl⟩
  rw [← e16] at c16 t16
  replace t16 := hid t16
  have E16 := hid e16
  clear e16
  have c17 := hid fun w => timG_any r14 r15 w (Gd.mono t14.out (by decide)) (Gd.mono t15.out (by decide))
  have t17 := timG_bd w r14 r15 (Gd.mono t14.out (by decide)) (Gd.mono t15.out (by decide))
  obtain ⟨r17, e17⟩ : ∃ r, r = timG r14 r15 := ⟨_, rfl⟩
  rw [← e17] at c17 t17
  replace t17 := hid t17
  have E17 := hid e17
  clear e17
  have c18 := hid fun w => timG_any r13 r14 w (Gd.mono t13.out (by decide)) (Gd.mono t14.out (by decide))
  have t18 := timG_bd w r13 r14 (Gd.mono t13.out (by decide)) (Gd.mono t14.out (by decide))
  obtain ⟨r18, e18⟩ : ∃ r, r = timG r13 r14 := ⟨_, rfl⟩
  rw [← e18] at c18 t18
  replace t18 := hid t18
  have E18 := hid e18
  clear e18
  have c19 := hid fun w => timG_any r12 r15 w (Gd.mono t12.out (by decide)) (Gd.mono t15.out (by decide))
  have t19 := timG_bd w r12 r15 (Gd.mono t12.out (by decide)) (Gd.mono t15.out (by decide))
  obtain ⟨r19, e19⟩ : ∃ r, r = timG r12 r15 := ⟨_, rfl⟩
  rw [← e19] at c19 t19
  replace t19 := hid t19
  have E19 := hid e19
  clear e19
  clear hp hq
  unfold gf full at *
  obtain ⟨w0, hw0, k2, k3, k4, hbl0⟩ := entry3 w 96 (cellsF p) 96 (cellsF q) 96 (cellsF zeroF)
  have hb2_0 := hid k2
  have hb3_0 := hid k3
  have hb4_0 := hid k4
  clear k2 k3 k4
  go_enter Tryz.func64, Tryz.ntmps64
  (repeat ((fail_if_success (with_reducible refine Go.at_region ?_)); go_step))
  refine wp_region_lit ?_
  (refine wpList_box 96 (.tmp 0) rfl rfl (cellsF p) rfl ?_; simp only [Act.put, pvA, pv0, pv1]; (try simp only [World.size_alloc]))
  (refine wpList_box 96 (.tmp 1) rfl rfl (cellsF q) rfl ?_; simp only [Act.put, pvA, pv0, pv1]; (try simp only [World.size_alloc]))
  (refine wpList_alloc_new rfl 96 rfl (cellsF zeroF) zF ?_; simp only [Act.put, pvA, pv0, pv1]; (try simp only [World.size_alloc]))
  refine wpList_nil ?_
  rw [← hw0]
  clear hw0
  (repeat ((fail_if_success (with_reducible refine Go.at_region ?_)); go_step))
  refine draw_new1 11 _ rfl 68 (cellsG zeroG) 5 rfl rfl rfl (by simp) zG (by kernel_rfl) (by kernel_rfl) (by kernel_rfl) ?_
  simp only [List.take_succ_cons, List.take_zero]
  (apply calm_on rfl; (focus (intro W hB; go_simp; exact ⟨rfl, Below.refl _ _⟩)); simp only [Act.put, pvA, pv0, pv1])
  (refine calm_part rfl 68 (.tmp 13) rfl w.heap.size 16 rfl 96 (cellsF p) (cellsG (p).y) hb2_0.out (inF_y p) gG (iG (p).y) ?_; simp only [Act.put, pvA, pv0, pv1])
  (apply calm_on rfl; (focus (intro W hB; go_simp; exact ⟨rfl, Below.refl _ _⟩)); simp only [Act.put, pvA, pv0, pv1])
  (refine calm_part rfl 68 (.tmp 15) rfl w.heap.size 0 rfl 96 (cellsF p) (cellsG (p).x) hb2_0.out (inF_x p) gG (iG (p).x) ?_; simp only [Act.put, pvA, pv0, pv1])
  (apply calm_on rfl; (focus (intro W hB; go_simp; refine (c1.out W).mono ?_; rintro _ _ ⟨rfl, hb'⟩; exact ⟨rfl, hb'⟩)); simp only [Act.put, pvA, pv0, pv1])
  (apply calm_on rfl; (focus (intro W hB; go_simp; exact ⟨rfl, Below.refl _ _⟩)); simp only [Act.put, pvA, pv0, pv1])
  (refine calm_part rfl 68 (.tmp 18) rfl (w.heap.size + 1) 16 rfl 96 (cellsF q) (cellsG (q).y) hb3_0.out (inF_y q) gG (iG (q).y) ?_; simp only [Act.put, pvA, pv0, pv1])
  (apply calm_on rfl; (focus (intro W hB; go_simp; exact ⟨rfl, Below.refl _ _⟩)); simp only [Act.put, pvA, pv0, pv1])
  (refine calm_part rfl 68 (.tmp 20) rfl (w.heap.size + 1) 0 rfl 96 (cellsF q) (cellsG (q).x) hb3_0.out (inF_x q) gG (iG (q).x) ?_; simp only [Act.put, pvA, pv0, pv1])
  (apply calm_on rfl; (focus (intro W hB; go_simp; refine (c2.out W).mono ?_; rintro _ _ ⟨rfl, hb'⟩; exact ⟨rfl, hb'⟩)); simp only [Act.put, pvA, pv0, pv1])
  (apply calm_on rfl; (focus (intro W hB; go_simp; refine (c3.out W).mono ?_; rintro _ _ ⟨rfl, hb'⟩; exact ⟨rfl, hb'⟩)); simp only [Act.put, pvA, pv0, pv1])
  refine calm_nil ?_
  intro bk5 wx1 hle5 hx1 hn5
  simp only [List.drop_succ_cons, List.drop_zero]
  (try simp only [Act.put, pvA, pv0, pv1])
  have fb2 := hb2_0.out.step hx1
  have fb3 := hb3_0.out.step hx1
  have fb4 := hb4_0.out.step hx1
  have hbb := hbl0.trans (hx1.mono hbl0.size)
  have fb5 := hn5
  have ne2_5 : w.heap.size ≠ bk5 := by have := hb2_0.out.lt; omega
  have ne3_5 : (w.heap.size + 1) ≠ bk5 := by have := hb3_0.out.lt; omega
  have ne4_5 : (w.heap.size + 1 + 1) ≠ bk5 := by have := hb4_0.out.lt; omega
  have ge5 : w.heap.size ≤ bk5 := Nat.le_trans hbl0.size hle5
  refine wpList_set 68 (.tmp 5) (.tmp 23) rfl rfl rfl bk5 (cellsG r3) rfl rfl 68 (cellsG zeroG) fb5 (iG r3) rfl (one_cellsG r3) ?_
  replace fb2 := fb2.other ne2_5 (cellsG r3)
  replace fb3 := fb3.other ne3_5 (cellsG r3)
  replace fb4 := fb4.other ne4_5 (cellsG r3)
  replace fb5 := fb5.set (cellsG r3)
  replace hbb := below_set hbb bk5 (ge5) (cellsG r3)
  refine wpList_nil ?_
  obtain ⟨w1, hw⟩ : ∃ z, z = (wx1.setRow bk5 (cellsG r3)) := ⟨_, rfl⟩
  rw [← hw] at hbb fb2 fb3 fb4 fb5 ⊢
  have hb2_1 := hid fb2
  have hb3_1 := hid fb3
  have hb4_1 := hid fb4
  have hb5_1 := hid fb5
  have hbl1 := hbb
  clear hw hbb fb2 fb3 fb4 fb5 hx1 hbl0 hb2_0 hb3_0 hb4_0 hle5 hn5
  (repeat ((fail_if_success (with_reducible refine Go.at_region ?_)); go_step))
  refine draw_new1 11 _ rfl 68 (cellsG zeroG) 6 rfl rfl rfl (by simp) zG (by kernel_rfl) (by kernel_rfl) (by kernel_rfl) ?_
  simp only [List.take_succ_cons, List.take_zero]
  (apply calm_on rfl; (focus (intro W hB; go_simp; exact ⟨rfl, Below.refl _ _⟩)); simp only [Act.put, pvA, pv0, pv1])
  (refine calm_part rfl 68 (.tmp 24) rfl w.heap.size 0 rfl 96 (cellsF p) (cellsG (p).x) hb2_1.out (inF_x p) gG (iG (p).x) ?_; simp only [Act.put, pvA, pv0, pv1])
  (apply calm_on rfl; (focus (intro W hB; go_simp; exact ⟨rfl, Below.refl _ _⟩)); simp only [Act.put, pvA, pv0, pv1])
  (refine calm_part rfl 68 (.tmp 26) rfl w.heap.size 16 rfl 96 (cellsF p) (cellsG (p).y) hb2_1.out (inF_y p) gG (iG (p).y) ?_; simp only [Act.put, pvA, pv0, pv1])
  (apply calm_on rfl; (focus (intro W hB; go_simp; refine (c4.out W).mono ?_; rintro _ _ ⟨rfl, hb'⟩; exact ⟨rfl, hb'⟩)); simp only [Act.put, pvA, pv0, pv1])
  (apply calm_on rfl; (focus (intro W hB; go_simp; exact ⟨rfl, Below.refl _ _⟩)); simp only [Act.put, pvA, pv0, pv1])
  (refine calm_part rfl 68 (.tmp 29) rfl (w.heap.size + 1) 0 rfl 96 (cellsF q) (cellsG (q).x) hb3_1.out (inF_x q) gG (iG (q).x) ?_; simp only [Act.put, pvA, pv0, pv1])
  (apply calm_on rfl; (focus (intro W hB; go_simp; exact ⟨rfl, Below.refl _ _⟩)); simp only [Act.put, pvA, pv0, pv1])
  (refine calm_part rfl 68 (.tmp 31) rfl (w.heap.size + 1) 16 rfl 96 (cellsF q) (cellsG (q).y) hb3_1.out (inF_y q) gG (iG (q).y) ?_; simp only [Act.put, pvA, pv0, pv1])
  (apply calm_on rfl; (focus (intro W hB; go_simp; refine (c5.out W).mono ?_; rintro _ _ ⟨rfl, hb'⟩; exact ⟨rfl, hb'⟩)); simp only [Act.put, pvA, pv0, pv1])
  (apply calm_on rfl; (focus (intro W hB; go_simp; refine (c6.out W).mono ?_; rintro _ _ ⟨rfl, hb'⟩; exact ⟨rfl, hb'⟩)); simp only [Act.put, pvA, pv0, pv1])
  refine calm_nil ?_
  intro bk6 wx2 hle6 hx2 hn6
  simp only [List.drop_succ_cons, List.drop_zero]
  (try simp only [Act.put, pvA, pv0, pv1])
  have fb2 := hb2_1.out.step hx2
  have fb3 := hb3_1.out.step hx2
  have fb4 := hb4_1.out.step hx2
  have fb5 := hb5_1.out.step hx2
  have hbb := hbl1.trans (hx2.mono hbl1.size)
  have fb6 := hn6
  have ne2_6 : w.heap.size ≠ bk6 := by have := hb2_1.out.lt; omega
  have ne3_6 : (w.heap.size + 1) ≠ bk6 := by have := hb3_1.out.lt; omega
  have ne4_6 : (w.heap.size + 1 + 1) ≠ bk6 := by have := hb4_1.out.lt; omega
  have ne5_6 : bk5 ≠ bk6 := by have := hb5_1.out.lt; omega
  have ge6 : w.heap.size ≤ bk6 := Nat.le_trans hbl1.size hle6
  refine wpList_set 68 (.tmp 6) (.tmp 34) rfl rfl rfl bk6 (cellsG r6) rfl rfl 68 (cellsG zeroG) fb6 (iG r6) rfl (one_cellsG r6) ?_
  replace fb2 := fb2.other ne2_6 (cellsG r6)
  replace fb3 := fb3.other ne3_6 (cellsG r6)
  replace fb4 := fb4.other ne4_6 (cellsG r6)
  replace fb5 := fb5.other ne5_6 (cellsG r6)
  replace fb6 := fb6.set (cellsG r6)
  replace hbb := below_set hbb bk6 (ge6) (cellsG r6)
  refine wpList_nil ?_
  obtain ⟨w2, hw⟩ : ∃ z, z = (wx2.setRow bk6 (cellsG r6)) := ⟨_, rfl⟩
  rw [← hw] at hbb fb2 fb3 fb4 fb5 fb6 ⊢
  have hb2_2 := hid fb2
  have hb3_2 := hid fb3
  have hb4_2 := hid fb4
  have hb5_2 := hid fb5
  have hb6_2 := hid fb6
  have hbl2 := hbb
  clear hw hbb fb2 fb3 fb4 fb5 fb6 hx2 hbl1 hb2_1 hb3_1 hb4_1 hb5_1 hle6 hn6
  (repeat ((fail_if_success (with_reducible refine Go.at_region ?_)); go_step))
  refine list_tail 7 ?_
  simp only [List.take_succ_cons, List.take_zero]
  (apply calm_on rfl; (focus (intro W hB; go_simp; exact ⟨rfl, Below.refl _ _⟩)); simp only [Act.put, pvA, pv0, pv1])
  (refine calm_part rfl 68 (.tmp 35) rfl w.heap.size 48 rfl 96 (cellsF p) (cellsG (p).t) hb2_2.out (inF_t p) gG (iG (p).t) ?_; simp only [Act.put, pvA, pv0, pv1])
  (apply calm_on rfl; (focus (intro W hB; go_simp; exact ⟨rfl, Below.refl _ _⟩)); simp only [Act.put, pvA, pv0, pv1])
  (refine calm_part rfl 68 (.tmp 37) rfl (w.heap.size + 1) 48 rfl 96 (cellsF q) (cellsG (q).t) hb3_2.out (inF_t q) gG (iG (q).t) ?_; simp only [Act.put, pvA, pv0, pv1])
  (apply calm_on rfl; (focus (intro W hB; go_simp; refine (c7.out W).mono ?_; rintro _ _ ⟨rfl, hb'⟩; exact ⟨rfl, hb'⟩)); simp only [Act.put, pvA, pv0, pv1])
  (apply calm_on rfl; (focus (intro W hB; go_simp; refine (cd.out W).mono ?_; rintro _ _ ⟨rfl, hb'⟩; exact ⟨rfl, hb'⟩)); simp only [Act.put, pvA, pv0, pv1])
  (apply calm_on rfl; (focus (intro W hB; go_simp; refine (c8.out W).mono ?_; rintro _ _ ⟨rfl, hb'⟩; exact ⟨rfl, hb'⟩)); simp only [Act.put, pvA, pv0, pv1])
  refine calm_nil ?_
  intro wx3 hx3
  simp only [List.drop_succ_cons, List.drop_zero]
  (try simp only [Act.put, pvA, pv0, pv1])
  refine wpList_new 68 (cellsG zeroG) rfl rfl zG ?_
  intro bk7 wy3 hle7 hy3 hn7
  (try simp only [Act.put, pvA, pv0, pv1])
  replace hle7 := Nat.le_trans hx3.size hle7
  replace hx3 := hx3.trans (hy3.mono hx3.size)
  clear hy3
  have fb2 := hb2_2.out.step hx3
  have fb3 := hb3_2.out.step hx3
  have fb4 := hb4_2.out.step hx3
  have fb5 := hb5_2.out.step hx3
  have fb6 := hb6_2.out.step hx3
  have hbb := hbl2.trans (hx3.mono hbl2.size)
  have fb7 := hn7
  have ne2_7 : w.heap.size ≠ bk7 := by have := hb2_2.out.lt; omega
  have ne3_7 : (w.heap.size + 1) ≠ bk7 := by have := hb3_2.out.lt; omega
  have ne4_7 : (w.heap.size + 1 + 1) ≠ bk7 := by have := hb4_2.out.lt; omega
  have ne5_7 : bk5 ≠ bk7 := by have := hb5_2.out.lt; omega
  have ne6_7 : bk6 ≠ bk7 := by have := hb6_2.out.lt; omega
  have ge7 : w.heap.size ≤ bk7 := Nat.le_trans hbl2.size hle7
  refine wpList_set 68 (.tmp 7) (.tmp 41) rfl rfl rfl bk7 (cellsG r8) rfl rfl 68 (cellsG zeroG) fb7 (iG r8) rfl (one_cellsG r8) ?_
  replace fb2 := fb2.other ne2_7 (cellsG r8)
  replace fb3 := fb3.other ne3_7 (cellsG r8)
  replace fb4 := fb4.other ne4_7 (cellsG r8)
  replace fb5 := fb5.other ne5_7 (cellsG r8)
  replace fb6 := fb6.other ne6_7 (cellsG r8)
  replace fb7 := fb7.set (cellsG r8)
  replace hbb := below_set hbb bk7 (ge7) (cellsG r8)
  refine wpList_nil ?_
  obtain ⟨w3, hw⟩ : ∃ z, z = (wy3.setRow bk7 (cellsG r8)) := ⟨_, rfl⟩
  rw [← hw] at hbb fb2 fb3 fb4 fb5 fb6 fb7 ⊢
  have hb2_3 := hid fb2
  have hb3_3 := hid fb3
  have hb4_3 := hid fb4
  have hb5_3 := hid fb5
  have hb6_3 := hid fb6
  have hb7_3 := hid fb7
  have hbl3 := hbb
  clear hw hbb fb2 fb3 fb4 fb5 fb6 fb7 hx3 hbl2 hb2_2 hb3_2 hb4_2 hb5_2 hb6_2 hle7 hn7
  (repeat ((fail_if_success (with_reducible refine Go.at_region ?_)); go_step))
  refine list_tail 3 ?_
  simp only [List.take_succ_cons, List.take_zero]
  iterate 2 (refine calm_whole rfl 68 (.tmp 7) rfl bk7 rfl 68 (cellsG r8) hb7_3.out gG (iG r8) ?_; simp only [Act.put, pvA, pv0, pv1])
  (apply calm_on rfl; (focus (intro W hB; go_simp; refine (c9.out W).mono ?_; rintro _ _ ⟨rfl, hb'⟩; exact ⟨rfl, hb'⟩)); simp only [Act.put, pvA, pv0, pv1])
  refine calm_nil ?_
  intro wx4 hx4
  simp only [List.drop_succ_cons, List.drop_zero]
  (try simp only [Act.put, pvA, pv0, pv1])
  have fb2 := hb2_3.out.step hx4
  have fb3 := hb3_3.out.step hx4
  have fb4 := hb4_3.out.step hx4
  have fb5 := hb5_3.out.step hx4
  have fb6 := hb6_3.out.step hx4
  have fb7 := hb7_3.out.step hx4
  have hbb := hbl3.trans (hx4.mono hbl3.size)
  refine wpList_set 68 (.tmp 7) (.tmp 44) rfl rfl rfl bk7 (cellsG r9) rfl rfl 68 (cellsG r8) fb7 (iG r9) rfl (one_cellsG r9) ?_
  replace fb2 := fb2.other ne2_7 (cellsG r9)
  replace fb3 := fb3.other ne3_7 (cellsG r9)
  replace fb4 := fb4.other ne4_7 (cellsG r9)
  replace fb5 := fb5.other ne5_7 (cellsG r9)
  replace fb6 := fb6.other ne6_7 (cellsG r9)
  replace fb7 := fb7.set (cellsG r9)
  replace hbb := below_set hbb bk7 (ge7) (cellsG r9)
  refine wpList_nil ?_
  obtain ⟨w4, hw⟩ : ∃ z, z = (wx4.setRow bk7 (cellsG r9)) := ⟨_, rfl⟩
  rw [← hw] at hbb fb2 fb3 fb4 fb5 fb6 fb7 ⊢
  have hb2_4 := hid fb2
  have hb3_4 := hid fb3
  have hb4_4 := hid fb4
  have hb5_4 := hid fb5
  have hb6_4 := hid fb6
  have hb7_4 := hid fb7
  have hbl4 := hbb
  clear hw hbb fb2 fb3 fb4 fb5 fb6 fb7 hx4 hbl3 hb2_3 hb3_3 hb4_3 hb5_3 hb6_3 hb7_3 
  (repeat ((fail_if_success (with_reducible refine Go.at_region ?_)); go_step))
  refine list_tail 5 ?_
  simp only [List.take_succ_cons, List.take_zero]
  (apply calm_on rfl; (focus (intro W hB; go_simp; exact ⟨rfl, Below.refl _ _⟩)); simp only [Act.put, pvA, pv0, pv1])
  (refine calm_part rfl 68 (.tmp 45) rfl w.heap.size 32 rfl 96 (cellsF p) (cellsG (p).z) hb2_4.out (inF_z p) gG (iG (p).z) ?_; simp only [Act.put, pvA, pv0, pv1])
  (apply calm_on rfl; (focus (intro W hB; go_simp; exact ⟨rfl, Below.refl _ _⟩)); simp only [Act.put, pvA, pv0, pv1])
  (refine calm_part rfl 68 (.tmp 47) rfl (w.heap.size + 1) 32 rfl 96 (cellsF q) (cellsG (q).z) hb3_4.out (inF_z q) gG (iG (q).z) ?_; simp only [Act.put, pvA, pv0, pv1])
  (apply calm_on rfl; (focus (intro W hB; go_simp; refine (c10.out W).mono ?_; rintro _ _ ⟨rfl, hb'⟩; exact ⟨rfl, hb'⟩)); simp only [Act.put, pvA, pv0, pv1])
  refine calm_nil ?_
  intro wx5 hx5
  simp only [List.drop_succ_cons, List.drop_zero]
  (try simp only [Act.put, pvA, pv0, pv1])
  refine wpList_new 68 (cellsG zeroG) rfl rfl zG ?_
  intro bk8 wy5 hle8 hy5 hn8
  (try simp only [Act.put, pvA, pv0, pv1])
  replace hle8 := Nat.le_trans hx5.size hle8
  replace hx5 := hx5.trans (hy5.mono hx5.size)
  clear hy5
  have fb2 := hb2_4.out.step hx5
  have fb3 := hb3_4.out.step hx5
  have fb4 := hb4_4.out.step hx5
  have fb5 := hb5_4.out.step hx5
  have fb6 := hb6_4.out.step hx5
  have fb7 := hb7_4.out.step hx5
  have hbb := hbl4.trans (hx5.mono hbl4.size)
  have fb8 := hn8
  have ne2_8 : w.heap.size ≠ bk8 := by have := hb2_4.out.lt; omega
  have ne3_8 : (w.heap.size + 1) ≠ bk8 := by have := hb3_4.out.lt; omega
  have ne4_8 : (w.heap.size + 1 + 1) ≠ bk8 := by have := hb4_4.out.lt; omega
  have ne5_8 : bk5 ≠ bk8 := by have := hb5_4.out.lt; omega
  have ne6_8 : bk6 ≠ bk8 := by have := hb6_4.out.lt; omega
  have ne7_8 : bk7 ≠ bk8 := by have := hb7_4.out.lt; omega
  have ge8 : w.heap.size ≤ bk8 := Nat.le_trans hbl4.size hle8
  refine wpList_set 68 (.tmp 8) (.tmp 49) rfl rfl rfl bk8 (cellsG r10) rfl rfl 68 (cellsG zeroG) fb8 (iG r10) rfl (one_cellsG r10) ?_
  replace fb2 := fb2.other ne2_8 (cellsG r10)
  replace fb3 := fb3.other ne3_8 (cellsG r10)
  replace fb4 := fb4.other ne4_8 (cellsG r10)
  replace fb5 := fb5.other ne5_8 (cellsG r10)
  replace fb6 := fb6.other ne6_8 (cellsG r10)
  replace fb7 := fb7.other ne7_8 (cellsG r10)
  replace fb8 := fb8.set (cellsG r10)
  replace hbb := below_set hbb bk8 (ge8) (cellsG r10)
  refine wpList_nil ?_
  obtain ⟨w5, hw⟩ : ∃ z, z = (wy5.setRow bk8 (cellsG r10)) := ⟨_, rfl⟩
  rw [← hw] at hbb fb2 fb3 fb4 fb5 fb6 fb7 fb8 ⊢
  have hb2_5 := hid fb2
  have hb3_5 := hid fb3
  have hb4_5 := hid fb4
  have hb5_5 := hid fb5
  have hb6_5 := hid fb6
  have hb7_5 := hid fb7
  have hb8_5 := hid fb8
  have hbl5 := hbb
  clear hw hbb fb2 fb3 fb4 fb5 fb6 fb7 fb8 hx5 hbl4 hb2_4 hb3_4 hb4_4 hb5_4 hb6_4 hb7_4 hle8 hn8
  (repeat ((fail_if_success (with_reducible refine Go.at_region ?_)); go_step))
  refine list_tail 3 ?_
  simp only [List.take_succ_cons, List.take_zero]
  iterate 2 (refine calm_whole rfl 68 (.tmp 8) rfl bk8 rfl 68 (cellsG r10) hb8_5.out gG (iG r10) ?_; simp only [Act.put, pvA, pv0, pv1])
  (apply calm_on rfl; (focus (intro W hB; go_simp; refine (c11.out W).mono ?_; rintro _ _ ⟨rfl, hb'⟩; exact ⟨rfl, hb'⟩)); simp only [Act.put, pvA, pv0, pv1])
  refine calm_nil ?_
  intro wx6 hx6
  simp only [List.drop_succ_cons, List.drop_zero]
  (try simp only [Act.put, pvA, pv0, pv1])
  have fb2 := hb2_5.out.step hx6
  have fb3 := hb3_5.out.step hx6
  have fb4 := hb4_5.out.step hx6
  have fb5 := hb5_5.out.step hx6
  have fb6 := hb6_5.out.step hx6
  have fb7 := hb7_5.out.step hx6
  have fb8 := hb8_5.out.step hx6
  have hbb := hbl5.trans (hx6.mono hbl5.size)
  refine wpList_set 68 (.tmp 8) (.tmp 52) rfl rfl rfl bk8 (cellsG r11) rfl rfl 68 (cellsG r10) fb8 (iG r11) rfl (one_cellsG r11) ?_
  replace fb2 := fb2.other ne2_8 (cellsG r11)
  replace fb3 := fb3.other ne3_8 (cellsG r11)
  replace fb4 := fb4.other ne4_8 (cellsG r11)
  replace fb5 := fb5.other ne5_8 (cellsG r11)
  replace fb6 := fb6.other ne6_8 (cellsG r11)
  replace fb7 := fb7.other ne7_8 (cellsG r11)
  replace fb8 := fb8.set (cellsG r11)
  replace hbb := below_set hbb bk8 (ge8) (cellsG r11)
  refine wpList_nil ?_
  obtain ⟨w6, hw⟩ : ∃ z, z = (wx6.setRow bk8 (cellsG r11)) := ⟨_, rfl⟩
  rw [← hw] at hbb fb2 fb3 fb4 fb5 fb6 fb7 fb8 ⊢
  have hb2_6 := hid fb2
  have hb3_6 := hid fb3
  have hb4_6 := hid fb4
  have hb5_6 := hid fb5
  have hb6_6 := hid fb6
  have hb7_6 := hid fb7
  have hb8_6 := hid fb8
  have hbl6 := hbb
  clear hw hbb fb2 fb3 fb4 fb5 fb6 fb7 fb8 hx6 hbl5 hb2_5 hb3_5 hb4_5 hb5_5 hb6_5 hb7_5 hb8_5 
  (repeat ((fail_if_success (with_reducible refine Go.at_region ?_)); go_step))
  refine draw_new2 6 _ _ rfl 68 68 (cellsG zeroG) (cellsG zeroG) 9 10 rfl rfl rfl (by simp) zG rfl rfl rfl (by simp) zG (by decide) (by kernel_rfl) (by kernel_rfl) (by kernel_rfl) (by kernel_rfl) ?_
  simp only [List.take_succ_cons, List.take_zero]
  (refine calm_whole rfl 68 (.tmp 6) rfl bk6 rfl 68 (cellsG r6) hb6_6.out gG (iG r6) ?_; simp only [Act.put, pvA, pv0, pv1])
  (refine calm_whole rfl 68 (.tmp 5) rfl bk5 rfl 68 (cellsG r3) hb5_6.out gG (iG r3) ?_; simp only [Act.put, pvA, pv0, pv1])
  (apply calm_on rfl; (focus (intro W hB; go_simp; refine (c12.out W).mono ?_; rintro _ _ ⟨rfl, hb'⟩; exact ⟨rfl, hb'⟩)); simp only [Act.put, pvA, pv0, pv1])
  (refine calm_whole rfl 68 (.tmp 8) rfl bk8 rfl 68 (cellsG r11) hb8_6.out gG (iG r11) ?_; simp only [Act.put, pvA, pv0, pv1])
  (refine calm_whole rfl 68 (.tmp 7) rfl bk7 rfl 68 (cellsG r9) hb7_6.out gG (iG r9) ?_; simp only [Act.put, pvA, pv0, pv1])
  (apply calm_on rfl; (focus (intro W hB; go_simp; refine (c13.out W).mono ?_; rintro _ _ ⟨rfl, hb'⟩; exact ⟨rfl, hb'⟩)); simp only [Act.put, pvA, pv0, pv1])
  refine calm_nil ?_
  intro bk9 bk10 wx7 hle9 hle10 hne9 hx7 hn9 hn10
  simp only [List.drop_succ_cons, List.drop_zero]
  (try simp only [Act.put, pvA, pv0, pv1])
  have fb2 := hb2_6.out.step hx7
  have fb3 := hb3_6.out.step hx7
  have fb4 := hb4_6.out.step hx7
  have fb5 := hb5_6.out.step hx7
  have fb6 := hb6_6.out.step hx7
  have fb7 := hb7_6.out.step hx7
  have fb8 := hb8_6.out.step hx7
  have hbb := hbl6.trans (hx7.mono hbl6.size)
  have fb9 := hn9
  have fb10 := hn10
  have ne2_9 : w.heap.size ≠ bk9 := by have := hb2_6.out.lt; omega
  have ne3_9 : (w.heap.size + 1) ≠ bk9 := by have := hb3_6.out.lt; omega
  have ne4_9 : (w.heap.size + 1 + 1) ≠ bk9 := by have := hb4_6.out.lt; omega
  have ne5_9 : bk5 ≠ bk9 := by have := hb5_6.out.lt; omega
  have ne6_9 : bk6 ≠ bk9 := by have := hb6_6.out.lt; omega
  have ne7_9 : bk7 ≠ bk9 := by have := hb7_6.out.lt; omega
  have ne8_9 : bk8 ≠ bk9 := by have := hb8_6.out.lt; omega
  have ne2_10 : w.heap.size ≠ bk10 := by have := hb2_6.out.lt; omega
  have ne3_10 : (w.heap.size + 1) ≠ bk10 := by have := hb3_6.out.lt; omega
  have ne4_10 : (w.heap.size + 1 + 1) ≠ bk10 := by have := hb4_6.out.lt; omega
  have ne5_10 : bk5 ≠ bk10 := by have := hb5_6.out.lt; omega
  have ne6_10 : bk6 ≠ bk10 := by have := hb6_6.out.lt; omega
  have ne7_10 : bk7 ≠ bk10 := by have := hb7_6.out.lt; omega
  have ne8_10 : bk8 ≠ bk10 := by have := hb8_6.out.lt; omega
  have ge9 : w.heap.size ≤ bk9 := Nat.le_trans hbl6.size hle9
  have ge10 : w.heap.size ≤ bk10 := Nat.le_trans hbl6.size hle10
  refine wpList_set 68 (.tmp 9) (.tmp 55) rfl rfl rfl bk9 (cellsG r12) rfl rfl 68 (cellsG zeroG) fb9 (iG r12) rfl (one_cellsG r12) ?_
  replace fb2 := fb2.other ne2_9 (cellsG r12)
  replace fb3 := fb3.other ne3_9 (cellsG r12)
  replace fb4 := fb4.other ne4_9 (cellsG r12)
  replace fb5 := fb5.other ne5_9 (cellsG r12)
  replace fb6 := fb6.other ne6_9 (cellsG r12)
  replace fb7 := fb7.other ne7_9 (cellsG r12)
  replace fb8 := fb8.other ne8_9 (cellsG r12)
  replace fb9 := fb9.set (cellsG r12)
  replace fb10 := fb10.other (Ne.symm hne9) (cellsG r12)
  replace hbb := below_set hbb bk9 (ge9) (cellsG r12)
  refine wpList_set 68 (.tmp 10) (.tmp 58) rfl rfl rfl bk10 (cellsG r13) rfl rfl 68 (cellsG zeroG) fb10 (iG r13) rfl (one_cellsG r13) ?_
  replace fb2 := fb2.other ne2_10 (cellsG r13)
  replace fb3 := fb3.other ne3_10 (cellsG r13)
  replace fb4 := fb4.other ne4_10 (cellsG r13)
  replace fb5 := fb5.other ne5_10 (cellsG r13)
  replace fb6 := fb6.other ne6_10 (cellsG r13)
  replace fb7 := fb7.other ne7_10 (cellsG r13)
  replace fb8 := fb8.other ne8_10 (cellsG r13)
  replace fb9 := fb9.other hne9 (cellsG r13)
  replace fb10 := fb10.set (cellsG r13)
  replace hbb := below_set hbb bk10 (ge10) (cellsG r13)
  refine wpList_nil ?_
  obtain ⟨w7, hw⟩ : ∃ z, z = ((wx7.setRow bk9 (cellsG r12)).setRow bk10 (cellsG r13)) := ⟨_, rfl⟩
  rw [← hw] at hbb fb2 fb3 fb4 fb5 fb6 fb7 fb8 fb9 fb10 ⊢
  have hb2_7 := hid fb2
  have hb3_7 := hid fb3
  have hb4_7 := hid fb4
  have hb5_7 := hid fb5
  have hb6_7 := hid fb6
  have hb7_7 := hid fb7
  have hb8_7 := hid fb8
  have hb9_7 := hid fb9
  have hb10_7 := hid fb10
  have hbl7 := hbb
  clear hw hbb fb2 fb3 fb4 fb5 fb6 fb7 fb8 fb9 fb10 hx7 hbl6 hb2_6 hb3_6 hb4_6 hb5_6 hb6_6 hb7_6 hb8_6 hle9 hn9 hle10 hn10
  (repeat ((fail_if_success (with_reducible refine Go.at_region ?_)); go_step))
  refine draw_new2 6 _ _ rfl 68 68 (cellsG zeroG) (cellsG zeroG) 11 12 rfl rfl rfl (by simp) zG rfl rfl rfl (by simp) zG (by decide) (by kernel_rfl) (by kernel_rfl) (by kernel_rfl) (by kernel_rfl) ?_
  simp only [List.take_succ_cons, List.take_zero]
  (refine calm_whole rfl 68 (.tmp 8) rfl bk8 rfl 68 (cellsG r11) hb8_7.out gG (iG r11) ?_; simp only [Act.put, pvA, pv0, pv1])
  (refine calm_whole rfl 68 (.tmp 7) rfl bk7 rfl 68 (cellsG r9) hb7_7.out gG (iG r9) ?_; simp only [Act.put, pvA, pv0, pv1])
  (apply calm_on rfl; (focus (intro W hB; go_simp; refine (c14.out W).mono ?_; rintro _ _ ⟨rfl, hb'⟩; exact ⟨rfl, hb'⟩)); simp only [Act.put, pvA, pv0, pv1])
  (refine calm_whole rfl 68 (.tmp 6) rfl bk6 rfl 68 (cellsG r6) hb6_7.out gG (iG r6) ?_; simp only [Act.put, pvA, pv0, pv1])
  (refine calm_whole rfl 68 (.tmp 5) rfl bk5 rfl 68 (cellsG r3) hb5_7.out gG (iG r3) ?_; simp only [Act.put, pvA, pv0, pv1])
  (apply calm_on rfl; (focus (intro W hB; go_simp; refine (c15.out W).mono ?_; rintro _ _ ⟨rfl, hb'⟩; exact ⟨rfl, hb'⟩)); simp only [Act.put, pvA, pv0, pv1])
  refine calm_nil ?_
  intro bk11 bk12 wx8 hle11 hle12 hne11 hx8 hn11 hn12
  simp only [List.drop_succ_cons, List.drop_zero]
  (try simp only [Act.put, pvA, pv0, pv1])
  have fb2 := hb2_7.out.step hx8
  have fb3 := hb3_7.out.step hx8
  have fb4 := hb4_7.out.step hx8
  have fb5 := hb5_7.out.step hx8
  have fb6 := hb6_7.out.step hx8
  have fb7 := hb7_7.out.step hx8
  have fb8 := hb8_7.out.step hx8
  have fb9 := hb9_7.out.step hx8
  have fb10 := hb10_7.out.step hx8
  have hbb := hbl7.trans (hx8.mono hbl7.size)
  have fb11 := hn11
  have fb12 := hn12
  have ne2_11 : w.heap.size ≠ bk11 := by have := hb2_7.out.lt; omega
  have ne3_11 : (w.heap.size + 1) ≠ bk11 := by have := hb3_7.out.lt; omega
  have ne4_11 : (w.heap.size + 1 + 1) ≠ bk11 := by have := hb4_7.out.lt; omega
  have ne5_11 : bk5 ≠ bk11 := by have := hb5_7.out.lt; omega
  have ne6_11 : bk6 ≠ bk11 := by have := hb6_7.out.lt; omega
  have ne7_11 : bk7 ≠ bk11 := by have := hb7_7.out.lt; omega
  have ne8_11 : bk8 ≠ bk11 := by have := hb8_7.out.lt; omega
  have ne9_11 : bk9 ≠ bk11 := by have := hb9_7.out.lt; omega
  have ne10_11 : bk10 ≠ bk11 := by have := hb10_7.out.lt; omega
  have ne2_12 : w.heap.size ≠ bk12 := by have := hb2_7.out.lt; omega
  have ne3_12 : (w.heap.size + 1) ≠ bk12 := by have := hb3_7.out.lt; omega
  have ne4_12 : (w.heap.size + 1 + 1) ≠ bk12 := by have := hb4_7.out.lt; omega
  have ne5_12 : bk5 ≠ bk12 := by have := hb5_7.out.lt; omega
  have ne6_12 : bk6 ≠ bk12 := by have := hb6_7.out.lt; omega
  have ne7_12 : bk7 ≠ bk12 := by have := hb7_7.out.lt; omega
  have ne8_12 : bk8 ≠ bk12 := by have := hb8_7.out.lt; omega
  have ne9_12 : bk9 ≠ bk12 := by have := hb9_7.out.lt; omega
  have ne10_12 : bk10 ≠ bk12 := by have := hb10_7.out.lt; omega
  have ge11 : w.heap.size ≤ bk11 := Nat.le_trans hbl7.size hle11
  have ge12 : w.heap.size ≤ bk12 := Nat.le_trans hbl7.size hle12
  refine wpList_set 68 (.tmp 11) (.tmp 61) rfl rfl rfl bk11 (cellsG r14) rfl rfl 68 (cellsG zeroG) fb11 (iG r14) rfl (one_cellsG r14) ?_
  replace fb2 := fb2.other ne2_11 (cellsG r14)
  replace fb3 := fb3.other ne3_11 (cellsG r14)
  replace fb4 := fb4.other ne4_11 (cellsG r14)
  replace fb5 := fb5.other ne5_11 (cellsG r14)
  replace fb6 := fb6.other ne6_11 (cellsG r14)
  replace fb7 := fb7.other ne7_11 (cellsG r14)
  replace fb8 := fb8.other ne8_11 (cellsG r14)
  replace fb9 := fb9.other ne9_11 (cellsG r14)
  replace fb10 := fb10.other ne10_11 (cellsG r14)
  replace fb11 := fb11.set (cellsG r14)
  replace fb12 := fb12.other (Ne.symm hne11) (cellsG r14)
  replace hbb := below_set hbb bk11 (ge11) (cellsG r14)
  refine wpList_set 68 (.tmp 12) (.tmp 64) rfl rfl rfl bk12 (cellsG r15) rfl rfl 68 (cellsG zeroG) fb12 (iG r15) rfl (one_cellsG r15) ?_
  replace fb2 := fb2.other ne2_12 (cellsG r15)
  replace fb3 := fb3.other ne3_12 (cellsG r15)
  replace fb4 := fb4.other ne4_12 (cellsG r15)
  replace fb5 := fb5.other ne5_12 (cellsG r15)
  replace fb6 := fb6.other ne6_12 (cellsG r15)
  replace fb7 := fb7.other ne7_12 (cellsG r15)
  replace fb8 := fb8.other ne8_12 (cellsG r15)
  replace fb9 := fb9.other ne9_12 (cellsG r15)
  replace fb10 := fb10.other ne10_12 (cellsG r15)
  replace fb11 := fb11.other hne11 (cellsG r15)
  replace fb12 := fb12.set (cellsG r15)
  replace hbb := below_set hbb bk12 (ge12) (cellsG r15)
  refine wpList_nil ?_
  obtain ⟨w8, hw⟩ : ∃ z, z = ((wx8.setRow bk11 (cellsG r14)).setRow bk12 (cellsG r15)) := ⟨_, rfl⟩
  rw [← hw] at hbb fb2 fb3 fb4 fb5 fb6 fb7 fb8 fb9 fb10 fb11 fb12 ⊢
  have hb2_8 := hid fb2
  have hb3_8 := hid fb3
  have hb4_8 := hid fb4
  have hb5_8 := hid fb5
  have hb6_8 := hid fb6
  have hb7_8 := hid fb7
  have hb8_8 := hid fb8
  have hb9_8 := hid fb9
  have hb10_8 := hid fb10
  have hb11_8 := hid fb11
  have hb12_8 := hid fb12
  have hbl8 := hbb
  clear hw hbb fb2 fb3 fb4 fb5 fb6 fb7 fb8 fb9 fb10 fb11 fb12 hx8 hbl7 hb2_7 hb3_7 hb4_7 hb5_7 hb6_7 hb7_7 hb8_7 hb9_7 hb10_7 hle11 hn11 hle12 hn12
  (repeat ((fail_if_success (with_reducible refine Go.at_region ?_)); go_step))
  refine draw_tail 13 (by kernel_rfl) (by kernel_rfl) (by kernel_rfl) ?_
  simp only [List.take_succ_cons, List.take_zero]
  (refine calm_whole rfl 68 (.tmp 9) rfl bk9 rfl 68 (cellsG r12) hb9_8.out gG (iG r12) ?_; simp only [Act.put, pvA, pv0, pv1])
  (refine calm_whole rfl 68 (.tmp 10) rfl bk10 rfl 68 (cellsG r13) hb10_8.out gG (iG r13) ?_; simp only [Act.put, pvA, pv0, pv1])
  (apply calm_on rfl; (focus (intro W hB; go_simp; refine (c16.out W).mono ?_; rintro _ _ ⟨rfl, hb'⟩; exact ⟨rfl, hb'⟩)); simp only [Act.put, pvA, pv0, pv1])
  (refine calm_whole rfl 68 (.tmp 11) rfl bk11 rfl 68 (cellsG r14) hb11_8.out gG (iG r14) ?_; simp only [Act.put, pvA, pv0, pv1])
  (refine calm_whole rfl 68 (.tmp 12) rfl bk12 rfl 68 (cellsG r15) hb12_8.out gG (iG r15) ?_; simp only [Act.put, pvA, pv0, pv1])
  (apply calm_on rfl; (focus (intro W hB; go_simp; refine (c17.out W).mono ?_; rintro _ _ ⟨rfl, hb'⟩; exact ⟨rfl, hb'⟩)); simp only [Act.put, pvA, pv0, pv1])
  (refine calm_whole rfl 68 (.tmp 10) rfl bk10 rfl 68 (cellsG r13) hb10_8.out gG (iG r13) ?_; simp only [Act.put, pvA, pv0, pv1])
  (refine calm_whole rfl 68 (.tmp 11) rfl bk11 rfl 68 (cellsG r14) hb11_8.out gG (iG r14) ?_; simp only [Act.put, pvA, pv0, pv1])
  (apply calm_on rfl; (focus (intro W hB; go_simp; refine (c18.out W).mono ?_; rintro _ _ ⟨rfl, hb'⟩; exact ⟨rfl, hb'⟩)); simp only [Act.put, pvA, pv0, pv1])
  (refine calm_whole rfl 68 (.tmp 9) rfl bk9 rfl 68 (cellsG r12) hb9_8.out gG (iG r12) ?_; simp only [Act.put, pvA, pv0, pv1])
  (refine calm_whole rfl 68 (.tmp 12) rfl bk12 rfl 68 (cellsG r15) hb12_8.out gG (iG r15) ?_; simp only [Act.put, pvA, pv0, pv1])
  (apply calm_on rfl; (focus (intro W hB; go_simp; refine (c19.out W).mono ?_; rintro _ _ ⟨rfl, hb'⟩; exact ⟨rfl, hb'⟩)); simp only [Act.put, pvA, pv0, pv1])
  (refine calm_build rfl 96 _ rfl (cellsF ⟨r16, r17, r18, r19⟩) (by first | (simp only [List.map_toArray, List.map_cons, List.map_nil]; exact (bF r16 r17 r18 r19)) | exact (bF r16 r17 r18 r19)) ?_; simp only [Act.put, pvA, pv0, pv1])
  refine calm_nil ?_
  intro wx9 hx9
  simp only [List.drop_succ_cons, List.drop_zero]
  (try simp only [Act.put, pvA, pv0, pv1])
  have fb2 := hb2_8.out.step hx9
  have fb3 := hb3_8.out.step hx9
  have fb4 := hb4_8.out.step hx9
  have fb5 := hb5_8.out.step hx9
  have fb6 := hb6_8.out.step hx9
  have fb7 := hb7_8.out.step hx9
  have fb8 := hb8_8.out.step hx9
  have fb9 := hb9_8.out.step hx9
  have fb10 := hb10_8.out.step hx9
  have fb11 := hb11_8.out.step hx9
  have fb12 := hb12_8.out.step hx9
  have hbb := hbl8.trans (hx9.mono hbl8.size)
  refine wpList_set 96 (.tmp 4) (.tmp 77) rfl rfl rfl (w.heap.size + 1 + 1) (cellsF ⟨r16, r17, r18, r19⟩) rfl rfl 96 (cellsF zeroF) fb4 (iF4 ⟨r16, r17, r18, r19⟩) rfl (one_cellsF ⟨r16, r17, r18, r19⟩) ?_
  replace fb2 := fb2.other (show w.heap.size ≠ (w.heap.size + 1 + 1) by omega) (cellsF ⟨r16, r17, r18, r19⟩)
  replace fb3 := fb3.other (show (w.heap.size + 1) ≠ (w.heap.size + 1 + 1) by omega) (cellsF ⟨r16, r17, r18, r19⟩)
  replace fb4 := fb4.set (cellsF ⟨r16, r17, r18, r19⟩)
  replace fb5 := fb5.other (Ne.symm ne4_5) (cellsF ⟨r16, r17, r18, r19⟩)
  replace fb6 := fb6.other (Ne.symm ne4_6) (cellsF ⟨r16, r17, r18, r19⟩)
  replace fb7 := fb7.other (Ne.symm ne4_7) (cellsF ⟨r16, r17, r18, r19⟩)
  replace fb8 := fb8.other (Ne.symm ne4_8) (cellsF ⟨r16, r17, r18, r19⟩)
  replace fb9 := fb9.other (Ne.symm ne4_9) (cellsF ⟨r16, r17, r18, r19⟩)
  replace fb10 := fb10.other (Ne.symm ne4_10) (cellsF ⟨r16, r17, r18, r19⟩)
  replace fb11 := fb11.other (Ne.symm ne4_11) (cellsF ⟨r16, r17, r18, r19⟩)
  replace fb12 := fb12.other (Ne.symm ne4_12) (cellsF ⟨r16, r17, r18, r19⟩)
  replace hbb := below_set hbb (w.heap.size + 1 + 1) (by omega) (cellsF ⟨r16, r17, r18, r19⟩)
  refine wpList_nil ?_
  obtain ⟨w9, hw⟩ : ∃ z, z = (wx9.setRow (w.heap.size + 1 + 1) (cellsF ⟨r16, r17, r18, r19⟩)) := ⟨_, rfl⟩
  rw [← hw] at hbb fb2 fb3 fb4 fb5 fb6 fb7 fb8 fb9 fb10 fb11 fb12 ⊢
  have hb2_9 := hid fb2
  have hb3_9 := hid fb3
  have hb4_9 := hid fb4
  have hb5_9 := hid fb5
  have hb6_9 := hid fb6
  have hb7_9 := hid fb7
  have hb8_9 := hid fb8
  have hb9_9 := hid fb9
  have hb10_9 := hid fb10
  have hb11_9 := hid fb11
  have hb12_9 := hid fb12
  have hbl9 := hbb
  clear hw hbb fb2 fb3 fb4 fb5 fb6 fb7 fb8 fb9 fb10 fb11 fb12 hx9 hbl8 hb2_8 hb3_8 hb4_8 hb5_8 hb6_8 hb7_8 hb8_8 hb9_8 hb10_8 hb11_8 hb12_8 
  (repeat ((fail_if_success (with_reducible refine Go.at_region ?_)); go_step))
  refine ret_blk (w.heap.size + 1 + 1) 96 (cellsF ⟨r16, r17, r18, r19⟩) rfl rfl hb4_9.out gF (iF4 ⟨r16, r17, r18, r19⟩) rfl ?_
  exact ⟨(by rw [E19.out, E18.out, E17.out, E16.out, E15.out, E14.out, E13.out, E12.out, E11.out, E10.out, E9.out, E8.out, E7.out, E6.out, E5.out, E4.out, E3.out, E2.out, E1.out]; first | done | rfl), hbl9⟩
set_option maxRecDepth 100000 in
set_option maxHeartbeats 4000000 in
theorem rtwice_any (p : F4) (w : World) (hp : BdF p) : Calls Tryz.prog 103 #[full p] w fun e w' => e = .returned (full (twiceG p)) ∧ Below w.heap.size w w' := by
  have c1 := hid fun w => timG_any p.x p.x w (Gd.mono hp.x (by decide)) (Gd.mono hp.x (by decide))
  have t1 := timG_bd w p.x p.x (Gd.mono hp.x (by decide)) (Gd.mono hp.x (by decide))
  obtain ⟨r1, e1⟩ : ∃ r, r = timG p.x p.x := ⟨_, rfl⟩
  rw [← e1] at c1 t1
  replace t1 := hid t1
  have E1 := hid e1
  clear e1
  have c2 := hid fun w => timG_any p.y p.y w (Gd.mono hp.y (by decide)) (Gd.mono hp.y (by decide))
  have t2 := timG_bd w p.y p.y (Gd.mono hp.y (by decide)) (Gd.mono hp.y (by decide))
  obtain ⟨r2, e2⟩ : ∃ r, r = timG p.y p.y := ⟨_, rfl⟩
  rw [← e2] at c2 t2
  replace t2 := hid t2
  have E2 := hid e2
  clear e2
  have c3 := hid fun w => timG_any p.z p.z w (Gd.mono hp.z (by decide)) (Gd.mono hp.z (by decide))
  have t3 := timG_bd w p.z p.z (Gd.mono hp.z (by decide)) (Gd.mono hp.z (by decide))
  obtain ⟨r3, e3⟩ : ∃ r, r = timG p.z p.z := ⟨_, rfl⟩
  rw [← e3] at c3 t3
  replace t3 := hid t3
  have E3 := hid e3
  clear e3
  have c4 := hid fun w => plusG_any p.x p.y w (Gd.mono hp.x (by decide)) (Gd.mono hp.y (by decide))
  have t4 := plusG_bd _ _ p.x p.y hp.x hp.y
  obtain ⟨r4, e4⟩ : ∃ r, r = plusG p.x p.y := ⟨_, rfl⟩
  rw [← e4] at c4 t4
  replace t4 := hid t4
  have E4 := hid e4
  clear e4
  have c5 := hid fun w => plusG_any r1 r2 w (Gd.mono t1.out (by decide)) (Gd.mono t2.out (by decide))
  have t5 := plusG_bd _ _ r1 r2 t1.out t2.out
  obtain ⟨r5, e5⟩ : ∃ r, r = plusG r1 r2 := ⟨_, rfl⟩
  rw [← e5] at c5 t5
  replace t5 := hid t5
  have E5 := hid e5
  clear e5
  have c6 := hid fun w => timG_any r4 r4 w (Gd.mono t4.out (by decide)) (Gd.mono t4.out (by decide))
  have t6 := timG_bd w r4 r4 (Gd.mono t4.out (by decide)) (Gd.mono t4.out (by decide))
  obtain ⟨r6, e6⟩ : ∃ r, r = timG r4 r4 := ⟨_, rfl⟩
  rw [← e6] at c6 t6
  replace t6 := hid t6
  have E6 := hid e6
  clear e6
  have c7 := hid fun w => minsG_any r5 r6 w (Gd.mono t5.out (by decide)) (Gd.mono t6.out (by decide))
  have t7 := minsG_bd _ _ r5 r6 t5.out t6.out
  obtain ⟨r7, e7⟩ : ∃ r, r = minsG r5 r6 := ⟨_, rfl⟩
  rw [← e7] at c7 t7
  replace t7 := hid t7
  have E7 := hid e7
  clear e7
  have c8 := hid fun w => minsG_any r1 r2 w (Gd.mono t1.out (by decide)) (Gd.mono t2.out (by decide))
  have t8 := minsG_bd _ _ r1 r2 t1.out t2.out
  obtain ⟨r8, e8⟩ : ∃ r, r = minsG r1 r2 := ⟨_, rfl⟩
  rw [← e8] at c8 t8
  replace t8 := hid t8
  have E8 := hid e8
  clear e8
  have c9 := hid fun w => plusG_any r3 r3 w (Gd.mono t3.out (by decide)) (Gd.mono t3.out (by decide))
  have t9 := plusG_bd _ _ r3 r3 t3.out t3.out
  obtain ⟨r9, e9⟩ : ∃ r, r = plusG r3 r3 := ⟨_, rfl⟩
  rw [← e9] at c9 t9
  replace t9 := hid t9
  have E9 := hid e9
  clear e9
  have c10 := hid fun w => plusG_any r9 r8 w (Gd.mono t9.out (by decide)) (Gd.mono t8.out (by decide))
  have t10 := plusG_bd _ _ r9 r8 t9.out t8.out
  obtain ⟨r10, e10⟩ : ∃ r, r = plusG r9 r8 := ⟨_, rfl⟩
  rw [← e10] at c10 t10
  replace t10 := hid t10
  have E10 := hid e10
  clear e10
  have c11 := hid fun w => timG_any r7 r10 w (Gd.mono t7.out (by decide)) (Gd.mono t10.out (by decide))
  have t11 := timG_bd w r7 r10 (Gd.mono t7.out (by decide)) (Gd.mono t10.out (by decide))
  obtain ⟨r11, e11⟩ : ∃ r, r = timG r7 r10 := ⟨_, rfl⟩
  rw [← e11] at c11 t11
  replace t11 := hid t11
  have E11 := hid e11
  clear e11
  have c12 := hid fun w => timG_any r8 r5 w (Gd.mono t8.out (by decide)) (Gd.mono t5.out (by decide))
  have t12 := timG_bd w r8 r5 (Gd.mono t8.out (by decide)) (Gd.mono t5.out (by decide))
  obtain ⟨r12, e12⟩ : ∃ r, r = timG r8 r5 := ⟨_, rfl⟩
  rw [← e12] at c12 t12
  replace t12 := hid t12
  have E12 := hid e12
  clear e12
  have c13 := hid fun w => timG_any r10 r8 w (Gd.mono t10.out (by decide)) (Gd.mono t8.out (by decide))
  have t13 := timG_bd w r10 r8 (Gd.mono t10.out (by decide)) (Gd.mono t8.out (by decide))
  obtain ⟨r13, e13⟩ : ∃ r, r = timG r10 r8 := ⟨_, rfl⟩
  rw [← e13] at c13 t13
  replace t13 := hid t13
  have E13 := hid e13
  clear e13
  have c14 := hid fun w => timG_any r7 r5 w (Gd.mono t7.out (by decide)) (Gd.mono t5.out (by decide))
  have t14 := timG_bd w r7 r5 (Gd.mono t7.out (by decide)) (Gd.mono t5.out (by decide))
  obtain ⟨r14, e14⟩ : ∃ r, r = timG r7 r5 := ⟨_, rfl⟩
  rw [← e14] at c14 t14
  replace t14 := hid t14
  have E14 := hid e14
  clear e14
  clear hp
  unfold gf full at *
  obtain ⟨w0, hw0, k1, k2, hbl0⟩ := entry2 w 96 (cellsF p) 96 (cellsF zeroF)
  have hb1_0 := hid k1
  have hb2_0 := hid k2
  clear k1 k2
  go_enter Tryz.func103, Tryz.ntmps103
  (repeat ((fail_if_success (with_reducible refine Go.at_region ?_)); go_step))
  refine wp_region_lit ?_
  (refine wpList_box 96 (.tmp 0) rfl rfl (cellsF p) rfl ?_; simp only [Act.put, pvA, pv0, pv1]; (try simp only [World.size_alloc]))
  (refine wpList_alloc_new rfl 96 rfl (cellsF zeroF) zF ?_; simp only [Act.put, pvA, pv0, pv1]; (try simp only [World.size_alloc]))
  refine wpList_nil ?_
  rw [← hw0]
  clear hw0
  (repeat ((fail_if_success (with_reducible refine Go.at_region ?_)); go_step))
  refine draw_new2 10 _ _ rfl 68 68 (cellsG zeroG) (cellsG zeroG) 3 4 rfl rfl rfl (by simp) zG rfl rfl rfl (by simp) zG (by decide) (by kernel_rfl) (by kernel_rfl) (by kernel_rfl) (by kernel_rfl) ?_
  simp only [List.take_succ_cons, List.take_zero]
  (apply calm_on rfl; (focus (intro W hB; go_simp; exact ⟨rfl, Below.refl _ _⟩)); simp only [Act.put, pvA, pv0, pv1])
  (refine calm_part rfl 68 (.tmp 11) rfl w.heap.size 0 rfl 96 (cellsF p) (cellsG (p).x) hb1_0.out (inF_x p) gG (iG (p).x) ?_; simp only [Act.put, pvA, pv0, pv1])
  (apply calm_on rfl; (focus (intro W hB; go_simp; exact ⟨rfl, Below.refl _ _⟩)); simp only [Act.put, pvA, pv0, pv1])
  (refine calm_part rfl 68 (.tmp 13) rfl w.heap.size 0 rfl 96 (cellsF p) (cellsG (p).x) hb1_0.out (inF_x p) gG (iG (p).x) ?_; simp only [Act.put, pvA, pv0, pv1])
  (apply calm_on rfl; (focus (intro W hB; go_simp; refine (c1.out W).mono ?_; rintro _ _ ⟨rfl, hb'⟩; exact ⟨rfl, hb'⟩)); simp only [Act.put, pvA, pv0, pv1])
  (apply calm_on rfl; (focus (intro W hB; go_simp; exact ⟨rfl, Below.refl _ _⟩)); simp only [Act.put, pvA, pv0, pv1])
  (refine calm_part rfl 68 (.tmp 16) rfl w.heap.size 16 rfl 96 (cellsF p) (cellsG (p).y) hb1_0.out (inF_y p) gG (iG (p).y) ?_; simp only [Act.put, pvA, pv0, pv1])
  (apply calm_on rfl; (focus (intro W hB; go_simp; exact ⟨rfl, Below.refl _ _⟩)); simp only [Act.put, pvA, pv0, pv1])
  (refine calm_part rfl 68 (.tmp 18) rfl w.heap.size 16 rfl 96 (cellsF p) (cellsG (p).y) hb1_0.out (inF_y p) gG (iG (p).y) ?_; simp only [Act.put, pvA, pv0, pv1])
  (apply calm_on rfl; (focus (intro W hB; go_simp; refine (c2.out W).mono ?_; rintro _ _ ⟨rfl, hb'⟩; exact ⟨rfl, hb'⟩)); simp only [Act.put, pvA, pv0, pv1])
  refine calm_nil ?_
  intro bk3 bk4 wx1 hle3 hle4 hne3 hx1 hn3 hn4
  simp only [List.drop_succ_cons, List.drop_zero]
  (try simp only [Act.put, pvA, pv0, pv1])
  have fb1 := hb1_0.out.step hx1
  have fb2 := hb2_0.out.step hx1
  have hbb := hbl0.trans (hx1.mono hbl0.size)
  have fb3 := hn3
  have fb4 := hn4
  have ne1_3 : w.heap.size ≠ bk3 := by have := hb1_0.out.lt; omega
  have ne2_3 : (w.heap.size + 1) ≠ bk3 := by have := hb2_0.out.lt; omega
  have ne1_4 : w.heap.size ≠ bk4 := by have := hb1_0.out.lt; omega
  have ne2_4 : (w.heap.size + 1) ≠ bk4 := by have := hb2_0.out.lt; omega
  have ge3 : w.heap.size ≤ bk3 := Nat.le_trans hbl0.size hle3
  have ge4 : w.heap.size ≤ bk4 := Nat.le_trans hbl0.size hle4
  refine wpList_set 68 (.tmp 3) (.tmp 15) rfl rfl rfl bk3 (cellsG r1) rfl rfl 68 (cellsG zeroG) fb3 (iG r1) rfl (one_cellsG r1) ?_
  replace fb1 := fb1.other ne1_3 (cellsG r1)
  replace fb2 := fb2.other ne2_3 (cellsG r1)
  replace fb3 := fb3.set (cellsG r1)
  replace fb4 := fb4.other (Ne.symm hne3) (cellsG r1)
  replace hbb := below_set hbb bk3 (ge3) (cellsG r1)
  refine wpList_set 68 (.tmp 4) (.tmp 20) rfl rfl rfl bk4 (cellsG r2) rfl rfl 68 (cellsG zeroG) fb4 (iG r2) rfl (one_cellsG r2) ?_
  replace fb1 := fb1.other ne1_4 (cellsG r2)
  replace fb2 := fb2.other ne2_4 (cellsG r2)
  replace fb3 := fb3.other hne3 (cellsG r2)
  replace fb4 := fb4.set (cellsG r2)
  replace hbb := below_set hbb bk4 (ge4) (cellsG r2)
  refine wpList_nil ?_
  obtain ⟨w1, hw⟩ : ∃ z, z = ((wx1.setRow bk3 (cellsG r1)).setRow bk4 (cellsG r2)) := ⟨_, rfl⟩
  rw [← hw] at hbb fb1 fb2 fb3 fb4 ⊢
  have hb1_1 := hid fb1
  have hb2_1 := hid fb2
  have hb3_1 := hid fb3
  have hb4_1 := hid fb4
  have hbl1 := hbb
  clear hw hbb fb1 fb2 fb3 fb4 hx1 hbl0 hb1_0 hb2_0 hle3 hn3 hle4 hn4
  (repeat ((fail_if_success (with_reducible refine Go.at_region ?_)); go_step))
  refine list_tail 5 ?_
  simp only [List.take_succ_cons, List.take_zero]
  (apply calm_on rfl; (focus (intro W hB; go_simp; exact ⟨rfl, Below.refl _ _⟩)); simp only [Act.put, pvA, pv0, pv1])
  (refine calm_part rfl 68 (.tmp 21) rfl w.heap.size 32 rfl 96 (cellsF p) (cellsG (p).z) hb1_1.out (inF_z p) gG (iG (p).z) ?_; simp only [Act.put, pvA, pv0, pv1])
  (apply calm_on rfl; (focus (intro W hB; go_simp; exact ⟨rfl, Below.refl _ _⟩)); simp only [Act.put, pvA, pv0, pv1])
  (refine calm_part rfl 68 (.tmp 23) rfl w.heap.size 32 rfl 96 (cellsF p) (cellsG (p).z) hb1_1.out (inF_z p) gG (iG (p).z) ?_; simp only [Act.put, pvA, pv0, pv1])
  (apply calm_on rfl; (focus (intro W hB; go_simp; refine (c3.out W).mono ?_; rintro _ _ ⟨rfl, hb'⟩; exact ⟨rfl, hb'⟩)); simp only [Act.put, pvA, pv0, pv1])
  refine calm_nil ?_
  intro wx2 hx2
  simp only [List.drop_succ_cons, List.drop_zero]
  (try simp only [Act.put, pvA, pv0, pv1])
  refine wpList_new 68 (cellsG zeroG) rfl rfl zG ?_
  intro bk5 wy2 hle5 hy2 hn5
  (try simp only [Act.put, pvA, pv0, pv1])
  replace hle5 := Nat.le_trans hx2.size hle5
  replace hx2 := hx2.trans (hy2.mono hx2.size)
  clear hy2
  have fb1 := hb1_1.out.step hx2
  have fb2 := hb2_1.out.step hx2
  have fb3 := hb3_1.out.step hx2
  have fb4 := hb4_1.out.step hx2
  have hbb := hbl1.trans (hx2.mono hbl1.size)
  have fb5 := hn5
  have ne1_5 : w.heap.size ≠ bk5 := by have := hb1_1.out.lt; omega
  have ne2_5 : (w.heap.size + 1) ≠ bk5 := by have := hb2_1.out.lt; omega
  have ne3_5 : bk3 ≠ bk5 := by have := hb3_1.out.lt; omega
  have ne4_5 : bk4 ≠ bk5 := by have := hb4_1.out.lt; omega
  have ge5 : w.heap.size ≤ bk5 := Nat.le_trans hbl1.size hle5
  refine wpList_set 68 (.tmp 5) (.tmp 25) rfl rfl rfl bk5 (cellsG r3) rfl rfl 68 (cellsG zeroG) fb5 (iG r3) rfl (one_cellsG r3) ?_
  replace fb1 := fb1.other ne1_5 (cellsG r3)
  replace fb2 := fb2.other ne2_5 (cellsG r3)
  replace fb3 := fb3.other ne3_5 (cellsG r3)
  replace fb4 := fb4.other ne4_5 (cellsG r3)
  replace fb5 := fb5.set (cellsG r3)
  replace hbb := below_set hbb bk5 (ge5) (cellsG r3)
  refine wpList_nil ?_
  obtain ⟨w2, hw⟩ : ∃ z, z = (wy2.setRow bk5 (cellsG r3)) := ⟨_, rfl⟩
  rw [← hw] at hbb fb1 fb2 fb3 fb4 fb5 ⊢
  have hb1_2 := hid fb1
  have hb2_2 := hid fb2
  have hb3_2 := hid fb3
  have hb4_2 := hid fb4
  have hb5_2 := hid fb5
  have hbl2 := hbb
  clear hw hbb fb1 fb2 fb3 fb4 fb5 hx2 hbl1 hb1_1 hb2_1 hb3_1 hb4_1 hle5 hn5
  (repeat ((fail_if_success (with_reducible refine Go.at_region ?_)); go_step))
  refine list_tail 5 ?_
  simp only [List.take_succ_cons, List.take_zero]
  (apply calm_on rfl; (focus (intro W hB; go_simp; exact ⟨rfl, Below.refl _ _⟩)); simp only [Act.put, pvA, pv0, pv1])
  (refine calm_part rfl 68 (.tmp 26) rfl w.heap.size 0 rfl 96 (cellsF p) (cellsG (p).x) hb1_2.out (inF_x p) gG (iG (p).x) ?_; simp only [Act.put, pvA, pv0, pv1])
  (apply calm_on rfl; (focus (intro W hB; go_simp; exact ⟨rfl, Below.refl _ _⟩)); simp only [Act.put, pvA, pv0, pv1])
  (refine calm_part rfl 68 (.tmp 28) rfl w.heap.size 16 rfl 96 (cellsF p) (cellsG (p).y) hb1_2.out (inF_y p) gG (iG (p).y) ?_; simp only [Act.put, pvA, pv0, pv1])
  (apply calm_on rfl; (focus (intro W hB; go_simp; refine (c4.out W).mono ?_; rintro _ _ ⟨rfl, hb'⟩; exact ⟨rfl, hb'⟩)); simp only [Act.put, pvA, pv0, pv1])
  refine calm_nil ?_
  intro wx3 hx3
  simp only [List.drop_succ_cons, List.drop_zero]
  (try simp only [Act.put, pvA, pv0, pv1])
  refine wpList_new 68 (cellsG zeroG) rfl rfl zG ?_
  intro bk6 wy3 hle6 hy3 hn6
  (try simp only [Act.put, pvA, pv0, pv1])
  replace hle6 := Nat.le_trans hx3.size hle6
  replace hx3 := hx3.trans (hy3.mono hx3.size)
  clear hy3
  have fb1 := hb1_2.out.step hx3
  have fb2 := hb2_2.out.step hx3
  have fb3 := hb3_2.out.step hx3
  have fb4 := hb4_2.out.step hx3
  have fb5 := hb5_2.out.step hx3
  have hbb := hbl2.trans (hx3.mono hbl2.size)
  have fb6 := hn6
  have ne1_6 : w.heap.size ≠ bk6 := by have := hb1_2.out.lt; omega
  have ne2_6 : (w.heap.size + 1) ≠ bk6 := by have := hb2_2.out.lt; omega
  have ne3_6 : bk3 ≠ bk6 := by have := hb3_2.out.lt; omega
  have ne4_6 : bk4 ≠ bk6 := by have := hb4_2.out.lt; omega
  have ne5_6 : bk5 ≠ bk6 := by have := hb5_2.out.lt; omega
  have ge6 : w.heap.size ≤ bk6 := Nat.le_trans hbl2.size hle6
  refine wpList_set 68 (.tmp 6) (.tmp 30) rfl rfl rfl bk6 (cellsG r4) rfl rfl 68 (cellsG zeroG) fb6 (iG r4) rfl (one_cellsG r4) ?_
  replace fb1 := fb1.other ne1_6 (cellsG r4)
  replace fb2 := fb2.other ne2_6 (cellsG r4)
  replace fb3 := fb3.other ne3_6 (cellsG r4)
  replace fb4 := fb4.other ne4_6 (cellsG r4)
  replace fb5 := fb5.other ne5_6 (cellsG r4)
  replace fb6 := fb6.set (cellsG r4)
  replace hbb := below_set hbb bk6 (ge6) (cellsG r4)
  refine wpList_nil ?_
  obtain ⟨w3, hw⟩ : ∃ z, z = (wy3.setRow bk6 (cellsG r4)) := ⟨_, rfl⟩
  rw [← hw] at hbb fb1 fb2 fb3 fb4 fb5 fb6 ⊢
  have hb1_3 := hid fb1
  have hb2_3 := hid fb2
  have hb3_3 := hid fb3
  have hb4_3 := hid fb4
  have hb5_3 := hid fb5
  have hb6_3 := hid fb6
  have hbl3 := hbb
  clear hw hbb fb1 fb2 fb3 fb4 fb5 fb6 hx3 hbl2 hb1_2 hb2_2 hb3_2 hb4_2 hb5_2 hle6 hn6
  (repeat ((fail_if_success (with_reducible refine Go.at_region ?_)); go_step))
  refine list_tail 3 ?_
  simp only [List.take_succ_cons, List.take_zero]
  (refine calm_whole rfl 68 (.tmp 3) rfl bk3 rfl 68 (cellsG r1) hb3_3.out gG (iG r1) ?_; simp only [Act.put, pvA, pv0, pv1])
  (refine calm_whole rfl 68 (.tmp 4) rfl bk4 rfl 68 (cellsG r2) hb4_3.out gG (iG r2) ?_; simp only [Act.put, pvA, pv0, pv1])
  (apply calm_on rfl; (focus (intro W hB; go_simp; refine (c5.out W).mono ?_; rintro _ _ ⟨rfl, hb'⟩; exact ⟨rfl, hb'⟩)); simp only [Act.put, pvA, pv0, pv1])
  refine calm_nil ?_
  intro wx4 hx4
  simp only [List.drop_succ_cons, List.drop_zero]
  (try simp only [Act.put, pvA, pv0, pv1])
  refine wpList_new 68 (cellsG zeroG) rfl rfl zG ?_
  intro bk7 wy4 hle7 hy4 hn7
  (try simp only [Act.put, pvA, pv0, pv1])
  replace hle7 := Nat.le_trans hx4.size hle7
  replace hx4 := hx4.trans (hy4.mono hx4.size)
  clear hy4
  have fb1 := hb1_3.out.step hx4
  have fb2 := hb2_3.out.step hx4
  have fb3 := hb3_3.out.step hx4
  have fb4 := hb4_3.out.step hx4
  have fb5 := hb5_3.out.step hx4
  have fb6 := hb6_3.out.step hx4
  have hbb := hbl3.trans (hx4.mono hbl3.size)
  have fb7 := hn7
  have ne1_7 : w.heap.size ≠ bk7 := by have := hb1_3.out.lt; omega
  have ne2_7 : (w.heap.size + 1) ≠ bk7 := by have := hb2_3.out.lt; omega
  have ne3_7 : bk3 ≠ bk7 := by have := hb3_3.out.lt; omega
  have ne4_7 : bk4 ≠ bk7 := by have := hb4_3.out.lt; omega
  have ne5_7 : bk5 ≠ bk7 := by have := hb5_3.out.lt; omega
  have ne6_7 : bk6 ≠ bk7 := by have := hb6_3.out.lt; omega
  have ge7 : w.heap.size ≤ bk7 := Nat.le_trans hbl3.size hle7
  refine wpList_set 68 (.tmp 7) (.tmp 33) rfl rfl rfl bk7 (cellsG r5) rfl rfl 68 (cellsG zeroG) fb7 (iG r5) rfl (one_cellsG r5) ?_
  replace fb1 := fb1.other ne1_7 (cellsG r5)
  replace fb2 := fb2.other ne2_7 (cellsG r5)
  replace fb3 := fb3.other ne3_7 (cellsG r5)
  replace fb4 := fb4.other ne4_7 (cellsG r5)
  replace fb5 := fb5.other ne5_7 (cellsG r5)
  replace fb6 := fb6.other ne6_7 (cellsG r5)
  replace fb7 := fb7.set (cellsG r5)
  replace hbb := below_set hbb bk7 (ge7) (cellsG r5)
  refine wpList_nil ?_
  obtain ⟨w4, hw⟩ : ∃ z, z = (wy4.setRow bk7 (cellsG r5)) := ⟨_, rfl⟩
  rw [← hw] at hbb fb1 fb2 fb3 fb4 fb5 fb6 fb7 ⊢
  have hb1_4 := hid fb1
  have hb2_4 := hid fb2
  have hb3_4 := hid fb3
  have hb4_4 := hid fb4
  have hb5_4 := hid fb5
  have hb6_4 := hid fb6
  have hb7_4 := hid fb7
  have hbl4 := hbb
  clear hw hbb fb1 fb2 fb3 fb4 fb5 fb6 fb7 hx4 hbl3 hb1_3 hb2_3 hb3_3 hb4_3 hb5_3 hb6_3 hle7 hn7
  (repeat ((fail_if_success (with_reducible refine Go.at_region ?_)); go_step))
  refine draw_new1 5 _ rfl 68 (cellsG zeroG) 8 rfl rfl rfl (by simp) zG (by kernel_rfl) (by kernel_rfl) (by kernel_rfl) ?_
  simp only [List.take_succ_cons, List.take_zero]
  (refine calm_whole rfl 68 (.tmp 7) rfl bk7 rfl 68 (cellsG r5) hb7_4.out gG (iG r5) ?_; simp only [Act.put, pvA, pv0, pv1])
  iterate 2 (refine calm_whole rfl 68 (.tmp 6) rfl bk6 rfl 68 (cellsG r4) hb6_4.out gG (iG r4) ?_; simp only [Act.put, pvA, pv0, pv1])
  (apply calm_on rfl; (focus (intro W hB; go_simp; refine (c6.out W).mono ?_; rintro _ _ ⟨rfl, hb'⟩; exact ⟨rfl, hb'⟩)); simp only [Act.put, pvA, pv0, pv1])
  (apply calm_on rfl; (focus (intro W hB; go_simp; refine (c7.out W).mono ?_; rintro _ _ ⟨rfl, hb'⟩; exact ⟨rfl, hb'⟩)); simp only [Act.put, pvA, pv0, pv1])
  refine calm_nil ?_
  intro bk8 wx5 hle8 hx5 hn8
  simp only [List.drop_succ_cons, List.drop_zero]
  (try simp only [Act.put, pvA, pv0, pv1])
  have fb1 := hb1_4.out.step hx5
  have fb2 := hb2_4.out.step hx5
  have fb3 := hb3_4.out.step hx5
  have fb4 := hb4_4.out.step hx5
  have fb5 := hb5_4.out.step hx5
  have fb6 := hb6_4.out.step hx5
  have fb7 := hb7_4.out.step hx5
  have hbb := hbl4.trans (hx5.mono hbl4.size)
  have fb8 := hn8
  have ne1_8 : w.heap.size ≠ bk8 := by have := hb1_4.out.lt; omega
  have ne2_8 : (w.heap.size + 1) ≠ bk8 := by have := hb2_4.out.lt; omega
  have ne3_8 : bk3 ≠ bk8 := by have := hb3_4.out.lt; omega
  have ne4_8 : bk4 ≠ bk8 := by have := hb4_4.out.lt; omega
  have ne5_8 : bk5 ≠ bk8 := by have := hb5_4.out.lt; omega
  have ne6_8 : bk6 ≠ bk8 := by have := hb6_4.out.lt; omega
  have ne7_8 : bk7 ≠ bk8 := by have := hb7_4.out.lt; omega
  have ge8 : w.heap.size ≤ bk8 := Nat.le_trans hbl4.size hle8
  refine wpList_set 68 (.tmp 8) (.tmp 38) rfl rfl rfl bk8 (cellsG r7) rfl rfl 68 (cellsG zeroG) fb8 (iG r7) rfl (one_cellsG r7) ?_
  replace fb1 := fb1.other ne1_8 (cellsG r7)
  replace fb2 := fb2.other ne2_8 (cellsG r7)
  replace fb3 := fb3.other ne3_8 (cellsG r7)
  replace fb4 := fb4.other ne4_8 (cellsG r7)
  replace fb5 := fb5.other ne5_8 (cellsG r7)
  replace fb6 := fb6.other ne6_8 (cellsG r7)
  replace fb7 := fb7.other ne7_8 (cellsG r7)
  replace fb8 := fb8.set (cellsG r7)
  replace hbb := below_set hbb bk8 (ge8) (cellsG r7)
  refine wpList_nil ?_
  obtain ⟨w5, hw⟩ : ∃ z, z = (wx5.setRow bk8 (cellsG r7)) := ⟨_, rfl⟩
  rw [← hw] at hbb fb1 fb2 fb3 fb4 fb5 fb6 fb7 fb8 ⊢
  have hb1_5 := hid fb1
  have hb2_5 := hid fb2
  have hb3_5 := hid fb3
  have hb4_5 := hid fb4
  have hb5_5 := hid fb5
  have hb6_5 := hid fb6
  have hb7_5 := hid fb7
  have hb8_5 := hid fb8
  have hbl5 := hbb
  clear hw hbb fb1 fb2 fb3 fb4 fb5 fb6 fb7 fb8 hx5 hbl4 hb1_4 hb2_4 hb3_4 hb4_4 hb5_4 hb6_4 hb7_4 hle8 hn8
  (repeat ((fail_if_success (with_reducible refine Go.at_region ?_)); go_step))
  refine list_tail 3 ?_
  simp only [List.take_succ_cons, List.take_zero]
  (refine calm_whole rfl 68 (.tmp 3) rfl bk3 rfl 68 (cellsG r1) hb3_5.out gG (iG r1) ?_; simp only [Act.put, pvA, pv0, pv1])
  (refine calm_whole rfl 68 (.tmp 4) rfl bk4 rfl 68 (cellsG r2) hb4_5.out gG (iG r2) ?_; simp only [Act.put, pvA, pv0, pv1])
  (apply calm_on rfl; (focus (intro W hB; go_simp; refine (c8.out W).mono ?_; rintro _ _ ⟨rfl, hb'⟩; exact ⟨rfl, hb'⟩)); simp only [Act.put, pvA, pv0, pv1])
  refine calm_nil ?_
  intro wx6 hx6
  simp only [List.drop_succ_cons, List.drop_zero]
  (try simp only [Act.put, pvA, pv0, pv1])
  refine wpList_new 68 (cellsG zeroG) rfl rfl zG ?_
  intro bk9 wy6 hle9 hy6 hn9
  (try simp only [Act.put, pvA, pv0, pv1])
  replace hle9 := Nat.le_trans hx6.size hle9
  replace hx6 := hx6.trans (hy6.mono hx6.size)
  clear hy6
  have fb1 := hb1_5.out.step hx6
  have fb2 := hb2_5.out.step hx6
  have fb3 := hb3_5.out.step hx6
  have fb4 := hb4_5.out.step hx6
  have fb5 := hb5_5.out.step hx6
  have fb6 := hb6_5.out.step hx6
  have fb7 := hb7_5.out.step hx6
  have fb8 := hb8_5.out.step hx6
  have hbb := hbl5.trans (hx6.mono hbl5.size)
  have fb9 := hn9
  have ne1_9 : w.heap.size ≠ bk9 := by have := hb1_5.out.lt; omega
  have ne2_9 : (w.heap.size + 1) ≠ bk9 := by have := hb2_5.out.lt; omega
  have ne3_9 : bk3 ≠ bk9 := by have := hb3_5.out.lt; omega
  have ne4_9 : bk4 ≠ bk9 := by have := hb4_5.out.lt; omega
  have ne5_9 : bk5 ≠ bk9 := by have := hb5_5.out.lt; omega
  have ne6_9 : bk6 ≠ bk9 := by have := hb6_5.out.lt; omega
  have ne7_9 : bk7 ≠ bk9 := by have := hb7_5.out.lt; omega
  have ne8_9 : bk8 ≠ bk9 := by have := hb8_5.out.lt; omega
  have ge9 : w.heap.size ≤ bk9 := Nat.le_trans hbl5.size hle9
  refine wpList_set 68 (.tmp 9) (.tmp 41) rfl rfl rfl bk9 (cellsG r8) rfl rfl 68 (cellsG zeroG) fb9 (iG r8) rfl (one_cellsG r8) ?_
  replace fb1 := fb1.other ne1_9 (cellsG r8)
  replace fb2 := fb2.other ne2_9 (cellsG r8)
  replace fb3 := fb3.other ne3_9 (cellsG r8)
  replace fb4 := fb4.other ne4_9 (cellsG r8)
  replace fb5 := fb5.other ne5_9 (cellsG r8)
  replace fb6 := fb6.other ne6_9 (cellsG r8)
  replace fb7 := fb7.other ne7_9 (cellsG r8)
  replace fb8 := fb8.other ne8_9 (cellsG r8)
  replace fb9 := fb9.set (cellsG r8)
  replace hbb := below_set hbb bk9 (ge9) (cellsG r8)
  refine wpList_nil ?_
  obtain ⟨w6, hw⟩ : ∃ z, z = (wy6.setRow bk9 (cellsG r8)) := ⟨_, rfl⟩
  rw [← hw] at hbb fb1 fb2 fb3 fb4 fb5 fb6 fb7 fb8 fb9 ⊢
  have hb1_6 := hid fb1
  have hb2_6 := hid fb2
  have hb3_6 := hid fb3
  have hb4_6 := hid fb4
  have hb5_6 := hid fb5
  have hb6_6 := hid fb6
  have hb7_6 := hid fb7
  have hb8_6 := hid fb8
  have hb9_6 := hid fb9
  have hbl6 := hbb
  clear hw hbb fb1 fb2 fb3 fb4 fb5 fb6 fb7 fb8 fb9 hx6 hbl5 hb1_5 hb2_5 hb3_5 hb4_5 hb5_5 hb6_5 hb7_5 hb8_5 hle9 hn9
  (repeat ((fail_if_success (with_reducible refine Go.at_region ?_)); go_step))
  refine draw_new1 5 _ rfl 68 (cellsG zeroG) 10 rfl rfl rfl (by simp) zG (by kernel_rfl) (by kernel_rfl) (by kernel_rfl) ?_
  simp only [List.take_succ_cons, List.take_zero]
  iterate 2 (refine calm_whole rfl 68 (.tmp 5) rfl bk5 rfl 68 (cellsG r3) hb5_6.out gG (iG r3) ?_; simp only [Act.put, pvA, pv0, pv1])
  (apply calm_on rfl; (focus (intro W hB; go_simp; refine (c9.out W).mono ?_; rintro _ _ ⟨rfl, hb'⟩; exact ⟨rfl, hb'⟩)); simp only [Act.put, pvA, pv0, pv1])
  (refine calm_whole rfl 68 (.tmp 9) rfl bk9 rfl 68 (cellsG r8) hb9_6.out gG (iG r8) ?_; simp only [Act.put, pvA, pv0, pv1])
  (apply calm_on rfl; (focus (intro W hB; go_simp; refine (c10.out W).mono ?_; rintro _ _ ⟨rfl, hb'⟩; exact ⟨rfl, hb'⟩)); simp only [Act.put, pvA, pv0, pv1])
  refine calm_nil ?_
  intro bk10 wx7 hle10 hx7 hn10
  simp only [List.drop_succ_cons, List.drop_zero]
  (try simp only [Act.put, pvA, pv0, pv1])
  have fb1 := hb1_6.out.step hx7
  have fb2 := hb2_6.out.step hx7
  have fb3 := hb3_6.out.step hx7
  have fb4 := hb4_6.out.step hx7
  have fb5 := hb5_6.out.step hx7
  have fb6 := hb6_6.out.step hx7
  have fb7 := hb7_6.out.step hx7
  have fb8 := hb8_6.out.step hx7
  have fb9 := hb9_6.out.step hx7
  have hbb := hbl6.trans (hx7.mono hbl6.size)
  have fb10 := hn10
  have ne1_10 : w.heap.size ≠ bk10 := by have := hb1_6.out.lt; omega
  have ne2_10 : (w.heap.size + 1) ≠ bk10 := by have := hb2_6.out.lt; omega
  have ne3_10 : bk3 ≠ bk10 := by have := hb3_6.out.lt; omega
  have ne4_10 : bk4 ≠ bk10 := by have := hb4_6.out.lt; omega
  have ne5_10 : bk5 ≠ bk10 := by have := hb5_6.out.lt; omega
  have ne6_10 : bk6 ≠ bk10 := by have := hb6_6.out.lt; omega
  have ne7_10 : bk7 ≠ bk10 := by have := hb7_6.out.lt; omega
  have ne8_10 : bk8 ≠ bk10 := by have := hb8_6.out.lt; omega
  have ne9_10 : bk9 ≠ bk10 := by have := hb9_6.out.lt; omega
  have ge10 : w.heap.size ≤ bk10 := Nat.le_trans hbl6.size hle10
  refine wpList_set 68 (.tmp 10) (.tmp 46) rfl rfl rfl bk10 (cellsG r10) rfl rfl 68 (cellsG zeroG) fb10 (iG r10) rfl (one_cellsG r10) ?_
  replace fb1 := fb1.other ne1_10 (cellsG r10)
  replace fb2 := fb2.other ne2_10 (cellsG r10)
  replace fb3 := fb3.other ne3_10 (cellsG r10)
  replace fb4 := fb4.other ne4_10 (cellsG r10)
  replace fb5 := fb5.other ne5_10 (cellsG r10)
  replace fb6 := fb6.other ne6_10 (cellsG r10)
  replace fb7 := fb7.other ne7_10 (cellsG r10)
  replace fb8 := fb8.other ne8_10 (cellsG r10)
  replace fb9 := fb9.other ne9_10 (cellsG r10)
  replace fb10 := fb10.set (cellsG r10)
  replace hbb := below_set hbb bk10 (ge10) (cellsG r10)
  refine wpList_nil ?_
  obtain ⟨w7, hw⟩ : ∃ z, z = (wx7.setRow bk10 (cellsG r10)) := ⟨_, rfl⟩
  rw [← hw] at hbb fb1 fb2 fb3 fb4 fb5 fb6 fb7 fb8 fb9 fb10 ⊢
  have hb1_7 := hid fb1
  have hb2_7 := hid fb2
  have hb3_7 := hid fb3
  have hb4_7 := hid fb4
  have hb5_7 := hid fb5
  have hb6_7 := hid fb6
  have hb7_7 := hid fb7
  have hb8_7 := hid fb8
  have hb9_7 := hid fb9
  have hb10_7 := hid fb10
  have hbl7 := hbb
  clear hw hbb fb1 fb2 fb3 fb4 fb5 fb6 fb7 fb8 fb9 fb10 hx7 hbl6 hb1_6 hb2_6 hb3_6 hb4_6 hb5_6 hb6_6 hb7_6 hb8_6 hb9_6 hle10 hn10
  (repeat ((fail_if_success (with_reducible refine Go.at_region ?_)); go_step))
  refine draw_tail 13 (by kernel_rfl) (by kernel_rfl) (by kernel_rfl) ?_
  simp only [List.take_succ_cons, List.take_zero]
  (refine calm_whole rfl 68 (.tmp 8) rfl bk8 rfl 68 (cellsG r7) hb8_7.out gG (iG r7) ?_; simp only [Act.put, pvA, pv0, pv1])
  (refine calm_whole rfl 68 (.tmp 10) rfl bk10 rfl 68 (cellsG r10) hb10_7.out gG (iG r10) ?_; simp only [Act.put, pvA, pv0, pv1])
  (apply calm_on rfl; (focus (intro W hB; go_simp; refine (c11.out W).mono ?_; rintro _ _ ⟨rfl, hb'⟩; exact ⟨rfl, hb'⟩)); simp only [Act.put, pvA, pv0, pv1])
  (refine calm_whole rfl 68 (.tmp 9) rfl bk9 rfl 68 (cellsG r8) hb9_7.out gG (iG r8) ?_; simp only [Act.put, pvA, pv0, pv1])
  (refine calm_whole rfl 68 (.tmp 7) rfl bk7 rfl 68 (cellsG r5) hb7_7.out gG (iG r5) ?_; simp only [Act.put, pvA, pv0, pv1])
  (apply calm_on rfl; (focus (intro W hB; go_simp; refine (c12.out W).mono ?_; rintro _ _ ⟨rfl, hb'⟩; exact ⟨rfl, hb'⟩)); simp only [Act.put, pvA, pv0, pv1])
  (refine calm_whole rfl 68 (.tmp 10) rfl bk10 rfl 68 (cellsG r10) hb10_7.out gG (iG r10) ?_; simp only [Act.put, pvA, pv0, pv1])
  (refine calm_whole rfl 68 (.tmp 9) rfl bk9 rfl 68 (cellsG r8) hb9_7.out gG (iG r8) ?_; simp only [Act.put, pvA, pv0, pv1])
  (apply calm_on rfl; (focus (intro W hB; go_simp; refine (c13.out W).mono ?_; rintro _ _ ⟨rfl, hb'⟩; exact ⟨rfl, hb'⟩)); simp only [Act.put, pvA, pv0, pv1])
  (refine calm_whole rfl 68 (.tmp 8) rfl bk8 rfl 68 (cellsG r7) hb8_7.out gG (iG r7) ?_; simp only [Act.put, pvA, pv0, pv1])
  (refine calm_whole rfl 68 (.tmp 7) rfl bk7 rfl 68 (cellsG r5) hb7_7.out gG (iG r5) ?_; simp only [Act.put, pvA, pv0, pv1])
  (apply calm_on rfl; (focus (intro W hB; go_simp; refine (c14.out W).mono ?_; rintro _ _ ⟨rfl, hb'⟩; exact ⟨rfl, hb'⟩)); simp only [Act.put, pvA, pv0, pv1])
  (refine calm_build rfl 96 _ rfl (cellsF ⟨r11, r12, r13, r14⟩) (by first | (simp only [List.map_toArray, List.map_cons, List.map_nil]; exact (bF r11 r12 r13 r14)) | exact (bF r11 r12 r13 r14)) ?_; simp only [Act.put, pvA, pv0, pv1])
  refine calm_nil ?_
  intro wx8 hx8
  simp only [List.drop_succ_cons, List.drop_zero]
  (try simp only [Act.put, pvA, pv0, pv1])
  have fb1 := hb1_7.out.step hx8
  have fb2 := hb2_7.out.step hx8
  have fb3 := hb3_7.out.step hx8
  have fb4 := hb4_7.out.step hx8
  have fb5 := hb5_7.out.step hx8
  have fb6 := hb6_7.out.step hx8
  have fb7 := hb7_7.out.step hx8
  have fb8 := hb8_7.out.step hx8
  have fb9 := hb9_7.out.step hx8
  have fb10 := hb10_7.out.step hx8
  have hbb := hbl7.trans (hx8.mono hbl7.size)
  refine wpList_set 96 (.tmp 2) (.tmp 59) rfl rfl rfl (w.heap.size + 1) (cellsF ⟨r11, r12, r13, r14⟩) rfl rfl 96 (cellsF zeroF) fb2 (iF4 ⟨r11, r12, r13, r14⟩) rfl (one_cellsF ⟨r11, r12, r13, r14⟩) ?_
  replace fb1 := fb1.other (show w.heap.size ≠ (w.heap.size + 1) by omega) (cellsF ⟨r11, r12, r13, r14⟩)
  replace fb2 := fb2.set (cellsF ⟨r11, r12, r13, r14⟩)
  replace fb3 := fb3.other (Ne.symm ne2_3) (cellsF ⟨r11, r12, r13, r14⟩)
  replace fb4 := fb4.other (Ne.symm ne2_4) (cellsF ⟨r11, r12, r13, r14⟩)
  replace fb5 := fb5.other (Ne.symm ne2_5) (cellsF ⟨r11, r12, r13, r14⟩)
  replace fb6 := fb6.other (Ne.symm ne2_6) (cellsF ⟨r11, r12, r13, r14⟩)
  replace fb7 := fb7.other (Ne.symm ne2_7) (cellsF ⟨r11, r12, r13, r14⟩)
  replace fb8 := fb8.other (Ne.symm ne2_8) (cellsF ⟨r11, r12, r13, r14⟩)
  replace fb9 := fb9.other (Ne.symm ne2_9) (cellsF ⟨r11, r12, r13, r14⟩)
  replace fb10 := fb10.other (Ne.symm ne2_10) (cellsF ⟨r11, r12, r13, r14⟩)
  replace hbb := below_set hbb (w.heap.size + 1) (by omega) (cellsF ⟨r11, r12, r13, r14⟩)
  refine wpList_nil ?_
  obtain ⟨w8, hw⟩ : ∃ z, z = (wx8.setRow (w.heap.size + 1) (cellsF ⟨r11, r12, r13, r14⟩)) := ⟨_, rfl⟩
  rw [← hw] at hbb fb1 fb2 fb3 fb4 fb5 fb6 fb7 fb8 fb9 fb10 ⊢
  have hb1_8 := hid fb1
  have hb2_8 := hid fb2
  have hb3_8 := hid fb3
  have hb4_8 := hid fb4
  have hb5_8 := hid fb5
  have hb6_8 := hid fb6
  have hb7_8 := hid fb7
  have hb8_8 := hid fb8
  have hb9_8 := hid fb9
  have hb10_8 := hid fb10
  have hbl8 := hbb
  clear hw hbb fb1 fb2 fb3 fb4 fb5 fb6 fb7 fb8 fb9 fb10 hx8 hbl7 hb1_7 hb2_7 hb3_7 hb4_7 hb5_7 hb6_7 hb7_7 hb8_7 hb9_7 hb10_7 
  (repeat ((fail_if_success (with_reducible refine Go.at_region ?_)); go_step))
  refine ret_blk (w.heap.size + 1) 96 (cellsF ⟨r11, r12, r13, r14⟩) rfl rfl hb2_8.out gF (iF4 ⟨r11, r12, r13, r14⟩) rfl ?_
  exact ⟨(by rw [E14.out, E13.out, E12.out, E11.out, E10.out, E9.out, E8.out, E7.out, E6.out, E5.out, E4.out, E3.out, E2.out, E1.out]; first | done | rfl), hbl8⟩
end Go.Proofs.YtejnnghfelpioaaGreat
namespace Go
open Go.RowKit
section
variable {P : Program} {ops : Array Oper}
theorem rowsIn_of_rows {r n : Nat} {row : String} {args : Array Value} {w : World} {R : Value → World → Prop} (h : Rows P row args w R) : RowsIn (Fence.wide.inRound r) n P row args w R :=
  fun c cs _ => let ⟨v, w', hr, s⟩ := h c cs; ⟨v, w', hr, stepsIn_wide.2 s⟩
theorem Oper.wpIn_of_wp {r n : Nat} {o : Oper} {a : Act} {w : World} {K K' : Act → World → Prop} {Q : Exit → Act → World → Prop} (hd : ∀ c, o.op ≠ .defer c) (hK : ∀ a w, K a w → K' a w) (h : o.wp P a w K Q) : o.wpIn (Fence.wide.inRound r) n P a w K' Q := by
  refine ⟨fun _ _ => trivial, ?_⟩
  unfold Oper.wp at h
  rw [Fence.inRound_round, Oper.semAt_some r _ _ hd]
  generalize (execOp a.eval o).run P w = res at h
  match res, h with
  | .ok (.value v) w', h => exact hK _ _ h
  | .ok .skip w', h => exact hK _ _ h
  | .ok (.defer d) w', h => exact hK _ _ h
  | .ok (.enter f args) w', h =>
    refine ⟨fun e => by simp [Fence.wide] at e, CallsIn.inRound r (callsIn_wide.2 (Calls.mono h ?_))⟩
    intro e w'' he
    match e, he with
    | .returned v, he => exact hK _ _ he
    | .panicked c, he => exact he
    | .outgrown, he => exact he
  | .ok (.row row args) w', h => exact ⟨fun e => by simp [Fence.wide] at e, rowsIn_of_rows (Rows.mono h fun v w'' he => hK _ _ he)⟩
  | .halt (.panic v) w', h => exact h
theorem wpOpsIn_of_wpOps {r n : Nat} {Q : Exit → Act → World → Prop} (hQ : ¬ LetsOut Q) (hd : ∀ (i : Nat) (o : Oper) c, ops[i]? = some o → o.op ≠ .defer c) : ∀ (l : List Nat) (a : Act) (w : World), wpOps P ops Q l a w → wpOpsIn (Fence.wide.inRound r) n P ops Q l a w
  | [], a, w, h => h
  | i :: rest, a, w, h => by
    unfold wpOps at h
    unfold wpOpsIn
    cases ho : ops[i]? with
    | none => simp only [ho] at h ⊢; exact wpOpsIn_of_wpOps hQ hd rest a w h
    | some o =>
      simp only [ho] at h ⊢
      split
      · rename_i hw
        rw [if_pos hw] at h
        rcases h with h | ⟨_, h⟩
        · exact Oper.wpIn_of_wp (fun c => hd i o c ho) (fun a w => wpOpsIn_of_wpOps hQ hd rest a w) h
        · exact absurd h hQ
      · rename_i hw
        rw [if_neg hw] at h
        exact ⟨fun _ _ => trivial, wpOpsIn_of_wpOps hQ hd rest _ _ h⟩
theorem noDefer_of {l : List Oper} (h : l.all (fun o => match o.op with | .defer _ => false | _ => true) = true) : ∀ (i : Nat) (o : Oper) c, l.toArray[i]? = some o → o.op ≠ .defer c := by
  intro i o c ho e
  rw [List.all_eq_true] at h
  have := h o (List.mem_of_getElem? (by simpa using ho))
  rw [e] at this
  cases this
theorem wpIn_region_any_round {r n id : Nat} {Q : Exit → Act → World → Prop} {a : Act} {w : World} (hQ : ¬ LetsOut Q) (hd : ∀ (i : Nat) (o : Oper) c, ops[i]? = some o → o.op ≠ .defer c) (hm : P.follows .mixedOrders = true)
    (h : wpAny P .any ops Q ops.size (Array.replicate ops.size false) a w.drew) : (Code.region id ops true).wpIn (Fence.wide.inRound r) n P Q a w :=
  wpIn_region_draw fun t => by
    simp only [Region.schedule, hm, Bool.true_or, if_true]
    exact wpOpsIn_of_wpOps hQ hd _ _ _ (wpAny_sound ops.size t _ a _ h)
theorem wpIn_region_plain {r m id : Nat} {Q : Exit → Act → World → Prop} {a : Act} {w : World} {l : List Oper} (hQ : ¬ LetsOut Q) (hd : l.all (fun o => match o.op with | .defer _ => false | _ => true) = true)
    (h : wpOps P l.toArray Q (List.range l.toArray.size) a w) : (Code.region id l.toArray false).wpIn (Fence.wide.inRound r) m P Q a w :=
  wpIn_region (wpOpsIn_of_wpOps hQ (noDefer_of hd) _ _ _ h)
end
end Go
namespace Go.Proofs.YtejnnghfelpioaaGreat
open Go.RowKit Go.Shelf
attribute [local go_sem] Oper.semAt_some
def dbit (x k : Nat) : Bool := decide (x / 2 ^ (255 - k) % 2 = 1)
def KpD (B : Nat) (W W' : World) : Prop := W'.heap[B]? = W.heap[B]?
def seqD (B : Nat) : Value := .func (.func 132) #[] #[.pointer (some ⟨B, 0, none⟩)]
set_option maxHeartbeats 1000000 in
theorem edown_any (x : Nat) (w : World) : Calls Tryz.prog 98 #[wd x] w fun e w' => e = .returned (seqD w.heap.size) ∧ Below w.heap.size w w' ∧ Blk 24 w' w.heap.size (cellsW x) := by
  have hA := hid (Blk.new 24 w (cellsW x))
  unfold wd
  go_enter Tryz.func98, Tryz.ntmps98
  go_wp2
  go_ret
  exact ⟨rfl, (by repeat (first | (with_reducible first | exact Below.refl _ _ | assumption | refine World.ext_below_of ?_ ?_ _ | refine Below.setCell ?_ ?_ _ | refine Below.alloc ?_ ?_ _ | refine Below.drew ?_ | refine World.size_le_ext _ _ _ ?_) | (solve | simp [go_sem] | (simp [go_sem]; omega) | omega))), hA.out⟩
set_option maxHeartbeats 2000000 in
theorem down_stops (n x B : Nat) (w : World) (hn : 1 ≤ n) (h0 : Blk 24 w B (cellsW x)) :
    SeqStopsK Fence.wide n Tryz.prog 132 #[.pointer (some ⟨B, 0, none⟩)] (fun k : Fin 256 => #[.bool (dbit x k.val)]) (KpD B) (fun xs => xs.map Fin.val = List.range 256) (fun _ => True) 256 w := by
  intro l J Jx W hW hJ hJx hY hj0
  have b0 : Blk 24 W B (cellsW x) := (hW.block B h0.lt).trans h0
  refine callsIn_of_wp Tryz.func132 rfl trivial ?_ rfl
  simp only [Tryz.ntmps132, List.size_toArray, List.length_cons, List.length_nil, Nat.reduceAdd, Nat.reduceSub, Array.replicate_succ, Array.replicate_zero, List.push_toArray, List.append_toArray, List.nil_append, List.cons_append]
  gi_wp2
  gi_loopw [3] (fun i wr => ∃ (k : Nat) (y : Int) (pre : List (Fin 256)), k ≤ 256 ∧ y + (k : Int) = 255 ∧ i = .int .i64 y ∧ pre.map Fin.val = List.range k ∧ J pre wr ∧ Hid (Blk 24 wr B (cellsW x)))
    (fun i wr => (intOf i + 1).toNat)
  case atStart => exact ⟨0, 255, [], by omega, by omega, rfl, rfl, hj0, hid b0⟩
  case round =>
    obtain ⟨k, y, pre, hk, hy0, rfl, hpre, hjk, b0⟩ := hrel
    by_cases hlt : k < 256
    · obtain ⟨j, hj⟩ : ∃ j : Nat, j = 255 - k := ⟨_, rfl⟩
      obtain rfl : y = (j : Int) := by omega
      have c0 := b0.out.cell (j / 64) _ (cellsW_at x (j / 64) (by omega))
      have l0 := b0.out.lt
      have hbit := lm_bit x j
      have hpl : pre.length = k := by have := congrArg List.length hpre; simpa using this
      obtain ⟨fn, tmps, assign, body, hy, hR⟩ := hY pre ⟨k, hlt⟩ wr hjk (by omega)
      dsimp only at hy
      have hj255 : (j : Int) ≤ 255 := by omega
      have hdb : dbit x k = decide (x / 2 ^ j % 2 = 1) := by unfold dbit; rw [hj]
      rw [hdb] at hy
      have HK := hid hj
      clear hj hdb hy0
      rcases (show x / 2 ^ j % 2 = 0 ∨ x / 2 ^ j % 2 = 1 by omega) with hb | hb
      all_goals
        rw [hb] at hbit hy
        (try rw [show decide ((0 : Nat) = 1) = false from rfl] at hy)
        (try rw [show decide ((1 : Nat) = 1) = true from rfl] at hy)
        clear hb
        gi_wp2
        refine hR.mono ?_
        rintro e W3 (⟨rfl, hJ3, hk3⟩ | ⟨rfl, hJx3⟩)
        · have b03 := hid (show Blk 24 W3 B (cellsW x) from hk3.trans b0.out)
          gi_wp2
          go_roundw
          case rel => exact ⟨k + 1, (j : Int) - 1, pre ++ [⟨k, hlt⟩], by omega, by have := HK.out; omega, by go_num, by rw [List.map_append, hpre, List.range_succ]; rfl, hJ3, b03⟩
          case measure => simp [intOf]
        · gi_wp2
          refine bodyPost_ret (results_none rfl _ _ _) rfl ?_
          exact ⟨⟨_, rfl⟩, .inr ⟨_, trivial, hJx3⟩⟩
    · obtain rfl : k = 256 := by omega
      obtain rfl : y = -1 := by omega
      gi_wp2
      go_end0
      exact ⟨⟨_, rfl⟩, .inl ⟨pre, hpre, hjk⟩⟩
end Go.Proofs.YtejnnghfelpioaaGreat
namespace Go
open Go.RowKit
theorem wpIn_list {P : Program} {r m id : Nat} {Q : Exit → Act → World → Prop} {a : Act} {w : World} {l : List Oper} (hQ : ¬ LetsOut Q) (hd : l.all (fun o => match o.op with | .defer _ => false | _ => true) = true)
    (h : wpList P l.toArray Q l a w) : (Code.region id l.toArray false).wpIn (Fence.wide.inRound r) m P Q a w :=
  wpIn_region_plain hQ hd (by rw [List.range_eq_range', ← Array.length_toList, wpOps_eq_wpList l.toArray.toList 0 (by simp)]; simpa using h)
theorem wpIn_calm {P : Program} {r m id : Nat} {Q : Exit → Act → World → Prop} {a : Act} {w : World} {l : List Oper} (n : Nat) (hQ : ¬ LetsOut Q) (hd : l.all (fun o => match o.op with | .defer _ => false | _ => true) = true)
    (h : wpCalm P l.toArray w (fun a' => ∀ w', Below w.heap.size w w' → wpList P l.toArray Q (l.drop n) a' w') (l.take n) a) : (Code.region id l.toArray false).wpIn (Fence.wide.inRound r) m P Q a w :=
  wpIn_list hQ hd (by
    have := wpList_calm (tail := l.drop n) (l.take n) a w (Below.refl _ _) h
    rwa [List.take_append_drop] at this)
theorem at_regionIn {P : Program} {F : Fence} {n id : Nat} {b : Bool} {ops : Array Oper} {Q : Exit → Act → World → Prop} {a : Act} {w : World} (h : (Code.region id ops b).wpIn F n P Q a w) : (Code.region id ops b).wpIn F n P Q a w := h
theorem grown_row {W Wx : World} (hx : Below W.heap.size W Wx) (G : Nat) (cs : Array Value) : W.grownBy (Wx.setRow G cs) (some G) :=
  ⟨hx.os, hx.tape, hx.output, by have := hx.size; simpa [World.setRow] using this, fun k hk hne => by
    have : k ≠ G := fun e => hne (by rw [e])
    simp only [World.setRow, Array.getElem?_modify]
    rw [if_neg (by omega)]; exact hx.block k hk⟩
theorem grown_trans {a b c : World} {row : Option Nat} (h : a.grownBy b row) (k : b.grownBy c row) : a.grownBy c row :=
  ⟨k.os.trans h.os, k.tape.trans h.tape, k.output.trans h.output, Nat.le_trans h.size k.size, fun i hi hne => (k.block i (Nat.lt_of_lt_of_le hi h.size) hne).trans (h.block i hi hne)⟩
theorem Blk.grown {t : TypeId} {w w' : World} {g : Nat} {cs : Array Value} {row : Option Nat} (h : Blk t w g cs) (hg : w.grownBy w' row) (hne : some g ≠ row) : Blk t w' g cs := (hg.block g h.lt hne).trans h
end Go
namespace Go.Proofs.YtejnnghfelpioaaGreat
open Go.RowKit Go.Shelf
attribute [local go_sem] Oper.semAt_some
def stepW (x : Nat) (p o : W4) (k : Nat) : W4 := if dbit x k = true then plusW (twiceW o) p else twiceW o
theorem stepW_t (x : Nat) (p o : W4) (k : Nat) (hp : TW p) (ho : TW o) : TW (stepW x p o k) := by
  unfold stepW; split
  · exact plusW_t _ _ (twiceW_t _ ho) hp
  · exact twiceW_t _ ho
theorem foldW_t (x : Nat) (p : W4) (hp : TW p) : ∀ (l : List Nat) (o : W4), TW o → TW (l.foldl (stepW x p) o)
  | [], _, h => h
  | k :: l, o, h => foldW_t x p hp l _ (stepW_t x p o k hp h)
def mW (x : Nat) (p : W4) : W4 := (List.range 256).foldl (stepW x p) noneW
theorem mW_t (x : Nat) (p : W4) (hp : TW p) : TW (mW x p) := foldW_t x p hp _ _ noneW_t
def mP (x : Nat) (p : W4) (pre : List (Fin 256)) : W4 := (pre.map Fin.val).foldl (stepW x p) noneW
theorem mP_snoc (x : Nat) (p : W4) (pre : List (Fin 256)) (k : Fin 256) : mP x p (pre ++ [k]) = stepW x p (mP x p pre) k.val := by
  unfold mP; rw [List.map_append, List.foldl_append]; rfl
set_option maxRecDepth 100000 in
set_option maxHeartbeats 8000000 in
theorem timesW_any (p : W4) (x : Nat) (w : World) (hp : TW p) : Calls Tryz.prog 71 #[w4 p, wd x] w fun e w' => e = .returned (w4 (mW x p)) ∧ Below w.heap.size w w' := by
  have hN := hid fun w => none_any w
  have hD := hid fun w => edown_any x w
  have hT := hid fun q w (h : TW q) => twiceW_any q w h
  have hP := hid fun q w (h : TW q) => plusW_any q p w h hp
  have hM := hid fun pre => (show TW (mP x p pre) from foldW_t x p hp _ _ noneW_t)
  clear hp
  obtain ⟨w0, hw0, k2, k3, k4, hb0⟩ := entry3 w 89 (cells4 p) 24 (cellsW x) 89 (cells4 zero4)
  have hA0 := hid k2
  have hX0 := hid k3
  have hR0 := hid k4
  clear k2 k3 k4
  unfold w4 wd at *
  refine (callsIn_wide (n := 3)).1 (callsIn_of_wp_marks Tryz.func71 rfl trivial (wpIn_wide.2 ?_) rfl)
  simp only [Tryz.ntmps71, List.size_toArray, List.length_cons, List.length_nil, Nat.reduceAdd, Nat.reduceSub, Array.replicate_succ, Array.replicate_zero, List.push_toArray, List.append_toArray, List.nil_append, List.cons_append]
  go_wp2_with (refine wpList_alloc_new rfl 89 rfl (cells4 zero4) z4 ?_; simp only [Act.put, pvA, pv0, pv1, World.size_alloc])
  rw [← hw0]
  clear hw0
  refine (hN.out _).mono ?_
  rintro e w1 ⟨rfl, hs1⟩
  have hA1 := hid ((hA0.out.step hs1).alloc (.cells (cells4 noneW) 89))
  have hX1 := hid ((hX0.out.step hs1).alloc (.cells (cells4 noneW) 89))
  have hR1 := hid ((hR0.out.step hs1).alloc (.cells (cells4 noneW) 89))
  have hO1 := hid (Blk.new 89 w1 (cells4 noneW))
  have hc1 := hb0.trans (hs1.mono hb0.size)
  have hb1 := hc1.alloc hc1.size (.cells (cells4 noneW) 89)
  have hlt1 := (hR0.out.step hs1).lt
  clear hA0 hX0 hR0 hb0 hs1
  go_wp2_with (first | (refine wpList_allocStore 89 7 5 (cells4 noneW) (cells4 zero4) rfl rfl rfl rfl rfl rfl (by decide) (by simp) rfl (by kernel_rfl) rfl (i4 _) (one_cells4 _) ?_; simp only [Act.put, pvA, pv0, pv1]) | (refine wpList_get 24 (.tmp 3) rfl rfl (w.heap.size + 1) rfl 24 (cellsW x) hX1.out gWd (iW x) ?_; simp only [Act.put, pvA, pv0, pv1]))
  obtain ⟨G, hG⟩ : ∃ G, G = w1.heap.size := ⟨_, rfl⟩
  rw [← hG] at hO1 hlt1 ⊢
  clear hG hc1
  generalize w1.alloc (.cells (cells4 noneW) 89) = w2 at hA1 hX1 hR1 hO1 hb1 ⊢
  refine (hD.out _).mono ?_
  rintro e w3 ⟨rfl, hs3, hB3⟩
  have hA3 := hid (hA1.out.step hs3)
  have hR3 := hid (hR1.out.step hs3)
  have hO3 := hid (hO1.out.step hs3)
  have hb3 := hb1.trans (hs3.mono hb1.size)
  have hG3 := hO1.out.lt
  have hB := hid hB3
  have hBl := hB3.lt
  obtain ⟨B, hBB⟩ : ∃ B, B = w2.heap.size := ⟨_, rfl⟩
  rw [← hBB] at hB hBl hG3 ⊢
  clear hA1 hX1 hR1 hO1 hb1 hs3 hB3 hBB
  go_wp2
  refine (wpIn_wide (n := 3)).1 (wpIn_rangeFunc_ownG rfl (by omega) (gf := 132) (lb := #[.pointer (some ⟨B, 0, none⟩)]) rfl trivial (enters_of Tryz.func132 (by kernel_rfl) rfl)
    (down_stops 2 x B w3 (by omega) hB.out) (fun h k => k.trans h) ?hKb (Below.refl _ _) (fun _ => rfl)
    (fun pre W => Hid (w3.grownBy W (some G) ∧ Blk 89 W G (cells4 (mP x p pre)))) (fun _ _ _ => False) ?hI (fun _ _ _ _ _ hs _ _ => hs) ?h0
    (fun k => { tmps := #[.agg (cells4 p), .agg (cellsW x), .pointer (some ⟨w.heap.size, 0, none⟩), .pointer (some ⟨w.heap.size + 1, 0, none⟩), .pointer (some ⟨w.heap.size + 1 + 1, 0, none⟩), .pointer (some ⟨G, 0, none⟩), .bool (dbit x k.val), .agg (cells4 noneW), .agg (cellsW x), seqD B, .bool (dbit x k.val), undef, undef, undef, undef, undef, undef, undef], defers := [] }) ?assign ?body ?done ?stop)
  case assign =>
    intro l k W K hK
    gi_wp2
    exact hK
  case hKb =>
    intro W l o o' hl _ _ _
    exact World.putObj_heap_other (by omega)
  case hI =>
    intro pre W W' row hs hg hr
    obtain ⟨h1, h2⟩ := hs.out
    have hrow : ∀ k, k < w3.heap.size → some k ≠ row := fun k hk e => by have := (hr k e.symm).1; omega
    refine hid ⟨⟨hg.os.trans h1.os, hg.tape.trans h1.tape, hg.output.trans h1.output, Nat.le_trans h1.size hg.size, fun k hk hne => (hg.block k (Nat.lt_of_lt_of_le hk h1.size) (hrow k hk)).trans (h1.block k hk hne)⟩, (hg.block G h2.lt (hrow G (by omega))).trans h2⟩
  case h0 => exact hid ⟨⟨rfl, rfl, rfl, Nat.le_refl _, fun _ _ _ => rfl⟩, hO3.out⟩
  case stop => intro D c pre W _ _ h; exact h.elim
  case body =>
    intro l pre k W hI hlen
    obtain ⟨hg, hW⟩ := hI.out
    have hTq := hM.out pre
    have hNx := mP_snoc x p pre k
    obtain ⟨q, hq⟩ : ∃ q, q = mP x p pre := ⟨_, rfl⟩
    rw [← hq] at hW hTq hNx
    have hT1 := hid fun w => hT.out q w hTq
    have hTr := twiceW_t q hTq
    have hP1 := hid fun w => hP.out (twiceW q) w hTr
    obtain ⟨b, hb⟩ : ∃ b, b = dbit x k.val := ⟨_, rfl⟩
    unfold stepW at hNx
    rw [← hb] at hNx ⊢
    obtain ⟨t, ht⟩ : ∃ t, t = twiceW q := ⟨_, rfl⟩
    rw [← ht] at hT1 hP1 hNx
    clear hTq hTr hq hb ht hI
    have hGl : w.heap.size + 1 + 1 < G := hlt1
    have hAW := hid (hA3.out.grown hg (by simp; omega))
    have hQW := hid hW
    have hg0 := hg
    clear hW hg
    refine wpIn_block ?_
    (repeat ((fail_if_success (with_reducible refine Go.at_regionIn ?_)); gi_step))
    refine wpIn_calm 2 (by rintro ⟨_, _, h⟩; exact h) (by kernel_rfl) ?_
    simp only [List.take_succ_cons, List.take_zero]
    (refine calm_whole rfl 89 (.tmp 5) rfl G rfl 89 (cells4 q) hQW.out g4 (i4 q) ?_; simp only [Act.put, pvA, pv0, pv1])
    (apply calm_on rfl; (focus (intro W hB; go_simp; refine (hT1.out W).mono ?_; rintro _ _ ⟨rfl, hb'⟩; exact ⟨rfl, hb'⟩)); simp only [Act.put, pvA, pv0, pv1])
    refine calm_nil ?_
    intro Wx hx
    simp only [List.drop_succ_cons, List.drop_zero]
    refine wpList_set 89 (.tmp 5) (.tmp 12) rfl rfl rfl G (cells4 t) rfl rfl 89 (cells4 q) (hQW.out.step hx) (i4 t) rfl (one_cells4 t) ?_
    refine wpList_nil ?_
    have hg1 := grown_row hx G (cells4 t)
    have hQ1 := hid ((hQW.out.step hx).set (cells4 t))
    have hA1 := hid ((hAW.out.step hx).other (show w.heap.size ≠ G by omega) (cells4 t))
    obtain ⟨W1, hW1⟩ : ∃ z, z = Wx.setRow G (cells4 t) := ⟨_, rfl⟩
    rw [← hW1] at hg1 hQ1 hA1 ⊢
    clear hW1 hx hQW hAW hT1
    cases b
    · rw [if_neg (by decide)] at hNx
      have HN := hid hNx
      clear hNx
      gi_wp2
      exact ⟨KeepsFrom.of_grownBy hg1 (fun j e => by cases e; omega), hg1.block B (by have := hg0.size; omega) (by simp; omega), hid ⟨grown_trans hg0 hg1, by rw [HN.out]; exact hQ1.out⟩⟩
    · rw [if_pos rfl] at hNx
      have HN := hid hNx
      clear hNx
      (repeat ((fail_if_success (with_reducible refine Go.at_regionIn ?_)); gi_step))
      refine wpIn_calm 1 (by rintro ⟨_, _, h⟩; exact h) (by kernel_rfl) ?_
      simp only [List.take_succ_cons, List.take_zero]
      (apply calm_on rfl; (focus (intro W hB; go_simp; exact ⟨rfl, Below.refl _ _⟩)); simp only [Act.put, pvA, pv0, pv1])
      refine calm_nil ?_
      intro W2 h2
      simp only [List.drop_succ_cons, List.drop_zero]
      refine wpList_nil ?_
      have hQ2 := hid (hQ1.out.step h2)
      have hA2 := hid (hA1.out.step h2)
      (repeat ((fail_if_success (with_reducible refine Go.at_regionIn ?_)); gi_step))
      refine wpIn_calm 3 (by rintro ⟨_, _, h⟩; exact h) (by kernel_rfl) ?_
      simp only [List.take_succ_cons, List.take_zero]
      (refine calm_whole rfl 89 (.tmp 5) rfl G rfl 89 (cells4 t) hQ2.out g4 (i4 t) ?_; simp only [Act.put, pvA, pv0, pv1])
      (refine calm_whole rfl 89 (.tmp 2) rfl w.heap.size rfl 89 (cells4 p) hA2.out g4 (i4 p) ?_; simp only [Act.put, pvA, pv0, pv1])
      (apply calm_on rfl; (focus (intro W hB; go_simp; refine (hP1.out W).mono ?_; rintro _ _ ⟨rfl, hb'⟩; exact ⟨rfl, hb'⟩)); simp only [Act.put, pvA, pv0, pv1])
      refine calm_nil ?_
      intro Wy hy
      simp only [List.drop_succ_cons, List.drop_zero]
      obtain ⟨u, hu⟩ : ∃ u, u = plusW t p := ⟨_, rfl⟩
      rw [← hu]
      refine wpList_set 89 (.tmp 5) (.tmp 16) rfl rfl rfl G (cells4 u) rfl rfl 89 (cells4 t) (hQ2.out.step hy) (i4 u) rfl (one_cells4 u) ?_
      refine wpList_nil ?_
      have hg2 : W1.grownBy (Wy.setRow G (cells4 u)) (some G) := grown_row (h2.trans (hy.mono h2.size)) G (cells4 u)
      have hg3 := grown_trans hg1 hg2
      have hQ3 := (hQ2.out.step hy).set (cells4 u)
      exact ⟨KeepsFrom.of_grownBy hg3 (fun j e => by cases e; omega), hg3.block B (by have := hg0.size; omega) (by simp; omega), hid ⟨grown_trans hg0 hg3, by rw [HN.out, ← hu]; exact hQ3⟩⟩
  case done =>
    intro D xs W hD hS hI hKD
    obtain ⟨hg, hW⟩ := hI.out
    have hxs : mP x p xs = mW x p := by unfold mP mW; rw [hS]
    rw [hxs] at hW
    have hRW := hid (hR3.out.grown hg (by simp; omega))
    have hQW := hid hW
    obtain ⟨r, hr⟩ : ∃ r, r = mW x p := ⟨_, rfl⟩
    rw [← hr] at hQW
    have HR := hid hr
    clear hxs hr hW hS hI
    go_wp2_with (first | (refine wpList_get 89 (.tmp 5) rfl rfl G rfl 89 (cells4 r) hQW.out g4 (i4 r) ?_; simp only [Act.put, pvA, pv0, pv1]) | (refine wpList_set 89 (.tmp 4) (.tmp 17) rfl rfl rfl (w.heap.size + 1 + 1) (cells4 r) rfl rfl 89 (cells4 zero4) hRW.out (i4 r) rfl (one_cells4 r) ?_))
    have hne : w.heap.size + 1 + 1 ≠ D := by omega
    have hK' : (W.setRow (w.heap.size + 1 + 1) (cells4 r)).heap[D]? = some (.deferred (some [])) := by
      simp only [World.setRow, Array.getElem?_modify]
      rw [if_neg (by omega)]; exact hKD
    have hRb := hRW.out.set (cells4 r)
    have hbW : Below w.heap.size w (W.setRow (w.heap.size + 1 + 1) (cells4 r)) := below_set (hb3.grown hg hb3.size (fun k e => by cases e; omega)) _ (by omega) _
    refine ⟨by simp, .inl ⟨_, _, rfl, run_takeDeferred hK', ?_⟩⟩
    obtain ⟨d, h1, h2⟩ := aggT_spec g4
    refine ⟨_, results_cell_row rfl _ _ (w.heap.size + 1 + 1) 89 (cells4 r) (0, 0) d rfl ((World.putObj_heap_other hne).trans hRb) h1 (by cases d <;> first | rfl | cases h2) (i4 r), by rw [HR.out], ?_⟩
    exact hbW.grown (grownBy_putObj' _ D _) hbW.size (fun k e => by cases e; omega)
end Go.Proofs.YtejnnghfelpioaaGreat
namespace Go
open Go.RowKit
theorem wpIn_draw_all {P : Program} {r m id : Nat} {Q : Exit → Act → World → Prop} {a0 : Act} {w0 : World} {l : List Oper} (hQ : ¬ LetsOut Q) (hd : l.all (fun o => match o.op with | .defer _ => false | _ => true) = true)
    (hm : P.follows .mixedOrders = true) (hB : looseB l l.length = true) (hS : specB l = true)
    (h : wpCalm P l.toArray w0 (fun a' => ∀ w, Below w0.heap.size w0 w → Q .normal a' w) l a0) : (Code.region id l.toArray true).wpIn (Fence.wide.inRound r) m P Q a0 w0 := by
  obtain ⟨es, h1, h2, a', h3, h4, h5⟩ := calm_ents l a0 0 h
  have hL := h5 es l.length (fun a w => Q .normal a w) [] (fun j e hj => by rw [Nat.zero_add]; exact hj) (fun w hb _ => h3 w hb)
  rw [List.append_nil] at hL
  have h' : looseL P l es w0 l.length (fun a w => Q .normal a w) 0 (l.take l.length) a0 := by rw [List.take_length]; exact hL
  refine wpIn_region_any_round hQ (noDefer_of hd) hm ?_
  refine wpAny_of_spec (Φ := phiOf es) (w0 := w0) (a0 := a0) hS (phiOf_keeps es h2) (fun i o ho a w hl => ?_) (fun f w hb hf => ?_) _ _ a0 _ (by simp [unlisted]) ⟨by simp, (Below.refl _ _).drew, rfl, rfl, fun d _ => rfl, fun i o d hi hl _ _ => ?_⟩
  · have hi : i < l.length := by
      rcases Nat.lt_or_ge i l.length with h1 | h1
      · exact h1
      · rw [List.getElem?_eq_none h1] at ho; cases ho
    exact loose_each hB hS (Nat.le_refl _) h' i o hi ho a w hl
  · have := loose_fin hS (Nat.le_refl _) h' f w hb (fun i o d _ h1 h2 h3 => hf i o d h1 h2 h3)
    rw [List.take_length] at this
    exact this
  · have hlt : i < l.length := by
      rcases Nat.lt_or_ge i l.length with h' | h'
      · exact h'
      · rw [List.getElem?_eq_none h'] at hi; cases hi
    simp [Array.getD, hlt] at hl
structure World.two (w w' : World) (G H : Nat) : Prop where
  os : w'.os = w.os
  tape : w'.tape = w.tape
  output : w'.output = w.output
  size : w.heap.size ≤ w'.heap.size
  block : ∀ k, k < w.heap.size → k ≠ G → k ≠ H → w'.heap[k]? = w.heap[k]?
theorem World.two.refl (w : World) (G H : Nat) : w.two w G H := ⟨rfl, rfl, rfl, Nat.le_refl _, fun _ _ _ _ => rfl⟩
theorem World.two.trans {a b c : World} {G H : Nat} (h : a.two b G H) (k : b.two c G H) : a.two c G H :=
  ⟨k.os.trans h.os, k.tape.trans h.tape, k.output.trans h.output, Nat.le_trans h.size k.size, fun i hi h1 h2 => (k.block i (Nat.lt_of_lt_of_le hi h.size) h1 h2).trans (h.block i hi h1 h2)⟩
theorem World.two.of_below {a b : World} (h : Below a.heap.size a b) (G H : Nat) : a.two b G H := ⟨h.os, h.tape, h.output, h.size, fun k hk _ _ => h.block k hk⟩
theorem World.two.setG {a b : World} {G H : Nat} (h : a.two b G H) (cs : Array Value) : a.two (b.setRow G cs) G H :=
  ⟨h.os, h.tape, h.output, by have := h.size; simpa [World.setRow] using this, fun k hk h1 h2 => by
    simp only [World.setRow, Array.getElem?_modify]
    rw [if_neg (by omega)]; exact h.block k hk h1 h2⟩
theorem World.two.setH {a b : World} {G H : Nat} (h : a.two b G H) (cs : Array Value) : a.two (b.setRow H cs) G H :=
  ⟨h.os, h.tape, h.output, by have := h.size; simpa [World.setRow] using this, fun k hk h1 h2 => by
    simp only [World.setRow, Array.getElem?_modify]
    rw [if_neg (by omega)]; exact h.block k hk h1 h2⟩
theorem Blk.two {t : TypeId} {w w' : World} {g G H : Nat} {cs : Array Value} (h : Blk t w g cs) (hg : w.two w' G H) (h1 : g ≠ G) (h2 : g ≠ H) : Blk t w' g cs := (hg.block g h.lt h1 h2).trans h
theorem KeepsFrom.of_two {B : Nat} {W W' : World} {G H : Nat} (hg : W.two W' G H) (h1 : G < B) (h2 : H < B) : KeepsFrom B W W' :=
  ⟨hg.size, fun k o hB hk _ => (hg.block k (Array.getElem?_eq_some_iff.1 hk).1 (by omega) (by omega)).trans hk⟩
theorem World.two.grown {a b c : World} {G H : Nat} {row : Option Nat} (h : a.two b G H) (k : b.grownBy c row) (hr : ∀ j, row = some j → a.heap.size ≤ j) : a.two c G H :=
  ⟨k.os.trans h.os, k.tape.trans h.tape, k.output.trans h.output, Nat.le_trans h.size k.size, fun i hi h1 h2 => (k.block i (Nat.lt_of_lt_of_le hi h.size) (fun e => by have := hr i e.symm; omega)).trans (h.block i hi h1 h2)⟩
theorem Below.two {B : Nat} {a b c : World} {G H : Nat} (h : Below B a b) (k : b.two c G H) (hB : B ≤ b.heap.size) (h1 : B ≤ G) (h2 : B ≤ H) : Below B a c :=
  h.trans ⟨k.os, k.tape, k.output, k.size, fun i hi => k.block i (by omega) (by omega) (by omega)⟩
theorem run_storeVar_int {P : Program} (w : World) (g : Nat) (t ty : TypeId) (u : Value) (k : IntKind) (n : Int) (hg : Blk t w g #[u]) (hi : (P.info? ty).map (·.size) = some 1) :
    (storeVar ty ⟨g, 0, none⟩ (.int k n)).run P w = .ok () (w.setRow g #[.int k n]) := by
  have := run_storeCells_at P g 0 t [.int k n] 0 #[u] w hg (by simp) (fun v hv => by simp at hv; subst hv; rfl)
  cases hq : P.info? ty with
  | none => simp [hq] at hi
  | some i =>
    have hs : i.size = 1 := by simpa [hq] using hi
    simp only [Nat.add_zero, Nat.zero_add] at this
    simp [storeVar, sizeOf, typeInfo, hq, Value.cells, hs, this]
theorem wpList_put {P : Program} {ops : Array Oper} {rest : List Oper} {o : Oper} {a : Act} {w : World} {Q' : Exit → Act → World → Prop} (T : TypeId) (x y : Operand) (ho : o.op = .store T x y) (hg : o.guard = none) (hd : o.dst = none) (b : Nat) (k : IntKind) (n : Int) (hx : a.eval x = .pointer (some ⟨b, 0, none⟩)) (hy : a.eval y = .int k n)
    (t : TypeId) (u : Value) (hb : Blk t w b #[u]) (hi : (P.info? T).map (·.size) = some 1) (h : wpList P ops Q' rest a (w.setRow b #[.int k n])) : wpList P ops Q' (o :: rest) a w :=
  wpList_plain hg fun K hK => by
    unfold Oper.wp execOp
    simp only [ho, hx, hy, Instr.storeAt, Instr.sureAddr, Sem.run_bind, Sem.run_pure, Result.andThen_ok, run_storeVar_int w b t T u k n hb hi, Oper.upon]
    have := hK _ _ h
    rw [hd]; exact this
end Go
